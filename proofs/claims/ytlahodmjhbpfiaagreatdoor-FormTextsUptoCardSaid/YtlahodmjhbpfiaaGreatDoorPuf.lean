/- The data level and the contracts of the functions that are reached (part 6). -/
import Derived.Test.YtlahodmjhbpfiaaGreatDoorPue
set_option linter.unusedSimpArgs false
set_option linter.unusedVariables false
set_option linter.unusedSectionVars false
-- Chapter 3: the package's writer: names, parts, bounds, operators, membership, choices.
namespace Go.Dl
open Go Go.Proofs
set_option maxRecDepth 100000
section
variable {G:Nat->DVal} {H B:Ab} {r:Nat} {ts:List Tok}
theorem WAt.ne {x:Nat} (h:WAt B r ts H) (hx:H x=none):r≠x:=fun e=>(h.lo hx).2 e.symm
def WQ (B:Ab) (r:Nat) (ts:List Tok) (e:DEnd) (H':Ab):Prop:=e= .ret (.tuple [])/\WAt B r ts H'
theorem Rs (hG:GX G) (s:List UInt8) {q:Nat} (hq:H q=none) (hB:B r=none) (hlen:ts.length+1<=1000000000) (hw:WAt B r ts H):Ae Tryz.prog G 324 [.optr r 0, .oslice 1 q 0 1 1] (upd H q (some (.cells [.str s] 9))) (WQ B r (ts++ [Aj s])):=by
 refine Ae.fzA q hq ?_;have n:r≠q:=hw.ne hq;simp only[fzs,fz,if_neg n,if_pos];exact Kl hG [s] B r ts H hB hlen hw
theorem Fw7 (hG:GX G) (s t:List UInt8) {q:Nat} (hq:H q=none) (hB:B r=none) (hlen:ts.length+2<=1000000000) (hw:WAt B r ts H):Ae Tryz.prog G 324 [.optr r 0, .oslice 1 q 0 2 2] (upd H q (some (.cells [.str s, .str t] 9))) (WQ B r (ts++ [Aj s,Aj t])):=by
 refine Ae.fzA q hq ?_;have n:r≠q:=hw.ne hq;simp only[fzs,fz,if_neg n,if_pos];exact Kl hG [s,t] B r ts H hB hlen hw
theorem Aa9 (G:Nat->DVal) (s:List UInt8):WrC Tryz.prog G 325 [.str s] [Dq s]:=by
 intro B r ts H hB hlen hw;rw[jQ] at hlen;refine Aa Tryz.func325 Tryz.call325 rfl (by kernel_rfl) ?_;simp(disch:=omega)only[go_sem];obtain⟨v,hv⟩:=hw;have gr:=hv.keep (Ac _ _ _);simp(disch:=omega)only[go_sem,gr];intro r6 hr6;dsimp only at hr6;have n6:r≠r6:=Am hr6 gr;have m6:=n6.symm;have hv6:=hv.new hr6 (some (.cells (Af (Dq s)) 31));simp(disch:=omega)only[go_sem,gr,n6,m6];refine Df.append (m:=1) hv6 rfl (by omega) fun v2 H6 hv2=> ?_;have g6:=hv2.keep (Ac _ _ _);obtain⟨j1,j2⟩:=hv2.cell1;simp(disch:=omega)only[go_sem,g6,j1,j2];refine Wj.refl ⟨rfl,v2, ?_⟩;have hv3:=hv2.at (Ac _ _ _) (some (.cells [v2] 257));rw[Ht] at hv3;rw[Ea,jC,jQ];exact hv3
end
section
variable {G:Nat->DVal}
set_option maxHeartbeats 4000000 in
theorem Dv (hG:GX G) (e:Ex) (lv:Int) (he:WrC Tryz.prog G 227 [.agg (dEx e)] (Ai e)):WrC Tryz.prog G 326 [.agg (dEx e),dI lv] (Ay e lv):=by
 intro B r ts H hB hlen hw;refine Aa Tryz.func326 Tryz.call326 rfl (by kernel_rfl) ?_;simp(disch:=omega)only[go_sem,DVal.cells];intro r4 hr4;dsimp only at hr4;obtain⟨K,hK⟩: ∃K',K'=upd H r4 (some (.cells (dEx e) 27)):=⟨_,rfl⟩;rw[<-hK];have gr4:K r4=some (.cells (dEx e) 27):=by rw[hK];exact Ac _ _ _
 have hwK:WAt (upd B r4 (some (.cells (dEx e) 27))) r ts K:=by rw[hK];exact hw.frame hr4 _
 have n4:r≠r4:=hw.ne hr4;have hB4:B r4=none:=(hw.lo hr4).1;have hBK:upd B r4 (some (.cells (dEx e) 27)) r=none:=by rw[Em _ _ _ _ n4];exact hB
 simp(disch:=omega)only[go_sem,gr4];refine(Vi G K e).mono ?_;rintro _ K1 ⟨rfl,rfl⟩;by_cases c:Bo e<lv
 ·have c': ¬lv<=Bo e:=by omega
  have hp:Ay e lv=Aj By::(Ai e++ [Aj Cb]):=by rw[Ay,decide_eq_true c];rfl
  rw[hp] at hlen⊢
  simp only[jA,jC,jB] at hlen;simp(disch:=omega)only[go_sem,c'];intro q1 hq1;dsimp only at hq1;simp(disch:=omega)only[go_sem];refine(Rs hG By hq1 hBK (by omega) hwK).mono ?_;rintro _ H1 ⟨rfl,h1⟩;have g1:=h1.keep (Ac _ _ _) n4.symm;simp(disch:=omega)only[go_sem,g1];refine(he _ r _ _ hBK (by simp;omega) h1).mono ?_;rintro _ H2 ⟨rfl,h2⟩;simp(disch:=omega)only[go_sem];intro q2 hq2;dsimp only at hq2;simp(disch:=omega)only[go_sem];refine(Rs hG Cb hq2 hBK (by simp;omega) h2).mono ?_;rintro _ H3 ⟨rfl,h3⟩;simp(disch:=omega)only[go_sem];refine Wj.refl ⟨rfl, ?_⟩;have:=h3.drop hB4;simpa using this
 ·have c':lv<=Bo e:=by omega
  have hp:Ay e lv=Ai e:=by rw[Ay,decide_eq_false c];rfl
  rw[hp] at hlen⊢
  simp(disch:=omega)only[go_sem,c',gr4];refine(he _ r _ _ hBK hlen hwK).mono ?_;rintro _ H1 ⟨rfl,h1⟩;simp(disch:=omega)only[go_sem];exact Wj.refl ⟨rfl,h1.drop hB4⟩
end
end Go.Dl

-- Chapter 3: expressions: the plain laws, part 9: reading without the lines.
namespace Go.Dl
open Go
set_option maxRecDepth 10000
mutual
/-- Without lines, entities, types. -/
def stE:Ex->Ex
 | .mk k o n s l a _ _ _=> .mk k o n s (stL l) (Bu0 a) 0 0 0
def stL:List Ex->List Ex
 | []=> []
 | x::l=>stE x::stL l
def stA:As->As
 | .mk c e=> .mk (Bu1 c) (stE e)
def Bu0:List As->List As
 | []=> []
 | x::l=>stA x::Bu0 l
def stC:Ch->Ch
 | .mk k l=> .mk k (stL l)
def Bu1:List Ch->List Ch
 | []=> []
 | x::l=>stC x::Bu1 l
end
theorem Ed8 (e:Ex):(stE e).kind=e.kind:=by cases e;rfl
mutual
theorem Ba8: ∀e f:Ex,Lf e f=true↔stE e=stE f
 | .mk k o n s l a li en t, .mk k' o' n' s' l' a' li' en' t'=>by
  rw[Lf,stE,stE]
  show(decide (k=k')&&decide (o=o')&&decide (n=n')&&decide (s=s')&&Kh l l'&&Ma a a')=true↔_
  simp only[jF,decide_eq_true_eq,Ba9 l l',Bl2 a a',Ex.mk.injEq,and_true,and_assoc]
theorem Ba9: ∀l m:List Ex,Kh l m=true↔stL l=stL m
 | [],[]=>by simp [Kh,stL]
 | [],y::m=>by simp [Kh,stL]
 | x::l,[]=>by simp [Kh,stL]
 | x::l,y::m=>by rw[Kh,stL,stL,jF,Ba8 x y,Ba9 l m,List.cons.injEq]
theorem Ed9: ∀x y:As,Tv x y=true↔stA x=stA y
 | .mk c e, .mk c' e'=>by
  rw[Tv,stA,stA]
  show(Lh c c'&&Lf e e')=true↔_
  simp only[jF,Bl3 c c',Ba8 e e',As.mk.injEq]
theorem Bl2: ∀l m:List As,Ma l m=true↔Bu0 l=Bu0 m
 | [],[]=>by simp [Ma,Bu0]
 | [],y::m=>by simp [Ma,Bu0]
 | x::l,[]=>by simp [Ma,Bu0]
 | x::l,y::m=>by rw[Ma,Bu0,Bu0,jF,Ed9 x y,Bl2 l m,List.cons.injEq]
theorem Ee0: ∀x y:Ch,Si x y=true↔stC x=stC y
 | .mk k l, .mk k' l'=>by
  rw[Si,stC,stC]
  show(decide (k=k')&&Kh l l')=true↔_
  simp only[jF,decide_eq_true_eq,Ba9 l l',Ch.mk.injEq]
theorem Bl3: ∀l m:List Ch,Lh l m=true↔Bu1 l=Bu1 m
 | [],[]=>by simp [Lh,Bu1]
 | [],y::m=>by simp [Lh,Bu1]
 | x::l,[]=>by simp [Lh,Bu1]
 | x::l,y::m=>by rw[Lh,Bu1,Bu1,jF,Ee0 x y,Bl3 l m,List.cons.injEq]
end
section
end
end Go.Dl

-- Chapter 3: expressions: the plain laws, part 10: what reading asks of the first token, and of the one behind.
namespace Go.Dl
open Go
set_option maxRecDepth 10000
def w5:List (List UInt8):= [Qf,By,Fu]
def w3:List (List UInt8):=w5++ [[42],[47],Fn8,Fn9]
def w2:List (List UInt8):=w3++ [[43],[45]]
def w2d:List (List UInt8):=w2++ [Ep]
def w1:List (List UInt8):=w2d++ [[61],[47,61],[60],[60,61],[62],[62,61],wIn,Tw]
def w0:List (List UInt8):=w1++ [Fg0,wOr,Fn7]
def nof (ws:List (List UInt8)) (t:Tok):Prop:= ∀s∈ws,¬(t.kind=Dz s/\t.text=s)
instance (ws:List (List UInt8)) (t:Tok):Decidable (nof ws t):=inferInstanceAs (Decidable (∀s∈ws,¬(t.kind=Dz s/\t.text=s)))
theorem Dc0 {ws ws':List (List UInt8)} {t:Tok} (h:nof ws t) (hs: ∀s∈ws',s∈ws):nof ws' t:=fun s m=>h s (hs s m)
section
end
end Go.Dl

-- Chapter 3: expressions: the plain laws, part 11: reading the tokens of an expression.
namespace Go.Dl
open Go
set_option maxRecDepth 10000
def At (l:List Tok) (k:Nat) (ts:List Tok):Prop:=k<=l.length/\ts<+:l.drop k
section
variable {l:List Tok} {k k':Nat} {s:List UInt8} {p:PS}
theorem lv5 {e:Ex} (h:1<=e.kind/\e.kind<=10):Bo e=5:=by unfold Bo;rw[if_neg (by omega),if_neg (by omega),if_neg (by omega)]
theorem s32 {t:Tok} (h:nof w2 t):nof w3 t:=Dc0 h (by decide)
theorem s10 {t:Tok} (h:nof w0 t):nof w1 t:=Dc0 h (by decide)
section
end
end
end Go.Dl

-- Chapter 3: expressions: the plain laws, part 12: the tokens of an expression are read as that expression.
namespace Go.Dl
open Go
set_option maxRecDepth 10000
theorem Do5 {l:List Ex} (h:l.length=1): ∃x,l= [x]:=by
 match l,h with
 | [x],_=>exact⟨x,rfl⟩
theorem Ct8 {l:List Ex} (h:l.length=2): ∃x y,l= [x,y]:=by
 match l,h with
 | [x,y],_=>exact⟨x,y,rfl⟩
theorem Fp8 {l:List Ex} (h:l.length=3): ∃x y z,l= [x,y,z]:=by
 match l,h with
 | [x,y,z],_=>exact⟨x,y,z,rfl⟩
theorem Bu2 {e:Ex} (h:Ke e 1=true): ∃x,e.l= [x]/\Cq x=true:=by
 rw[Ke,jF,decide_eq_true_eq] at h;obtain⟨x,hx⟩:=Do5 h.1;rw[hx] at h;exact⟨x,hx,h.2⟩
theorem Et2 {e:Ex} (h:Ke e 2=true): ∃x y,e.l= [x,y]/\Cq x=true:=by
 rw[Ke,jF,decide_eq_true_eq] at h;obtain⟨x,y,hx⟩:=Ct8 h.1;rw[hx] at h;exact⟨x,y,hx,h.2⟩
section
variable {e:Ex}
theorem ff1 (h:e.kind=1) (hf:Ca e=true):e.l= []/\e.oper=0/\e.s= []/\e.a= []:=by
 have:Ca e=(e.l.isEmpty&&decide (0<=e.n)&&decide (e.n<=2147483647)&&zO e&&zS e&&zA e):=by unfold Ca;rw[h];rfl
 rw[this] at hf;simp only[jF,zO,zS,zA,decide_eq_true_eq,List.isEmpty_iff] at hf;exact⟨hf.1.1.1.1.1,hf.1.1.2,hf.1.2,hf.2⟩
theorem Do6 (h:e.kind=4\/e.kind=6) (hf:Ca e=true):(∃x,e.l= [x]/\Cq x=true)/\e.oper=0/\e.n=0/\e.a= []:=by
 have:Ca e=(Ke e 1&&Lq e.s&&zO e&&zN e&&zA e):=by rcases h with h | h<;>(unfold Ca;rw[h];rfl)
 rw[this] at hf;simp only[jF,zO,zN,zA,decide_eq_true_eq,List.isEmpty_iff] at hf;exact⟨Bu2 hf.1.1.1.1,hf.1.1.2,hf.1.2,hf.2⟩
theorem ff5 (h:e.kind=5) (hf:Ca e=true):(∃x,e.l= [x]/\Cq x=true)/\e.oper=0/\e.n=0/\e.s= []/\e.a= []:=by
 have:Ca e=(Ke e 1&&zO e&&zN e&&zS e&&zA e):=by unfold Ca;rw[h];rfl
 rw[this] at hf;simp only[jF,zO,zN,zS,zA,decide_eq_true_eq,List.isEmpty_iff] at hf;exact⟨Bu2 hf.1.1.1.1,hf.1.1.1.2,hf.1.1.2,hf.1.2,hf.2⟩
theorem ff7 (h:e.kind=7) (hf:Ca e=true):(∃x,e.l= [x]/\Cq x=true)/\Kf e.a=true/\e.oper=0/\e.n=0/\e.s= []:=by
 have:Ca e=(Ke e 1&&Kf e.a&&zO e&&zN e&&zS e):=by unfold Ca;rw[h];rfl
 rw[this] at hf;simp only[jF,zO,zN,zS,decide_eq_true_eq] at hf;exact⟨Bu2 hf.1.1.1.1,hf.1.1.1.2,hf.1.1.2,hf.1.2,hf.2⟩
theorem ff8 (h:e.kind=8) (hf:Ca e=true):(∃x y,e.l= [x,y]/\Cq x=true)/\e.oper=0/\e.n=0/\e.s= []/\e.a= []:=by
 have:Ca e=(Ke e 2&&zO e&&zN e&&zS e&&zA e):=by unfold Ca;rw[h];rfl
 rw[this] at hf;simp only[jF,zO,zN,zS,zA,decide_eq_true_eq,List.isEmpty_iff] at hf;exact⟨Et2 hf.1.1.1.1,hf.1.1.1.2,hf.1.1.2,hf.1.2,hf.2⟩
theorem ff9 (h:e.kind=9) (hf:Ca e=true):e.l= []/\Gs e.a=true/\e.oper=0/\e.n=0/\e.s= []:=by
 have:Ca e=(e.l.isEmpty&&Gs e.a&&zO e&&zN e&&zS e):=by unfold Ca;rw[h];rfl
 rw[this] at hf;simp only[jF,zO,zN,zS,decide_eq_true_eq,List.isEmpty_iff] at hf;exact⟨hf.1.1.1.1,hf.1.1.1.2,hf.1.1.2,hf.1.2,hf.2⟩
theorem Fh1 (h:e.kind=10) (hf:Ca e=true):(∃x y z,e.l= [x,y,z])/\e.oper=0/\e.n=0/\e.s= []/\e.a= []:=by
 have:Ca e=(decide (e.l.length=3)&&zO e&&zN e&&zS e&&zA e):=by unfold Ca;rw[h];rfl
 rw[this] at hf;simp only[jF,zO,zN,zS,zA,decide_eq_true_eq,List.isEmpty_iff] at hf;exact⟨Fp8 hf.1.1.1.1,hf.1.1.1.2,hf.1.1.2,hf.1.2,hf.2⟩
theorem Fh2 (h:e.kind=11) (hf:Ca e=true):(∃x,e.l= [x])/\(∃o:Nat,e.oper=o/\(o=18\/o=19\/o=20\/o=21))/\e.n=0/\e.s= []/\e.a= []:=by
 have:Ca e=(decide (e.l.length=1)&&decide (18<=e.oper)&&decide (e.oper<=21)&&zN e&&zS e&&zA e):=by unfold Ca;rw[h];rfl
 rw[this] at hf;simp only[jF,zN,zS,zA,decide_eq_true_eq,List.isEmpty_iff] at hf;exact⟨Do5 hf.1.1.1.1.1,⟨e.oper.toNat,by omega,by omega⟩,hf.1.1.2,hf.1.2,hf.2⟩
theorem Fh3 (h:e.kind=12) (hf:Ca e=true):(∃x y,e.l= [x,y])/\(∃o:Nat,e.oper=o/\1<=o/\o<=17)/\e.n=0/\e.s= []/\e.a= []:=by
 have:Ca e=(decide (e.l.length=2)&&decide (1<=e.oper)&&decide (e.oper<=17)&&zN e&&zS e&&zA e):=by unfold Ca;rw[h];rfl
 rw[this] at hf;simp only[jF,zN,zS,zA,decide_eq_true_eq,List.isEmpty_iff] at hf;exact⟨Ct8 hf.1.1.1.1.1,⟨e.oper.toNat,by omega,by omega,by omega⟩,hf.1.1.2,hf.1.2,hf.2⟩
theorem Ee1 (h:e.kind=13\/e.kind=14) (hf:Ca e=true):((∃x y z,e.l= [x,y,z])\/ ∃x y,e.l= [x,y]/\Cq y=true)/\e.oper=0/\e.n=0/\e.s= []/\e.a= []:=by
 have:Ca e=((decide (e.l.length=3) || decide (e.l.length=2)&&Cq (e.l.getD 1 ex0))&&zO e&&zN e&&zS e&&zA e):=by rcases h with h | h<;>(unfold Ca;rw[h];rfl)
 rw[this] at hf;simp only[jF,Bool.or_eq_true,zO,zN,zS,zA,decide_eq_true_eq,List.isEmpty_iff] at hf;refine⟨?_,hf.1.1.1.2,hf.1.1.2,hf.1.2,hf.2⟩;rcases hf.1.1.1.1 with h3 | h2
 ·exact .inl (Fp8 h3)
 ·obtain⟨x,y,hx⟩:=Ct8 h2.1;rw[hx] at h2;exact .inr ⟨x,y,hx,h2.2⟩
theorem Bl4 (h:3<=e.kind/\e.kind<=8):Cq e=true:=by rw[Cq,decide_eq_true h.1,decide_eq_true h.2];rfl
theorem Ab0 (h:e.kind<3\/8<e.kind):Cq e=true->False:=fun c=>by
 rw[Cq,jF,decide_eq_true_eq,decide_eq_true_eq] at c;omega
end
section
end
end Go.Dl

-- Chapter 3: expressions: the plain laws, part 13: the tokens of an expression are read as that expression: each kind.
namespace Go.Dl
open Go
set_option maxRecDepth 10000
theorem Qh: ∀ {l:List As},Gd l=true-> ∀a∈l,(a.c.isEmpty || Ct a.c)=true
 | [],_,a,h=>by cases h
 | b::r,h,a,hm=>by
  rw[Gd,jF] at h;rcases List.mem_cons.1 hm with rfl | hm
  ·have:=h.1;rw[Bool.or_eq_true] at this⊢
   rcases this with h1 | h1
   ·exact .inl h1
   ·rw[jF] at h1;exact .inr h1.1
  ·exact Qh h.2 a hm
section
end
end Go.Dl

-- Chapter 3: expressions: the plain laws, part 14: the tokens of an expression are read as that expression: operators, membership; all.
namespace Go.Dl
open Go
set_option maxRecDepth 10000
section
end
theorem Jq {d:Nat} {e:Ex} (h:En d e=true):Ca e=true/\ ∀x∈parts e,En (d+1) x=true:=by
 rw[Tu,jF,jF,List.all_eq_true] at h;exact⟨h.1.2,h.2⟩
end Go.Dl

-- Chapter 3: the package's writer: bounds, operators, membership, choices.
namespace Go.Dl
open Go Go.Proofs
set_option maxRecDepth 100000
theorem lx0 {e:List Ex} {x:Ex} {r:List Ex} (h:e=x::r):(e.flatMap dEx).take 9=dEx x:=by
 rw[h,List.flatMap_cons,List.take_append_of_le_length (by rw[Ad];omega),List.take_of_length_le (by rw[Ad];omega)]
theorem lx1 {e:List Ex} {x y:Ex} {r:List Ex} (h:e=x::y::r):((e.flatMap dEx).drop 9).take 9=dEx y:=by
 rw[h,List.flatMap_cons,List.drop_left' (Ad x)];exact lx0 rfl
theorem lx2 {e:List Ex} {x y z:Ex} {r:List Ex} (h:e=x::y::z::r):((e.flatMap dEx).drop 18).take 9=dEx z:=by
 rw[h,List.flatMap_cons,show 18=9+9 from rfl,<-List.drop_drop,List.drop_left' (Ad x)];exact lx1 rfl
section
variable {G:Nat->DVal}
set_option maxHeartbeats 4000000 in
theorem Af2 (hG:GX G) (a b:Ex) (ha:WrC Tryz.prog G 227 [.agg (dEx a)] (Ai a)) (hb:WrC Tryz.prog G 227 [.agg (dEx b)] (Ai b)):WrC Tryz.prog G 375 [.agg (dEx a), .agg (dEx b)] (Ay a 2++Aj Ep::Ay b 2):=by
 intro B r ts H hB hlen hw;rw[jC,jA] at hlen;refine Aa Tryz.func375 Tryz.call375 rfl (by kernel_rfl) ?_;simp(disch:=omega)only[go_sem,DVal.cells];intro r4 hr4;dsimp only at hr4;obtain⟨K,hK⟩: ∃K',K'=upd H r4 (some (.cells (dEx a) 27)):=⟨_,rfl⟩;rw[<-hK];have gr4:K r4=some (.cells (dEx a) 27):=by rw[hK];exact Ac _ _ _
 have hwK:WAt (upd B r4 (some (.cells (dEx a) 27))) r ts K:=by rw[hK];exact hw.frame hr4 _
 have n4:r≠r4:=hw.ne hr4;have hB4:B r4=none:=(hw.lo hr4).1;simp(disch:=omega)only[go_sem,DVal.cells];intro r5 hr5;dsimp only at hr5;obtain⟨L,hL⟩: ∃K',K'=upd K r5 (some (.cells (dEx b) 27)):=⟨_,rfl⟩;rw[<-hL];have gr5:L r5=some (.cells (dEx b) 27):=by rw[hL];exact Ac _ _ _
 have hwL:WAt (upd (upd B r4 (some (.cells (dEx a) 27))) r5 (some (.cells (dEx b) 27))) r ts L:=by rw[hL];exact hwK.frame hr5 _
 have n5:r≠r5:=hwK.ne hr5;have hB5:=(hwK.lo hr5).1;have n45:r4≠r5:=Am hr5 gr4;have gr4':L r4=some (.cells (dEx a) 27):=by rw[hL];exact Ph gr4 n45
 obtain⟨C,hC⟩: ∃C,C=upd (upd B r4 (some (.cells (dEx a) 27))) r5 (some (.cells (dEx b) 27)):=⟨_,rfl⟩;rw[<-hC] at hwL;have hCr:C r=none:=by rw[hC,Em _ _ _ _ n5,Em _ _ _ _ n4];exact hB
 have c4:C r4=some (.cells (dEx a) 27):=by rw[hC];exact Ph (Ac _ _ _) n45
 have c5:C r5=some (.cells (dEx b) 27):=by rw[hC];exact Ac _ _ _
 simp(disch:=omega)only[go_sem,gr4'];refine(Dv hG a 2 ha C r _ _ hCr (by omega) hwL).mono ?_;rintro _ H1 ⟨rfl,h1⟩;simp(disch:=omega)only[go_sem];intro q1 hq1;dsimp only at hq1;simp(disch:=omega)only[go_sem];refine(Rs hG Ep hq1 hCr (by simp;omega) h1).mono ?_;rintro _ H2 ⟨rfl,h2⟩;have g5:=h2.keep c5 n5.symm;simp(disch:=omega)only[go_sem,g5];refine(Dv hG b 2 hb C r _ _ hCr (by simp;omega) h2).mono ?_;rintro _ H3 ⟨rfl,h3⟩;simp(disch:=omega)only[go_sem];refine Wj.refl ⟨rfl, ?_⟩;rw[hC] at h3;have:=(h3.drop hB5).drop hB4;simpa using this
set_option maxHeartbeats 4000000 in
theorem Ct9 (hG:GX G) (e x:Ex) (o:Nat) (hl:e.l= [x]) (ho:e.oper=o) (ho2:o<22) (hx:WrC Tryz.prog G 227 [.agg (dEx x)] (Ai x)):WrC Tryz.prog G 329 [.agg (dEx e)] ((Eh o).map Aj++Ay x (Jp e)):=by
 intro B r ts H hB hlen hw;rw[jC,jK] at hlen;have hl0:=lx0 hl;have hfl:=Al Ad e.l;have hll:e.l.length=1:=by rw[hl];rfl
 have hwo:=Ba3 ho2;have hwl:(Eb8.map dW).length=22:=rfl;refine Aa Tryz.func329 Tryz.call329 rfl (by kernel_rfl) ?_;simp(disch:=omega)only[go_sem,DVal.cells];intro r3 hr3;dsimp only at hr3;obtain⟨K,hK⟩: ∃K',K'=upd H r3 (some (.cells (dEx e) 27)):=⟨_,rfl⟩;rw[<-hK];have gr3:K r3=some (.cells (dEx e) 27):=by rw[hK];exact Ac _ _ _
 have hwK:WAt (upd B r3 (some (.cells (dEx e) 27))) r ts K:=by rw[hK];exact hw.frame hr3 _
 have n3:r≠r3:=hw.ne hr3;have hB3:B r3=none:=(hw.lo hr3).1;have hBK:upd B r3 (some (.cells (dEx e) 27)) r=none:=by rw[Em _ _ _ _ n3];exact hB
 simp(disch:=omega)only[go_sem,gr3];refine(Vi G K e).mono ?_;rintro _ K1 ⟨rfl,rfl⟩;by_cases c:Bo e=2
 ·have hM:Jp e=3:=by rw[Jp,if_pos c]
  rw[hM] at hlen⊢
  simp(disch:=omega)only[go_sem,c];refine Ak (by kernel_rfl) pL17 (by kernel_rfl) ?_;simp(disch:=omega)only[go_sem,gr3];refine(Mc G K1).mono ?_;rintro _ K2 ⟨rfl,rfl⟩;simp(disch:=omega)only[go_sem,gr3,ho,Xj,hwo,hwl,jD];refine(Kl hG (Eh o) _ r _ _ hBK (by rw[jK];omega) hwK).mono ?_;rintro _ H1 ⟨rfl,h1⟩;have g3:=h1.keep (Ac _ _ _) n3.symm;simp(disch:=omega)only[go_sem,g3,hll,hl0,hfl];refine(Dv hG x _ hx _ r _ _ hBK (by rw[jC,jK];omega) h1).mono ?_;rintro _ H2 ⟨rfl,h2⟩;simp(disch:=omega)only[go_sem];refine Wj.refl ⟨rfl, ?_⟩;have:=h2.drop hB3;rw[jO] at this;exact this
 ·have hM:Jp e=5:=by rw[Jp,if_neg c]
  rw[hM] at hlen⊢
  simp(disch:=omega)only[go_sem,c];refine Ak (by kernel_rfl) pL17 (by kernel_rfl) ?_;simp(disch:=omega)only[go_sem,gr3];refine(Mc G K1).mono ?_;rintro _ K2 ⟨rfl,rfl⟩;simp(disch:=omega)only[go_sem,gr3,ho,Xj,hwo,hwl,jD];refine(Kl hG (Eh o) _ r _ _ hBK (by rw[jK];omega) hwK).mono ?_;rintro _ H1 ⟨rfl,h1⟩;have g3:=h1.keep (Ac _ _ _) n3.symm;simp(disch:=omega)only[go_sem,g3,hll,hl0,hfl];refine(Dv hG x _ hx _ r _ _ hBK (by rw[jC,jK];omega) h1).mono ?_;rintro _ H2 ⟨rfl,h2⟩;simp(disch:=omega)only[go_sem];refine Wj.refl ⟨rfl, ?_⟩;have:=h2.drop hB3;rw[jO] at this;exact this
set_option maxHeartbeats 4000000 in
theorem Cu0 (hG:GX G) (e x y:Ex) (o:Nat) (hl:e.l= [x,y]) (ho:e.oper=o) (ho2:o<22) (hx:WrC Tryz.prog G 227 [.agg (dEx x)] (Ai x)) (hy:WrC Tryz.prog G 227 [.agg (dEx y)] (Ai y)):
  WrC Tryz.prog G 330 [.agg (dEx e)] (Ay x (Ge e)++((Eh o).map Aj++Ay y (Hk e))):=by
 intro B r ts H hB hlen hw;rw[jC,jC,jK] at hlen;have hl0:=lx0 hl;have hl1:=lx1 hl;have hfl:=Al Ad e.l;have hll:e.l.length=2:=by rw[hl];rfl
 have hwo:=Ba3 ho2;have hwl:(Eb8.map dW).length=22:=rfl;have hlv:=Af1 e;have g0:e.l.getD 0 ex0=x:=by rw[hl];rfl
 have hx0:(e.l.flatMap dEx)[0]? =some (.int .u8 x.kind):=by rw[hl,List.flatMap_cons,Ki];rfl
 have hx1:(e.l.flatMap dEx)[1]? =some (.int .u8 x.oper):=by rw[hl,List.flatMap_cons,Ki];rfl
 refine Aa Tryz.func330 Tryz.call330 rfl (by kernel_rfl) ?_;simp(disch:=omega)only[go_sem,DVal.cells];intro r3 hr3;dsimp only at hr3;obtain⟨K,hK⟩: ∃K',K'=upd H r3 (some (.cells (dEx e) 27)):=⟨_,rfl⟩;rw[<-hK];have gr3:K r3=some (.cells (dEx e) 27):=by rw[hK];exact Ac _ _ _
 have hwK:WAt (upd B r3 (some (.cells (dEx e) 27))) r ts K:=by rw[hK];exact hw.frame hr3 _
 have n3:r≠r3:=hw.ne hr3;have hB3:B r3=none:=(hw.lo hr3).1;have hBK:upd B r3 (some (.cells (dEx e) 27)) r=none:=by rw[Em _ _ _ _ n3];exact hB
 simp(disch:=omega)only[go_sem,gr3];refine(Vi G K e).mono ?_;rintro _ K1 ⟨rfl,rfl⟩;have hwl1:IntKind.i64.wrap (Bo e+1)=Bo e+1:=by rw[IntKind.wrap_i64];omega
 by_cases c1:Bo e=1
 ·have hL:Ge e=2:=by rw[Ge,if_pos c1]
  have hR:Hk e=2:=by rw[Hk,if_pos c1]
  rw[hL,hR] at hlen⊢
  simp(disch:=omega)only[go_sem,c1,hwl1];simp(disch:=omega)only[go_sem,gr3,hll,hl0,hfl];refine(Dv hG x _ hx _ r _ _ hBK (by omega) hwK).mono ?_;rintro _ H1 ⟨rfl,h1⟩;have g3:=h1.keep (Ac _ _ _) n3.symm;simp(disch:=omega)only[go_sem];refine Ak (by kernel_rfl) pL17 (by kernel_rfl) ?_;simp(disch:=omega)only[go_sem,g3];refine(Mc G H1).mono ?_;rintro _ K2 ⟨rfl,rfl⟩;simp(disch:=omega)only[go_sem,g3,ho,Xj,hwo,hwl,jD];refine(Kl hG (Eh o) _ r _ _ hBK (by rw[jC,jK];omega) h1).mono ?_;rintro _ H3 ⟨rfl,h3⟩;have g3':=h3.keep (Ac _ _ _) n3.symm;simp(disch:=omega)only[go_sem,g3',hll,hl1,hfl];refine(Dv hG y _ hy _ r _ _ hBK (by rw[jC,jC,jK];omega) h3).mono ?_;rintro _ H4 ⟨rfl,h4⟩;simp(disch:=omega)only[go_sem];refine Wj.refl ⟨rfl, ?_⟩;have:=h4.drop hB3;rw[jO,jO] at this;exact this
 ·have hR:Hk e=Bo e+1:=by rw[Hk,if_neg c1]
  by_cases c0:Bo e=0
  ·have hR:Hk e=1:=by rw[Hk,if_neg c1,c0];rfl
   by_cases ck:x.kind=12
   ·by_cases co:x.oper=(o:Int)
    ·have hL:Ge e=0:=by rw[Ge,if_neg c1,g0,ho,if_neg (by rintro⟨_,a | a⟩;exact a ck;exact a co),c0]
     rw[hL,hR] at hlen⊢
     have c01: ¬(0:Int)=1:=by decide
     simp(disch:=omega)only[go_sem,c0,hwl1,c01];refine Ak (by kernel_rfl) pL6 (by kernel_rfl) ?_;simp(disch:=omega)only[go_sem,gr3,hll,hfl,hx0,hx1,ck,co,ho];simp(disch:=omega)only[go_sem,gr3,hll,hl0,hfl];refine(Dv hG x _ hx _ r _ _ hBK (by omega) hwK).mono ?_;rintro _ H1 ⟨rfl,h1⟩;have g3:=h1.keep (Ac _ _ _) n3.symm;simp(disch:=omega)only[go_sem];refine Ak (by kernel_rfl) pL17 (by kernel_rfl) ?_;simp(disch:=omega)only[go_sem,g3];refine(Mc G H1).mono ?_;rintro _ K2 ⟨rfl,rfl⟩;simp(disch:=omega)only[go_sem,g3,ho,Xj,hwo,hwl,jD];refine(Kl hG (Eh o) _ r _ _ hBK (by rw[jC,jK];omega) h1).mono ?_;rintro _ H3 ⟨rfl,h3⟩;have g3':=h3.keep (Ac _ _ _) n3.symm;simp(disch:=omega)only[go_sem,g3',hll,hl1,hfl];refine(Dv hG y _ hy _ r _ _ hBK (by rw[jC,jC,jK];omega) h3).mono ?_;rintro _ H4 ⟨rfl,h4⟩;simp(disch:=omega)only[go_sem];refine Wj.refl ⟨rfl, ?_⟩;have:=h4.drop hB3;rw[jO,jO] at this;exact this
    ·have hL:Ge e=1:=by rw[Ge,if_neg c1,g0,ho,if_pos ⟨c0, .inr co⟩]
     rw[hL,hR] at hlen⊢
     simp(disch:=omega)only[go_sem,c0,hwl1];refine Ak (by kernel_rfl) pL6 (by kernel_rfl) ?_;simp(disch:=omega)only[go_sem,gr3,hll,hfl,hx0,hx1,ck,co,ho];simp(disch:=omega)only[go_sem,gr3,hll,hl0,hfl];refine(Dv hG x _ hx _ r _ _ hBK (by omega) hwK).mono ?_;rintro _ H1 ⟨rfl,h1⟩;have g3:=h1.keep (Ac _ _ _) n3.symm;simp(disch:=omega)only[go_sem];refine Ak (by kernel_rfl) pL17 (by kernel_rfl) ?_;simp(disch:=omega)only[go_sem,g3];refine(Mc G H1).mono ?_;rintro _ K2 ⟨rfl,rfl⟩;simp(disch:=omega)only[go_sem,g3,ho,Xj,hwo,hwl,jD];refine(Kl hG (Eh o) _ r _ _ hBK (by rw[jC,jK];omega) h1).mono ?_;rintro _ H3 ⟨rfl,h3⟩;have g3':=h3.keep (Ac _ _ _) n3.symm;simp(disch:=omega)only[go_sem,g3',hll,hl1,hfl];refine(Dv hG y _ hy _ r _ _ hBK (by rw[jC,jC,jK];omega) h3).mono ?_;rintro _ H4 ⟨rfl,h4⟩;simp(disch:=omega)only[go_sem];refine Wj.refl ⟨rfl, ?_⟩;have:=h4.drop hB3;rw[jO,jO] at this;exact this
   ·have hL:Ge e=1:=by rw[Ge,if_neg c1,g0,ho,if_pos ⟨c0, .inl ck⟩]
    rw[hL,hR] at hlen⊢
    simp(disch:=omega)only[go_sem,c0,hwl1];refine Ak (by kernel_rfl) pL6 (by kernel_rfl) ?_;simp(disch:=omega)only[go_sem,gr3,hll,hfl,hx0,hx1,ck,ho];simp(disch:=omega)only[go_sem,gr3,hll,hl0,hfl];refine(Dv hG x _ hx _ r _ _ hBK (by omega) hwK).mono ?_;rintro _ H1 ⟨rfl,h1⟩;have g3:=h1.keep (Ac _ _ _) n3.symm;simp(disch:=omega)only[go_sem];refine Ak (by kernel_rfl) pL17 (by kernel_rfl) ?_;simp(disch:=omega)only[go_sem,g3];refine(Mc G H1).mono ?_;rintro _ K2 ⟨rfl,rfl⟩;simp(disch:=omega)only[go_sem,g3,ho,Xj,hwo,hwl,jD];refine(Kl hG (Eh o) _ r _ _ hBK (by rw[jC,jK];omega) h1).mono ?_;rintro _ H3 ⟨rfl,h3⟩;have g3':=h3.keep (Ac _ _ _) n3.symm;simp(disch:=omega)only[go_sem,g3',hll,hl1,hfl];refine(Dv hG y _ hy _ r _ _ hBK (by rw[jC,jC,jK];omega) h3).mono ?_;rintro _ H4 ⟨rfl,h4⟩;simp(disch:=omega)only[go_sem];refine Wj.refl ⟨rfl, ?_⟩;have:=h4.drop hB3;rw[jO,jO] at this;exact this
  ·have hL:Ge e=Bo e:=by rw[Ge,if_neg c1,if_neg (by rintro⟨a,_⟩;exact c0 a)]
   rw[hL,hR] at hlen⊢
   simp(disch:=omega)only[go_sem,c0,c1,hwl1];refine Ak (by kernel_rfl) pL6 (by kernel_rfl) ?_;simp(disch:=omega)only[go_sem,gr3,hll,hfl,hx0,hx1,ho,c0];simp(disch:=omega)only[go_sem,gr3,hll,hl0,hfl];refine(Dv hG x _ hx _ r _ _ hBK (by omega) hwK).mono ?_;rintro _ H1 ⟨rfl,h1⟩;have g3:=h1.keep (Ac _ _ _) n3.symm;simp(disch:=omega)only[go_sem];refine Ak (by kernel_rfl) pL17 (by kernel_rfl) ?_;simp(disch:=omega)only[go_sem,g3];refine(Mc G H1).mono ?_;rintro _ K2 ⟨rfl,rfl⟩;simp(disch:=omega)only[go_sem,g3,ho,Xj,hwo,hwl,jD];refine(Kl hG (Eh o) _ r _ _ hBK (by rw[jC,jK];omega) h1).mono ?_;rintro _ H3 ⟨rfl,h3⟩;have g3':=h3.keep (Ac _ _ _) n3.symm;simp(disch:=omega)only[go_sem,g3',hll,hl1,hfl];refine(Dv hG y _ hy _ r _ _ hBK (by rw[jC,jC,jK];omega) h3).mono ?_;rintro _ H4 ⟨rfl,h4⟩;simp(disch:=omega)only[go_sem];refine Wj.refl ⟨rfl, ?_⟩;have:=h4.drop hB3;rw[jO,jO] at this;exact this
set_option maxHeartbeats 4000000 in
theorem Af3 (hG:GX G) (e x:Ex) (ws:List (List UInt8)) (hl:(∃y z,e.l= [x,y,z])\/ ∃y,e.l= [x,y]) (hp: ∀y∈e.l,WrC Tryz.prog G 227 [.agg (dEx y)] (Ai y)):
  WrC Tryz.prog G 331 [.agg (dEx e),dW ws] (Ay x 2++(ws.map Aj++Nz e)):=by
 intro B r ts H hB hlen hw;rw[jC,jC,jK] at hlen;have hx:WrC Tryz.prog G 227 [.agg (dEx x)] (Ai x):=hp x (by rcases hl with⟨y,z,hl⟩ | ⟨y,hl⟩<;>(rw[hl];simp));have hl0:(e.l.flatMap dEx).take 9=dEx x:=by rcases hl with⟨y,z,hl⟩ | ⟨y,hl⟩<;>exact lx0 hl
 have hfl:=Al Ad e.l;have hlp:0<e.l.length:=by rcases hl with⟨y,z,hl⟩ | ⟨y,hl⟩<;>(rw[hl];simp)
 refine Aa Tryz.func331 Tryz.call331 rfl (by kernel_rfl) ?_;simp(disch:=omega)only[go_sem,DVal.cells];intro r4 hr4;dsimp only at hr4;obtain⟨K,hK⟩: ∃K',K'=upd H r4 (some (.cells (dEx e) 27)):=⟨_,rfl⟩;rw[<-hK];have gr4:K r4=some (.cells (dEx e) 27):=by rw[hK];exact Ac _ _ _
 have hwK:WAt (upd B r4 (some (.cells (dEx e) 27))) r ts K:=by rw[hK];exact hw.frame hr4 _
 have n4:r≠r4:=hw.ne hr4;have hB4:B r4=none:=(hw.lo hr4).1;have hBK:upd B r4 (some (.cells (dEx e) 27)) r=none:=by rw[Em _ _ _ _ n4];exact hB
 rcases hl with⟨y,z,hl⟩ | ⟨y,hl⟩
 ·have hll:e.l.length=3:=by rw[hl];rfl
  have hl1:=lx1 hl;have hl2:=lx2 hl;have ht:Nz e=Ay y 2++Aj Ep::Ay z 2:=by unfold Nz pE tE;rw[hl];rfl
  rw[ht] at hlen⊢
  simp(disch:=omega)only[go_sem,gr4,hl0,hfl,hlp];refine(Dv hG x _ hx _ r _ _ hBK (by omega) hwK).mono ?_;rintro _ H1 ⟨rfl,h1⟩;simp(disch:=omega)only[go_sem];refine(Kl hG ws _ r _ _ hBK (by rw[jC,jK];omega) h1).mono ?_;rintro _ H2 ⟨rfl,h2⟩;have g2:=h2.keep (Ac _ _ _) n4.symm;simp(disch:=omega)only[go_sem,g2,hll];refine Ak (by kernel_rfl) pL30 (by kernel_rfl) ?_;simp(disch:=omega)only[go_sem,g2,hll,hl1,hl2,hfl];refine(Af2 hG y z (hp y (by rw[hl];simp)) (hp z (by rw[hl];simp)) _ r _ _ hBK (by rw[jC,jC,jK];omega) h2).mono ?_;rintro _ H4 ⟨rfl,h4⟩;simp(disch:=omega)only[go_sem];refine Wj.refl ⟨rfl, ?_⟩;have:=h4.drop hB4;rw[jO,jO] at this;exact this
 ·have hll:e.l.length=2:=by rw[hl];rfl
  have hl1:=lx1 hl;have ht:Nz e=Ai y:=by unfold Nz pE tE;rw[hl];rfl
  rw[ht] at hlen⊢
  simp(disch:=omega)only[go_sem,gr4,hl0,hfl,hlp];refine(Dv hG x _ hx _ r _ _ hBK (by omega) hwK).mono ?_;rintro _ H1 ⟨rfl,h1⟩;simp(disch:=omega)only[go_sem];refine(Kl hG ws _ r _ _ hBK (by rw[jC,jK];omega) h1).mono ?_;rintro _ H2 ⟨rfl,h2⟩;have g2:=h2.keep (Ac _ _ _) n4.symm;simp(disch:=omega)only[go_sem,g2,hll,hl1,hfl];refine(hp y (by rw[hl];simp) _ r _ _ hBK (by rw[jC,jC,jK];omega) h2).mono ?_;rintro _ H4 ⟨rfl,h4⟩;simp(disch:=omega)only[go_sem];refine Wj.refl ⟨rfl, ?_⟩;have:=h4.drop hB4;rw[jO,jO] at this;exact this
set_option maxHeartbeats 4000000 in
theorem Af4 (hG:GX G) (c:Ch) {n:Nat} (hc:Cs n c=true) (hp: ∀y∈c.l,WrC Tryz.prog G 227 [.agg (dEx y)] (Ai y)):WrC Tryz.prog G 341 [.agg (dCh c)] (Es c):=by
 intro B r ts H hB hlen hw;have hfl:=Al Ad c.l;unfold Cs at hc;refine Aa Tryz.func341 Tryz.call341 rfl (by kernel_rfl) ?_;simp(disch:=omega)only[go_sem,DVal.cells];intro r3 hr3;dsimp only at hr3;obtain⟨K,hK⟩: ∃K',K'=upd H r3 (some (.cells (dCh c) 47)):=⟨_,rfl⟩;rw[<-hK];have gr3:K r3=some (.cells (dCh c) 47):=by rw[hK];exact Ac _ _ _
 have hwK:WAt (upd B r3 (some (.cells (dCh c) 47))) r ts K:=by rw[hK];exact hw.frame hr3 _
 have n3:r≠r3:=hw.ne hr3;have hB3:B r3=none:=(hw.lo hr3).1;have hBK:upd B r3 (some (.cells (dCh c) 47)) r=none:=by rw[Em _ _ _ _ n3];exact hB
 by_cases c1:c.kind=1
 ·rw[if_pos c1,decide_eq_true_eq] at hc;obtain⟨x,hx⟩:=Do5 hc;have hl0:=lx0 hx;have ht:Es c=Ai x:=by rw[Jv,if_pos c1,hx];rfl
  rw[ht] at hlen⊢
  simp(disch:=omega)only[go_sem,gr3,c1,hc,hl0,hfl];refine(hp x (by rw[hx];simp) _ r _ _ hBK hlen hwK).mono ?_;rintro _ H4 ⟨rfl,h4⟩;simp(disch:=omega)only[go_sem];exact Wj.refl ⟨rfl,h4.drop hB3⟩
 ·rw[if_neg c1] at hc;by_cases c2:c.kind=2
  ·rw[if_pos c2,decide_eq_true_eq] at hc;obtain⟨x,y,hx⟩:=Ct8 hc;have hl0:=lx0 hx;have hl1:=lx1 hx;have ht:Es c=Ay x 2++Aj Ep::Ay y 2:=by rw[Jv,if_neg c1,if_pos c2,hx];rfl
   rw[ht] at hlen⊢
   simp(disch:=omega)only[go_sem,gr3,c2];refine Ak (by kernel_rfl) pL30 (by kernel_rfl) ?_;simp(disch:=omega)only[go_sem,gr3,hc,hl0,hl1,hfl];refine(Af2 hG x y (hp x (by rw[hx];simp)) (hp y (by rw[hx];simp)) _ r _ _ hBK hlen hwK).mono ?_;rintro _ H4 ⟨rfl,h4⟩;simp(disch:=omega)only[go_sem];exact Wj.refl ⟨rfl,h4.drop hB3⟩
  ·have ht:Es c= [Aj Kz]:=by rw[Jv,if_neg c1,if_neg c2]
   rw[ht] at hlen⊢
   simp(disch:=omega)only[go_sem,gr3,c1,c2];intro q1 hq1;dsimp only at hq1;simp(disch:=omega)only[go_sem];refine(Rs hG Kz hq1 hBK hlen hwK).mono ?_;rintro _ H1 ⟨rfl,h1⟩;simp(disch:=omega)only[go_sem];exact Wj.refl ⟨rfl,h1.drop hB3⟩
end
end Go.Dl

-- Chapter 3: the package's writer: lists, associations.
namespace Go.Dl
open Go Go.Proofs
set_option maxRecDepth 100000
theorem Hl {α:Type} {l:List α} {j:Nat} (h:j<l.length):l.take (j+1)=l.take j++ [l[j]]:=by rw[List.take_add_one,List.getElem?_eq_getElem h];rfl
theorem Ub {α:Type} (g:α->List Tok) (s:List UInt8) (l:List α) (j:Nat) (h:j<l.length):Et s ((l.take (j+1)).map g)=Et s ((l.take j).map g)++((if j=0 then [] else [Aj s])++g l[j]):=by
 rw[Hl h,List.map_append,List.map_singleton];by_cases c:j=0
 ·subst c;simp [Et]
 ·rw[Ua s _ _ (by cases l with
   | nil=>simp at h
   | cons x l=>cases j with
    | zero=>exact absurd rfl c
    | succ j=>simp),if_neg c];rfl
theorem Bl5 {α:Type} (g:α->List Tok) (s:List UInt8) (l:List α): ∀(n j:Nat),j+n<=l.length->(Et s ((l.take j).map g)).length<=(Et s ((l.take (j+n)).map g)).length
 | 0,j,_=>Nat.le_refl _
 | n+1,j,h=>by
  rw[<-Nat.add_assoc,Ub g s l (j+n) (by omega),jC];have:=Bl5 g s l n j (by omega);omega
theorem Au5 {α:Type} (g:α->List Tok) (s:List UInt8) (l:List α) (j:Nat) (h:j<=l.length):(Et s ((l.take j).map g)).length<=(Et s (l.map g)).length:=by
 have:=Bl5 g s l (l.length-j) j (by omega);rw[Nat.add_sub_cancel' h,List.take_length] at this;exact this
section
variable {G:Nat->DVal}
set_option maxHeartbeats 4000000 in
theorem Ap7 (hG:GX G) (l:List Ch) (s:List UInt8) (hll:l.length<=1000000000) (hp: ∀c∈l,WrC Tryz.prog G 341 [.agg (dCh c)] (Es c)) (B:Ab) (r:Nat) (ts:List Tok) (H:Ab) (hB:B r=none) (hlen:ts.length+(Et s (l.map Es)).length<=1000000000) (hw:WAt B r ts H):
  Ae Tryz.prog G 340 [.optr r 0,dCl l, .str s, .func (.func 341) [.optr r 0] []] H (WQ B r (ts++Et s (l.map Es))):=by
 refine Aa Tryz.func340 Tryz.call340 rfl (by kernel_rfl) ?_;simp(disch:=omega)only[go_sem,dCl];obtain⟨I,hI⟩: ∃I:Nat->(Nat->DVal)->Ab->Prop,∀j env heap,I j env heap↔(env 0= .optr r 0/\env 2= .str s/\env 3= .func (.func 341) [.optr r 0] []/\env 10=dCl l/\env 11=dI l.length/\env 12=dI j/\j<=l.length/\WAt B r (ts++Et s ((l.take j).map Es)) heap):=⟨_,fun _ _ _=>Iff.rfl⟩;refine Dt1.run I (fun j=>l.length-j) 0 ((hI _ _ _).2 ?_) ?_
 ·simp(disch:=omega)only[go_sem];(repeat' apply And.intro)<;>(try first | rfl | assumption | omega);simpa [Et] using hw
 ·intro j env heap hi;obtain⟨e0,e2,e3,e10,e11,e12,hj,hwj⟩:=(hI _ _ _).1 hi;by_cases hlt:j<l.length
  ·have hlt':(j:Int)<(l.length:Int):=by omega
   have hw1:IntKind.i64.wrap ((j:Int)+1)=((j+1:Nat):Int):=by rw[IntKind.wrap_i64];omega
   have Aw:=Bu Cu l j hlt;have hfl:=Al Cu l;have htk:=Ub Es s l j hlt;have hle:=Au5 Es s l (j+1) hlt;have hpc:=hp l[j] (List.getElem_mem hlt);obtain⟨c,hce⟩: ∃c,c=l[j]:=⟨_,rfl⟩;rw[<-hce] at Aw htk hpc;rw[htk,jC,jC] at hle;simp(disch:=omega)only[go_sem,e0,e2,e3,e10,e11,e12,hlt',dCl,Aw,hfl,jD];intro r9 hr9;dsimp only at hr9;simp(disch:=omega)only[go_sem,e0,e2,e3,e10,e11,e12];obtain⟨K,hK⟩: ∃K',K'=upd heap r9 (some (.cells (dCh c) 47)):=⟨_,rfl⟩;rw[<-hK];have gr9:K r9=some (.cells (dCh c) 47):=by rw[hK];exact Ac _ _ _
   have hwK:WAt (upd B r9 (some (.cells (dCh c) 47))) r (ts++Et s ((l.take j).map Es)) K:=by rw[hK];exact hwj.frame hr9 _
   have n9:r≠r9:=hwj.ne hr9;have hB9:B r9=none:=(hwj.lo hr9).1;have hBK:upd B r9 (some (.cells (dCh c) 47)) r=none:=by rw[Em _ _ _ _ n9];exact hB
   by_cases c0:j=0
   ·have c0': ¬(j:Int)>0:=by omega
    have c0'': ¬(0:Int)<(j:Int):=by omega
    rw[if_pos c0] at htk hle;simp(disch:=omega)only[go_sem,e0,e2,e3,e10,e11,e12,gr9,c0',c0''];refine(hpc _ r _ _ hBK (by rw[jC];simp only[jB] at hle;omega) hwK).mono ?_;rintro _ H2 ⟨rfl,h2⟩;simp(disch:=omega)only[go_sem,e0,e2,e3,e10,e11,e12];refine⟨j+1,_,Ws.refl _,(hI _ _ _).2 ?_,by omega⟩;simp(disch:=omega)only[go_sem,e0,e2,e3,e10,e11,e12,hw1];(repeat' apply And.intro)<;>(try first | rfl | assumption | omega);have:=h2.drop hB9;rw[htk,jG,<-jO];exact this
   ·have c0'':(0:Int)<(j:Int):=by omega
    rw[if_neg c0] at htk hle;simp only[jQ] at hle;simp(disch:=omega)only[go_sem,e0,e2,e3,e10,e11,e12,gr9,c0''];intro q1 hq1;dsimp only at hq1;simp(disch:=omega)only[go_sem,e0,e2,e3,e10,e11,e12];refine(Rs hG s hq1 hBK (by rw[jC];omega) hwK).mono ?_;rintro _ H1 ⟨rfl,h1⟩;have g1:=h1.keep (Ac _ _ _) n9.symm;simp(disch:=omega)only[go_sem,e0,e2,e3,e10,e11,e12,g1];refine(hpc _ r _ _ hBK (by rw[jC,jC,jQ];omega) h1).mono ?_;rintro _ H2 ⟨rfl,h2⟩;simp(disch:=omega)only[go_sem,e0,e2,e3,e10,e11,e12];refine⟨j+1,_,Ws.refl _,(hI _ _ _).2 ?_,by omega⟩;simp(disch:=omega)only[go_sem,e0,e2,e3,e10,e11,e12,hw1];(repeat' apply And.intro)<;>(try first | rfl | assumption | omega);have:=h2.drop hB9;rw[htk,<-jO,<-jO];exact this
  ·have:j=l.length:=by omega
   subst this;have hlt': ¬(l.length:Int)<(l.length:Int):=by omega
   rw[List.take_length] at hwj;simp(disch:=omega)only[go_sem,e0,e2,e3,e10,e11,e12,hlt'];exact Wj.refl ⟨rfl,hwj⟩
set_option maxHeartbeats 4000000 in
theorem Ap8 (hG:GX G) (l:List As) (s:List UInt8) (hll:l.length<=1000000000) (hp: ∀c∈l,WrC Tryz.prog G 328 [.agg (dAs c)] (Gt c)) (B:Ab) (r:Nat) (ts:List Tok) (H:Ab) (hB:B r=none) (hlen:ts.length+(Et s (l.map Gt)).length<=1000000000) (hw:WAt B r ts H):
  Ae Tryz.prog G 327 [.optr r 0,dAl l, .str s, .func (.func 328) [.optr r 0] []] H (WQ B r (ts++Et s (l.map Gt))):=by
 refine Aa Tryz.func327 Tryz.call327 rfl (by kernel_rfl) ?_;simp(disch:=omega)only[go_sem,dAl];obtain⟨I,hI⟩: ∃I:Nat->(Nat->DVal)->Ab->Prop,∀j env heap,I j env heap↔(env 0= .optr r 0/\env 2= .str s/\env 3= .func (.func 328) [.optr r 0] []/\env 10=dAl l/\env 11=dI l.length/\env 12=dI j/\j<=l.length/\WAt B r (ts++Et s ((l.take j).map Gt)) heap):=⟨_,fun _ _ _=>Iff.rfl⟩;refine Dt1.run I (fun j=>l.length-j) 0 ((hI _ _ _).2 ?_) ?_
 ·simp(disch:=omega)only[go_sem];(repeat' apply And.intro)<;>(try first | rfl | assumption | omega);simpa [Et] using hw
 ·intro j env heap hi;obtain⟨e0,e2,e3,e10,e11,e12,hj,hwj⟩:=(hI _ _ _).1 hi;by_cases hlt:j<l.length
  ·have hlt':(j:Int)<(l.length:Int):=by omega
   have hw1:IntKind.i64.wrap ((j:Int)+1)=((j+1:Nat):Int):=by rw[IntKind.wrap_i64];omega
   have Aw:=Bu Cr l j hlt;have hfl:=Al Cr l;have htk:=Ub Gt s l j hlt;have hle:=Au5 Gt s l (j+1) hlt;have hpc:=hp l[j] (List.getElem_mem hlt);obtain⟨c,hce⟩: ∃c,c=l[j]:=⟨_,rfl⟩;rw[<-hce] at Aw htk hpc;rw[htk,jC,jC] at hle;simp(disch:=omega)only[go_sem,e0,e2,e3,e10,e11,e12,hlt',dAl,Aw,hfl,jD];intro r9 hr9;dsimp only at hr9;simp(disch:=omega)only[go_sem,e0,e2,e3,e10,e11,e12];obtain⟨K,hK⟩: ∃K',K'=upd heap r9 (some (.cells (dAs c) 44)):=⟨_,rfl⟩;rw[<-hK];have gr9:K r9=some (.cells (dAs c) 44):=by rw[hK];exact Ac _ _ _
   have hwK:WAt (upd B r9 (some (.cells (dAs c) 44))) r (ts++Et s ((l.take j).map Gt)) K:=by rw[hK];exact hwj.frame hr9 _
   have n9:r≠r9:=hwj.ne hr9;have hB9:B r9=none:=(hwj.lo hr9).1;have hBK:upd B r9 (some (.cells (dAs c) 44)) r=none:=by rw[Em _ _ _ _ n9];exact hB
   by_cases c0:j=0
   ·have c0': ¬(j:Int)>0:=by omega
    have c0'': ¬(0:Int)<(j:Int):=by omega
    rw[if_pos c0] at htk hle;simp(disch:=omega)only[go_sem,e0,e2,e3,e10,e11,e12,gr9,c0',c0''];refine(hpc _ r _ _ hBK (by rw[jC];simp only[jB] at hle;omega) hwK).mono ?_;rintro _ H2 ⟨rfl,h2⟩;simp(disch:=omega)only[go_sem,e0,e2,e3,e10,e11,e12];refine⟨j+1,_,Ws.refl _,(hI _ _ _).2 ?_,by omega⟩;simp(disch:=omega)only[go_sem,e0,e2,e3,e10,e11,e12,hw1];(repeat' apply And.intro)<;>(try first | rfl | assumption | omega);have:=h2.drop hB9;rw[htk,jG,<-jO];exact this
   ·have c0'':(0:Int)<(j:Int):=by omega
    rw[if_neg c0] at htk hle;simp only[jQ] at hle;simp(disch:=omega)only[go_sem,e0,e2,e3,e10,e11,e12,gr9,c0''];intro q1 hq1;dsimp only at hq1;simp(disch:=omega)only[go_sem,e0,e2,e3,e10,e11,e12];refine(Rs hG s hq1 hBK (by rw[jC];omega) hwK).mono ?_;rintro _ H1 ⟨rfl,h1⟩;have g1:=h1.keep (Ac _ _ _) n9.symm;simp(disch:=omega)only[go_sem,e0,e2,e3,e10,e11,e12,g1];refine(hpc _ r _ _ hBK (by rw[jC,jC,jQ];omega) h1).mono ?_;rintro _ H2 ⟨rfl,h2⟩;simp(disch:=omega)only[go_sem,e0,e2,e3,e10,e11,e12];refine⟨j+1,_,Ws.refl _,(hI _ _ _).2 ?_,by omega⟩;simp(disch:=omega)only[go_sem,e0,e2,e3,e10,e11,e12,hw1];(repeat' apply And.intro)<;>(try first | rfl | assumption | omega);have:=h2.drop hB9;rw[htk,<-jO,<-jO];exact this
  ·have:j=l.length:=by omega
   subst this;have hlt': ¬(l.length:Int)<(l.length:Int):=by omega
   rw[List.take_length] at hwj;simp(disch:=omega)only[go_sem,e0,e2,e3,e10,e11,e12,hlt'];exact Wj.refl ⟨rfl,hwj⟩
end
end Go.Dl

-- Chapter 3: the package's writer: associations; all expressions.
namespace Go.Dl
open Go Go.Proofs
set_option maxRecDepth 100000
section
variable {G:Nat->DVal}
set_option maxHeartbeats 4000000 in
theorem Ap9 (hG:GX G) (a:As) (hc:a.c= []\/(a.c.length<=1000000000/\ ∃n,∀c∈a.c,Cs n c=true)) (hp: ∀y∈Dj a,WrC Tryz.prog G 227 [.agg (dEx y)] (Ai y)):WrC Tryz.prog G 328 [.agg (dAs a)] (Gt a):=by
 intro B r ts H hB hlen hw;have he:=hp a.e (Ky a);have hae:((dAs a).drop 1).take 9=dEx a.e:=by rw[Xd,jE,jJ,List.take_of_length_le (by rw[Ad];omega)]
 refine Aa Tryz.func328 Tryz.call328 rfl (by kernel_rfl) ?_;simp(disch:=omega)only[go_sem,DVal.cells];intro r3 hr3;dsimp only at hr3;obtain⟨K,hK⟩: ∃K',K'=upd H r3 (some (.cells (dAs a) 44)):=⟨_,rfl⟩;rw[<-hK];have gr3:K r3=some (.cells (dAs a) 44):=by rw[hK];exact Ac _ _ _
 have hwK:WAt (upd B r3 (some (.cells (dAs a) 44))) r ts K:=by rw[hK];exact hw.frame hr3 _
 have n3:r≠r3:=hw.ne hr3;have hB3:B r3=none:=(hw.lo hr3).1;have hBK:upd B r3 (some (.cells (dAs a) 44)) r=none:=by rw[Em _ _ _ _ n3];exact hB
 by_cases c0:a.c= []
 ·have ht:Gt a=Ai a.e:=by rw[Pj,c0];rfl
  have hll:a.c.length=0:=by rw[c0];rfl
  have c0': ¬(0:Int)<((0:Nat):Int):=by omega
  rw[ht] at hlen⊢
  simp(disch:=omega)only[go_sem,gr3,hll,c0',hae];refine(he _ r _ _ hBK hlen hwK).mono ?_;rintro _ H1 ⟨rfl,h1⟩;simp(disch:=omega)only[go_sem];exact Wj.refl ⟨rfl,h1.drop hB3⟩
 ·obtain⟨hcl,n,hcr⟩:=hc.resolve_left c0;have hlp:0<a.c.length:=List.length_pos_iff.2 c0;have hlp':(0:Int)<(a.c.length:Int):=by omega
  have ht:Gt a=Et Mb (a.c.map Es)++Aj Cc::Ai a.e:=by
   rw[Pj,if_neg];simpa using c0
  rw[ht] at hlen⊢
  rw[jC,jA] at hlen;simp(disch:=omega)only[go_sem,gr3,hlp'];refine(Ap7 hG a.c Mb hcl (fun c hc=>Af4 hG c (hcr c hc) fun y hy=>hp y (Qe hc hy)) _ r _ _ hBK (by omega) hwK).mono ?_;rintro _ H1 ⟨rfl,h1⟩;simp(disch:=omega)only[go_sem];intro q1 hq1;dsimp only at hq1;simp(disch:=omega)only[go_sem];refine(Rs hG Cc hq1 hBK (by rw[jC];omega) h1).mono ?_;rintro _ H2 ⟨rfl,h2⟩;have g2:=h2.keep (Ac _ _ _) n3.symm;simp(disch:=omega)only[go_sem,g2,hae];refine(he _ r _ _ hBK (by rw[jC,jC,jQ];omega) h2).mono ?_;rintro _ H3 ⟨rfl,h3⟩;simp(disch:=omega)only[go_sem];refine Wj.refl ⟨rfl, ?_⟩;have:=h3.drop hB3;rw[jO,jO] at this;exact this
theorem Bu3 {a:As} (h:(a.c.isEmpty || Cy a.c)=true):a.c= []\/(a.c.length<=1000000000/\ ∃n,∀c∈a.c,Cs n c=true):=by
 cases hc:a.c with
 | nil=>exact .inl rfl
 | cons c r=>
  rw[hc] at h
  cases r with
  | nil=>
   simp only[Cy,List.isEmpty_cons,Bool.false_or,jF,decide_eq_true_eq] at h
   refine .inr ⟨by simp,1,fun d hd=> ?_⟩
   rw[List.mem_singleton] at hd
   subst hd
   rw[Cs,if_pos h.1,decide_eq_true_eq]
   match hl:d.l with
   | [x]=>rfl
   | []=>rw[hl] at h;cases h.2
   | _::_::_=>rw[hl] at h;cases h.2
  | cons d r=>simp [Cy] at h
theorem Ch3 {a:As} (h:(a.c.isEmpty || Ct a.c)=true):a.c= []\/(a.c.length<=1000000000/\ ∃n,∀c∈a.c,Cs n c=true):=by
 cases hc:a.c with
 | nil=>exact .inl rfl
 | cons c r=>
  rw[hc] at h;simp only[List.isEmpty_cons,Bool.false_or,Ct,jF,decide_eq_true_eq,List.all_eq_true] at h;exact .inr ⟨by omega,_,h.2⟩
def ifT (x y z:Ex):Nat->List Tok
 | 0=> []
 | 1=>Aj By::Aj wIf::Ai x
 | 2=>Aj By::Aj wIf::(Ai x++Aj Rg::Ai y)
 | _=>Aj By::Aj wIf::(Ai x++Aj Rg::(Ai y++Aj Sj::Ai z))
set_option maxHeartbeats 8000000 in
theorem Cu1 (hG:GX G) (e:Ex) (hf:Ca e=true) (ih: ∀x∈parts e,WrC Tryz.prog G 227 [.agg (dEx x)] (Ai x)):WrC Tryz.prog G 227 [.agg (dEx e)] (Ai e):=by
 intro B r ts H hB hlen hw;have hfl:=Al Ad e.l;refine Aa Tryz.func227 Tryz.call227 rfl (by kernel_rfl) ?_;simp(disch:=omega)only[go_sem,DVal.cells];intro r3 hr3;dsimp only at hr3;obtain⟨K,hK⟩: ∃K',K'=upd H r3 (some (.cells (dEx e) 27)):=⟨_,rfl⟩;rw[<-hK];have gr3:K r3=some (.cells (dEx e) 27):=by rw[hK];exact Ac _ _ _
 have hwK:WAt (upd B r3 (some (.cells (dEx e) 27))) r ts K:=by rw[hK];exact hw.frame hr3 _
 have n3:r≠r3:=hw.ne hr3;have hB3:B r3=none:=(hw.lo hr3).1;have hBK:upd B r3 (some (.cells (dEx e) 27)) r=none:=by rw[Em _ _ _ _ n3];exact hB
 simp(disch:=omega)only[go_sem,gr3];refine(Xe G _ e).mono ?_;rintro _ K1 ⟨rfl,rfl⟩;by_cases hk:e.kind=1
 ·have hnm:Cq e=false:=by cases h:Cq e with | false=>rfl | true=>exact(Ab0 (by omega) h).elim
  rw[Ec8 hk] at hlen⊢
  rw[hnm];simp(disch:=omega)only[go_sem,gr3,hk];refine Ak (by kernel_rfl) pL47 (by kernel_rfl) ?_;obtain⟨v,hv⟩:=hwK;have gr:=hv.keep (Ac _ _ _);simp(disch:=omega)only[go_sem,gr3,gr];intro r6 hr6;dsimp only at hr6;have n6:r≠r6:=Am hr6 gr;have m6:=n6.symm;have hv6:=hv.new hr6 (some (.cells (Af (Bl1 e.n)) 31));simp(disch:=omega)only[go_sem,gr,n6,m6];refine Df.append (m:=1) hv6 rfl (by rw[jQ] at hlen;omega) fun v2 H6 hv2=> ?_;have g6:=hv2.keep (Ac _ _ _);obtain⟨j1,j2⟩:=hv2.cell1;simp(disch:=omega)only[go_sem,g6,j1,j2];have h7:WAt (upd B r3 (some (.cells (dEx e) 27))) r (ts++ [Bl1 e.n]) (upd H6 r (some (.cells [v2] 257))):=by
   refine⟨v2, ?_⟩;have hv3:=hv2.at (Ac _ _ _) (some (.cells [v2] 257));rw[Ht] at hv3;rw[Ea,jC,jQ];exact hv3
  exact Wj.refl ⟨rfl,h7.drop hB3⟩
 have z1:=hk;clear hk;by_cases hk:e.kind=2
 ·have hnm:Cq e=false:=by cases h:Cq e with | false=>rfl | true=>exact(Ab0 (by omega) h).elim
  rw[Ec9 hk] at hlen⊢
  rw[hnm];simp(disch:=omega)only[go_sem,gr3,hk];intro q1 hq1;dsimp only at hq1;simp(disch:=omega)only[go_sem,hk];refine(Rs hG Hu hq1 hBK (by(try simp only[jC,jA,jB,jK]);omega) hwK).mono ?_;rintro _ H1 ⟨rfl,h1⟩;have g1:=h1.keep (Ac _ _ _) n3.symm;simp(disch:=omega)only[go_sem];refine Wj.refl ⟨rfl, ?_⟩;have:=h1.drop hB3
  (try simp only[jO,jI,jG] at this⊢)
  exact this
 have z2:=hk;clear hk;by_cases hk:e.kind=3
 ·have hnm:Cq e=true:=Bl4 (by omega);rw[Ed0 hk] at hlen⊢
  rw[hnm];simp(disch:=omega)only[go_sem,gr3,hk];refine(Aa9 G e.s _ r _ _ hBK hlen hwK).mono ?_;rintro _ H1 ⟨rfl,h1⟩;simp(disch:=omega)only[go_sem];refine Wj.refl ⟨rfl, ?_⟩;have:=h1.drop hB3
  (try simp only[jO,jI,jG] at this⊢)
  exact this
 have z3:=hk;clear hk;by_cases hk:e.kind=4
 ·obtain⟨⟨x,hx,_⟩,_⟩:=Do6 (.inl hk) hf;have ht:Ai e=Ai x++ [Aj Qf,Dq e.s]:=by rw[Ed1 hk];unfold tE;rw[hx];rfl
  rw[ht,jC] at hlen;rw[ht];simp only[jA,jB] at hlen;have hll:e.l.length=1:=by rw[hx];rfl
  have hfx:=lx0 hx;have hnm:Cq e=true:=Bl4 (by omega);rw[hnm];simp(disch:=omega)only[go_sem,gr3,hk,hll,hfl,hfx];refine(ih x (Bd (by rw[hx];simp)) _ r _ _ hBK (by omega) hwK).mono ?_;rintro _ H1 ⟨rfl,h1⟩;have g1:=h1.keep (Ac _ _ _) n3.symm;simp(disch:=omega)only[go_sem,g1,hk];intro q1 hq1;dsimp only at hq1;simp(disch:=omega)only[go_sem,hk];refine(Rs hG Qf hq1 hBK (by(try simp only[jC,jA,jB,jK]);omega) h1).mono ?_;rintro _ H2 ⟨rfl,h2⟩;have g2:=h2.keep (Ac _ _ _) n3.symm;simp(disch:=omega)only[go_sem,g2];refine(Aa9 G e.s _ r _ _ hBK (by(try simp only[jC,jA,jB,jK]);omega) h2).mono ?_;rintro _ H3 ⟨rfl,h3⟩;simp(disch:=omega)only[go_sem];refine Wj.refl ⟨rfl, ?_⟩;have:=h3.drop hB3
  (try simp only[jO,jI,jG] at this⊢)
  exact this
 have z4:=hk;clear hk;by_cases hk:e.kind=5
 ·obtain⟨⟨x,hx,_⟩,_⟩:=ff5 hk hf;have ht:Ai e=Ai x++ [Aj Qf,Aj Ak9]:=by rw[Ed2 hk];unfold tE;rw[hx];rfl
  rw[ht,jC] at hlen;rw[ht];simp only[jA,jB] at hlen;have hll:e.l.length=1:=by rw[hx];rfl
  have hfx:=lx0 hx;have hnm:Cq e=true:=Bl4 (by omega);rw[hnm];simp(disch:=omega)only[go_sem,gr3,hk,hll,hfl,hfx];refine(ih x (Bd (by rw[hx];simp)) _ r _ _ hBK (by omega) hwK).mono ?_;rintro _ H1 ⟨rfl,h1⟩;have g1:=h1.keep (Ac _ _ _) n3.symm;simp(disch:=omega)only[go_sem,g1,hk];intro q1 hq1;dsimp only at hq1;simp(disch:=omega)only[go_sem];refine(Fw7 hG Qf Ak9 hq1 hBK (by(try simp only[jC,jA,jB,jK]);omega) h1).mono ?_;rintro _ H2 ⟨rfl,h2⟩;simp(disch:=omega)only[go_sem];refine Wj.refl ⟨rfl, ?_⟩;have:=h2.drop hB3
  (try simp only[jO,jI,jG] at this⊢)
  exact this
 have z5:=hk;clear hk;by_cases hk:e.kind=6
 ·obtain⟨⟨x,hx,_⟩,_⟩:=Do6 (.inr hk) hf;have ht:Ai e=Ai x++ [Aj Fu,Dq e.s]:=by rw[Ed3 hk];unfold tE;rw[hx];rfl
  rw[ht,jC] at hlen;rw[ht];simp only[jA,jB] at hlen;have hll:e.l.length=1:=by rw[hx];rfl
  have hfx:=lx0 hx;have hnm:Cq e=true:=Bl4 (by omega);rw[hnm];simp(disch:=omega)only[go_sem,gr3,hk,hll,hfl,hfx];refine(ih x (Bd (by rw[hx];simp)) _ r _ _ hBK (by omega) hwK).mono ?_;rintro _ H1 ⟨rfl,h1⟩;have g1:=h1.keep (Ac _ _ _) n3.symm;simp(disch:=omega)only[go_sem,g1,hk];intro q1 hq1;dsimp only at hq1;simp(disch:=omega)only[go_sem,hk];refine(Rs hG Fu hq1 hBK (by(try simp only[jC,jA,jB,jK]);omega) h1).mono ?_;rintro _ H2 ⟨rfl,h2⟩;have g2:=h2.keep (Ac _ _ _) n3.symm;simp(disch:=omega)only[go_sem,g2];refine(Aa9 G e.s _ r _ _ hBK (by(try simp only[jC,jA,jB,jK]);omega) h2).mono ?_;rintro _ H3 ⟨rfl,h3⟩;simp(disch:=omega)only[go_sem];refine Wj.refl ⟨rfl, ?_⟩;have:=h3.drop hB3
  (try simp only[jO,jI,jG] at this⊢)
  exact this
 have z6:=hk;clear hk;by_cases hk:e.kind=7
 ·obtain⟨⟨x,hx,_⟩,ha,_⟩:=ff7 hk hf;have ht:Ai e=Ai x++Aj By::(taE e++ [Aj Cb]):=by rw[Ed4 hk];unfold tE;rw[hx];rfl
  rw[ht,jC,jA,jC] at hlen;rw[ht];simp only[jA,jB,taE] at hlen;unfold taE;have hll:e.l.length=1:=by rw[hx];rfl
  rw[Kf,jF,jF,jF,decide_eq_true_eq,decide_eq_true_eq,List.all_eq_true] at ha;have hfx:=lx0 hx;have hnm:Cq e=true:=Bl4 (by omega);rw[hnm];simp(disch:=omega)only[go_sem,gr3,hk,hll,hfl,hfx];refine(ih x (Bd (by rw[hx];simp)) _ r _ _ hBK (by omega) hwK).mono ?_;rintro _ H1 ⟨rfl,h1⟩;have g1:=h1.keep (Ac _ _ _) n3.symm;simp(disch:=omega)only[go_sem,g1,hk];intro q1 hq1;dsimp only at hq1;simp(disch:=omega)only[go_sem,hk];refine(Rs hG By hq1 hBK (by(try simp only[jC,jA,jB,jK]);omega) h1).mono ?_;rintro _ H2 ⟨rfl,h2⟩;have g2:=h2.keep (Ac _ _ _) n3.symm;simp(disch:=omega)only[go_sem,g2];refine(Ap8 hG e.a Cx (by omega) (fun a hma=>Ap9 hG a (Bu3 (ha.2 a hma)) fun y hy=>ih y (Jg hma hy)) _ r _ _ hBK (by(try simp only[jC,jA,jB,jK]);omega) h2).mono ?_;rintro _ H3 ⟨rfl,h3⟩;simp(disch:=omega)only[go_sem];intro q2 hq2;dsimp only at hq2;simp(disch:=omega)only[go_sem,hk];refine(Rs hG Cb hq2 hBK (by(try simp only[jC,jA,jB,jK]);omega) h3).mono ?_;rintro _ H4 ⟨rfl,h4⟩;have g4:=h4.keep (Ac _ _ _) n3.symm;simp(disch:=omega)only[go_sem];refine Wj.refl ⟨rfl, ?_⟩;have:=h4.drop hB3
  (try simp only[jO,jI,jG] at this⊢)
  exact this
 have z7:=hk;clear hk;by_cases hk:e.kind=8
 ·obtain⟨⟨x,y,hx,_⟩,_⟩:=ff8 hk hf;have ht:Ai e=Ai x++Aj Fu::Ty (!Tz y.kind) (Ai y):=by rw[Db9 hk];unfold tE;rw[hx];rfl
  rw[ht,jC,jA] at hlen;rw[ht];have hll:e.l.length=2:=by rw[hx];rfl
  have hl1:=lx1 hx;have hy0:(e.l.flatMap dEx)[9]? =some (.int .u8 y.kind):=by
   rw[hx,List.flatMap_cons,List.flatMap_cons,Ki x,Ki y];rfl
  have hyl:=Af1 y;have hfx:=lx0 hx;have hnm:Cq e=true:=Bl4 (by omega);rw[hnm];simp(disch:=omega)only[go_sem,gr3,hk,hll,hfl,hfx];refine(ih x (Bd (by rw[hx];simp)) _ r _ _ hBK (by omega) hwK).mono ?_;rintro _ H1 ⟨rfl,h1⟩;have g1:=h1.keep (Ac _ _ _) n3.symm;simp(disch:=omega)only[go_sem,g1,hk];by_cases b9:y.kind=9
  ·have hb:Ty (!Tz y.kind) (Ai y)=Ay y 0:=by rw[b9,Ay,decide_eq_false (by omega)];rfl
   rw[hb] at hlen⊢
   simp(disch:=omega)only[go_sem,g1,hll,hfl,hy0,b9];intro q1 hq1;dsimp only at hq1;simp(disch:=omega)only[go_sem,hk];refine(Rs hG Fu hq1 hBK (by(try simp only[jC,jA,jB,jK]);omega) h1).mono ?_;rintro _ H2 ⟨rfl,h2⟩;have g2:=h2.keep (Ac _ _ _) n3.symm;simp(disch:=omega)only[go_sem,g2,hll,hfl,hl1];refine(Dv hG y 0 (ih y (Bd (by rw[hx];simp))) _ r _ _ hBK (by(try simp only[jC,jA,jB,jK]);omega) h2).mono ?_;rintro _ H3 ⟨rfl,h3⟩;simp(disch:=omega)only[go_sem];refine Wj.refl ⟨rfl, ?_⟩;have:=h3.drop hB3
   (try simp only[jO,jI,jG] at this⊢)
   exact this
  ·by_cases b10:y.kind=10
   ·have hb:Ty (!Tz y.kind) (Ai y)=Ay y 0:=by rw[b10,Ay,decide_eq_false (by omega)];rfl
    rw[hb] at hlen⊢
    simp(disch:=omega)only[go_sem,g1,hll,hfl,hy0,b10];intro q1 hq1;dsimp only at hq1;simp(disch:=omega)only[go_sem,hk];refine(Rs hG Fu hq1 hBK (by(try simp only[jC,jA,jB,jK]);omega) h1).mono ?_;rintro _ H2 ⟨rfl,h2⟩;have g2:=h2.keep (Ac _ _ _) n3.symm;simp(disch:=omega)only[go_sem,g2,hll,hfl,hl1];refine(Dv hG y 0 (ih y (Bd (by rw[hx];simp))) _ r _ _ hBK (by(try simp only[jC,jA,jB,jK]);omega) h2).mono ?_;rintro _ H3 ⟨rfl,h3⟩;simp(disch:=omega)only[go_sem];refine Wj.refl ⟨rfl, ?_⟩;have:=h3.drop hB3
    (try simp only[jO,jI,jG] at this⊢)
    exact this
   ·have hb:Ty (!Tz y.kind) (Ai y)=Ay y 6:=by rw[Ay,decide_eq_true (by omega),Tz,decide_eq_false b9,decide_eq_false b10];rfl
    rw[hb] at hlen⊢
    simp(disch:=omega)only[go_sem,g1,hll,hfl,hy0,b9,b10];intro q1 hq1;dsimp only at hq1;simp(disch:=omega)only[go_sem,hk];refine(Rs hG Fu hq1 hBK (by(try simp only[jC,jA,jB,jK]);omega) h1).mono ?_;rintro _ H2 ⟨rfl,h2⟩;have g2:=h2.keep (Ac _ _ _) n3.symm;simp(disch:=omega)only[go_sem,g2,hll,hfl,hl1];refine(Dv hG y 6 (ih y (Bd (by rw[hx];simp))) _ r _ _ hBK (by(try simp only[jC,jA,jB,jK]);omega) h2).mono ?_;rintro _ H3 ⟨rfl,h3⟩;simp(disch:=omega)only[go_sem];refine Wj.refl ⟨rfl, ?_⟩;have:=h3.drop hB3
    (try simp only[jO,jI,jG] at this⊢)
    exact this
 have z8:=hk;clear hk;by_cases hk:e.kind=9
 ·obtain⟨hx,ha,_⟩:=ff9 hk hf;have ht:Ai e=Aj By::(taE e++ [Aj Cb]):=Ed5 hk;rw[ht,jA,jC] at hlen;rw[ht];simp only[jA,jB,taE] at hlen;unfold taE;have hnm:Cq e=false:=by cases h:Cq e with | false=>rfl | true=>exact(Ab0 (by omega) h).elim
  rw[hnm];rw[Gs] at ha;simp only[jF,decide_eq_true_eq,Bool.not_eq_true'] at ha;simp(disch:=omega)only[go_sem,gr3,hk];intro q1 hq1;dsimp only at hq1;simp(disch:=omega)only[go_sem,hk];refine(Rs hG By hq1 hBK (by(try simp only[jC,jA,jB,jK]);omega) hwK).mono ?_;rintro _ H2 ⟨rfl,h2⟩;have g2:=h2.keep (Ac _ _ _) n3.symm;simp(disch:=omega)only[go_sem,g2];refine(Ap8 hG e.a Cx (by omega) (fun a hma=>Ap9 hG a (Ch3 (Qh ha.2 a hma)) fun y hy=>ih y (Jg hma hy)) _ r _ _ hBK (by(try simp only[jC,jA,jB,jK]);omega) h2).mono ?_;rintro _ H3 ⟨rfl,h3⟩;simp(disch:=omega)only[go_sem];intro q2 hq2;dsimp only at hq2;simp(disch:=omega)only[go_sem,hk];refine(Rs hG Cb hq2 hBK (by(try simp only[jC,jA,jB,jK]);omega) h3).mono ?_;rintro _ H4 ⟨rfl,h4⟩;have g4:=h4.keep (Ac _ _ _) n3.symm;simp(disch:=omega)only[go_sem];refine Wj.refl ⟨rfl, ?_⟩;have:=h4.drop hB3
  (try simp only[jO,jI,jG] at this⊢)
  exact this
 have z9:=hk;clear hk;by_cases hk:e.kind=10
 ·obtain⟨⟨x,y,z,hx⟩,_⟩:=Fh1 hk hf;have ht:Ai e=ifT x y z 3++ [Aj Cb]:=by rw[Ct5 hk];unfold tE;rw[hx];simp [ifT]
  have hle3:(ifT x y z 1).length<=(ifT x y z 3).length/\(ifT x y z 2).length<=(ifT x y z 3).length:=by
   simp only[ifT,jA,jC];omega
  rw[ht,jC,jQ] at hlen;rw[ht];have hll:e.l.length=3:=by rw[hx];rfl
  have hl0:=lx0 hx;have hl1:=lx1 hx;have hl2:=lx2 hx;have hnm:Cq e=false:=by cases h:Cq e with | false=>rfl | true=>exact(Ab0 (by omega) h).elim
  rw[hnm];simp(disch:=omega)only[go_sem,gr3,hk];intro q0 hq0;dsimp only at hq0;obtain⟨L,hL⟩: ∃K',K'=upd K1 q0 (some (.cells [.str [105,102], .str [116,104,101,110], .str [101,108,115,101]] 9)):=⟨_,rfl⟩;rw[<-hL];have hwL:WAt (upd (upd B r3 (some (.cells (dEx e) 27))) q0 (some (.cells [.str [105,102], .str [116,104,101,110], .str [101,108,115,101]] 9))) r ts L:=by rw[hL];exact hwK.frame hq0 _
  have n0:r≠q0:=hwK.ne hq0;have hB0:=(hwK.lo hq0).1;have n30:r3≠q0:=Am hq0 gr3;obtain⟨C,hC⟩: ∃C,C=upd (upd B r3 (some (.cells (dEx e) 27))) q0 (some (.cells [.str [105,102], .str [116,104,101,110], .str [101,108,115,101]] 9)):=⟨_,rfl⟩;rw[<-hC] at hwL;have hCr:C r=none:=by rw[hC,Em _ _ _ _ n0];exact hBK
  have c3:C r3=some (.cells (dEx e) 27):=by rw[hC];exact Ph (Ac _ _ _) n30
  have c0:C q0=some (.cells [.str [105,102], .str [116,104,101,110], .str [101,108,115,101]] 9):=by rw[hC];exact Ac _ _ _
  simp(disch:=omega)only[go_sem];obtain⟨I,hI⟩: ∃I:Nat->(Nat->DVal)->Ab->Prop,∀j env heap,I j env heap↔(env 0= .optr r 0/\env 3= .optr r3 0/\env 111= .oslice 1 q0 0 3 3/\env 112=dI 3/\env 113=dI j/\j<=3/\WAt C r (ts++ifT x y z j) heap):=⟨_,fun _ _ _=>Iff.rfl⟩;refine Dt1.run I (fun j=>3-j) 0 ((hI _ _ _).2 ?_) ?_
  ·simp(disch:=omega)only[go_sem];(repeat' apply And.intro)<;>(try first | rfl | assumption | omega);simpa [ifT] using hwL
  ·intro j env heap hi;obtain⟨e0,e3,e111,e112,e113,hj,hwj⟩:=(hI _ _ _).1 hi;have g3:=hwj.keep c3 n3.symm;have g0:=hwj.keep c0 n0.symm;have hj':j=0\/j=1\/j=2\/j=3:=by omega
   have w1:IntKind.i64.wrap (0+1)=1:=by decide
   have w2:IntKind.i64.wrap (1+1)=2:=by decide
   have w3:IntKind.i64.wrap (2+1)=3:=by decide
   rcases hj' with rfl | rfl | rfl | rfl
   ·have z0:((0:Nat):Int)=0:=rfl;simp(disch:=omega)only[go_sem,e0,e3,e111,e112,e113,g0,z0];intro p1 hp1;dsimp only at hp1;simp(disch:=omega)only[go_sem,e0,e3,e111,e112,e113];refine(Rs hG By hp1 hCr (by simp only[ifT,jH];omega) hwj).mono ?_;rintro _ H1 ⟨rfl,h1⟩;have f1:=h1.keep c3 n3.symm;simp(disch:=omega)only[go_sem,e0,e3,e111,e112,e113,f1];intro p2 hp2;dsimp only at hp2;simp(disch:=omega)only[go_sem,e0,e3,e111,e112,e113];refine(Rs hG wIf hp2 hCr (by simp only[ifT,jH,jC,jA,jB] at hle3 hlen⊢;omega) h1).mono ?_;rintro _ H2 ⟨rfl,h2⟩;have f2:=h2.keep c3 n3.symm;simp(disch:=omega)only[go_sem,e0,e3,e111,e112,e113,f2,hll,hfl,hl0];refine(ih x (Bd (by rw[hx];simp)) _ r _ _ hCr (by simp only[ifT,jH,jC,jA,jB] at hle3 hlen⊢;omega) h2).mono ?_;rintro _ H4 ⟨rfl,h4⟩;simp(disch:=omega)only[go_sem,e0,e3,e111,e112,e113];refine⟨1,_,Ws.refl _,(hI _ _ _).2 ?_,by omega⟩;simp(disch:=omega)only[go_sem,e0,e3,e111,e112,e113,w1];(repeat' apply And.intro)<;>(try first | rfl | assumption | omega);simpa [ifT] using h4
   ·have z0:((1:Nat):Int)=1:=rfl;simp(disch:=omega)only[go_sem,e0,e3,e111,e112,e113,g0,z0];intro p2 hp2;dsimp only at hp2;simp(disch:=omega)only[go_sem,e0,e3,e111,e112,e113];refine(Rs hG Rg hp2 hCr (by simp only[ifT,jH,jC,jA,jB] at hle3 hlen⊢;omega) hwj).mono ?_;rintro _ H2 ⟨rfl,h2⟩;have f2:=h2.keep c3 n3.symm;simp(disch:=omega)only[go_sem,e0,e3,e111,e112,e113,f2,hll,hfl,hl1];refine(ih y (Bd (by rw[hx];simp)) _ r _ _ hCr (by simp only[ifT,jH,jC,jA,jB] at hle3 hlen⊢;omega) h2).mono ?_;rintro _ H4 ⟨rfl,h4⟩;simp(disch:=omega)only[go_sem,e0,e3,e111,e112,e113];refine⟨2,_,Ws.refl _,(hI _ _ _).2 ?_,by omega⟩;simp(disch:=omega)only[go_sem,e0,e3,e111,e112,e113,w2];(repeat' apply And.intro)<;>(try first | rfl | assumption | omega);simpa [ifT] using h4
   ·have z0:((2:Nat):Int)=2:=rfl;simp(disch:=omega)only[go_sem,e0,e3,e111,e112,e113,g0,z0];intro p2 hp2;dsimp only at hp2;simp(disch:=omega)only[go_sem,e0,e3,e111,e112,e113];refine(Rs hG Sj hp2 hCr (by simp only[ifT,jH,jC,jA,jB] at hle3 hlen⊢;omega) hwj).mono ?_;rintro _ H2 ⟨rfl,h2⟩;have f2:=h2.keep c3 n3.symm;simp(disch:=omega)only[go_sem,e0,e3,e111,e112,e113,f2,hll,hfl,hl2];refine(ih z (Bd (by rw[hx];simp)) _ r _ _ hCr (by simp only[ifT,jH,jC,jA,jB] at hle3 hlen⊢;omega) h2).mono ?_;rintro _ H4 ⟨rfl,h4⟩;simp(disch:=omega)only[go_sem,e0,e3,e111,e112,e113];refine⟨3,_,Ws.refl _,(hI _ _ _).2 ?_,by omega⟩;simp(disch:=omega)only[go_sem,e0,e3,e111,e112,e113,w3];(repeat' apply And.intro)<;>(try first | rfl | assumption | omega);simpa [ifT] using h4
   ·have z0:((3:Nat):Int)=3:=rfl;simp(disch:=omega)only[go_sem,e0,e3,e111,e112,e113,g0,z0];intro p2 hp2;dsimp only at hp2;simp(disch:=omega)only[go_sem,e0,e3,e111,e112,e113];refine(Rs hG Cb hp2 hCr (by simp only[jC] at hlen⊢;omega) hwj).mono ?_;rintro _ H2 ⟨rfl,h2⟩;simp(disch:=omega)only[go_sem,e0];refine Wj.refl ⟨rfl, ?_⟩;rw[hC] at h2;have:=(h2.drop hB0).drop hB3;rw[jO] at this;exact this
 have z10:=hk;clear hk;by_cases hk:e.kind=11
 ·obtain⟨⟨x,hx⟩,⟨o,ho,ho2⟩,_⟩:=Fh2 hk hf;have ht:Ai e=(Eh o).map Aj++Ay x (Jp e):=by rw[Ct6 hk,ho,jD];unfold pE tE;rw[hx];rfl
  rw[ht] at hlen⊢
  have hnm:Cq e=false:=by cases h:Cq e with | false=>rfl | true=>exact(Ab0 (by omega) h).elim
  rw[hnm];simp(disch:=omega)only[go_sem,gr3,hk];refine(Ct9 hG e x o hx ho (by omega) (ih x (Bd (by rw[hx];simp))) _ r _ _ hBK hlen hwK).mono ?_;rintro _ H1 ⟨rfl,h1⟩;simp(disch:=omega)only[go_sem];exact Wj.refl ⟨rfl,h1.drop hB3⟩
 have z11:=hk;clear hk;by_cases hk:e.kind=12
 ·obtain⟨⟨x,y,hx⟩,⟨o,ho,ho2⟩,_⟩:=Fh3 hk hf;have ht:Ai e=Ay x (Ge e)++((Eh o).map Aj++Ay y (Hk e)):=by rw[Ct7 hk,ho,jD];unfold pE tE;rw[hx];rfl
  rw[ht] at hlen⊢
  have hnm:Cq e=false:=by cases h:Cq e with | false=>rfl | true=>exact(Ab0 (by omega) h).elim
  rw[hnm];simp(disch:=omega)only[go_sem,gr3,hk];refine(Cu0 hG e x y o hx ho (by omega) (ih x (Bd (by rw[hx];simp))) (ih y (Bd (by rw[hx];simp))) _ r _ _ hBK hlen hwK).mono ?_;rintro _ H1 ⟨rfl,h1⟩;simp(disch:=omega)only[go_sem];exact Wj.refl ⟨rfl,h1.drop hB3⟩
 have z12:=hk;clear hk;have hkd:e.kind=13\/e.kind=14:=by
  by_cases h:e.kind=13\/e.kind=14
  ·exact h
  ·exfalso;have:Ca e=false:=by
    unfold Ca;rw[if_neg z1,if_neg z2,if_neg z3,if_neg (by omega),if_neg z5,if_neg z7,if_neg z8,if_neg z9,if_neg z10,if_neg z11,if_neg z12,if_neg h]
   rw[this] at hf;cases hf
 obtain⟨hx',_⟩:=Ee1 hkd hf;have hx: ∃x,(∃y z,e.l= [x,y,z])\/ ∃y,e.l= [x,y]:=by
  rcases hx' with⟨x,y,z,hx⟩ | ⟨x,y,hx,_⟩
  ·exact⟨x, .inl ⟨y,z,hx⟩⟩
  ·exact⟨x, .inr ⟨y,hx⟩⟩
 clear hx';obtain⟨x,hx⟩:=hx;have g0:e.l.getD 0 ex0=x/\0<e.l.length:=by rcases hx with⟨y,z,hx⟩ | ⟨y,hx⟩<;>(rw[hx];exact⟨rfl,by simp⟩)
 have hp0:pE e 0 2=Ay x 2:=by rw[Fp7 g0.2,g0.1]
 have hihl: ∀y∈e.l,WrC Tryz.prog G 227 [.agg (dEx y)] (Ai y):=fun y hy=>ih y (Bd hy);have hnm:Cq e=false:=by cases h:Cq e with | false=>rfl | true=>exact(Ab0 (by omega) h).elim
 rw[hnm];by_cases hk:e.kind=13
 ·have ht:Ai e=Ay x 2++([wIn].map Aj++Nz e):=by rw[Bt7 hk,hp0];rfl
  rw[ht] at hlen⊢
  simp(disch:=omega)only[go_sem,gr3,hk];intro q1 hq1;dsimp only at hq1;simp(disch:=omega)only[go_sem];refine Ae.fzA q1 hq1 ?_;simp only[fzs,fz,if_neg (hwK.ne hq1),if_pos,Bs9];refine(Af3 hG e x [wIn] hx hihl _ r _ _ hBK hlen hwK).mono ?_;rintro _ H1 ⟨rfl,h1⟩;simp(disch:=omega)only[go_sem];exact Wj.refl ⟨rfl,h1.drop hB3⟩
 ·have hk14:e.kind=14:=by omega
  have ht:Ai e=Ay x 2++([Tw,wIn].map Aj++Nz e):=by rw[Bt8 hk14,hp0];rfl
  rw[ht] at hlen⊢
  simp(disch:=omega)only[go_sem,gr3,hk14];intro q1 hq1;dsimp only at hq1;simp(disch:=omega)only[go_sem];refine Ae.fzA q1 hq1 ?_;simp only[fzs,fz,if_neg (hwK.ne hq1),if_pos,Bs9];refine(Af3 hG e x [Tw,wIn] hx hihl _ r _ _ hBK hlen hwK).mono ?_;rintro _ H1 ⟨rfl,h1⟩;simp(disch:=omega)only[go_sem];exact Wj.refl ⟨rfl,h1.drop hB3⟩
end
end Go.Dl

-- Chapter 3: expressions: the plain laws, part 15: how many tokens an expression has.
namespace Go.Dl
open Go
set_option maxRecDepth 10000
def wt (l:List Ex):Nat:=(l.map fun x=>(Ai x).length+7).sum
theorem Yq (l m:List Ex):wt (l++m)=wt l+wt m:=by simp [wt]
theorem Ff (x:Ex) (l:List Ex):wt (x::l)=(Ai x).length+7+wt l:=by simp [wt]
theorem Fh4:wt []=0:=rfl
theorem Hc (x:Ex) (lv:Int):(Ay x lv).length<=(Ai x).length+2:=by
 rw[Ay,Xk];split<;>omega
theorem Bl6 {n:Nat} {c:Ch} (h:Cs n c=true):(Es c).length+1<=wt c.l+if c.kind=3 then 2 else 0:=by
 unfold Cs at h;by_cases c1:c.kind=1
 ·rw[if_pos c1,decide_eq_true_eq] at h;obtain⟨x,hx⟩:=Do5 h;rw[Jv,if_pos c1,hx,Ff];show(Ai x).length+1<=_;omega
 ·rw[if_neg c1] at h;by_cases c2:c.kind=2
  ·rw[if_pos c2,decide_eq_true_eq] at h;obtain⟨x,y,hx⟩:=Ct8 h;rw[Jv,if_neg c1,if_pos c2,hx,Ff,Ff];show(Ay x 2++Aj Ep::Ay y 2).length+1<=_;have:=Hc x 2;have:=Hc y 2;rw[jC,jA];omega
  ·rw[if_neg c2] at h;simp only[jF,decide_eq_true_eq] at h;rw[Jv,if_neg c1,if_neg c2,if_pos h.1.1];show 1+1<=_;omega
theorem Al6 (t:List Tok) (ta:List (List Tok)):Bt9 (t::ta)=t.length+1+Bt9 ta:=by simp [Bt9]
theorem Aq0 {n:Nat} (hn:n≠1): ∀(l:List Ch),l.length<=n->(∀c∈l,Cs n c=true)->Bt9 (l.map Es)<=wt (l.flatMap Ch.l)
 | [],_,_=>Nat.zero_le _
 | c::r,hl,h=>by
  have ih:=Aq0 hn r (by rw[jA] at hl;omega) fun d hd=>h d (by simp [hd]);have hc:=h c (by simp);have h1:=Bl6 hc;rw[if_neg] at h1
  ·rw[jN,Al6,List.flatMap_cons,Yq];omega
  ·intro c3;unfold Cs at hc;rw[if_neg (by omega),if_neg (by omega)] at hc;simp only[jF,decide_eq_true_eq,jA] at hc hl;omega
theorem Bl7 {l:List Ch} (h:Ct l=true):(Et Mb (l.map Es)).length<=wt (l.flatMap Ch.l)+2:=by
 simp only[Ct,jF,decide_eq_true_eq,List.all_eq_true] at h
 have h0:=Ed7 Mb (l.map Es) (by intro e;rw[List.map_eq_nil_iff] at e;rw[e] at h;simp at h)
 by_cases hn:l.length=1
 ·match l,hn with
  | [c],_=>
   have h1:=Bl6 (h.2 c (by simp))
   have h2:(if c.kind=3 then 2 else 0)<=2:=by split<;>omega
   rw[List.map_singleton,Al6] at h0
   rw[List.map_singleton,List.flatMap_singleton]
   simp [Bt9] at h0
   omega
 ·have:=Aq0 hn l (Nat.le_refl _) h.2
  omega
theorem Bh2 {l:List Ch} (h:Cy l=true):Ct l=true:=by
 match l with
 | [c]=>
  simp only[Cy,jF,decide_eq_true_eq] at h
  simp only[Ct,jQ,List.all_cons,List.all_nil,Bool.and_true,Cs,if_pos h.1]
  match hl:c.l with
  | [x]=>rfl
  | []=>rw[hl] at h;cases h.2
  | _::_::_=>rw[hl] at h;cases h.2
 | []=>cases h
 | _::_::_=>cases h
theorem Do7 {a:As} (h:(a.c.isEmpty || Ct a.c)=true):(Gt a).length+1<=wt (Dj a):=by
 rw[Dj,Yq,Ff,Fh4];by_cases c0:a.c= []
 ·rw[Pj,c0];show(Ai a.e).length+1<=_;omega
 ·have hr:Ct a.c=true:=by
   rw[Bool.or_eq_true] at h;rcases h with h | h
   ·exact absurd (List.isEmpty_iff.1 h) c0
   ·exact h
  have h1:=Bl7 hr;rw[Pj,if_neg (by simpa using c0),jC,jA];omega
theorem Bb0: ∀(l:List As),(∀a∈l,(a.c.isEmpty || Ct a.c)=true)->Bt9 (l.map Gt)<=wt (l.flatMap Dj)
 | [],_=>Nat.zero_le _
 | a::r,h=>by
  have ih:=Bb0 r fun d hd=>h d (by simp [hd]);have h1:=Do7 (h a (by simp));rw[jN,Al6,List.flatMap_cons,Yq];omega
theorem Bb1 {l:List As} (h:Kf l=true): ∀a∈l,(a.c.isEmpty || Ct a.c)=true:=fun a ha=>by
 rw[Kf,jF,List.all_eq_true] at h;have:=h.2 a ha;rw[Bool.or_eq_true] at this⊢
 rcases this with h1 | h1
 ·exact .inl h1
 ·exact .inr (Bh2 h1)
theorem Dc1 {l:List As} (h: ∀a∈l,(a.c.isEmpty || Ct a.c)=true):(Et Cx (l.map Gt)).length<=wt (l.flatMap Dj):=by
 have h1:=Bb0 l h;rw[Ba7];unfold Bt9 at h1;unfold Ed6;omega
theorem Bl8 (o:Nat):(Eh o).length<=2:=by
 rw[Eh,List.getD];by_cases h:o<22
 ·have: ∀i:Fin 22,((Eb8[i.1]?).getD []).length<=2:=by decide
  exact this ⟨o,h⟩
 ·rw[List.getElem?_eq_none (by have:Eb8.length=22:=rfl;omega)];decide
theorem Cu2 {e:Ex} (hf:Ca e=true):(Ai e).length<=10+wt (parts e):=by
 have hpl:wt (parts e)=wt e.l+wt (e.a.flatMap Dj):=Yq _ _;by_cases k1:e.kind=1
 ·rw[Ec8 k1];show 1<=_;omega
 by_cases k2:e.kind=2
 ·rw[Ec9 k2];show 1<=_;omega
 by_cases k3:e.kind=3
 ·rw[Ed0 k3];show 1<=_;omega
 by_cases k4:e.kind=4
 ·obtain⟨⟨x,hx,_⟩,_⟩:=Do6 (.inl k4) hf;rw[Ed1 k4,hpl,hx,Ff];unfold tE;rw[hx,jC];show(Ai x).length+2<=_;omega
 by_cases k5:e.kind=5
 ·obtain⟨⟨x,hx,_⟩,_⟩:=ff5 k5 hf;rw[Ed2 k5,hpl,hx,Ff];unfold tE;rw[hx,jC];show(Ai x).length+2<=_;omega
 by_cases k6:e.kind=6
 ·obtain⟨⟨x,hx,_⟩,_⟩:=Do6 (.inr k6) hf;rw[Ed3 k6,hpl,hx,Ff];unfold tE;rw[hx,jC];show(Ai x).length+2<=_;omega
 by_cases k7:e.kind=7
 ·obtain⟨⟨x,hx,_⟩,ha,_⟩:=ff7 k7 hf;have h1:=Dc1 (Bb1 ha);rw[Ed4 k7,hpl,hx,Ff];unfold tE taE;rw[hx,jC,jA,jC];show(Ai x).length+(_+1+1)<=_;omega
 by_cases k8:e.kind=8
 ·obtain⟨⟨x,y,hx,_⟩,_⟩:=ff8 k8 hf;rw[Db9 k8,hpl,hx,Ff,Ff];unfold tE;rw[hx,jC,jA,Xk];show(Ai x).length+((Ai y).length+_+1)<=_;split<;>omega
 by_cases k9:e.kind=9
 ·obtain⟨hx,ha,_⟩:=ff9 k9 hf;rw[Gs,jF] at ha;have h1:=Dc1 (fun a hm=>Qh ha.2 a hm);rw[Ed5 k9,hpl,jA,jC];unfold taE;show _+1+1<=_;omega
 by_cases k10:e.kind=10
 ·obtain⟨⟨x,y,z,hx⟩,_⟩:=Fh1 k10 hf;rw[Ct5 k10,hpl,hx,Ff,Ff,Ff];unfold tE;rw[hx];simp only[jC,jA];show(Ai x).length+((Ai y).length+((Ai z).length+_+1)+1)+1+1<=_;simp only[jB];omega
 by_cases k11:e.kind=11
 ·obtain⟨⟨x,hx⟩,⟨o,ho,_⟩,_⟩:=Fh2 k11 hf;have:=Bl8 e.oper.toNat;have:=Hc x (Jp e);have hp:pE e 0 (Jp e)=Ay x (Jp e):=by unfold pE tE;rw[hx];rfl
  rw[Ct6 k11,hpl,hx,Ff,hp,jC,jK];omega
 by_cases k12:e.kind=12
 ·obtain⟨⟨x,y,hx⟩,_⟩:=Fh3 k12 hf;have:=Bl8 e.oper.toNat;have:=Hc x (Ge e);have:=Hc y (Hk e);have hp:pE e 0 (Ge e)=Ay x (Ge e):=by unfold pE tE;rw[hx];rfl
  have hq:pE e 1 (Hk e)=Ay y (Hk e):=by unfold pE tE;rw[hx];rfl
  rw[Ct7 k12,hpl,hx,Ff,Ff,hp,hq,jC,jC,jK];omega
 by_cases h:e.kind=13\/e.kind=14
 ·obtain⟨hx',_⟩:=Ee1 h hf;have hT:(pE e 0 2).length+(Nz e).length+3<=10+wt (parts e):=by
   rcases hx' with⟨x,y,z,hx⟩ | ⟨x,y,hx,_⟩
   ·have:=Hc x 2;have:=Hc y 2;have:=Hc z 2;have hp:pE e 0 2=Ay x 2:=by unfold pE tE;rw[hx];rfl
    have hq:Nz e=Ay y 2++Aj Ep::Ay z 2:=by unfold Nz pE tE;rw[hx];rfl
    rw[hp,hq,hpl,hx,Ff,Ff,Ff,jC,jA];omega
   ·have:=Hc x 2;have hp:pE e 0 2=Ay x 2:=by unfold pE tE;rw[hx];rfl
    have hq:Nz e=Ai y:=by unfold Nz pE tE;rw[hx];rfl
    rw[hp,hq,hpl,hx,Ff,Ff];omega
  rcases h with k | k
  ·rw[Bt7 k,jC,jA];omega
  ·rw[Bt8 k,jC,jA,jA];omega
 exfalso;have:Ca e=false:=by
  unfold Ca;rw[if_neg k1,if_neg k2,if_neg k3,if_neg (by omega),if_neg k5,if_neg k7,if_neg k8,if_neg k9,if_neg k10,if_neg k11,if_neg k12,if_neg h]
 rw[this] at hf;cases hf
theorem Fp9 {l:List Ex} (h: ∀x∈l,(Ai x).length+7<=17*Ez x):wt l<=17*Kx l:=by
 induction l with
 | nil=>exact Nat.zero_le _
 | cons x l ih=>
  have h1:=h x (by simp);have h2:=ih fun y hy=>h y (by simp [hy]);rw[Ff,Kx,jN,List.sum_cons];unfold Kx at h2;omega
theorem Bl9 (e:Ex): ∀d,En d e=true->(Ai e).length+7<=17*Ez e:=by
 refine Ex.ind (p:=fun e=> ∀d,En d e=true->(Ai e).length+7<=17*Ez e) (fun e ih d hv=> ?_) e;obtain⟨hf,hp⟩:=Jq hv;have h1:=Cu2 hf;have h2:=Fp9 fun x hx=>ih x hx _ (hp x hx);rw[Qs e];omega
theorem Hw {e:Ex} (h:Cl e=true):(Ai e).length<=5000:=by
 rw[Cl,jF,decide_eq_true_eq] at h;have:=Bl9 e 1 h.1;omega
theorem Fh5 {l:List Ex} (h: ∀x∈l,Cl x=true):wt l<=5007*l.length:=by
 induction l with
 | nil=>exact Nat.zero_le _
 | cons x l ih=>
  have h1:=Hw (h x (by simp));have h2:=ih fun y hy=>h y (by simp [hy]);rw[Ff,jA];omega
theorem Al7 {l:List Ch} (h:Kg l=true):(Et Mb (l.map Es)).length<=1000000:=by
 rw[Kg,jF,List.all_eq_true] at h;have h1:=Bl7 h.1;have h2:=h.1;simp only[Ct,jF,decide_eq_true_eq,List.all_eq_true] at h2;have h3: ∀x∈l.flatMap Ch.l,Cl x=true:=fun x hx=>by
  obtain⟨c,hc,hx⟩:=List.mem_flatMap.1 hx;exact List.all_eq_true.1 (h.2 c hc) x hx
 have h4:=Fh5 h3;have h5: ∀c∈l,c.l.length<=2:=fun c hc=>by
  have:=h2.2 c hc;unfold Cs at this;split at this
  ·rw[decide_eq_true_eq] at this;omega
  ·split at this
   ·rw[decide_eq_true_eq] at this;omega
   ·simp only[jF,decide_eq_true_eq] at this;omega
 have h6: ∀m:List Ch,(∀c∈m,c.l.length<=2)->(m.flatMap Ch.l).length<=2*m.length:=fun m=>by
  induction m with
  | nil=>intro _;exact Nat.zero_le _
  | cons c m ih=>
   intro hm;have:=hm c (by simp);have:=ih fun d hd=>hm d (by simp [hd]);rw[List.flatMap_cons,jC,jA];omega
 have h7:=h6 l h5;omega
def Af5 (e:Ex):List Tok×Int:=if Cl e then(Ai e,0) else([],2)
def Ej (l:List Ch):List Tok×Int:=if Kg l then(Et Mb (l.map Es),0) else([],2)
end Go.Dl

-- Chapter 3: the package's Tokens, ArgTokens, ChoiceTokens.
namespace Go.Dl
open Go Go.Proofs
set_option maxRecDepth 100000
section
variable {G:Nat->DVal}
theorem Bm0 (hG:GX G) (e:Ex): ∀d,En d e=true->WrC Tryz.prog G 227 [.agg (dEx e)] (Ai e):=by
 refine Ex.ind (p:=fun e=> ∀d,En d e=true->WrC Tryz.prog G 227 [.agg (dEx e)] (Ai e)) (fun e ih d hv=> ?_) e;obtain⟨hf,hp⟩:=Jq hv;exact Cu1 hG e hf fun x hx=>ih x hx _ (hp x hx)
theorem Uc {e:Ex} (h:Cl e=true):En 1 e=true:=by
 rw[Cl,jF] at h;exact h.1
theorem WAt.start {B:Ab} {r:Nat} (hr:B r=none):WAt B r [] (upd B r (some (.cells [.nilSlice] 257))):=⟨_, .inl ⟨rfl,rfl,rfl,Sub.refl _⟩⟩
theorem WAt.cell {B H:Ab} {r:Nat} {ts:List Tok} (h:WAt B r ts H) (hr:B r=none): ∃v,H r=some (.cells [v] 257)/\Qg H v B (Aq ts):=by
 obtain⟨v,h⟩:=h;exact⟨v,h.keep (Ac _ _ _),Qg.own (h.less ((Sub.refl B).up hr _))⟩
set_option maxHeartbeats 4000000 in
theorem Ch4 (hG:GX G) (H:Ab) (e:Ex) (he:Fit e):Ae Tryz.prog G 103 [.agg (dEx e)] H (Ba (.tuple [Aq (Af5 e).1,dI (Af5 e).2]) H):=by
 rw[Af5];refine Aa Tryz.func103 Tryz.call103 rfl (by kernel_rfl) ?_;simp(disch:=omega)only[go_sem,DVal.cells];intro r1 hr1;dsimp only at hr1;obtain⟨K,hK⟩: ∃K',K'=upd H r1 (some (.cells (dEx e) 27)):=⟨_,rfl⟩;rw[<-hK];have gr1:K r1=some (.cells (dEx e) 27):=by rw[hK];exact Ac _ _ _
 have hs:Sub H K:=by rw[hK];exact(Sub.refl H).new hr1 _
 simp(disch:=omega)only[go_sem,gr1];refine(Ae8 hG K e he).mono ?_;rintro _ K1 ⟨rfl,rfl⟩;cases hm:Cl e with
 | false=>
  simp(disch:=omega)only[go_sem];exact Qg.fin hs (Qg.tuple (.cons (Qg.nil hs) (Px.keep hs _))) ⟨rfl,rfl⟩
 | true=>
  have hlen:=Hw hm;simp(disch:=omega)only[go_sem];intro r2 hr2;dsimp only at hr2;have n12:r1≠r2:=Am hr2 gr1;have m12:=n12.symm;have hw:=WAt.start hr2;have g1:upd K1 r2 (some (.cells [.nilSlice] 257)) r1=some (.cells (dEx e) 27):=Ph gr1 n12;simp(disch:=omega)only[go_sem,g1];refine(Bm0 hG e 1 (Uc hm) K1 r2 [] _ hr2 (by simp;omega) hw).mono ?_;rintro _ H1 ⟨rfl,h1⟩;rw[jG] at h1;have hs1:Sub K1 H1:=by
   obtain⟨v,h1⟩:=h1;exact(((Sub.refl K1).up hr2 _).trans h1.sub)
  obtain⟨v,hv1,hv2⟩:=h1.cell hr2;simp(disch:=omega)only[go_sem,hv1];have hsf:Sub H H1:=hs.trans hs1;refine Qg.fin hsf (Qg.tuple (.cons (fun w hw x hx=>Rel.lasts (Di hs w) _ _ (hv2 w hw x hx)) (Px.keep hsf _))) ⟨rfl,rfl⟩
theorem Sp {l:List Ch} (h:Kg l=true):(∀c∈l,Cs l.length c=true/\ ∀x∈c.l,Cl x=true)/\l.length<=1000000000:=by
 rw[Kg,jF,List.all_eq_true] at h;have h2:=h.1;simp only[Ct,jF,decide_eq_true_eq,List.all_eq_true] at h2;exact⟨fun c hc=>⟨h2.2 c hc,List.all_eq_true.1 (h.2 c hc)⟩,by omega⟩
set_option maxHeartbeats 4000000 in
theorem Sq (hG:GX G) (H:Ab) (l:List Ch) (hb:Lg l<=1000000000000) (hk:Az7 l):Ae Tryz.prog G 246 [dCl l] H (Ba (.tuple [Aq (Ej l).1,dI (Ej l).2]) H):=by
 rw[Ej];refine Aa Tryz.func246 Tryz.call246 rfl (by kernel_rfl) ?_;simp(disch:=omega)only[go_sem];refine(Pr hG H l hb hk).mono ?_;rintro _ K1 ⟨rfl,rfl⟩;cases hm:Kg l with
 | false=>
  simp(disch:=omega)only[go_sem];exact Qg.fin (Sub.refl _) (Qg.tuple (.cons (Qg.nil (Sub.refl _)) (Px.keep (Sub.refl _) _))) ⟨rfl,rfl⟩
 | true=>
  have hlen:=Al7 hm;simp(disch:=omega)only[go_sem];intro r2 hr2;dsimp only at hr2;have hw:=WAt.start hr2;simp(disch:=omega)only[go_sem];refine(Ap7 hG l Mb (Sp hm).2 (fun c hc=>Af4 hG c ((Sp hm).1 c hc).1 fun y hy=>Bm0 hG y 1 (Uc (((Sp hm).1 c hc).2 y hy))) K1 r2 [] _ hr2 (by simp;omega) hw).mono ?_;rintro _ H1 ⟨rfl,h1⟩;rw[jG] at h1;have hs1:Sub K1 H1:=by
   obtain⟨v,h1⟩:=h1;exact(((Sub.refl K1).up hr2 _).trans h1.sub)
  obtain⟨v,hv1,hv2⟩:=h1.cell hr2;simp(disch:=omega)only[go_sem,hv1];exact Qg.fin hs1 (Qg.tuple (.cons hv2 (Px.keep hs1 _))) ⟨rfl,rfl⟩
end
end Go.Dl

-- The reference of chapter 2: tokens of a text.
namespace Go.Dl
open Go Go.Proofs Go.RowKit
set_option maxRecDepth 100000
section
end
theorem Et3 {l m:List Tok} {k:Nat} (h1:k<l.length) (h2:k<m.length):decide (l.drop k=m.drop k)=(decide (l[k]=m[k])&&decide (l.drop (k+1)=m.drop (k+1))):=by
 rw[List.drop_eq_getElem_cons h1,List.drop_eq_getElem_cons h2];simp only[List.cons.injEq,Bool.decide_and]
theorem Xl (G:Nat->DVal) (H:Ab) (l m:List Tok) (hl:l.length<=1000000000):Ae Tryz.prog G 60 [Aq l,Aq m] H (Ba (.bool (decide (l=m))) H):=by
 refine Aa Tryz.func60 Tryz.call60 rfl (by kernel_rfl) ?_;by_cases hlen:l.length=m.length
 ·have hlen':(l.length:Int)=(m.length:Int):=by omega
  simp(disch:=omega)only[go_sem,Aq,hlen'];obtain⟨I,hI⟩: ∃I:Nat->(Nat->DVal)->Ab->Prop,∀k env heap,I k env heap↔(env 0= .vslice (l.flatMap Af) l.length/\env 1= .vslice (m.flatMap Af) m.length/\env 12=dI m.length/\env 13=dI k/\k<=l.length/\decide (l=m)=decide (l.drop k=m.drop k)/\heap=H):=⟨_,fun _ _ _=>Iff.rfl⟩;refine Dt1.run I (fun k=>l.length-k) 0 ((hI _ _ _).2 ?_) ?_
  ·simp(disch:=omega)only[go_sem];(repeat' apply And.intro)<;>(try first | rfl | assumption | omega)
  ·intro k env heap hi;obtain⟨e0,e1,e12,e13,hk,hsm,rfl⟩:=(hI _ _ _).1 hi;have hfl:=Al Gc l;have hfm:=Al Gc m;by_cases hlt:k<l.length
   ·have hlt':(k:Int)<(m.length:Int):=by omega
    have hlt2:(k:Int)<(l.length:Int):=by omega
    have hkm:k<m.length:=by omega
    have Aw:=Bu Gc l k hlt;have hgetm:=Bu Gc m k hkm;have hwd:IntKind.i64.wrap ((k:Int)+1)=((k+1:Nat):Int):=by rw[IntKind.wrap_i64];omega
    rw[Et3 hlt hkm] at hsm;simp(disch:=omega)only[go_sem,e0,e1,e12,e13,hlt',hlt2,Aw,hgetm,hfl,hfm,jD];refine Ak (by kernel_rfl) pL37 (by kernel_rfl) ?_;by_cases hb:l[k]=m[k]
    ·rw[decide_eq_true hb,jS] at hsm;have he:Qu Tryz.prog 6 31 (Af l[k]) (Af m[k])=some true:=by rw[Eb5,decide_eq_true hb]
     simp(disch:=omega)only[go_sem,e0,e1,e12,e13,hlt',hlt2,Aw,hgetm,hfl,hfm,jD,Eb3 Da9 Bk1 he];refine⟨k+1,_,Ws.refl _,(hI _ _ _).2 ?_,by omega⟩;simp(disch:=omega)only[go_sem,e0,e1,e12,e13,hwd];(repeat' apply And.intro)<;>(try first | rfl | assumption | omega)
    ·rw[decide_eq_false hb,jT] at hsm;have he:Qu Tryz.prog 6 31 (Af l[k]) (Af m[k])=some false:=by rw[Eb5,decide_eq_false hb]
     simp(disch:=omega)only[go_sem,e0,e1,e12,e13,hlt',hlt2,Aw,hgetm,hfl,hfm,jD,Eb3 Da9 Bk1 he];exact Wj.refl ⟨by rw[hsm],rfl⟩
   ·have:k=l.length:=by omega
    subst this;have hlt': ¬(l.length:Int)<(m.length:Int):=by omega
    simp(disch:=omega)only[go_sem,e0,e1,e12,e13,hlt'];refine Wj.refl ⟨?_,rfl⟩;rw[hsm,List.drop_length,hlen,List.drop_length];rfl
 ·have hlen': ¬(l.length:Int)=(m.length:Int):=by omega
  simp(disch:=omega)only[go_sem,Aq,hlen'];refine Wj.refl ⟨?_,rfl⟩;rw[decide_eq_false (fun e=>hlen (congrArg List.length e))]
end Go.Dl

-- The reference of chapter 2: lines.
namespace Go.Dl
open Go Go.Proofs Go.RowKit
set_option maxRecDepth 100000
structure Lin where
 depth:Int
 l:List Tok
 deriving DecidableEq,Inhabited
def Eg (x:Lin):List DVal:= [dI x.depth,Aq x.l]
theorem Jw (x:Lin):(Eg x).length=2:=rfl
theorem Et4 (x:Lin):(Eg x).take 2=Eg x:=rfl
theorem Ch5 (x:Lin):(Eg x).all (fun d=>d.one)=true:=rfl
section
end
section
end
section
end
section
end
section
end
section
end
section
end
end Go.Dl

-- Chapter 4: forms: the plain laws, part 1: what is valid, what is the same, tokens and lines.
namespace Go.Dl
open Go
set_option maxRecDepth 10000
structure Ind where
 name:Ex
 lo:Ex
 hi:Ex
 value:Ex
structure Dis where
 name:Ex
 lo:Ex
 hi:Ex
structure Par where
 names:List (List UInt8)
 mode:Int
 type:Ex
 e:Ex
 line:Int
structure Asp where
 name:List UInt8
 e:Ex
structure Cmp where
 names:List (List UInt8)
 sub:Ind
 e:Ex
 line:Int
structure Arm where
 c:List Ch
 comps:List Cmp
structure Typ where
 kind:Int
 names:List (List UInt8)
 lo:Ex
 hi:Ex
 sub:Ind
 disc:Dis
 comps:List Cmp
 var:List UInt8
 arms:List Arm
 limited:Bool
def noE (e:Ex):Bool:=Lf e ex0
def Zb:Nat->Ex->Bool
 | 0,_=>false
 | n+1,e=>if e.kind=4 then Zb n (e.l.getD 0 ex0) else decide (e.kind=3)
def Jh (e:Ex):Bool:=Cl e&&Zb (Ez e) e
def Cm (s:Ind):Bool:=
 Jh s.name&&(if noE s.value then noE s.lo&&noE s.hi || Cl s.lo&&Cl s.hi else noE s.lo&&noE s.hi&&Cl s.value)
def Fk (d:Dis):Bool:=
 if noE d.lo&&noE d.hi then Jh d.name || decide (d.name.kind=6)&&Cl d.name else Cl d.lo&&Cl d.hi&&(noE d.name || Jh d.name)
def Fb (l:List (List UInt8)) (most:Nat):Bool:=l.all Lq&&decide (1<=l.length)&&decide (l.length<=most)
def Gx (e:Ex):Bool:=noE e || Cl e
def Fm (p:Par):Bool:=Fb p.names 8&&Jh p.type&&Gx p.e&&decide (1<=p.mode)&&decide (p.mode<=3)&&(decide (p.mode=1) || noE p.e)
def Ms (l:List Par):Nat:=(l.map fun p=>p.names.length).sum
def Hx (l:List Par):Bool:=l.all Fm&&decide (Ms l<=8)
def Oa (a:Asp):Bool:=Lq a.name&&Cl a.e
def Lb (l:List Asp):Bool:=l.all Oa&&decide (l.length<=8)
def Fc (c:Cmp):Bool:=Fb c.names 8&&Cm c.sub&&Gx c.e
def Dw (l:List Cmp):Nat:=(l.map fun c=>c.names.length).sum
def Lu (l:List Cmp):Bool:=l.all Fc&&decide (Dw l<=32)
def Gu (a:Arm):Bool:=a.comps.all Fc&&Kg a.c
def Pk (l:List Arm):Nat:=(l.map fun a=>Dw a.comps).sum
def Hd (t:Typ):Bool:=
 t.comps.all Fc&&decide ((t.var= [])↔(t.arms.length=0))&&decide (t.arms.length<=16)&&(decide (t.var= []) || Lq t.var)&&t.arms.all Gu&&decide (Dw t.comps+Pk t.arms<=32)
def Xm (s:Ind):Bool:=noE s.name&&noE s.lo&&noE s.hi&&noE s.value
def Xn (d:Dis):Bool:=noE d.name&&noE d.lo&&noE d.hi
def Af6 (t:Typ):Bool:=decide (t.comps.length=0)&&decide (t.var= [])&&decide (t.arms.length=0)
def Aq1 (t:Typ):Bool:=noE t.lo&&noE t.hi
def Af7 (t:Typ):Bool:=decide (t.names.length=0)
def Jr (t:Typ):Bool:=
 if t.kind=1 then Fb t.names 64&&Aq1 t&&Xm t.sub&&Xn t.disc&&Af6 t&&!t.limited
 else if t.kind=2 then Af7 t&&(Cl t.lo&&Cl t.hi)&&Xm t.sub&&Xn t.disc&&Af6 t&&!t.limited
 else if t.kind=3\/t.kind=6 then Af7 t&&Aq1 t&&Cm t.sub&&Xn t.disc&&Af6 t&&!t.limited
 else if t.kind=4 then Af7 t&&Aq1 t&&Cm t.sub&&Fk t.disc&&Af6 t&&!t.limited
 else if t.kind=5 then Af7 t&&Aq1 t&&Xm t.sub&&Xn t.disc&&Hd t&&!t.limited
 else decide (t.kind=7)&&Af7 t&&Aq1 t&&Xm t.sub&&Xn t.disc&&Af6 t
def Ch6 {α:Type} (f:α->α->Bool):List α->List α->Bool
 | [],[]=>true
 | x::l,y::m=>f x y&&Ch6 f l m
 | _,_=>false
def Gy:List UInt8:= [114,97,110,103,101]
def Dr:List UInt8:= [58]
def Qi:List UInt8:= [58,61]
def Ew:List UInt8:= [59]
def Md:List UInt8:= [111,117,116]
def Hy:List UInt8:= [99,97,115,101]
def wIs:List UInt8:= [105,115]
def Ob:List UInt8:= [119,104,101,110]
def He:List UInt8:= [101,110,100]
def Bt:List UInt8:= [114,101,99,111,114,100]
def As7:List UInt8:= [110,101,119]
def Ps:List UInt8:= [97,114,114,97,121]
def wOf:List UInt8:= [111,102]
def Lv:List UInt8:= [97,99,99,101,115,115]
def Gf:List UInt8:= [112,114,105,118,97,116,101]
def Km:List UInt8:= [108,105,109,105,116,101,100]
def Eu (a b:Ex):List Tok:=Ay a 2++(Aj Ep::Ay b 2)
def Im (s:Ind):List Tok:=Ai s.name++(if noE s.value then(if noE s.lo then [] else Aj Gy::Eu s.lo s.hi) else Aj By::(Ai s.value++ [Aj Cb]))
def Pt (d:Dis):List Tok:=if noE d.lo then Ai d.name else if noE d.name then Eu d.lo d.hi else Ai d.name++(Aj Gy::Eu d.lo d.hi)
def Bv (l:List (List UInt8)):List Tok:=Et Cx (l.map fun s=> [Dq s])
def Li (e:Ex):List Tok:=if noE e then [] else Aj Qi::Ai e
def Gv (m:Int):List Tok:=if m=2 then [Aj Md] else if m=3 then [Aj wIn,Aj Md] else []
def Kn (p:Par):List Tok:=Bv p.names++(Aj Dr::(Gv p.mode++(Ai p.type++Li p.e)))
def Ji (l:List Par):List Tok:=Et Ew (l.map Kn)
def Ab1 (a:Asp):List Tok:=Dq a.name::Aj Cc::Ai a.e
def Jj (l:List Asp):List Tok:=Et Cx (l.map Ab1)
def Ch7 (c:Cmp):List Tok:=Bv c.names++(Aj Dr::(Im c.sub++(Li c.e++ [Aj Ew])))
def Fg (n:Int):Int:=IntKind.i64.wrap n
def Hz (l:List Cmp) (d:Int):List Lin:=if l.isEmpty then [⟨d,[Aj Hu,Aj Ew]⟩] else l.map fun c=>⟨d,Ch7 c⟩
def Jf (d:Int) (a:Arm):List Lin:=⟨Fg (d+2),Aj Ob::((Ej a.c).1++ [Aj Cc])⟩::Hz a.comps (Fg (d+3))
def Xo (t:Typ) (d:Int):List Lin:=
 ⟨d,[Aj Bt]⟩::((if t.comps.isEmpty then [] else Hz t.comps (Fg (d+1)))++
  ((if t.var= [] then [] else⟨Fg (d+1),[Aj Hy,Dq t.var,Aj wIs]⟩::(t.arms.flatMap (Jf d)++ [⟨Fg (d+1),[Aj He,Aj Hy,Aj Ew]⟩]))++ [⟨d,[Aj He,Aj Bt]⟩]))
def Gg (t:Typ) (d:Int):List Lin:=
 if t.kind=1 then [⟨d,Aj By::(Bv t.names++ [Aj Cb])⟩]
 else if t.kind=2 then [⟨d,Aj Gy::Eu t.lo t.hi⟩]
 else if t.kind=3 then [⟨d,Aj As7::Im t.sub⟩]
 else if t.kind=4 then [⟨d,Aj Ps::Aj By::(Pt t.disc++(Aj Cb::Aj wOf::Im t.sub))⟩]
 else if t.kind=6 then [⟨d,Aj Lv::Im t.sub⟩]
 else if t.kind=7 then [⟨d,(if t.limited then [Aj Km] else [])++ [Aj Gf]⟩]
 else if t.comps.isEmpty&&decide (t.var= []) then [⟨d,[Aj Hu,Aj Bt]⟩]
 else Xo t d
end Go.Dl

-- Chapter 3: the law's helpers.
namespace Go.Dl
open Go Go.Proofs
set_option maxRecDepth 100000
theorem Ae.monoR {P:Program} {G:Nat->DVal} {f:FuncId} {args:List DVal} {H H2:Ab} {v:DVal} {R:DEnd->Ab->Prop} (h:Ae P G f args H (Ba v H2)) (k:R (.ret v) H2):Ae P G f args H R:=h.mono (by rintro _ _ ⟨rfl,rfl⟩;exact k)
section
end
end Go.Dl

-- Chapter 3: awake (printed by gen_v8.py).
namespace Go.Dl
open Go Go.Proofs
set_option maxRecDepth 100000
theorem Ap (u:List DVal):repl 1 u=u:=by simp [repl]
theorem Ar (u:List DVal):repl 2 u=u++u:=by simp [repl]
theorem Au (u:List DVal):repl 3 u=u++(u++u):=by simp [repl]
theorem Et5 (c:List Ch) (e:Ex):dAs (.mk c e)= .vslice (c.flatMap dCh) c.length::dEx e:=Xd _
section
end
end Go.Dl

-- Chapter 4: forms as data of the program.
namespace Go.Dl
open Go Go.Proofs
set_option maxRecDepth 100000
def Er (s:Ind):List DVal:=dEx s.name++(dEx s.lo++(dEx s.hi++dEx s.value))
def Fj (d:Dis):List DVal:=dEx d.name++(dEx d.lo++dEx d.hi)
def Lc (p:Par):List DVal:=dW p.names:: .int .u8 p.mode::(dEx p.type++(dEx p.e++ [dI p.line]))
def Qj (a:Asp):List DVal:= .str a.name::dEx a.e
def Lj (c:Cmp):List DVal:=dW c.names::(Er c.sub++(dEx c.e++ [dI c.line]))
def Cj (l:List Par):DVal:= .vslice (l.flatMap Lc) l.length
def Gh (l:List Asp):DVal:= .vslice (l.flatMap Qj) l.length
def Cv (l:List Cmp):DVal:= .vslice (l.flatMap Lj) l.length
def Ud (a:Arm):List DVal:= [dCl a.c,Cv a.comps]
def Dm (l:List Arm):DVal:= .vslice (l.flatMap Ud) l.length
def Dp (t:Typ):List DVal:= .int .u8 t.kind::dW t.names::(dEx t.lo++(dEx t.hi++(Er t.sub++(Fj t.disc++ [Cv t.comps, .str t.var,Dm t.arms, .bool t.limited]))))
structure Fms where
 e:Ex
 s:Ind
 d:Dis
 p:List Par
 a:List Asp
 c:List Cmp
 t:Typ
def Ue (x:Fms):List DVal:=dEx x.e++(Er x.s++(Fj x.d++(Cj x.p::Gh x.a::Cv x.c::Dp x.t)))
theorem Ag (s:Ind):(Er s).length=36:=by simp [Er,Ad]
theorem Ax (s:Dis):(Fj s).length=27:=by simp [Fj,Ad]
theorem An (s:Par):(Lc s).length=21:=by simp [Lc,Ad]
theorem Dg (s:Asp):(Qj s).length=10:=by simp [Qj,Ad]
theorem Bm (s:Cmp):(Lj s).length=47:=by simp [Lj,Ad,Ag]
theorem Ci (s:Arm):(Ud s).length=2:=rfl
theorem Ed (s:Typ):(Dp s).length=87:=by simp [Dp,Ad,Ag,Ax]
theorem Fa (s:Fms):(Ue s).length=162:=by simp [Ue,Ad,Ag,Ax,Ed]
theorem Xp (s:Ind):((Er s).all fun x=>x.one)=true:=by simp [Er,List.all_append,Lt]
theorem Xq (s:Dis):((Fj s).all fun x=>x.one)=true:=by simp [Fj,List.all_append,Lt]
theorem Ee2 (s:Par):((Lc s).all fun x=>x.one)=true:=by simp only[Lc,List.all_cons,List.all_append,Lt,Xp,Xq,List.all_nil,Bool.and_true,jS];rfl
theorem Ee3 (s:Asp):((Qj s).all fun x=>x.one)=true:=by simp only[Qj,List.all_cons,List.all_append,Lt,Xp,Xq,List.all_nil,Bool.and_true,jS];rfl
theorem Ee4 (s:Cmp):((Lj s).all fun x=>x.one)=true:=by simp only[Lj,List.all_cons,List.all_append,Lt,Xp,Xq,List.all_nil,Bool.and_true,jS];rfl
theorem Ee5 (s:Arm):((Ud s).all fun x=>x.one)=true:=by simp only[Ud,List.all_cons,List.all_append,Lt,Xp,Xq,List.all_nil,Bool.and_true,jS];rfl
theorem Fh6 (s:Ind):(Er s).take 36=Er s:=by rw[<-Ag s,List.take_length]
theorem Fh7 (s:Dis):(Fj s).take 27=Fj s:=by rw[<-Ax s,List.take_length]
theorem Fh8 (s:Par):(Lc s).take 21=Lc s:=by rw[<-An s,List.take_length]
theorem Fh9 (s:Cmp):(Lj s).take 47=Lj s:=by rw[<-Bm s,List.take_length]
theorem Fi0 (s:Typ):(Dp s).take 87=Dp s:=by rw[<-Ed s,List.take_length]
attribute [go_sem] Fh6 Fh7 Fh8 Fh9 Fi0 Ag Ax An Dg Bm Ci Ed Xp Xq Ee2 Ee3 Ee4 Ee5
def Ef (n:Nat) (e:Ex):Prop:=Kj e<=n/\okE e
def Aq2 (n:Nat) (l:List (List UInt8)):Prop:=l.length<=n/\ ∀s∈l,s.length<=9223372036854775807
def Uf (n:Nat) (s:Ind):Prop:=Ef n s.name/\Ef n s.lo/\Ef n s.hi/\Ef n s.value
def Wf (n:Nat) (s:Dis):Prop:=Ef n s.name/\Ef n s.lo/\Ef n s.hi
def Xr (n:Nat) (p:Par):Prop:=Aq2 n p.names/\Ef n p.type/\Ef n p.e
def Zc (n:Nat) (a:Asp):Prop:=a.name.length<=9223372036854775807/\Ef n a.e
def Oc (n:Nat) (c:Cmp):Prop:=Aq2 n c.names/\Uf n c.sub/\Ef n c.e
def Hf {α:Type} (f:Nat->α->Prop) (n:Nat) (l:List α):Prop:=l.length<=n/\ ∀x∈l,f n x
def Cu3 (n:Nat) (l:List Ch):Prop:=Lg l<=n/\Az7 l
def Ch8 (n:Nat) (a:Arm):Prop:=Cu3 n a.c/\Hf Oc n a.comps
def Np (n:Nat) (t:Typ):Prop:=Aq2 n t.names/\Ef n t.lo/\Ef n t.hi/\Uf n t.sub/\Wf n t.disc/\Hf Oc n t.comps/\(t.var.length<=9223372036854775807/\0<=t.kind/\t.kind<=255)/\Hf Ch8 n t.arms
def Dc2 (n:Nat) (x:Fms):Prop:=Ef n x.e/\Uf n x.s/\Wf n x.d/\Hf Xr n x.p/\Hf Zc n x.a/\Hf Oc n x.c/\Np n x.t
section
variable {n m:Nat}
theorem Ef.up {e:Ex} (h:Ef n e) (hm:n<=m):Ef m e:=⟨Nat.le_trans h.1 hm,h.2⟩
theorem Aq2.up {l:List (List UInt8)} (h:Aq2 n l) (hm:n<=m):Aq2 m l:=⟨Nat.le_trans h.1 hm,h.2⟩
theorem Uf.up {s:Ind} (h:Uf n s) (hm:n<=m):Uf m s:=⟨h.1.up hm,h.2.1.up hm,h.2.2.1.up hm,h.2.2.2.up hm⟩
theorem Wf.up {s:Dis} (h:Wf n s) (hm:n<=m):Wf m s:=⟨h.1.up hm,h.2.1.up hm,h.2.2.up hm⟩
theorem Xr.up {s:Par} (h:Xr n s) (hm:n<=m):Xr m s:=⟨h.1.up hm,h.2.1.up hm,h.2.2.up hm⟩
theorem Zc.up {s:Asp} (h:Zc n s) (hm:n<=m):Zc m s:=⟨h.1,h.2.up hm⟩
theorem Oc.up {s:Cmp} (h:Oc n s) (hm:n<=m):Oc m s:=⟨h.1.up hm,h.2.1.up hm,h.2.2.up hm⟩
theorem Hf.up {α:Type} {f:Nat->α->Prop} {l:List α} (h:Hf f n l) (hf: ∀(n m:Nat) (x:α),f n x->n<=m->f m x) (hm:n<=m):Hf f m l:=⟨Nat.le_trans h.1 hm,fun x hx=>hf _ _ _ (h.2 x hx) hm⟩
theorem Cu3.up {l:List Ch} (h:Cu3 n l) (hm:n<=m):Cu3 m l:=⟨Nat.le_trans h.1 hm,h.2⟩
theorem Ch8.up {s:Arm} (h:Ch8 n s) (hm:n<=m):Ch8 m s:=⟨h.1.up hm,h.2.up (fun _ _ _=>Oc.up) hm⟩
theorem Np.up {t:Typ} (h:Np n t) (hm:n<=m):Np m t:=
 ⟨h.1.up hm,h.2.1.up hm,h.2.2.1.up hm,h.2.2.2.1.up hm,h.2.2.2.2.1.up hm,h.2.2.2.2.2.1.up (fun _ _ _=>Oc.up) hm,h.2.2.2.2.2.2.1,h.2.2.2.2.2.2.2.up (fun _ _ _=>Ch8.up) hm⟩
theorem Dc2.up {x:Fms} (h:Dc2 n x) (hm:n<=m):Dc2 m x:=
 ⟨h.1.up hm,h.2.1.up hm,h.2.2.1.up hm,h.2.2.2.1.up (fun _ _ _=>Xr.up) hm,h.2.2.2.2.1.up (fun _ _ _=>Zc.up) hm,h.2.2.2.2.2.1.up (fun _ _ _=>Oc.up) hm,h.2.2.2.2.2.2.up hm⟩
end
end Go.Dl

-- Chapter 4: what is valid: nothing, all there (both sides).
namespace Go.Dl
open Go Go.Proofs
set_option maxRecDepth 100000
theorem Fq0 {e:Ex} (h:Ef 1048576 e):Kj e<=1099511627776:=by have:=h.1;omega
theorem Ef.fitx {e:Ex} (h:Ef 1048576 e):Fit e:=⟨by have:=h.1;omega,h.2⟩
theorem Ch9 {K:Ab}:Qg K (.agg [.int .u8 0, .int .u8 0, .int .i64 0, .str [], .nilSlice, .nilSlice, .int .i64 0, .int .i64 0, .int .i64 0]) K (.agg (dEx ex0)):=
 Qg.agg (Qg.ex (k:=0) (o:=0) (n:=0) (s:= []) (li:=0) (en:=0) (t:=0) (Sub.refl K) (.exs0 (Sub.refl K)) (.as0 (Sub.refl K)))
theorem Cu4 (G:Nat->DVal) (H:Ab) (e:Ex) (he:Ef 1048576 e):Ae Tryz.prog G 252 ([]++ [.agg (dEx e)]++ []) H (Ba (.bool (!noE e)) H):=by
 refine Aa Tryz.func252 Tryz.call252 rfl (by kernel_rfl) ?_;simp(disch:=omega)only[go_sem,DVal.cells,jG,jH];intro r hr;dsimp only at hr;simp(disch:=omega)only[go_sem];refine((Px.cons (Qg.keep (Sub.refl _) _) (Px.cons Ch9 .nil)).call (Sub.refl _) (Do1 G _ e ex0 (Fq0 he))).mono ?_;rintro _ H1 ⟨rfl,rfl⟩;simp(disch:=omega)only[go_sem];exact Wj.dropA r hr (Wj.refl ⟨rfl,rfl⟩)
theorem Bm1 (G:Nat->DVal) (H:Ab) (l:List Ex) (hl:l.length<=1099511627776) (hb: ∀x∈l,Ef 1048576 x):
  Ae Tryz.prog G 134 [dXs l] H (Ba (.bool (l.all noE)) H):=by
 refine Aa Tryz.func134 Tryz.call134 rfl (by kernel_rfl) ?_;simp(disch:=omega)only[go_sem,dXs];refine(Aa2 G _ (fun e=>!noE e) l 252 [] [] hl fun x hx=>Cu4 G _ x (hb x hx)).mono ?_;rintro _ H1 ⟨rfl,rfl⟩;rw[Sm];simp(disch:=omega)only[go_sem];exact Wj.refl ⟨by simp,rfl⟩
theorem Co (G:Nat->DVal) (H:Ab) (e:Ex) (he:Ef 1048576 e):Ae Tryz.prog G 182 [.agg (dEx e)] H (Ba (.bool (noE e)) H):=by
 refine Aa Tryz.func182 Tryz.call182 rfl (by kernel_rfl) ?_;simp(disch:=omega)only[go_sem,DVal.cells,jG,jH];intro r hr;dsimp only at hr;simp(disch:=omega)only[go_sem];refine((Px.cons (Qg.keep (Sub.refl _) _) (Px.cons Ch9 .nil)).call (Sub.refl _) (Ct0 G _ e ex0 (Fq0 he))).mono ?_;rintro _ H1 ⟨rfl,rfl⟩;simp(disch:=omega)only[go_sem];exact Wj.dropA r hr (Wj.refl ⟨rfl,rfl⟩)
theorem Rj (G:Nat->DVal) (H:Ab) (a b:Ex) (ha:Ef 1048576 a) (hb:Ef 1048576 b):Ae Tryz.prog G 184 [.agg (dEx a), .agg (dEx b)] H (Ba (.bool (Cl a&&Cl b)) H):=by
 have h1:=ha.1;have h2:=hb.1;refine Aa Tryz.func184 Tryz.call184 rfl (by kernel_rfl) ?_;simp(disch:=omega)only[go_sem,DVal.cells];intro r2 hr2;dsimp only at hr2;obtain⟨K2,hK2⟩: ∃K',K'=upd H r2 (some (.cells (dEx a) 27)):=⟨_,rfl⟩;rw[<-hK2];have gr2:K2 r2=some (.cells (dEx a) 27):=by rw[hK2];exact Ac _ _ _
 have sK2:Sub H K2:=by rw[hK2];exact(Sub.refl _).new hr2 _
 simp(disch:=omega)only[go_sem,DVal.cells];intro r3 hr3;dsimp only at hr3;obtain⟨K,hK⟩: ∃K',K'=upd K2 r3 (some (.cells (dEx b) 27)):=⟨_,rfl⟩;rw[<-hK];have gr3:K r3=some (.cells (dEx b) 27):=by rw[hK];exact Ac _ _ _
 have sK:Sub K2 K:=by rw[hK];exact(Sub.refl _).new hr3 _
 have g2:K r2=some (.cells (dEx a) 27):=sK _ _ gr2;have g3:=gr3;have t:Sub H K:=sK2.trans sK;clear sK sK2 gr3 gr2 hK hK2;simp(disch:=omega)only[go_sem,g2,g3];refine Ae.monoR (Mr G K a (by omega)) ?_;cases Cl a
 ·simp(disch:=omega)only[go_sem,g2,g3];exact Wj.sub t (.refl ⟨rfl,rfl⟩)
 ·simp(disch:=omega)only[go_sem,g2,g3];refine Ae.monoR (Mr G K b (by omega)) ?_;simp(disch:=omega)only[go_sem,g2,g3];exact Wj.sub t (.refl ⟨by simp,rfl⟩)
theorem Aq3 (G:Nat->DVal) (H:Ab) (e:Ex) (he:Ef 1048576 e):Ae Tryz.prog G 187 [.agg (dEx e)] H (Ba (.bool (Gx e)) H):=by
 refine Aa Tryz.func187 Tryz.call187 rfl (by kernel_rfl) ?_;simp(disch:=omega)only[go_sem,DVal.cells];intro r hr;dsimp only at hr;simp(disch:=omega)only[go_sem];have h1:=he.1;refine(Co G _ e he).mono ?_;rintro _ H1 ⟨rfl,rfl⟩;cases h:noE e
 ·simp(disch:=omega)only[go_sem];refine(Mr G _ e (by omega)).mono ?_;rintro _ H2 ⟨rfl,rfl⟩;simp(disch:=omega)only[go_sem];exact Wj.dropA r hr (Wj.refl ⟨by simp [Gx,h],rfl⟩)
 ·simp(disch:=omega)only[go_sem];exact Wj.dropA r hr (Wj.refl ⟨by simp [Gx,h],rfl⟩)
section
variable {G:Nat->DVal} (hG:GX G)
include hG
theorem Ci0 (H:Ab) (e:Ex) (he:Ef 1048576 e):Ae Tryz.prog G 249 ([]++ [.agg (dEx e)]++ []) H (Ba (.bool (!Cl e)) H):=by
 refine Aa Tryz.func249 Tryz.call249 rfl (by kernel_rfl) ?_;simp(disch:=omega)only[go_sem,DVal.cells,jG,jH];intro r hr;dsimp only at hr;simp(disch:=omega)only[go_sem];refine(Ae8 hG _ e he.fitx).mono ?_;rintro _ H1 ⟨rfl,rfl⟩;simp(disch:=omega)only[go_sem];exact Wj.dropA r hr (Wj.refl ⟨rfl,rfl⟩)
theorem Bb2 (H:Ab) (l:List Ex) (hl:l.length<=1099511627776) (hb: ∀x∈l,Ef 1048576 x):
  Ae Tryz.prog G 124 [dXs l] H (Ba (.bool (l.all Cl)) H):=by
 refine Aa Tryz.func124 Tryz.call124 rfl (by kernel_rfl) ?_;simp(disch:=omega)only[go_sem,dXs];refine(Aa2 G _ (fun e=>!Cl e) l 249 [] [] hl fun x hx=>Ci0 hG _ x (hb x hx)).mono ?_;rintro _ H1 ⟨rfl,rfl⟩;rw[Sm];simp(disch:=omega)only[go_sem];exact Wj.refl ⟨by simp,rfl⟩
end
end Go.Dl

-- Chapter 4: what is the same: indications, discrete ranges, names.
namespace Go.Dl
open Go Go.Proofs
set_option maxRecDepth 100000
theorem Nq (e:Ex) (l:List DVal):(dEx e++l).take 9=dEx e:=List.take_left' (Ad e)
theorem Dx (e:Ex) (l:List DVal) (k:Nat):(dEx e++l).drop (9+k)=l.drop k:=by
 rw[<-List.drop_drop,List.drop_left' (Ad e)]
theorem Fi1 (e:Ex):(dEx e).take 9=dEx e:=by rw[<-Ad e,List.take_length]
section
variable (s:Ind) (d:Dis) (p:Par) (a:Asp) (c:Cmp) (m:Arm) (t:Typ)
theorem Bi:(Er s).take 9=dEx s.name:=by rw[Er,Nq]
theorem Bj:((Er s).drop 9).take 9=dEx s.lo:=by rw[Er,Dx _ _ 0,jJ,Nq]
theorem Bk:((Er s).drop 18).take 9=dEx s.hi:=by rw[Er,Dx _ _ 9,Dx _ _ 0,jJ,Nq]
theorem Bl:((Er s).drop 27).take 9=dEx s.value:=by rw[Er,Dx _ _ 18,Dx _ _ 9,Dx _ _ 0,jJ,Fi1]
theorem Dc:(Fj d).take 9=dEx d.name:=by rw[Fj,Nq]
theorem Dd:((Fj d).drop 9).take 9=dEx d.lo:=by rw[Fj,Dx _ _ 0,jJ,Nq]
theorem De:((Fj d).drop 18).take 9=dEx d.hi:=by rw[Fj,Dx _ _ 9,Dx _ _ 0,jJ,Fi1]
theorem Ce:(Lc p)[0]? =some (dW p.names):=rfl
theorem Cf:(Lc p)[1]? =some (.int .u8 p.mode):=rfl
theorem Cg:((Lc p).drop 2).take 9=dEx p.type:=by rw[Lc,jE,jE,jJ,Nq]
theorem Bn:((Lc p).drop 11).take 9=dEx p.e:=by rw[Lc,jE,jE,Dx _ _ 0,jJ,Nq]
theorem Nr:(Qj a)[0]? =some (.str a.name):=rfl
theorem Ns:((Qj a).drop 1).take 9=dEx a.e:=by rw[Qj,jE,jJ,Fi1]
theorem Fo:(Lj c)[0]? =some (dW c.names):=rfl
theorem Fp:((Lj c).drop 1).take 36=Er c.sub:=by rw[Lj,jE,jJ,List.take_left' (Ag _)]
theorem Eb:((Lj c).drop 37).take 9=dEx c.e:=by
 rw[Lj,jE,List.drop_left' (Ag _),Nq]
theorem Mt:(Ud m)[0]? =some (dCl m.c):=rfl
theorem Mu:(Ud m)[1]? =some (Cv m.comps):=rfl
theorem Lr:(Dp t)[0]? =some (.int .u8 t.kind):=rfl
theorem Mv:(Dp t)[1]? =some (dW t.names):=rfl
theorem Mw:((Dp t).drop 2).take 9=dEx t.lo:=by rw[Dp,jE,jE,jJ,Nq]
theorem Ir:((Dp t).drop 11).take 9=dEx t.hi:=by rw[Dp,jE,jE,Dx _ _ 0,jJ,Nq]
theorem Is:((Dp t).drop 20).take 36=Er t.sub:=by rw[Dp,jE,jE,Dx _ _ 9,Dx _ _ 0,jJ,List.take_left' (Ag _)]
theorem It:((Dp t).drop 56).take 27=Fj t.disc:=by
 rw[Dp,jE,jE,Dx _ _ 45,Dx _ _ 36,List.drop_left' (Ag _),List.take_left' (Ax _)]
theorem Af8 (k:Nat):(Dp t)[83+k]? = [Cv t.comps, .str t.var,Dm t.arms, .bool t.limited][k]? :=by
 have h1:Dp t=(.int .u8 t.kind::dW t.names::(dEx t.lo++(dEx t.hi++(Er t.sub++Fj t.disc))))++ [Cv t.comps, .str t.var,Dm t.arms, .bool t.limited]:=by simp [Dp]
 rw[h1,List.getElem?_append_right (by simp [Ad,Ag,Ax])];congr 1;simp [Ad,Ag,Ax]
theorem Iu:(Dp t)[83]? =some (Cv t.comps):=Af8 t 0
theorem Iv:(Dp t)[84]? =some (.str t.var):=Af8 t 1
theorem Iw:(Dp t)[85]? =some (Dm t.arms):=Af8 t 2
theorem Ix:(Dp t)[86]? =some (.bool t.limited):=Af8 t 3
end
theorem Mx {α:Type} {f:α->List DVal} {n:Nat} (hf: ∀x,(f x).length=n) (l:List α) (k:Nat) (hk:k<l.length) (off m:Nat) (h:off+m<=n):((l.flatMap f).drop (k*n+off)).take m=((f l[k]).drop off).take m:=by
 induction l generalizing k with
 | nil=>simp at hk
 | cons x l ih=>
  cases k with
  | zero=>
   rw[Nat.zero_mul,Nat.zero_add,List.flatMap_cons,List.getElem_cons_zero,List.drop_append_of_le_length (by rw[hf];omega),List.take_append_of_le_length (by rw[List.length_drop,hf];omega)]
  | succ k=>
   have hk':k<l.length:=by simpa using hk
   rw[List.flatMap_cons,List.getElem_cons_succ,show(k+1)*n+off=n+(k*n+off) by rw[Nat.succ_mul];omega,<-List.drop_drop,List.drop_left' (hf x),ih k hk']
section
end
end Go.Dl

-- Chapter 4: marks, names (both sides).
namespace Go.Dl
open Go Go.Proofs
set_option maxRecDepth 100000
theorem Bm2 {d:Nat} {x:Ex} (h:En d x=true) (h4:x.kind=4): ∃y ys,x.l=y::ys:=by
 have hf:=(Jq h).1;unfold Ca at hf;rw[if_neg (by omega),if_neg (by omega),if_neg (by omega),if_pos (.inl h4)] at hf;cases hl:x.l with
 | nil=>simp [Ke,hl] at hf
 | cons y ys=>exact⟨y,ys,rfl⟩
theorem Me (G:Nat->DVal) (H:Ab) (e:Ex) (he:Ef 1048576 e):Ae Tryz.prog G 183 [.agg (dEx e)] H (Ba (.bool (Jh e)) H):=by
 refine Aa Tryz.func183 Tryz.call183 rfl (by kernel_rfl) ?_;simp(disch:=omega)only[go_sem,DVal.cells];intro r hr;dsimp only at hr;simp(disch:=omega)only[go_sem];have h1:=he.1;refine(Mr G _ e (by omega)).mono ?_;rintro _ H1 ⟨rfl,rfl⟩;cases hm:Cl e
 ·simp(disch:=omega)only[go_sem];exact Wj.dropA r hr (Wj.refl ⟨by simp [Jh,hm],rfl⟩)
 ·simp(disch:=omega)only[go_sem];have hv:En 1 e=true:=by unfold Cl at hm;simp only[jF] at hm;exact hm.1
  have hM:Jh e=Zb (Ez e) e:=by rw[Jh,hm,jS]
  rw[hM];obtain⟨I,hI⟩: ∃I:Ex×Nat->(Nat->DVal)->Ab->Prop,∀xn env heap,I xn env heap↔(env 1= .optr r 0/\heap=upd H r (some (.cells (dEx xn.1) 27))/\Ez xn.1<=xn.2/\Zb xn.2 xn.1=Zb (Ez e) e/\ ∃d,En d xn.1=true):=⟨_,fun _ _ _=>Iff.rfl⟩;refine Dt1.run I (fun xn=>xn.2) (e,Ez e) ((hI _ _ _).2 ?_) ?_
  ·simp(disch:=omega)only[go_sem];exact⟨1,hv⟩
  ·rintro⟨x,n⟩ env heap hi;obtain⟨e1,rfl,hn,hk,d,hd⟩:=(hI _ _ _).1 hi;dsimp only at hn hk hd;have hg:upd H r (some (.cells (dEx x) 27)) r=some (.cells (dEx x) 27):=Ac _ _ _;have hpos:0<Ez x:=by rw[Qs];omega
   obtain⟨n,rfl⟩: ∃m,n=m+1:=⟨n-1,by omega⟩;rw[Zb] at hk;by_cases h4:x.kind=4
   ·obtain⟨y,ys,hy⟩:=Bm2 hd h4;rw[if_pos h4,hy] at hk;have hys:y∈parts x:=by rw[parts,hy];simp
    have hsz:=Sh hys;have hvy:=(Jq hd).2 y hys;have f1:(x.l.flatMap dEx).take 9=dEx y:=by rw[hy,List.flatMap_cons,Nq]
    have f2:9<=(x.l.flatMap dEx).length:=by rw[hy,List.flatMap_cons,jC,Ad];omega
    have f3:(0:Int)<(x.l.length:Int):=by rw[hy,jA];omega
    have f4:0<(x.l.flatMap dEx).length:=by omega
    simp(disch:=omega)only[go_sem,e1,hg,h4,f1,f2,f3,f4,Ad,Lt];refine⟨(y,n),_,Ws.refl _,(hI _ _ _).2 ?_,by omega⟩;simp(disch:=omega)only[go_sem,e1];(repeat' apply And.intro)<;>(try first | rfl | assumption | omega);exact⟨d+1,hvy⟩
   ·rw[if_neg h4] at hk;simp(disch:=omega)only[go_sem,e1,hg,h4];exact Wj.dropA r hr (Wj.refl ⟨by rw[<-hk],rfl⟩)
section
variable {G:Nat->DVal} (hG:GX G)
include hG
theorem Qt (H:Ab) (e:Ex) (he:Ef 1048576 e):Ae Tryz.prog G 111 [.agg (dEx e)] H (Ba (.bool (Jh e)) H):=by
 refine Aa Tryz.func111 Tryz.call111 rfl (by kernel_rfl) ?_;simp(disch:=omega)only[go_sem,DVal.cells];intro r hr;dsimp only at hr;simp(disch:=omega)only[go_sem];have h1:=he.1;refine(Ae8 hG _ e he.fitx).mono ?_;rintro _ H1 ⟨rfl,rfl⟩;cases hm:Cl e
 ·simp(disch:=omega)only[go_sem];exact Wj.dropA r hr (Wj.refl ⟨by simp [Jh,hm],rfl⟩)
 ·simp(disch:=omega)only[go_sem];have hv:En 1 e=true:=by unfold Cl at hm;simp only[jF] at hm;exact hm.1
  have hM:Jh e=Zb (Ez e) e:=by rw[Jh,hm,jS]
  rw[hM];obtain⟨I,hI⟩: ∃I:Ex×Nat->(Nat->DVal)->Ab->Prop,∀xn env heap,I xn env heap↔(env 1= .optr r 0/\heap=upd H r (some (.cells (dEx xn.1) 27))/\Ez xn.1<=xn.2/\Zb xn.2 xn.1=Zb (Ez e) e/\ ∃d,En d xn.1=true):=⟨_,fun _ _ _=>Iff.rfl⟩;refine Dt1.run I (fun xn=>xn.2) (e,Ez e) ((hI _ _ _).2 ?_) ?_
  ·simp(disch:=omega)only[go_sem];exact⟨1,hv⟩
  ·rintro⟨x,n⟩ env heap hi;obtain⟨e1,rfl,hn,hk,d,hd⟩:=(hI _ _ _).1 hi;dsimp only at hn hk hd;have hg:upd H r (some (.cells (dEx x) 27)) r=some (.cells (dEx x) 27):=Ac _ _ _;have hpos:0<Ez x:=by rw[Qs];omega
   obtain⟨n,rfl⟩: ∃m,n=m+1:=⟨n-1,by omega⟩;rw[Zb] at hk;by_cases h4:x.kind=4
   ·obtain⟨y,ys,hy⟩:=Bm2 hd h4;rw[if_pos h4,hy] at hk;have hys:y∈parts x:=by rw[parts,hy];simp
    have hsz:=Sh hys;have hvy:=(Jq hd).2 y hys;have f1:(x.l.flatMap dEx).take 9=dEx y:=by rw[hy,List.flatMap_cons,Nq]
    have f2:9<=(x.l.flatMap dEx).length:=by rw[hy,List.flatMap_cons,jC,Ad];omega
    have f3:(0:Int)<(x.l.length:Int):=by rw[hy,jA];omega
    have f4:0<(x.l.flatMap dEx).length:=by omega
    simp(disch:=omega)only[go_sem,e1,hg,h4,f1,f2,f3,f4,Ad,Lt];refine⟨(y,n),_,Ws.refl _,(hI _ _ _).2 ?_,by omega⟩;simp(disch:=omega)only[go_sem,e1];(repeat' apply And.intro)<;>(try first | rfl | assumption | omega);exact⟨d+1,hvy⟩
   ·rw[if_neg h4] at hk;simp(disch:=omega)only[go_sem,e1,hg,h4];exact Wj.dropA r hr (Wj.refl ⟨by rw[<-hk],rfl⟩)
end
theorem Fi2 (G:Nat->DVal) (H:Ab) (p:(List UInt8)->Bool) (l:List (List UInt8)) (g:FuncId) (xs ys:List DVal) (hl:l.length<=1099511627776)
  (hp: ∀x∈l,Ae Tryz.prog G g (xs++ [.str x]++ys) H (Ba (.bool (p x)) H)):
  Ae Tryz.prog G 342 [.vslice (l.map .str) l.length, .func (.func g) xs ys] H (Ba (dI (As3 p l)) H):=by
 refine Aa Tryz.func342 Tryz.call342 rfl (by kernel_rfl) ?_;simp(disch:=omega)only[go_sem];refine Dt1.run (fun(i:Nat) env heap=>heap=H/\env 0= .vslice (l.map .str) l.length/\env 1= .func (.func g) xs ys/\env 7=dI l.length/\env 8=dI i/\i<=l.length/\ ∀x∈l.take i,p x=false) (fun i=>l.length-i) 0 ?_ ?_
 ·simp(disch:=omega)only[go_sem];simp
 ·rintro i env heap ⟨rfl,h0,h1,h7,h8,hi,hn⟩;by_cases hlt:i<l.length
  ·skip
   simp(disch:=omega)only[go_sem,h0,h1,h7,h8,hlt];have hc:=hp l[i] (List.getElem_mem hlt)
   skip
   refine hc.mono ?_;rintro _ H ⟨rfl,rfl⟩;cases hx:p l[i] with
   | true=>
    simp(disch:=omega)only[go_sem,h0,h1,h7,h8];exact Wj.refl ⟨by rw[Yl hlt hx hn],rfl⟩
   | false=>
    simp(disch:=omega)only[go_sem,h0,h1,h7,h8];refine⟨i+1,_,Ws.refl _, ?_,by omega⟩;simp(disch:=omega)only[go_sem,h0,h1,h7,h8];(repeat' apply And.intro)<;>(try first | rfl | assumption | omega);exact Kv hlt hn hx
  ·simp(disch:=omega)only[go_sem,h0,h1,h7,h8];have:i=l.length:=by omega
   subst this;rw[List.take_length] at hn;exact Wj.refl ⟨by rw[Ym hn],rfl⟩
theorem Do8 (G:Nat->DVal) (H:Ab) (p:List UInt8->Bool) (l:List (List UInt8)) (g:FuncId) (xs ys:List DVal) (hl:l.length<=1099511627776)
  (hp: ∀x∈l,Ae Tryz.prog G g (xs++ [.str x]++ys) H (Ba (.bool (p x)) H)):
  Ae Tryz.prog G 247 [.vslice (l.map .str) l.length, .func (.func g) xs ys] H (Ba (.bool (l.any p)) H):=by
 refine Aa Tryz.func247 Tryz.call247 rfl (by kernel_rfl) ?_;simp(disch:=omega)only[go_sem];refine(Fi2 G H p l g xs ys hl hp).mono ?_;rintro _ H ⟨rfl,rfl⟩;simp(disch:=omega)only[go_sem];exact Wj.refl ⟨by rw[Tt],rfl⟩
section
variable {G:Nat->DVal} (hG:GX G)
include hG
theorem Ci1 (H:Ab) (s:List UInt8) (hs:s.length<=9223372036854775807):Ae Tryz.prog G 248 ([]++ [.str s]++ []) H (Ba (.bool (!Lq s)) H):=by
 refine Aa Tryz.func248 Tryz.call248 rfl (by kernel_rfl) ?_;simp(disch:=omega)only[go_sem,jG,jH];refine(Vd hG _ s hs).mono ?_;rintro _ H1 ⟨rfl,rfl⟩;simp(disch:=omega)only[go_sem];exact Wj.refl ⟨rfl,rfl⟩
theorem Ab2 (H:Ab) (l:List (List UInt8)) (m:Nat) (hl:Aq2 1048576 l):Ae Tryz.prog G 122 [dW l,dI m] H (Ba (.bool (Fb l m)) H):=by
 have h40:=hl.1;refine Aa Tryz.func122 Tryz.call122 rfl (by kernel_rfl) ?_;simp(disch:=omega)only[go_sem,dW];by_cases h0:0<l.length
 ·have h0':(0:Int)<(l.length:Int):=by omega
  by_cases h1:l.length<=m
  ·have h1':(l.length:Int)<=(m:Int):=by omega
   simp(disch:=omega)only[go_sem,h0',h1'];refine(Do8 G _ (fun e=>!Lq e) l 248 [] [] (by omega) fun x hx=>Ci1 hG _ x (hl.2 x hx)).mono ?_;rintro _ H1 ⟨rfl,rfl⟩;rw[Sm];simp(disch:=omega)only[go_sem];exact Wj.refl ⟨by simp [Fb,h1];omega,rfl⟩
  ·have h1': ¬(l.length:Int)<=(m:Int):=by omega
   simp(disch:=omega)only[go_sem,h0',h1'];exact Wj.refl ⟨by simp [Fb,h1],rfl⟩
 ·have h0': ¬(0:Int)<(l.length:Int):=by omega
  simp(disch:=omega)only[go_sem,h0'];exact Wj.refl ⟨by simp [Fb];omega,rfl⟩
end
theorem Xs (G:Nat->DVal) (H:Ab) (l:List (List UInt8)) (m:Nat) (hl:Aq2 1048576 l):Ae Tryz.prog G 186 [dW l,dI m] H (Ba (.bool (Fb l m)) H):=by
 have h40:=hl.1;refine Aa Tryz.func186 Tryz.call186 rfl (by kernel_rfl) ?_;simp(disch:=omega)only[go_sem,dW];obtain⟨I,hI⟩: ∃I:Nat->(Nat->DVal)->Ab->Prop,∀i env heap,I i env heap↔(H=heap/\env 0= .vslice (l.map .str) l.length/\env 1=dI m/\env 5=dI i/\i<=l.length/\ ∀x∈l.take i,Lq x=true):=⟨_,fun _ _ _=>Iff.rfl⟩;refine Dt1.run I (fun i=>l.length-i) 0 ((hI _ _ _).2 ?_) ?_
 ·simp(disch:=omega)only[go_sem,dW];simp
 ·intro i env heap hi;obtain⟨rfl,e0,e1,e5,hi,hn⟩:=(hI _ _ _).1 hi;by_cases hlt:i<l.length
  ·have hlti:(i:Int)<(l.length:Int):=by omega
   have hwd:IntKind.i64.wrap ((i:Int)+1)=((i+1:Nat):Int):=by rw[IntKind.wrap_i64];omega
   simp(disch:=omega)only[go_sem,e0,e1,e5,hlti];refine Ae.monoR (Ve G _ l[i]) ?_;cases hx:Lq l[i]
   ·simp(disch:=omega)only[go_sem];have hall:l.all Lq=false:=by
     rw[List.all_eq_false];exact⟨l[i],List.getElem_mem hlt,by simp [hx]⟩
    exact Wj.refl ⟨by simp [Fb,hall],rfl⟩
   ·simp(disch:=omega)only[go_sem,e0,e1,e5];refine⟨i+1,_,Ws.refl _,(hI _ _ _).2 ?_,by omega⟩;simp(disch:=omega)only[go_sem,e0,e1,e5,hwd];(repeat' apply And.intro)<;>(try first | rfl | assumption | omega);intro x hx';rw[List.take_add_one,List.getElem?_eq_getElem hlt] at hx';rcases List.mem_append.1 hx' with h | h
    ·exact hn x h
    ·simp at h;subst h;exact hx
  ·have:i=l.length:=by omega
   subst this;rw[List.take_length] at hn;have hall:l.all Lq=true:=by rw[List.all_eq_true];exact hn
   have hlti: ¬(l.length:Int)<(l.length:Int):=by omega
   by_cases h1:1<=l.length
   ·have h1':(1:Int)<=(l.length:Int):=by omega
    by_cases h2:l.length<=m
    ·have h2':(l.length:Int)<=(m:Int):=by omega
     simp(disch:=omega)only[go_sem,e0,e1,e5,hlti,h1',h2'];exact Wj.refl ⟨by simp [Fb,hall,h1,h2],rfl⟩
    ·have h2': ¬(l.length:Int)<=(m:Int):=by omega
     simp(disch:=omega)only[go_sem,e0,e1,e5,hlti,h1',h2'];exact Wj.refl ⟨by simp [Fb,h2],rfl⟩
   ·have h1': ¬(1:Int)<=(l.length:Int):=by omega
    simp(disch:=omega)only[go_sem,e0,e1,e5,hlti,h1'];exact Wj.refl ⟨by simp [Fb,h1],rfl⟩
end Go.Dl

-- Chapter 4: which indications and discrete ranges are valid (both sides).
namespace Go.Dl
open Go Go.Proofs
set_option maxRecDepth 100000
theorem Vk (G:Nat->DVal) (H:Ab) (s:Ind) (hs:Uf 1048576 s):Ae Tryz.prog G 62 [.agg (Er s)] H (Ba (.bool (Cm s)) H):=by
 obtain⟨f0,f1,f2,f3⟩:=hs;have hb3:=f3.1;refine Aa Tryz.func62 Tryz.call62 rfl (by kernel_rfl) ?_;simp(disch:=omega)only[go_sem,DVal.cells];intro r1 hr1;dsimp only at hr1;obtain⟨K,hK⟩: ∃K',K'=upd H r1 (some (.cells (Er s) 56)):=⟨_,rfl⟩;rw[<-hK];have gr1:K r1=some (.cells (Er s) 56):=by rw[hK];exact Ac _ _ _
 have sK:Sub H K:=by rw[hK];exact(Sub.refl _).new hr1 _
 simp(disch:=omega)only[go_sem,gr1,Ag,Bi,Bj,Bk,Bl];refine Ae.monoR (Co G K s.lo f1) ?_;cases h1:noE s.lo
 ·simp(disch:=omega)only[go_sem,gr1,Ag,Bi,Bj,Bk,Bl];refine Ae.monoR (Me G K s.name f0) ?_;cases h3:Jh s.name
  ·simp(disch:=omega)only[go_sem,gr1,Ag,Bi,Bj,Bk,Bl];exact Wj.sub sK (.refl ⟨by simp [Cm, *],rfl⟩)
  ·simp(disch:=omega)only[go_sem,gr1,Ag,Bi,Bj,Bk,Bl];refine Ae.monoR (Co G K s.value f3) ?_;cases h4:noE s.value
   ·simp(disch:=omega)only[go_sem,gr1,Ag,Bi,Bj,Bk,Bl];exact Wj.sub sK (.refl ⟨by simp [Cm, *],rfl⟩)
   ·simp(disch:=omega)only[go_sem,gr1,Ag,Bi,Bj,Bk,Bl];refine Ae.monoR (Rj G K s.lo s.hi f1 f2) ?_;simp(disch:=omega)only[go_sem,gr1,Ag,Bi,Bj,Bk,Bl];exact Wj.sub sK (.refl ⟨by simp [Cm, *],rfl⟩)
 ·simp(disch:=omega)only[go_sem,gr1,Ag,Bi,Bj,Bk,Bl];refine Ae.monoR (Co G K s.hi f2) ?_;cases h2:noE s.hi
  ·simp(disch:=omega)only[go_sem,gr1,Ag,Bi,Bj,Bk,Bl];refine Ae.monoR (Me G K s.name f0) ?_;cases h3:Jh s.name
   ·simp(disch:=omega)only[go_sem,gr1,Ag,Bi,Bj,Bk,Bl];exact Wj.sub sK (.refl ⟨by simp [Cm, *],rfl⟩)
   ·simp(disch:=omega)only[go_sem,gr1,Ag,Bi,Bj,Bk,Bl];refine Ae.monoR (Co G K s.value f3) ?_;cases h4:noE s.value
    ·simp(disch:=omega)only[go_sem,gr1,Ag,Bi,Bj,Bk,Bl];exact Wj.sub sK (.refl ⟨by simp [Cm, *],rfl⟩)
    ·simp(disch:=omega)only[go_sem,gr1,Ag,Bi,Bj,Bk,Bl];refine Ae.monoR (Rj G K s.lo s.hi f1 f2) ?_;simp(disch:=omega)only[go_sem,gr1,Ag,Bi,Bj,Bk,Bl];exact Wj.sub sK (.refl ⟨by simp [Cm, *],rfl⟩)
  ·simp(disch:=omega)only[go_sem,gr1,Ag,Bi,Bj,Bk,Bl];refine Ae.monoR (Me G K s.name f0) ?_;cases h3:Jh s.name
   ·simp(disch:=omega)only[go_sem,gr1,Ag,Bi,Bj,Bk,Bl];exact Wj.sub sK (.refl ⟨by simp [Cm, *],rfl⟩)
   ·simp(disch:=omega)only[go_sem,gr1,Ag,Bi,Bj,Bk,Bl];refine Ae.monoR (Co G K s.value f3) ?_;cases h4:noE s.value
    ·simp(disch:=omega)only[go_sem,gr1,Ag,Bi,Bj,Bk,Bl];refine Ae.monoR (Mr G K s.value (by omega)) ?_;simp(disch:=omega)only[go_sem,gr1,Ag,Bi,Bj,Bk,Bl];exact Wj.sub sK (.refl ⟨by simp [Cm, *],rfl⟩)
    ·simp(disch:=omega)only[go_sem,gr1,Ag,Bi,Bj,Bk,Bl];exact Wj.sub sK (.refl ⟨by simp [Cm, *],rfl⟩)
theorem Gi (d:Dis):(Fj d)[0]? =some (.int .u8 d.name.kind):=by
 obtain⟨⟨k,o,n,s,l,a,li,en,t⟩,lo,hi⟩:=d;simp [Fj,Bs8,Ex.kind]
theorem Af9 (G:Nat->DVal) (H:Ab) (d:Dis) (hd:Wf 1048576 d):Ae Tryz.prog G 64 [.agg (Fj d)] H (Ba (.bool (Fk d)) H):=by
 obtain⟨f0,f1,f2⟩:=hd;have hb0:=f0.1;refine Aa Tryz.func64 Tryz.call64 rfl (by kernel_rfl) ?_;simp(disch:=omega)only[go_sem,DVal.cells];intro r1 hr1;dsimp only at hr1;obtain⟨K,hK⟩: ∃K',K'=upd H r1 (some (.cells (Fj d) 58)):=⟨_,rfl⟩;rw[<-hK];have gr1:K r1=some (.cells (Fj d) 58):=by rw[hK];exact Ac _ _ _
 have sK:Sub H K:=by rw[hK];exact(Sub.refl _).new hr1 _
 simp(disch:=omega)only[go_sem,gr1,Ax,Dc,Dd,De,Gi];refine Ae.monoR (Co G K d.lo f1) ?_;cases h1:noE d.lo
 ·simp(disch:=omega)only[go_sem,gr1,Ax,Dc,Dd,De,Gi];refine Ae.monoR (Rj G K d.lo d.hi f1 f2) ?_;cases h3:(Cl d.lo&&Cl d.hi)
  ·simp(disch:=omega)only[go_sem,gr1,Ax,Dc,Dd,De,Gi];exact Wj.sub sK (.refl ⟨by simp [Fk, *],rfl⟩)
  ·simp(disch:=omega)only[go_sem,gr1,Ax,Dc,Dd,De,Gi];refine Ae.monoR (Co G K d.name f0) ?_;cases h4:noE d.name
   ·simp(disch:=omega)only[go_sem,gr1,Ax,Dc,Dd,De,Gi];refine Ae.monoR (Me G K d.name f0) ?_;simp(disch:=omega)only[go_sem,gr1,Ax,Dc,Dd,De,Gi];exact Wj.sub sK (.refl ⟨by simp [Fk, *],rfl⟩)
   ·simp(disch:=omega)only[go_sem,gr1,Ax,Dc,Dd,De,Gi];exact Wj.sub sK (.refl ⟨by simp [Fk, *],rfl⟩)
 ·simp(disch:=omega)only[go_sem,gr1,Ax,Dc,Dd,De,Gi];refine Ae.monoR (Co G K d.hi f2) ?_;cases h2:noE d.hi
  ·simp(disch:=omega)only[go_sem,gr1,Ax,Dc,Dd,De,Gi];refine Ae.monoR (Rj G K d.lo d.hi f1 f2) ?_;cases h3:(Cl d.lo&&Cl d.hi)
   ·simp(disch:=omega)only[go_sem,gr1,Ax,Dc,Dd,De,Gi];exact Wj.sub sK (.refl ⟨by simp [Fk, *],rfl⟩)
   ·simp(disch:=omega)only[go_sem,gr1,Ax,Dc,Dd,De,Gi];refine Ae.monoR (Co G K d.name f0) ?_;cases h4:noE d.name
    ·simp(disch:=omega)only[go_sem,gr1,Ax,Dc,Dd,De,Gi];refine Ae.monoR (Me G K d.name f0) ?_;simp(disch:=omega)only[go_sem,gr1,Ax,Dc,Dd,De,Gi];exact Wj.sub sK (.refl ⟨by simp [Fk, *],rfl⟩)
    ·simp(disch:=omega)only[go_sem,gr1,Ax,Dc,Dd,De,Gi];exact Wj.sub sK (.refl ⟨by simp [Fk, *],rfl⟩)
  ·simp(disch:=omega)only[go_sem,gr1,Ax,Dc,Dd,De,Gi];refine Ae.monoR (Me G K d.name f0) ?_;cases h3:Jh d.name
   ·by_cases h4:d.name.kind=6
    ·simp(disch:=omega)only[go_sem,gr1,Ax,Dc,Dd,De,Gi,h4];refine Ae.monoR (Mr G K d.name (by omega)) ?_;simp(disch:=omega)only[go_sem,gr1,Ax,Dc,Dd,De,Gi];exact Wj.sub sK (.refl ⟨by simp [Fk, *],rfl⟩)
    ·simp(disch:=omega)only[go_sem,gr1,Ax,Dc,Dd,De,Gi,h4];exact Wj.sub sK (.refl ⟨by simp [Fk, *],rfl⟩)
   ·simp(disch:=omega)only[go_sem,gr1,Ax,Dc,Dd,De,Gi];exact Wj.sub sK (.refl ⟨by simp [Fk, *],rfl⟩)
end Go.Dl
