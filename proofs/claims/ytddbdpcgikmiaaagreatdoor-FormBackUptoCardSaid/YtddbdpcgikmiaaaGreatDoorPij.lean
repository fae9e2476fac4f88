/- The data level and the contracts of the functions that are reached (part 10). -/
import Derived.Test.YtddbdpcgikmiaaaGreatDoorPii
set_option linter.unusedSimpArgs false
set_option linter.unusedVariables false
set_option linter.unusedSectionVars false
set_option maxHeartbeats 400000000
-- Cl
namespace Go.Dl
open Go Go.Proofs
set_option maxRecDepth 100000
theorem Hz {α:Type} {p:α->Bool} {l:List α} {x:α} (h:x∈l) (hx:p x=false):l.all p=false:=by
 rw[List.all_eq_false];exact⟨x,h,by simp [hx]⟩
theorem Qf {α:Type} {p:α->Bool} {l:List α} {k:Nat} (C:k<l.length) (h: ∀x∈l.take k,p x=true) (hx:p l[k]=true): ∀x∈l.take (k+1),p x=true:=by
 intro x y;rw[List.take_add_one,List.getElem?_eq_getElem C] at y;rcases List.mem_append.1 y with a|a
 ·exact h x a
 ·simp at a;subst a;exact hx
theorem Uh {α:Type} {p:α->Bool} {l:List α} (h: ∀x∈l.take l.length,p x=true):l.all p=true:=by
 rw[List.take_length] at h;rw[List.all_eq_true];exact h
theorem Dv9 {l:List Par} {k:Nat} (y:k<l.length):Pr (l.take (k+1))=Pr (l.take k)+l[k].names.length:=by
 rw[Pr,Pr,List.take_add_one,List.getElem?_eq_getElem y,List.map_append,List.sum_append];simp
theorem Dw0 {l:List Cmp} {k:Nat} (y:k<l.length):Cr (l.take (k+1))=Cr (l.take k)+l[k].names.length:=by
 rw[Cr,Cr,List.take_add_one,List.getElem?_eq_getElem y,List.map_append,List.sum_append];simp
section
variable (G:Nat->DVal) (H:Ab)
theorem Qg (l:List Asp) (hl:Ei Ue 16777216 l):Ad Tryz.prog G 42 [Ib l] H (Am (.bool (Gv l)) H):=by
 have X:=hl.1;refine dci Tryz.func42 Tryz.call42 ?_;simp only[go_sem,Ib];obtain⟨I,E⟩: ∃I:Nat->(Nat->DVal)->Ab->Prop,∀k env heap,I k env heap↔(env 0= .vslice (l.flatMap Ip) l.length/\env 3=dI k/\k<=l.length/\(∀x∈l.take k,Nh x=true)/\H=heap):=⟨_,λ_ _ _=>Iff.rfl⟩;refine Ea9.run I (λk=>l.length-k) 0 ((E _ _ _).2 ?_) ?_
 ·simp only[go_sem];simp
 ·intro k env heap hi;obtain⟨y,C,hk,hp,rfl⟩:=(E _ _ _).1 hi;have hfl:=Ak Gr l;by_cases D:k<l.length
  ·(have O:(k:Int)<(l.length:Int):=by omega);(have S:IntKind.i64.wrap ((k:Int)+1)=((k+1:Nat):Int):=by rw[IntKind.wrap_i64];omega);have mx:=List.getElem_mem D;have hst:Nh l[k]=true-> ∀x∈l.take (k+1),Nh x=true:=Qf D hp;have J:=Bz Gr l k D 0 (by decide);rw[Df6] at J;have L:=J;rw[Nat.add_zero] at L;have M:=Be1 Gr l k D 1 9 (by decide);rw[Df7] at M;obtain⟨x,hx⟩: ∃x,x=l[k]:=⟨_,rfl⟩;rw[<-hx] at J L M mx hst;have U:=hl.2 x mx;have Y:=U.2.1;simp(disch:=omega)only[go_sem,y,C,O,hfl,jD,L];refine Ad.monoR (Qb G _ x.name) ?_;cases h1:Iv x.name
   ·simp only[go_sem];exact Dj.refl ⟨by rw[Gv,Hz mx (by simp [Nh,h1])];rfl,rfl⟩
   simp(disch:=omega)only[go_sem,y,C,O,hfl,jD,M];refine Ad.monoR (Ok G _ x.e (by omega)) ?_;cases h2:Bu x.e
   ·simp only[go_sem];exact Dj.refl ⟨by rw[Gv,Hz mx (by simp [Nh,h2])];rfl,rfl⟩
   simp only[go_sem,C];refine⟨k+1,_,Rn.refl _,(E _ _ _).2 ?_,by omega⟩;simp only[go_sem,y,S];(repeat' apply And.intro)<;>(try first|rfl|assumption|omega);exact hst (by simp [Nh,h1,h2])
  ·(have:k=l.length:=by omega);subst this;have V:=Uh hp;(have W: ¬(l.length:Int)<(l.length:Int):=by omega);simp only[go_sem,y,C,W];exact Dj.refl ⟨by rw[Gv,V];simp;omega,rfl⟩
theorem Ns (l:List Cmp) (hl:Ei Ka 16777216 l):Ad Tryz.prog G 151 [Ci l] H (Am (dI (if l.all En then(Cr l:Nat) else-1)) H):=by
 have Y:=hl.1;refine dci Tryz.func151 Tryz.call151 ?_;simp only[go_sem,Ci];obtain⟨I,M⟩: ∃I:Nat->(Nat->DVal)->Ab->Prop,∀k env heap,I k env heap↔(env 0= .vslice (l.flatMap Ih) l.length/\env 3=dI (Cr (l.take k):Nat)/\env 4=dI k/\k<=l.length/\Cr (l.take k)<=k*16777216/\(∀x∈l.take k,En x=true)/\H=heap):=⟨_,λ_ _ _=>Iff.rfl⟩;refine Ea9.run I (λk=>l.length-k) 0 ((M _ _ _).2 ?_) ?_
 ·simp only[go_sem];simp [Cr]
 ·intro k env heap hi;obtain⟨y,en,D,hk,hs,hp,rfl⟩:=(M _ _ _).1 hi;have hfl:=Ak Ez l;by_cases C:k<l.length
  ·(have E:(k:Int)<(l.length:Int):=by omega);have mx:=List.getElem_mem C;have hst:En l[k]=true-> ∀x∈l.take (k+1),En x=true:=Qf C hp;have O:=Dw0 C;have S:=Bz Ez l k C 0 (by decide);rw[Df8] at S;have J:=S;rw[Nat.add_zero] at J;have U:=Be1 Ez l k C 1 36 (by decide);rw[Ef7] at U;have V:=Be1 Ez l k C 37 9 (by decide);rw[Bx3] at V;obtain⟨x,hx⟩: ∃x,x=l[k]:=⟨_,rfl⟩;rw[<-hx] at S J U V mx hst O;have L:=hl.2 x mx;have fn:=L.1.1;have Z:IntKind.i64.wrap ((Cr (l.take k):Nat)+(x.names.length:Int))=((Cr (l.take (k+1)):Nat):Int):=by
    rw[O,IntKind.wrap_i64];omega
   simp(disch:=omega)only[go_sem,y,D,E,hfl,jD,J];refine Ad.monoR (Af8 G _ x.names 8 L.1) ?_;cases h1:Ey x.names 8
   ·simp only[go_sem];exact Dj.refl ⟨by rw[Hz mx (by simp [En,h1])];rfl,rfl⟩
   simp(disch:=omega)only[go_sem,y,D,E,hfl,jD,U];refine Ad.monoR (Sk G _ x.sub L.2.1) ?_;cases h2:Co x.sub
   ·simp only[go_sem];exact Dj.refl ⟨by rw[Hz mx (by simp [En,h2])];rfl,rfl⟩
   simp(disch:=omega)only[go_sem,y,D,E,hfl,jD,V];refine Ad.monoR (Bi8 G _ x.e L.2.2) ?_;cases h3:Gk x.e
   ·simp only[go_sem];exact Dj.refl ⟨by rw[Hz mx (by simp [En,h3])];rfl,rfl⟩
   simp(disch:=omega)only[go_sem,y,en,D,E,hfl,jD,J,dW];refine⟨k+1,_,Rn.refl _,(M _ _ _).2 ?_,by omega⟩;simp only[go_sem,y];(repeat' apply And.intro)<;>(try first|rfl|assumption|omega)
   ·rw[O];rfl
   ·exact hst (by simp [En,h1,h2,h3])
  ·(have:k=l.length:=by omega);subst this;have W:=Uh hp;rw[List.take_length] at en;(have X: ¬(l.length:Int)<(l.length:Int):=by omega);simp only[go_sem,y,en,D,X];exact Dj.refl ⟨by rw[W];rfl,rfl⟩
theorem Ag0 (l:List Cmp) (hl:Ei Ka 16777216 l):Ad Tryz.prog G 46 [Ci l] H (Am (.bool (Gn l)) H):=by
 refine dci Tryz.func46 Tryz.call46 ?_;simp only[go_sem];refine Ad.monoR (Ns G H l hl) ?_;cases h:l.all En
 ·simp(disch:=omega)only[go_sem];exact Dj.refl ⟨by rw[Gn,h];rfl,rfl⟩
 ·have h0:(0:Int)<=(Cr l:Int):=by omega
  simp only[go_sem,h0];exact Dj.refl ⟨by rw[Gn,h];simp;omega,rfl⟩
theorem Rr (l:List Par) (hl:Ei Nk 16777216 l):Ad Tryz.prog G 39 [Gh l] H (Am (.bool (Es l)) H):=by
 have Z:=hl.1;refine dci Tryz.func39 Tryz.call39 ?_;simp only[go_sem,Gh];obtain⟨I,D⟩: ∃I:Nat->(Nat->DVal)->Ab->Prop,∀k env heap,I k env heap↔(env 0= .vslice (l.flatMap Gw) l.length/\env 3=dI (Pr (l.take k):Nat)/\env 4=dI k/\k<=l.length/\Pr (l.take k)<=k*16777216/\(∀x∈l.take k,Fp x=true)/\heap=H):=⟨_,λ_ _ _=>Iff.rfl⟩;refine Ea9.run I (λk=>l.length-k) 0 ((D _ _ _).2 ?_) ?_
 ·simp only[go_sem];simp [Pr]
 ·intro k env heap hi;obtain⟨E,en,J,hk,hs,hp,rfl⟩:=(D _ _ _).1 hi;have hfl:=Ak Eo l;by_cases L:k<l.length
  ·(have W:(k:Int)<(l.length:Int):=by omega);(have aa:IntKind.i64.wrap ((k:Int)+1)=((k+1:Nat):Int):=by rw[IntKind.wrap_i64];omega);have mx:=List.getElem_mem L;have hst:Fp l[k]=true-> ∀x∈l.take (k+1),Fp x=true:=Qf L hp;have M:=Dv9 L;have U:=Bh Eo l k L;obtain⟨x,hx⟩: ∃x,x=l[k]:=⟨_,rfl⟩;rw[<-hx] at U mx hst M;have C:=hl.2 x mx;have fn:=C.1.1;have ab:IntKind.i64.wrap ((Pr (l.take k):Nat)+(x.names.length:Int))=((Pr (l.take (k+1)):Nat):Int):=by
    rw[M,IntKind.wrap_i64];omega
   simp(disch:=omega)only[go_sem,E,J,W,hfl,jD,U];intro r hr;dsimp only at hr;have y:upd heap r (some (.cells (Gw x) 136)) r=some (.cells (Gw x) 136):=Aa _ _ _;simp only[go_sem,y,Eo,Bx2];refine Ad.monoR (Af8 G _ x.names 8 C.1) ?_;cases h1:Ey x.names 8
   ·simp only[go_sem];exact Dj.dropA r hr (Dj.refl ⟨by rw[Es,Hz mx (by simp [Fp,h1])];rfl,rfl⟩)
   simp only[go_sem,y,Eo,Ef6];refine Ad.monoR (Nx G _ x.type C.2.1) ?_;cases h2:Ga x.type
   ·simp only[go_sem];exact Dj.dropA r hr (Dj.refl ⟨by rw[Es,Hz mx (by simp [Fp,h2])];rfl,rfl⟩)
   simp only[go_sem,y,Eo,Bd9];refine Ad.monoR (Bi8 G _ x.e C.2.2) ?_;cases h3:Gk x.e
   ·simp only[go_sem];exact Dj.dropA r hr (Dj.refl ⟨by rw[Es,Hz mx (by simp [Fp,h3])];rfl,rfl⟩)
   by_cases S:x.mode<1
   ·simp only[go_sem,y,Xk,S];(have hb:Fp x=false:=by unfold Fp;rw[decide_eq_false (show¬1<=x.mode by omega)];simp);exact Dj.dropA r hr (Dj.refl ⟨by rw[Es,Hz mx hb];rfl,rfl⟩)
   by_cases V:3<x.mode
   ·simp only[go_sem,y,Xk,S,V];(have hb:Fp x=false:=by unfold Fp;rw[decide_eq_false (show¬x.mode<=3 by omega)];simp);exact Dj.dropA r hr (Dj.refl ⟨by rw[Es,Hz mx hb];rfl,rfl⟩)
   by_cases O:x.mode=1
   ·simp(disch:=omega)only[go_sem,en,J,y,Bx2,Xk,O,dW];refine⟨k+1,_,Rn.drop _ r,(D _ _ _).2 ?_,by omega⟩;simp only[go_sem,E];(repeat' apply And.intro)<;>(try first|rfl|assumption|omega)
    ·rw[M];rfl
    ·exact hst (by simp [Fp,h1,h2,h3,O])
    ·exact To hr
   ·simp only[go_sem,y,Eo,Xk,Bd9,S,O,V];refine Ad.monoR (Df G _ x.e C.2.2) ?_;cases h4:noE x.e
    ·simp only[go_sem];exact Dj.dropA r hr (Dj.refl ⟨by rw[Es,Hz mx (by simp [Fp,h4,O])];rfl,rfl⟩)
    simp(disch:=omega)only[go_sem,en,J,y,Bx2,dW];refine⟨k+1,_,Rn.drop _ r,(D _ _ _).2 ?_,by omega⟩;simp(disch:=omega)only[go_sem,E];(repeat' apply And.intro)<;>(try first|rfl|assumption|omega)
    ·rw[M];rfl
    ·exact hst (by simp [Fp,h1,h2,h3,h4];omega)
    ·exact To hr
  ·(have:k=l.length:=by omega);subst this;have X:=Uh hp;rw[List.take_length] at en;(have Y: ¬(l.length:Int)<(l.length:Int):=by omega);simp only[go_sem,E,en,J,Y];exact Dj.refl ⟨by rw[Es,X];simp;omega,rfl⟩
end
theorem Fr3 {w r x:List DVal} (hw:w.length=9):x++List.drop 9 (w++r)=x++r:=by rw[List.drop_left' hw]
theorem Fr4 {m n:Nat} {pre w r x:List DVal} (hp:pre.length=m) (hw:w.length=9) (y:n=m+9):List.take m (pre++(w++r))++x++List.drop n (pre++(w++r))=(pre++x)++r:=by
 subst y;rw[List.take_left' hp,<-List.drop_drop,List.drop_left' hp,List.drop_left' hw]
theorem Fr5 {m n:Nat} {pre w x:List DVal} (hp:pre.length=m) (hw:w.length=9) (y:n=m+9):List.take m (pre++w)++x++List.drop n (pre++w)=pre++x:=by
 subst y;rw[List.take_left' hp,<-List.drop_drop,List.drop_left' hp,List.drop_eq_nil_of_le (by omega),jH]
theorem Ev4 {x y z:List DVal} (hx:x.length=9) (D:y.length=9) (hz:z.length=9):
  (if 9<=(By 3 zY).length then(if 18<=(x++List.drop 9 (By 3 zY)).length then(if 27<=(List.take 9 (x++List.drop 9 (By 3 zY))++y++List.drop 18 (x++List.drop 9 (By 3 zY))).length then some (List.take 18 (List.take 9 (x++List.drop 9 (By 3 zY))++y++List.drop 18 (x++List.drop 9 (By 3 zY)))++z++List.drop 27 (List.take 9 (x++List.drop 9 (By 3 zY))++y++List.drop 18 (x++List.drop 9 (By 3 zY)))) else none) else none) else none)=some (x++y++z):=by
 have e: ∀w:List DVal,By 3 w=w++(w++(w)):=λw=>by simp [By]
 obtain⟨w,hw⟩: ∃w:List DVal,w= zY:=⟨_,rfl⟩;have C:w.length=9:=by rw[hw];rfl
 rw[<-hw,e];clear hw e;rw[Fr3 C];rw[Fr4 (pre:=x) (m:=9) (n:=18) (by simp [hx]) C rfl];rw[Fr5 (pre:=(x++y)) (m:=18) (n:=27) (by simp [hx,D]) C rfl]
 repeat rw [if_pos (by simp [C,hx,D])]
theorem Ev5 {x y z u:List DVal} (hx:x.length=9) (D:y.length=9) (hz:z.length=9) (E:u.length=9):
  (if 9<=(By 4 zY).length then(if 18<=(x++List.drop 9 (By 4 zY)).length then(if 27<=(List.take 9 (x++List.drop 9 (By 4 zY))++y++List.drop 18 (x++List.drop 9 (By 4 zY))).length then(if 36<=(List.take 18 (List.take 9 (x++List.drop 9 (By 4 zY))++y++List.drop 18 (x++List.drop 9 (By 4 zY)))++z++List.drop 27 (List.take 9 (x++List.drop 9 (By 4 zY))++y++List.drop 18 (x++List.drop 9 (By 4 zY)))).length then some (List.take 27 (List.take 18 (List.take 9 (x++List.drop 9 (By 4 zY))++y++List.drop 18 (x++List.drop 9 (By 4 zY)))++z++List.drop 27 (List.take 9 (x++List.drop 9 (By 4 zY))++y++List.drop 18 (x++List.drop 9 (By 4 zY))))++u++List.drop 36 (List.take 18 (List.take 9 (x++List.drop 9 (By 4 zY))++y++List.drop 18 (x++List.drop 9 (By 4 zY)))++z++List.drop 27 (List.take 9 (x++List.drop 9 (By 4 zY))++y++List.drop 18 (x++List.drop 9 (By 4 zY))))) else none) else none) else none) else none)=some (x++y++z++u):=by
 have e: ∀w:List DVal,By 4 w=w++(w++(w++(w))):=λw=>by simp [By]
 obtain⟨w,hw⟩: ∃w:List DVal,w= zY:=⟨_,rfl⟩;have C:w.length=9:=by rw[hw];rfl
 rw[<-hw,e];clear hw e;rw[Fr3 C];rw[Fr4 (pre:=x) (m:=9) (n:=18) (by simp [hx]) C rfl];rw[Fr4 (pre:=(x++y)) (m:=18) (n:=27) (by simp [hx,D]) C rfl];rw[Fr5 (pre:=(x++y++z)) (m:=27) (n:=36) (by simp [hx,D,hz]) C rfl]
 repeat rw [if_pos (by simp [C,hx,D,hz])]
section
variable (t:Typ)
theorem Gi2:((Cf t).drop 20).take 9=dEx t.sub.name:=by
 simp only[Cf,Db,Du,jE,jO];rw[Dv _ _ 9,Dv _ _ 0,jJ,Pm]
theorem Gi3:((Cf t).drop 29).take 9=dEx t.sub.lo:=by
 simp only[Cf,Db,Du,jE,jO];rw[Dv _ _ 18,Dv _ _ 9,Dv _ _ 0,jJ,Pm]
theorem Gi4:((Cf t).drop 38).take 9=dEx t.sub.hi:=by
 simp only[Cf,Db,Du,jE,jO];rw[Dv _ _ 27,Dv _ _ 18,Dv _ _ 9,Dv _ _ 0,jJ,Pm]
theorem Gi5:((Cf t).drop 47).take 9=dEx t.sub.value:=by
 simp only[Cf,Db,Du,jE,jO];rw[Dv _ _ 36,Dv _ _ 27,Dv _ _ 18,Dv _ _ 9,Dv _ _ 0,jJ,Pm]
theorem Gi6:((Cf t).drop 56).take 9=dEx t.disc.name:=by
 simp only[Cf,Db,Du,jE,jO];rw[Dv _ _ 45,Dv _ _ 36,Dv _ _ 27,Dv _ _ 18,Dv _ _ 9,Dv _ _ 0,jJ,Pm]
theorem Gi7:((Cf t).drop 65).take 9=dEx t.disc.lo:=by
 simp only[Cf,Db,Du,jE,jO];rw[Dv _ _ 54,Dv _ _ 45,Dv _ _ 36,Dv _ _ 27,Dv _ _ 18,Dv _ _ 9,Dv _ _ 0,jJ,Pm]
theorem Gi8:((Cf t).drop 74).take 9=dEx t.disc.hi:=by
 simp only[Cf,Db,Du,jE,jO];rw[Dv _ _ 63,Dv _ _ 54,Dv _ _ 45,Dv _ _ 36,Dv _ _ 27,Dv _ _ 18,Dv _ _ 9,Dv _ _ 0,jJ,Pm]
end
theorem xft:(false==true)=false:=rfl
theorem xtf:(true==false)=false:=rfl
theorem xff:(false==false)=true:=rfl
theorem xtt:(true==true)=true:=rfl
theorem Gy3 (G:Nat->DVal) (H:Ab) (l:List Int) (t:Int) (hl:l.length<=1099511627776):
  Ad Tryz.prog G 211 [.vslice (l.map (.int .u8)) l.length,.int .u8 t] H (Am (dI (Bk5 (λx=>decide (t=x)) l)) H):=by
 refine dci Tryz.func211 Tryz.call211 ?_;simp only[go_sem];refine Ea9.run (λ(i:Nat) env heap=>heap=H/\env 0= .vslice (l.map (.int .u8)) l.length/\env 1= .int .u8 t/\env 7=dI l.length/\env 8=dI i/\i<=l.length/\ ∀x∈l.take i,decide (t=x)=false) (λi=>l.length-i) 0 ?_ ?_
 ·simp only[go_sem];simp
 ·rintro i env heap ⟨rfl,h0,h1,h7,h8,hi,hn⟩;by_cases y:i<l.length
  ·(have C:(l.map (DVal.int .u8))[i]? =some (.int .u8 l[i]):=by rw[List.getElem?_map,List.getElem?_eq_getElem y];rfl);by_cases hx:t=l[i]
   ·simp(disch:=omega)only[go_sem,h0,h1,h7,h8,C,<-hx,jK];exact Dj.refl ⟨by rw[Ai1 y (by simp [hx]) hn],rfl⟩
   ·simp(disch:=omega)only[go_sem,h0,h1,h7,h8,C,hx,jK];refine⟨i+1,_,Rn.refl _, ?_,by omega⟩;simp(disch:=omega)only[go_sem,h0,h1,h7];(repeat' apply And.intro)<;>(try first|rfl|assumption|omega);exact Jm y hn (by simp [hx])
  ·simp(disch:=omega)only[go_sem,h7,h8];(have:i=l.length:=by omega);subst this;rw[List.take_length] at hn;exact Dj.refl ⟨by rw[Ai2 hn],rfl⟩
theorem Ev6 (G:Nat->DVal) (H:Ab) (l:List Int) (t:Int) (hl:l.length<=1099511627776):
  Ad Tryz.prog G 111 [.vslice (l.map (.int .u8)) l.length,.int .u8 t] H (Am (.bool (l.any λx=>decide (t=x))) H):=by
 refine dci Tryz.func111 Tryz.call111 ?_;simp only[go_sem];refine .monoR (Gy3 G H l t hl) ?_;simp only[go_sem];exact Dj.refl ⟨by rw[Wr],rfl⟩
theorem Ou (G:Nat->DVal) (K:Ab) (t:Typ) (y q:Nat) (l:List Int) (b:Bool) (C:K y=some (.cells (Cf t) 62)) (D:K q=none) (hl:l.length<=1000) (hb:(l.any λx=>decide (t.kind=x))=b):
  Ad Tryz.prog G 110 [.oslice 1 q 0 l.length l.length,.optr y 0] (upd K q (some (.cells (l.map (.int .u8)) 53))) (Am (.bool b) K):=by
 subst hb;refine Ad.fzA q D ?_;have n:y≠q:=Ac D C;simp only[fzs,fz,if_neg n,if_pos,jJ,Nat.mul_one];rw[List.take_of_length_le (by simp)];refine dci Tryz.func110 Tryz.call110 ?_;simp only[go_sem,C,Fq6];refine Ad.monoR (Ev6 G K l t.kind (by omega)) ?_;simp only[go_sem];exact Dj.refl ⟨rfl,rfl⟩
theorem Bj0 (G:Nat->DVal) (K:Ab) (l:List Ex) (q:Nat) (b:Bool) (cs:List DVal) (y:l.flatMap dEx=cs) (C:K q=none) (hl:l.length<=1099511627776) (hb: ∀x∈l,Cp 16777216 x) (hr:l.all noE=b):
  Ad Tryz.prog G 112 [.oslice 9 q 0 l.length l.length] (upd K q (some (.cells cs 27))) (Am (.bool b) K):=by
 subst hr;subst y;refine Ad.fzA q C ?_;have hfl:=Ak Af l;simp only[fzs,fz,if_pos,jJ];rw[List.take_of_length_le (by omega)];exact Ci4 G K l hl hb
theorem Zh {l:List Arm} {k:Nat} (y:k<l.length):Lu (l.take (k+1))=Lu (l.take k)+Cr l[k].comps:=by
 rw[Lu,Lu,List.take_add_one,List.getElem?_eq_getElem y,List.map_append,List.sum_append];simp
theorem Rj {l:List Cmp} (hl:Ei Ka 16777216 l):Cr l<=281474976710656:=by
 have h: ∀l:List Cmp,(∀x∈l,Ka 16777216 x)->Cr l<=l.length*16777216:=by
  intro l
  induction l with
  |nil=>intro _;simp [Cr]
  |cons x l ih=>
   intro h;have h1:=ih λy C=>h y (List.mem_cons_of_mem _ C);have h2:=(h x (List.mem_cons_self ..)).1.1;(have e:Cr (x::l)=x.names.length+Cr l:=by simp [Cr]);rw[e,jA];omega
 have h1:=h l hl.2;have h2:=hl.1;omega
def Jh (t:Typ) (k:Nat):Nat:=Cr t.comps+Lu (t.arms.take k)
theorem Cr4 (t:Typ):Jh t 0=Cr t.comps:=by simp [Jh,Lu]
section
variable {G:Nat->DVal} (hG:GX G)
include hG
theorem Gy4 (K:Ab) (l:List Ex) (q:Nat) (b:Bool) (cs:List DVal) (y:l.flatMap dEx=cs) (C:K q=none) (hl:l.length<=1099511627776) (hb: ∀x∈l,Cp 16777216 x) (hr:l.all Bu=b):
  Ad Tryz.prog G 102 [.oslice 9 q 0 l.length l.length] (upd K q (some (.cells cs 27))) (Am (.bool b) K):=by
 subst hr;subst y;refine Ad.fzA q C ?_;have hfl:=Ak Af l;simp only[fzs,fz,if_pos,jJ];rw[List.take_of_length_le (by omega)];exact Bx1 hG K l hl hb
theorem Dg1 (H:Ab) (t:Typ) (ht:Lb 16777216 t):Ad Tryz.prog G 107 [.agg (Cf t)] H (Am (.bool (Gs t)) H):=by
 obtain⟨f0,f1,f2,f3,f4,f5,f6,f7⟩:=ht;refine dci Tryz.func107 Tryz.call107 ?_;simp only[go_sem,DVal.cells];intro r1 ai;dsimp only at ai;obtain⟨K,hK⟩: ∃K',K'=upd H r1 (some (.cells (Cf t) 62)):=⟨_,rfl⟩;rw[<-hK];have M:K r1=some (.cells (Cf t) 62):=by rw[hK];exact Aa _ _ _
 have y:Sub H K:=by rw[hK];exact(Sub.refl _).new ai _
 simp only[go_sem,M,Dv6];refine Ad.monoR (Zg hG K t.comps f5) ?_;cases h1:t.comps.all En
 ·simp only[go_sem];exact Dj.sub y (.refl ⟨by simp [Gs,h1],rfl⟩)
 by_cases h2:16<t.arms.length
 ·have ab:(16:Int)<(t.arms.length:Int):=by omega
  simp only[go_sem,M,Af6,Ep,ab];exact Dj.sub y (.refl ⟨by simp [Gs,h1];omega,rfl⟩)
 have ab: ¬(16:Int)<(t.arms.length:Int):=by omega
 by_cases hv:t.var= []
 ·by_cases ha:t.arms.length=0
  ·(have D:(t.arms.length:Int)=0:=by omega);(have O:Gs t=(t.arms.all Eu&&decide (Cr t.comps+Lu t.arms<=32)):=by simp [Gs,h1,hv,ha]);simp(disch:=omega)only[go_sem,M,Be0,Af6,Ep,hv,D,xtt];have aj:=Rj f5;obtain⟨I,S⟩: ∃I:Nat->(Nat->DVal)->Ab->Prop,∀k env heap,I k env heap↔(env 1= .optr r1 0/\env 3=dI (Jh t k:Nat)/\env 45=Ep t.arms/\env 46=dI t.arms.length/\env 47=dI k/\k<=t.arms.length/\Jh t k<=(k+1)*281474976710656/\(∀x∈t.arms.take k,Eu x=true)/\heap=K):=⟨_,λ_ _ _=>Iff.rfl⟩;refine Ea9.run I (λk=>t.arms.length-k) 0 ((S _ _ _).2 ?_) ?_
   ·simp only[go_sem,Ep,Cr4];simp;try omega
   ·(try clear D);(try clear ha);intro k env heap hi;obtain⟨e1,W,X,U,V,hk,hs,hp,rfl⟩:=(S _ _ _).1 hi;by_cases E:k<t.arms.length
    ·(have ac:(k:Int)<(t.arms.length:Int):=by omega);(have ad:IntKind.i64.wrap ((k:Int)+1)=((k+1:Nat):Int):=by rw[IntKind.wrap_i64];omega);have mx:=List.getElem_mem E;have hst:Eu t.arms[k]=true-> ∀x∈t.arms.take (k+1),Eu x=true:=Qf E hp;(have Y:Jh t (k+1)=Jh t k+Cr t.arms[k].comps:=by rw[Jh,Zh E,Jh];omega);have Z:=Bh Fa t.arms k E;obtain⟨x,hx⟩: ∃x,x=t.arms[k]:=⟨_,rfl⟩;rw[<-hx] at Z mx hst Y;have J:=f7.2 x mx;have fn:=Rj J.2;have fc:=J.1.1;have ae:IntKind.i64.wrap ((Jh t k:Nat)+(Cr x.comps:Int))=((Jh t (k+1):Nat):Int):=by
      rw[Y,IntKind.wrap_i64];omega
     simp(disch:=omega)only[go_sem,X,U,V,Ep,ac,Ak Fa,jD,Z];intro C L;dsimp only at L;have aa:upd heap C (some (.cells (Kk x) 164)) C=some (.cells (Kk x) 164):=Aa _ _ _;simp only[go_sem,aa,Fa,Ci6];refine Ad.monoR (Zg hG _ x.comps J.2) ?_;cases h3:x.comps.all En
     ·simp only[go_sem];exact Dj.dropA C L (Dj.sub y (.refl ⟨by rw[O,Hz mx (by simp [Eu,h3])];rfl,rfl⟩))
     simp only[go_sem,aa,Ci5];refine Ad.monoR (Nn hG _ x.c (by omega) J.1.2) ?_;cases h4:Ia x.c
     ·simp only[go_sem];exact Dj.dropA C L (Dj.sub y (.refl ⟨by rw[O,Hz mx (by simp [Eu,h4])];rfl,rfl⟩))
     simp only[go_sem,W,V,ae];refine⟨k+1,_,Rn.drop _ C,(S _ _ _).2 ?_,by omega⟩;simp only[go_sem,e1,X,U,ad];(repeat' apply And.intro)<;>(try first|rfl|assumption|omega)
     ·exact hst (by simp [Eu,h3,h4])
     ·exact To L
    ·(have:k=t.arms.length:=by omega);subst this;have af:=Uh hp;(have hN:Jh t t.arms.length=Cr t.comps+Lu t.arms:=by rw[Jh,List.take_length]);(have ag: ¬(t.arms.length:Int)<(t.arms.length:Int):=by omega);simp only[go_sem,W,U,V,ag];exact Dj.sub y (.refl ⟨by rw[O,af,hN,jS];congr 2;simp;omega,rfl⟩)
  ·(have D: ¬(t.arms.length:Int)=0:=by omega);simp only[go_sem,M,Be0,Af6,Ep,ab,hv,D,xtf];have ah: ¬t.arms= []:=λe=>ha (by rw[e];rfl);exact Dj.sub y (.refl ⟨by simp [Gs,h1,hv,ah],rfl⟩)
 ·by_cases ha:t.arms.length=0
  ·(have D:(t.arms.length:Int)=0:=by omega);simp(disch:=omega)only[go_sem,M,Be0,Af6,Ep,hv,D,xft];exact Dj.sub y (.refl ⟨by simp [Gs,h1,hv,ha],rfl⟩)
  ·(have D: ¬(t.arms.length:Int)=0:=by omega);simp only[go_sem,M,Be0,Af6,Ep,ab,hv,D,xff];refine Ad.monoR (Yn hG K t.var f6.1) ?_;cases h3:Iv t.var
   ·simp only[go_sem];exact Dj.sub y (.refl ⟨by simp [Gs,hv,h3],rfl⟩)
   ·have O:Gs t=(t.arms.all Eu&&decide (Cr t.comps+Lu t.arms<=32)):=by
     (have ak:t.arms.length<=16:=by omega);have ah: ¬t.arms= []:=λe=>ha (by rw[e];rfl);simp [Gs,h1,hv,ah,h3,ak]
    simp only[go_sem,M,Af6,Ep];have aj:=Rj f5;obtain⟨I,S⟩: ∃I:Nat->(Nat->DVal)->Ab->Prop,∀k env heap,I k env heap↔(env 1= .optr r1 0/\env 3=dI (Jh t k:Nat)/\env 45=Ep t.arms/\env 46=dI t.arms.length/\env 47=dI k/\k<=t.arms.length/\Jh t k<=(k+1)*281474976710656/\(∀x∈t.arms.take k,Eu x=true)/\heap=K):=⟨_,λ_ _ _=>Iff.rfl⟩;refine Ea9.run I (λk=>t.arms.length-k) 0 ((S _ _ _).2 ?_) ?_
    ·simp only[go_sem,Ep,Cr4];simp;try omega
    ·(try clear D);(try clear ha);intro k env heap hi;obtain⟨e1,W,X,U,V,hk,hs,hp,rfl⟩:=(S _ _ _).1 hi;by_cases E:k<t.arms.length
     ·(have ac:(k:Int)<(t.arms.length:Int):=by omega);(have ad:IntKind.i64.wrap ((k:Int)+1)=((k+1:Nat):Int):=by rw[IntKind.wrap_i64];omega);have mx:=List.getElem_mem E;have hst:Eu t.arms[k]=true-> ∀x∈t.arms.take (k+1),Eu x=true:=Qf E hp;(have Y:Jh t (k+1)=Jh t k+Cr t.arms[k].comps:=by rw[Jh,Zh E,Jh];omega);have Z:=Bh Fa t.arms k E;obtain⟨x,hx⟩: ∃x,x=t.arms[k]:=⟨_,rfl⟩;rw[<-hx] at Z mx hst Y;have J:=f7.2 x mx;have fn:=Rj J.2;have fc:=J.1.1;have ae:IntKind.i64.wrap ((Jh t k:Nat)+(Cr x.comps:Int))=((Jh t (k+1):Nat):Int):=by
       rw[Y,IntKind.wrap_i64];omega
      simp(disch:=omega)only[go_sem,X,U,V,Ep,ac,Ak Fa,jD,Z];intro C L;dsimp only at L;have aa:upd heap C (some (.cells (Kk x) 164)) C=some (.cells (Kk x) 164):=Aa _ _ _;simp only[go_sem,aa,Fa,Ci6];refine Ad.monoR (Zg hG _ x.comps J.2) ?_;cases h3:x.comps.all En
      ·simp only[go_sem];exact Dj.dropA C L (Dj.sub y (.refl ⟨by rw[O,Hz mx (by simp [Eu,h3])];rfl,rfl⟩))
      simp only[go_sem,aa,Ci5];refine Ad.monoR (Nn hG _ x.c (by omega) J.1.2) ?_;cases h4:Ia x.c
      ·simp only[go_sem];exact Dj.dropA C L (Dj.sub y (.refl ⟨by rw[O,Hz mx (by simp [Eu,h4])];rfl,rfl⟩))
      simp only[go_sem,W,V,ae];refine⟨k+1,_,Rn.drop _ C,(S _ _ _).2 ?_,by omega⟩;simp only[go_sem,e1,X,U,ad];(repeat' apply And.intro)<;>(try first|rfl|assumption|omega)
      ·exact hst (by simp [Eu,h3,h4])
      ·exact To L
     ·(have:k=t.arms.length:=by omega);subst this;have af:=Uh hp;(have hN:Jh t t.arms.length=Cr t.comps+Lu t.arms:=by rw[Jh,List.take_length]);(have ag: ¬(t.arms.length:Int)<(t.arms.length:Int):=by omega);simp only[go_sem,W,U,V,ag];exact Dj.sub y (.refl ⟨by rw[O,af,hN,jS];congr 2;simp;omega,rfl⟩)
theorem Hi8 (K:Ab) (t:Typ) (y:Nat) (C:Lb 16777216 t) (D:K y=some (.cells (Cf t) 62)):Ad Tryz.prog G 99 [.optr y 0] K (Am (.bool (Ey t.names 64)) K):=by
 obtain⟨E,I,J,L,M,O,S,U⟩:=C;refine dci Tryz.func99 Tryz.call99 ?_;simp only[go_sem,D,Fq7];refine Ad.monoR (Ap7 hG K t.names 64 E) ?_;simp only[go_sem];exact Dj.refl ⟨rfl,rfl⟩
theorem Hi9 (K:Ab) (t:Typ) (y:Nat) (C:Lb 16777216 t) (D:K y=some (.cells (Cf t) 62)):Ad Tryz.prog G 101 [.optr y 0] K (Am (.bool (Bu t.lo&&Bu t.hi)) K):=by
 obtain⟨E,I,J,L,M,O,S,U⟩:=C;refine dci Tryz.func101 Tryz.call101 ?_;simp only[go_sem,D,Fq,Fq8,Dv5,Kt (Af _) (Af _)];intro q hq;simp only[go_sem];refine Ad.monoR (Gy4 hG K [t.lo,t.hi] q _ _ (by simp) hq (by simp) (by intro x hx;simp at hx;rcases hx with rfl|rfl<;>assumption) rfl) ?_;simp only[go_sem];exact Dj.refl ⟨by simp,rfl⟩
theorem Hj0 (K:Ab) (t:Typ) (y:Nat) (C:Lb 16777216 t) (D:K y=some (.cells (Cf t) 62)):Ad Tryz.prog G 103 [.optr y 0] K (Am (.bool (Co t.sub)) K):=by
 obtain⟨I,J,L,E,M,O,S,U⟩:=C;refine dci Tryz.func103 Tryz.call103 ?_;simp only[go_sem,D,Fq,Bx4];refine Ad.monoR (Ot hG K t.sub E) ?_;simp only[go_sem];exact Dj.refl ⟨rfl,rfl⟩
theorem Hj1 (K:Ab) (t:Typ) (y:Nat) (D:Lb 16777216 t) (C:K y=some (.cells (Cf t) 62)):Ad Tryz.prog G 105 [.optr y 0] K (Am (.bool (Co t.sub&&Dt t.disc)) K):=by
 obtain⟨J,L,M,E,I,O,S,U⟩:=D;refine dci Tryz.func105 Tryz.call105 ?_;simp only[go_sem,C,Fq,Bx4];refine Ad.monoR (Ot hG K t.sub E) ?_;cases h1:Co t.sub
 ·simp only[go_sem];exact Dj.refl ⟨rfl,rfl⟩
 simp only[go_sem,C,Fq,Cr3];refine Ad.monoR (Af9 hG K t.disc I) ?_;simp only[go_sem];exact Dj.refl ⟨by simp,rfl⟩
theorem Hj2 (K:Ab) (t:Typ) (y:Nat) (C:Lb 16777216 t) (D:K y=some (.cells (Cf t) 62)):Ad Tryz.prog G 106 [.optr y 0] K (Am (.bool (Gs t)) K):=by
 obtain⟨E,I,J,L,M,O,S,U⟩:=C;refine dci Tryz.func106 Tryz.call106 ?_;simp only[go_sem,D,Fq];refine Ad.monoR (Dg1 hG K t ⟨E,I,J,L,M,O,S,U⟩) ?_;simp only[go_sem];exact Dj.refl ⟨rfl,rfl⟩
theorem Hj3 (K:Ab) (t:Typ) (y:Nat) (C:Lb 16777216 t) (D:K y=some (.cells (Cf t) 62)):Ad Tryz.prog G 108 [.optr y 0] K (Am (.bool (Co t.sub)) K):=by
 obtain⟨I,J,L,E,M,O,S,U⟩:=C;refine dci Tryz.func108 Tryz.call108 ?_;simp only[go_sem,D,Fq,Bx4];refine Ad.monoR (Ot hG K t.sub E) ?_;simp only[go_sem];exact Dj.refl ⟨rfl,rfl⟩
theorem Hj4 (K:Ab):Ad Tryz.prog G 109 [] K (Am (.bool true) K):=by
 refine dci Tryz.func109 Tryz.call109 ?_;simp only[go_sem];exact Dj.refl ⟨rfl,rfl⟩
end
theorem Gi9 (a:Ex):
  (if 9<=(By 1 zY).length then some (dEx a++List.drop 9 (By 1 zY)) else none)=some (dEx a):=Ea (Af _)
theorem Gj0 (a b:Ex):
  (if 9<=(By 2 zY).length then(if 18<=(dEx a++List.drop 9 (By 2 zY)).length then some (List.take 9 (dEx a++List.drop 9 (By 2 zY))++dEx b++List.drop 18 (dEx a++List.drop 9 (By 2 zY))) else none) else none)=some (dEx a++dEx b):=Kt (Af _) (Af _)
theorem Gj1 (a b c:Ex):
  (if 9<=(By 3 zY).length then(if 18<=(dEx a++List.drop 9 (By 3 zY)).length then(if 27<=(List.take 9 (dEx a++List.drop 9 (By 3 zY))++dEx b++List.drop 18 (dEx a++List.drop 9 (By 3 zY))).length then some (List.take 18 (List.take 9 (dEx a++List.drop 9 (By 3 zY))++dEx b++List.drop 18 (dEx a++List.drop 9 (By 3 zY)))++dEx c++List.drop 27 (List.take 9 (dEx a++List.drop 9 (By 3 zY))++dEx b++List.drop 18 (dEx a++List.drop 9 (By 3 zY)))) else none) else none) else none)=some (dEx a++dEx b++dEx c):=Ev4 (Af _) (Af _) (Af _)
theorem Gj2 (a b c d:Ex):
  (if 9<=(By 4 zY).length then(if 18<=(dEx a++List.drop 9 (By 4 zY)).length then(if 27<=(List.take 9 (dEx a++List.drop 9 (By 4 zY))++dEx b++List.drop 18 (dEx a++List.drop 9 (By 4 zY))).length then(if 36<=(List.take 18 (List.take 9 (dEx a++List.drop 9 (By 4 zY))++dEx b++List.drop 18 (dEx a++List.drop 9 (By 4 zY)))++dEx c++List.drop 27 (List.take 9 (dEx a++List.drop 9 (By 4 zY))++dEx b++List.drop 18 (dEx a++List.drop 9 (By 4 zY)))).length then some (List.take 27 (List.take 18 (List.take 9 (dEx a++List.drop 9 (By 4 zY))++dEx b++List.drop 18 (dEx a++List.drop 9 (By 4 zY)))++dEx c++List.drop 27 (List.take 9 (dEx a++List.drop 9 (By 4 zY))++dEx b++List.drop 18 (dEx a++List.drop 9 (By 4 zY))))++dEx d++List.drop 36 (List.take 18 (List.take 9 (dEx a++List.drop 9 (By 4 zY))++dEx b++List.drop 18 (dEx a++List.drop 9 (By 4 zY)))++dEx c++List.drop 27 (List.take 9 (dEx a++List.drop 9 (By 4 zY))++dEx b++List.drop 18 (dEx a++List.drop 9 (By 4 zY))))) else none) else none) else none) else none)=some (dEx a++dEx b++dEx c++dEx d):=Ev5 (Af _) (Af _) (Af _) (Af _)
attribute [go_sem] Gi9 Gj0 Gj1 Gj2 Fq6 Fq7 Fq8 Dv5 Bx4 Cr3 Dv6 Be0 Af6 Fq9 Gi2 Gi3 Gi4 Gi5 Gi6 Gi7 Gi8
section
variable {G:Nat->DVal} (hG:GX G)
include hG
theorem Bj1 (H:Ab) (t:Typ) (V:Lb 16777216 t):Ad Tryz.prog G 24 [.agg (Cf t)] H (Am (.bool (Dn t)) H):=by
 have D:=V;obtain⟨f0,f1,f2,W,X,f5,f6,f7⟩:=V;obtain⟨-,k0,ae⟩:=f6;have Y: ∀x∈ [t.lo,t.hi],Cp 16777216 x:=by intro x hx;simp at hx;rcases hx with rfl|rfl<;>assumption
 have Z: ∀x∈ [t.sub.name,t.sub.lo,t.sub.hi,t.sub.value],Cp 16777216 x:=by
  obtain⟨i0,i1,i2,i3⟩:=W;intro x hx;simp at hx;rcases hx with rfl|rfl|rfl|rfl<;>assumption
 have pd: ∀x∈ [t.disc.name,t.disc.lo,t.disc.hi],Cp 16777216 x:=by
  obtain⟨i0,i1,i2⟩:=X;intro x hx;simp at hx;rcases hx with rfl|rfl|rfl<;>assumption
 have eb: [t.lo,t.hi].all noE=Vq t:=by simp [Vq]
 have ei: [t.sub.name,t.sub.lo,t.sub.hi,t.sub.value].all noE=Rg t.sub:=by simp [Rg,Bool.and_assoc]
 have ed: [t.disc.name,t.disc.lo,t.disc.hi].all noE=Rh t.disc:=by simp [Rh,Bool.and_assoc]
 refine dci Tryz.func24 Tryz.call24 ?_;simp(disch:=omega)only[go_sem,DVal.cells];intro y af;obtain⟨K0,E⟩: ∃K',K'=upd H y (some (.cells (Cf t) 62)):=⟨_,rfl⟩;rw[<-E];have I:=E.symm▸Aa _ _ _;have aa:=E.symm▸(Sub.refl _).new af _;simp(disch:=omega)only[go_sem];intro r3 ab;have ag:y≠r3:=Ac ab I;simp(disch:=omega)only[go_sem,ag,I];obtain⟨K,J⟩: ∃K',K'=upd K0 r3 (some (.cells [.nilFunc,.func (.func 99) [] [.optr y 0],.func (.func 101) [] [.optr y 0],.func (.func 103) [] [.optr y 0],.func (.func 105) [] [.optr y 0],.func (.func 106) [] [.optr y 0],.func (.func 108) [] [.optr y 0],.func (.func 109) [] []] 157)):=⟨_,rfl⟩;rw[<-J];have ac:=J.symm▸Aa _ _ _;have L:=J.symm▸(Sub.refl _).new ab _;have C:K y=some (.cells (Cf t) 62):=L _ _ I;have g3:=ac;have M:Sub H K:=aa.trans L;clear J E L aa I ac;by_cases O:t.kind=0
 ·have hk:=O;simp(disch:=omega)only[go_sem,hk];exact Dj.sub M (.refl ⟨by simp [Dn,Ub,Xh, *],rfl⟩)
 by_cases ad:8<=t.kind
 ·have h0: ¬t.kind=0:=O;simp(disch:=omega)only[go_sem,C,h0,ad];exact Dj.sub M (.refl ⟨by unfold Dn;rw[if_neg (by omega),if_neg (by omega),if_neg (by omega),if_neg (by omega),if_neg (by omega),decide_eq_false (by omega)];rfl,rfl⟩)
 have ah:t.kind=1\/t.kind=2\/t.kind=3\/t.kind=4\/t.kind=5\/t.kind=6\/t.kind=7:=by omega
 clear O ad k0 ae;rcases ah with hk|hk|hk|hk|hk|hk|hk;all_goals
  have w1:=λq hq=>Ou G K t y q [1] _ C hq (by decide) rfl;have w2:=λq hq=>Ou G K t y q [2] _ C hq (by decide) rfl;have w3:=λq hq=>Ou G K t y q [3,4,6] _ C hq (by decide) rfl;have S:=λq hq=>Ou G K t y q [4] _ C hq (by decide) rfl;have w5:=λq hq=>Ou G K t y q [5] _ C hq (by decide) rfl;have U:=λq hq=>Ou G K t y q [7] _ C hq (by decide) rfl;simp only[List.map,List.any,List.length,Nat.zero_add,Nat.reduceAdd,Bool.or_false] at w1 w2 w3 S w5 U
  repeat' first
   |with_reducible refine Ad.monoR (w1 _ (by assumption)) ?_
   |with_reducible refine Ad.monoR (w2 _ (by assumption)) ?_
   |with_reducible refine Ad.monoR (w3 _ (by assumption)) ?_
   |with_reducible refine Ad.monoR (S _ (by assumption)) ?_
   |with_reducible refine Ad.monoR (w5 _ (by assumption)) ?_
   |with_reducible refine Ad.monoR (U _ (by assumption)) ?_
   |with_reducible refine Ad.monoR (Hi8 hG K t y D C) ?_
   |with_reducible refine Ad.monoR (Hi9 hG K t y D C) ?_
   |with_reducible refine Ad.monoR (Hj0 hG K t y D C) ?_
   |with_reducible refine Ad.monoR (Hj1 hG K t y D C) ?_
   |with_reducible refine Ad.monoR (Hj2 hG K t y D C) ?_
   |with_reducible refine Ad.monoR (Hj3 hG K t y D C) ?_
   |with_reducible refine Ad.monoR (Hj4 hG K) ?_
   |(intro q hq;dsimp only at hq)
   |simp(disch:=omega)only[go_sem,dW,Ci,Ep, *]
   |(with_reducible refine Kd ?_ ?_<;>intro hb)
   |(with_reducible refine Iu ?_ ?_<;>intro hb)
   |refine Ad.monoR (Bj0 G K [t.lo,t.hi] _ _ _ (by simp) (by assumption) (by simp) Y eb) ?_
   |refine Ad.monoR (Bj0 G K [t.sub.name,t.sub.lo,t.sub.hi,t.sub.value] _ _ _ (by simp) (by assumption) (by simp) Z ei) ?_
   |refine Ad.monoR (Bj0 G K [t.disc.name,t.disc.lo,t.disc.hi] _ _ _ (by simp) (by assumption) (by simp) pd ed) ?_
   |(clear w1 w2 w3 S w5 U Y Z pd eb ei ed D f0 f1 f2 W X f5 f7 C g3;refine Dj.sub M (.refl ?_);refine⟨?_,rfl⟩;simp only[decide_eq_true_eq,decide_eq_false_iff_not,Bool.not_eq_true',Bool.not_eq_false',Gv3] at*;first|(simp [Dn,Ub,Xh, *];done)|(simp [Dn,Ub,Xh,hk];intros;simp_all;done))
end
end Go.Dl
-- A2
namespace Go.Dl
open Go
set_option maxRecDepth 10000
inductive Re (α:Type) where
 |ok (x:α) (k:Nat)
 |fail (k:Nat)
 |long
def Re.then {α β:Type}:Re α->(α->Nat->Re β)->Re β
 | .ok x k,f=>f x k
 | .fail k,_=> .fail k
 | .long,_=> .long
def Bx5 {α:Type} (k:Nat) (x:α×Int×Int):Re α:=if x.2.2=0 then .ok x.1 (k+x.2.1.toNat) else if x.2.2=30 then .fail (k+x.2.1.toNat) else .long
section
variable (l:List Tok)
def exR (lv:Int) (k:Nat):Re Ex:=Bx5 k (Gj (l.drop k) lv)
def chR (k:Nat):Re (List Ch):=Bx5 k (Ji (l.drop k))
def Eh {α:Type} (s:List UInt8) (k:Nat) (f:Nat->Re α):Re α:=if isW l k [s] then f (k+1) else .fail k
def Ov (k:Nat):Re (List UInt8):=if(tk l k).kind=1 then .ok (tk l k).text (k+1) else .fail k
def Ui {α:Type} (one:Nat->Re α) (more:Nat->Option Nat):Nat->List α->Nat->Re (List α)
 | 0,_,_=> .long
 |n+1,xs,k=>match more k with
  |none=> .ok xs k
  |some j=>(one j).then λa i=>Ui one more n (xs++ [a]) i
def Be2 {α:Type} (one:Nat->Re α) (more:Nat->Option Nat) (k:Nat):Re (List α):=(one k).then λa i=>Ui one more (l.length+1) [a] i
def byW (s:List UInt8) (k:Nat):Option Nat:=if isW l k [s] then some (k+1) else none
def byN (k:Nat):Option Nat:=if(tk l k).kind=1 then some k else none
def byI (s:List UInt8) (k:Nat):Option Nat:=if isW l k [s] then some k else none
def Zi (k:Nat):Re (List (List UInt8)):=Be2 l (Ov l) (byW l Dm) k
def markL (line:Int):Nat->Ex->Nat->Re Ex
 | 0,_,_=> .long
 |n+1,x,k=>if isW l k [Ju] then(Ov l (k+1)).then λs i=>markL line n (.mk 4 0 0 s [x] [] line 0 0) i else .ok x k
def Ag1 (k:Nat):Re Ex:=(Ov l k).then λs i=>markL l (tk l k).line (l.length+1) (.mk 3 0 0 s [] [] (tk l k).line 0 0) i
def Sl (k:Nat):Re (Ex×Ex):=(exR l 2 k).then λa i=>Eh l Et i λi=>(exR l 2 i).then λb i=> .ok (a,b) i
def Xm (k:Nat):Re Ind:=(Ag1 l k).then λm i=>
 if isW l i [Ew] then(Sl l (i+1)).then λb i=> .ok ⟨m,b.1,b.2,ex0⟩ i
 else if isW l i [Bc] then(exR l 0 (i+1)).then λv i=>Eh l Bs i λi=> .ok ⟨m,ex0,ex0,v⟩ i
 else .ok ⟨m,ex0,ex0,ex0⟩ i
def Be3 (k:Nat):Re Dis:=(exR l 2 k).then λx i=>
 if isW l i [Et] then(exR l 2 (i+1)).then λy i=> .ok ⟨ex0,x,y⟩ i
 else if Ga x&&isW l i [Ew] then(Sl l (i+1)).then λb i=> .ok ⟨x,b.1,b.2⟩ i
 else if !Ga x&&decide (x.kind≠6) then .fail i else .ok ⟨x,ex0,ex0⟩ i
def Rs (k:Nat):Re Ex:=if isW l k [Pf] then exR l 0 (k+1) else .ok ex0 k
def Al7 (k:Nat):Int×Nat:=if isW l k [wIn] then(if isW l (k+1) [Aw0] then(3,k+2) else(1,k+1)) else if isW l k [Aw0] then(2,k+1) else(1,k)
def Bk9 (k:Nat):Re Par:=(Zi l k).then λn i=>Eh l Rq i λi=>
 (Ag1 l (Al7 l i).2).then λt j=>(Rs l j).then λe j=> .ok ⟨n,(Al7 l i).1,t,e,(tk l k).line⟩ j
def Bx6 (k:Nat):Re (List Par):=Be2 l (Bk9 l) (byW l Hd) k
def Bx7 (k:Nat):Re Asp:=(Ov l k).then λn i=>Eh l Bp i λi=>(exR l 0 i).then λe i=> .ok ⟨n,e⟩ i
def Ci8 (k:Nat):Re (List Asp):=Be2 l (Bx7 l) (byW l Dm) k
def Cd2 (k:Nat):Re Cmp:=(Zi l k).then λn i=>Eh l Rq i λi=>(Xm l i).then λs i=>(Rs l i).then λe i=>Eh l Hd i λi=> .ok ⟨n,s,e,(tk l k).line⟩ i
def Sb (k:Nat):Re (List Cmp):=if isW l k [Gg] then Eh l Hd (k+1) λi=> .ok [] i else Be2 l (Cd2 l) (byN l) k
def Cd3 (k:Nat):Re Arm:=Eh l Pg k λi=>(chR l i).then λc i=>Eh l Bp i λi=>(Sb l i).then λm i=> .ok ⟨c,m⟩ i
def Bx8 (k:Nat):Re (List Arm):=Be2 l (Cd3 l) (byI l Pg) k
def Dw1 (k:Nat):Re Typ:=
 (if(tk l k).kind=1\/isW l k [Gg]=true then Sb l k else .ok [] k).then λc i=>
 (if isW l i [Lv] then(Ov l (i+1)).then λv i=>Eh l wIs i λi=>(Bx8 l i).then λa i=>Eh l Ri i λi=>Eh l Lv i λi=>Eh l Hd i λi=> .ok (v,a) i else .ok ([],[]) i).then λva i=>
 Eh l Ri i λi=>Eh l Cs i λi=> .ok ⟨5,[],ex0,ex0,Ak6,Ak7,c,va.1,va.2,false⟩ i
def Xn (k:Nat):Re Typ:=
 if isW l k [Bc] then(Zi l (k+1)).then λn i=>Eh l Bs i λi=> .ok { Lh with kind:=1,names:=n } i
 else if isW l k [Ew] then(Sl l (k+1)).then λb i=> .ok { Lh with kind:=2,lo:=b.1,hi:=b.2 } i
 else if isW l k [Lw] then Eh l Bc (k+1) λi=>(Be3 l i).then λd i=>Eh l Bs i λi=>Eh l wOf i λi=>(Xm l i).then λs i=> .ok { Lh with kind:=4,disc:=d,sub:=s } i
 else if isW l k [Cs] then Dw1 l (k+1)
 else if isW l k [Aw1] then(Xm l (k+1)).then λs i=> .ok { Lh with kind:=3,sub:=s } i
 else if isW l k [Mm] then(Xm l (k+1)).then λs i=> .ok { Lh with kind:=6,sub:=s } i
 else if isW l k [Gb] then .ok { Lh with kind:=7 } (k+1)
 else if isW l k [Kp] then Eh l Gb (k+1) λi=> .ok { Lh with kind:=7,limited:=true } i
 else if isW l k [Gg] then Eh l Cs (k+1) λi=> .ok { Lh with kind:=5 } i
 else .fail k
end
def Ii {α:Type} (r:Re α) (fine:α->Bool) (z:α):α×Int×Int:=match r with
 | .ok x k=>if fine x then(x,k,0) else(z,0,3)
 | .fail k=>(z,k,40)
 | .long=>(z,0,3)
def Zj (l:List Tok):Ind×Int×Int:=Ii (Xm l 0) Co Ak6
def Rt (l:List Tok):Dis×Int×Int:=Ii (Be3 l 0) Dt Ak7
def Zk (l:List Tok):List Par×Int×Int:=Ii (Bx6 l 0) Es []
def Dg2 (l:List Tok):List Asp×Int×Int:=Ii (Ci8 l 0) Gv []
def Dg3 (l:List Tok):List Cmp×Int×Int:=Ii (Sb l 0) Gn []
def My (l:List Tok):Typ×Int×Int:=Ii (Xn l 0) Dn Lh
end Go.Dl
-- Ha
namespace Go.Dl
open Go Go.Proofs
set_option maxRecDepth 100000
abbrev srO (l:List Tok) (k:Nat):DObj:= .cells [Be l,dI k] 246
def SRt (r:Nat) (l:List Tok) (k:Nat) (H0 H:Ab):Prop:=Sub (upd H0 r (some (srO l k))) H
section
variable {G:Nat->DVal} {H0 H:Ab} {r k:Nat} {l:List Tok}
theorem SRt.refl (h:H r=some (srO l k)):SRt r l k H H:=λb o hb=>by
 simp only[upd] at hb;split at hb
 ·rename_i e;subst e;rw[h];exact hb
 ·exact hb
theorem SRt.get (h:SRt r l k H0 H):H r=some (srO l k):=h _ _ (Aa _ _ _)
theorem SRt.set (h:SRt r l k H0 H) (k':Nat):SRt r l k' H0 (upd H r (some (srO l k'))):=λb o hb=>by
 simp only[upd] at hb⊢
 by_cases e:b=r
 ·rw[if_pos e] at hb⊢;exact hb
 ·rw[if_neg e] at hb⊢;exact h b o (by simp only[upd];rw[if_neg e];exact hb)
theorem SRt.own (h:SRt r l k H0 H) {x:Nat} (hx:H0 x=none) (hr:x≠r) (o:Option DObj):SRt r l k H0 (upd H x o):=Sub.up h (by simp only[upd];rw[if_neg hr];exact hx) o
theorem SRt.lo (h:SRt r l k H0 H) {x:Nat} (hx:H x=none):H0 x=none:=by
 have:=Sub.lo h hx;simp only[upd] at this;split at this
 ·cases this
 ·exact this
theorem SRt.fin {R:DEnd->Ab->Prop} {v:DVal} (h:SRt r l k H0 H) (y:R (.ret v) (upd H0 r (some (srO l k)))):Dj R v H:=Dj.sub h (.refl y)
theorem SRt.finP {R:DEnd->Ab->Prop} {v:DVal} (h:SRt r l k H0 H) (y:R (.panic v) (upd H0 r (some (srO l k)))):Tl R v H:=Tl.sub h y
theorem Ma (G:Nat->DVal) (H:Ab) (hr:H r=some (srO l k)) (hl:l.length<=16000000) (hk:k<=16000000):Ad Tryz.prog G 216 [.optr r 0] H (Am (.agg (Cu (tk l k))) H):=by
 unfold srO at hr;refine dci Tryz.func216 Tryz.call216 ?_;simp only[go_sem];intro y C;have D:r≠y:=Ac C hr;by_cases c:k<l.length
 ·have c':(k:Int)<(l.length:Int):=by omega
  have E:=Bh Az l k c;have hfl:=Ak Az l;rw[Fl1 c];simp only[go_sem];refine An pL12 ?_;simp only[go_sem,D,hr,c',Be];refine An (.take 0 (.take 1 (.take 2 (.take 3 (.take 4 (.take 5 (.take 6 (.take 7 (.take 8 (.take 9 (.go 10 [] .done))))))))))) ?_;simp only[go_sem,D,hr,c',Be,E,hfl,jD];simp(disch:=omega)only[go_sem,Cu];exact Dj.dropA y C (Dj.refl ⟨rfl,rfl⟩)
 ·have c': ¬(k:Int)<(l.length:Int):=by omega
  rw[Bt2 (by omega)];simp only[go_sem];refine An pL12 ?_;simp only[go_sem,D,hr,c',Be];exact Dj.dropA y C (Dj.refl ⟨rfl,rfl⟩)
theorem Hf9 (s:List UInt8):isW l k [s]=(decide ((tk l k).kind=Im s)&&decide ((tk l k).text=s)):=by
 rw[isW,isW,Bool.and_true]
theorem Aw6 (hG:GX G) (H:Ab) (s:List UInt8) (hr:H r=some (srO l k)) (hl:l.length<=16000000) (hk:k<=14400000):Ad Tryz.prog G 268 [.optr r 0,.str s] H (Am (.bool (isW l k [s])) H):=by
 have hm:=Hf9 (l:=l) (k:=k) s;refine dci Tryz.func268 Tryz.call268 ?_;simp only[go_sem];refine Ad.monoR (Wt hG _ s) ?_;cases hkb:Uq s
 ·simp only[go_sem];refine Ad.monoR (Ma G _ hr hl (by omega)) ?_;obtain⟨t,ht⟩: ∃t,t=tk l k:=⟨_,rfl⟩;rw[<-ht] at hm⊢
  simp only[go_sem];intro D E;by_cases y:t.kind=Im s
  ·rw[decide_eq_true y,jS] at hm;rw[Im,hkb] at y;simp only[↓reduceIte,Bool.false_eq_true] at y;by_cases C:t.text=s
   ·rw[decide_eq_true C] at hm;simp only[go_sem,Cu,y,C];exact Dj.dropA D E (Dj.refl ⟨by rw[hm],rfl⟩)
   ·rw[decide_eq_false C] at hm;simp only[go_sem,Cu,y,C];exact Dj.dropA D E (Dj.refl ⟨by rw[hm],rfl⟩)
  ·rw[decide_eq_false y,jT] at hm;rw[Im,hkb] at y;simp only[↓reduceIte,Bool.false_eq_true] at y;simp only[go_sem,Cu,y];exact Dj.dropA D E (Dj.refl ⟨by rw[hm],rfl⟩)
 ·simp only[go_sem];refine Ad.monoR (Ma G _ hr hl (by omega)) ?_;obtain⟨t,ht⟩: ∃t,t=tk l k:=⟨_,rfl⟩;rw[<-ht] at hm⊢
  simp only[go_sem];intro D E;by_cases y:t.kind=Im s
  ·rw[decide_eq_true y,jS] at hm;rw[Im,hkb] at y;simp only[↓reduceIte] at y;by_cases C:t.text=s
   ·rw[decide_eq_true C] at hm;simp only[go_sem,Cu,y,C];exact Dj.dropA D E (Dj.refl ⟨by rw[hm],rfl⟩)
   ·rw[decide_eq_false C] at hm;simp only[go_sem,Cu,y,C];exact Dj.dropA D E (Dj.refl ⟨by rw[hm],rfl⟩)
  ·rw[decide_eq_false y,jT] at hm;rw[Im,hkb] at y;simp only[↓reduceIte] at y;simp only[go_sem,Cu,y];exact Dj.dropA D E (Dj.refl ⟨by rw[hm],rfl⟩)
def SrQ (r:Nat) (l:List Tok) (H:Ab) (v:DVal) (k:Nat) (e:DEnd) (H':Ab):Prop:=e= .ret v/\H'=upd H r (some (srO l k))
def Ru (k e:Int):DVal:= .iface 248 (.agg [dI k,dI e])
theorem Ta (hG:GX G) (H:Ab) (s:List UInt8) (hr:H r=some (srO l k)) (hl:l.length<=16000000) (hk:k<=14400000):Ad Tryz.prog G 201 [.optr r 0,.str s] H (SrQ r l H (.bool (isW l k [s])) (if isW l k [s] then k+1 else k)):=by
 refine dci Tryz.func201 Tryz.call201 ?_;simp only[go_sem];refine Ad.monoR (Aw6 hG H s hr hl hk) ?_;cases h:isW l k [s] with
 |false=>
  simp only[go_sem];exact Dj.refl ⟨rfl,(Ef hr).symm⟩
 |true=>
  have y:IntKind.i64.wrap ((k:Int)+1)=((k+1:Nat):Int):=by rw[IntKind.wrap_i64];omega
  unfold srO at hr;simp only[go_sem,hr,y];exact Dj.refl ⟨rfl,rfl⟩
theorem Zl (G:Nat->DVal) (H:Ab) (hr:H r=some (srO l k)):Ad Tryz.prog G 202 [.optr r 0] H (λe H'=>e= .panic (Ru k 40)/\H'=H):=by
 unfold srO at hr;refine dci Tryz.func202 Tryz.call202 ?_;simp only[go_sem,hr];exact Tl.refl ⟨rfl,rfl⟩
theorem Sm (G:Nat->DVal) (H:Ab) (hr:H r=some (srO l k)) (hl:l.length<=16000000) (hk:k<=14400000):Ad Tryz.prog G 237 [.optr r 0] H (Am (.bool (decide ((tk l k).kind=1))) H):=by
 refine dci Tryz.func237 Tryz.call237 ?_;simp only[go_sem];refine Ad.monoR (Ma G _ hr hl (by omega)) ?_;simp only[go_sem,Cu];exact Dj.refl ⟨rfl,rfl⟩
def Re.mp {α β:Type} (f:α->β):Re α->Re β
 | .ok x k=> .ok (f x) k
 | .fail k=> .fail k
 | .long=> .long
def SrR (r:Nat) (l:List Tok) (H:Ab):Re DVal->DEnd->Ab->Prop
 | .ok v k,e,H'=>e= .ret v/\H'=upd H r (some (srO l k))
 | .fail k,e,H'=>e= .panic (Ru k 40)/\ ∃j,H'=upd H r (some (srO l j))
 | .long,e,H'=>e= .panic (Ru 0 3)/\ ∃j,H'=upd H r (some (srO l j))
abbrev SrF (P:Program) (G:Nat->DVal) (l:List Tok) (r:Nat) (f:FuncId) (args:List DVal) (res:Nat->Re DVal):Prop:=
 ∀H k,H r=some (srO l k)->k<=l.length->Ad P G f (.optr r 0::args) H (SrR r l H (res k))
theorem Qh (G:Nat->DVal) (hl:l.length<=12800000):SrF Tryz.prog G l r 230 [] (λk=>(Ov l k).mp .str):=by
 intro H k hr hk;dsimp only;refine dci Tryz.func230 Tryz.call230 ?_;simp only[go_sem];refine Ad.monoR (Sm G H hr (by omega) (by omega)) ?_;by_cases c:(tk l k).kind=1
 ·have C:k<l.length:=by
   rcases Nat.lt_or_ge k l.length with h|h
   ·exact h
   ·rw[Bt2 h] at c;exact absurd c (by decide)
  have E:IntKind.i64.wrap ((k:Int)+1)=((k+1:Nat):Int):=by rw[IntKind.wrap_i64];omega
  have I:IntKind.i64.wrap (((k+1:Nat):Int)-1)=(k:Int):=by rw[IntKind.wrap_i64];omega
  have J:(k:Int)<(l.length:Int):=by omega
  have D:=Bz Az l k C 2 (by decide);have L:(Cu l[k])[2]? =some (.str l[k].text):=rfl;rw[L] at D;have hfl:=Ak Az l;have y:Ov l k= .ok (tk l k).text (k+1):=by rw[Ov,if_pos c]
  rw[y];unfold srO at hr;rw[Fl1 C] at c⊢
  simp only[go_sem,decide_eq_true c,hr,E];refine An (.take 0 (.take 1 (.take 2 (.take 3 (.take 4 (.take 5 (.take 6 (.take 7 (.take 8 (.take 9 (.take 10 (.take 11 (.take 12 .done))))))))))))) ?_;simp(disch:=omega)only[go_sem,I,J,Be,D,hfl,jD];exact Dj.refl ⟨rfl,rfl⟩
 ·have y:Ov l k= .fail k:=by rw[Ov,if_neg c]
  rw[y];simp only[go_sem,decide_eq_false c];refine(Zl G H hr).mono ?_;rintro _ H1 ⟨rfl,rfl⟩;simp only[go_sem];exact Tl.refl ⟨rfl,k,(Ef hr).symm⟩
def Wf (l:List Tok):List (List UInt8)->Nat->Re DVal
 | [],k=> .ok (.tuple []) k
 |s::ws,k=>if isW l k [s] then Wf l ws (k+1) else .fail k
theorem Fu {s:List UInt8} (h:isW l k [s]=true) (hk:k<=l.length):k+1<=l.length:=by
 have:=Bf h hk
 rwa [jQ] at this
theorem Dw2 (hG:GX G) (hl:l.length<=12800000) (ws:List (List UInt8)) (aa:ws.length<=1000):SrF Tryz.prog G l r 199 [dW ws] (Wf l ws):=by
 intro H S hr ab;refine dci Tryz.func199 Tryz.call199 ?_;simp only[go_sem,dW];obtain⟨I,E⟩: ∃I:Nat×Nat->(Nat->DVal)->Ab->Prop,∀y env heap,I y env heap↔(env 0= .optr r 0/\env 6=dW ws/\env 7=dI ws.length/\env 8=dI y.1/\y.1<=ws.length/\y.2<=l.length/\Wf l ws S=Wf l (ws.drop y.1) y.2/\heap=upd H r (some (srO l y.2))):=⟨_,λ_ _ _=>Iff.rfl⟩;refine Ea9.run I (λy=>ws.length-y.1) (0,S) ((E _ _ _).2 ?_) ?_
 ·simp only[go_sem,dW];(repeat' apply And.intro)<;>(try first|rfl|assumption|omega);exact(Ef hr).symm
 ·rintro⟨j,k⟩ env heap hi;obtain⟨J,U,L,M,hj,hk,C,rfl⟩:=(E _ _ _).1 hi;dsimp only at hj hk C;have V:upd H r (some (srO l k)) r=some (srO l k):=Aa _ _ _;by_cases W:j<ws.length
  ·(have O:(j:Int)<(ws.length:Int):=by omega);(have Y:IntKind.i64.wrap ((j:Int)+1)=((j+1:Nat):Int):=by rw[IntKind.wrap_i64];omega);(have X:(ws.map DVal.str)[j]? =some (.str ws[j]):=by rw[List.getElem?_map,List.getElem?_eq_getElem W];rfl);have Z:(ws.map DVal.str).length=ws.length:=jK _;rw[List.drop_eq_getElem_cons W,Wf] at C;obtain⟨s,hs⟩: ∃s,s=ws[j]:=⟨_,rfl⟩;rw[<-hs] at X C;simp(disch:=omega)only[go_sem,J,U,L,M,O,dW,X,Z,jD];refine(Ta hG _ s V (by omega) (by omega)).mono ?_;rintro _ H1 ⟨rfl,D⟩;rw[Gt] at D;cases c:isW l k [s]
   ·rw[c,if_neg (by simp)] at D C;subst D;simp only[go_sem,J];refine(Zl G _ V).mono ?_;rintro _ H2 ⟨rfl,rfl⟩;simp only[go_sem];rw[C];exact Tl.refl ⟨rfl,k,rfl⟩
   ·rw[c,if_pos rfl] at D C;subst D;simp only[go_sem,M];refine⟨(j+1,k+1),_,Rn.refl _,(E _ _ _).2 ?_,by dsimp only;omega⟩;simp only[go_sem,J,U,L,Y];(repeat' apply And.intro)<;>(try first|rfl|assumption|omega);exact Fu c hk
  ·(have:j=ws.length:=by omega);subst this;(have O: ¬(ws.length:Int)<(ws.length:Int):=by omega);rw[List.drop_length,Wf] at C;simp only[go_sem,L,M,O];rw[C];exact Dj.refl ⟨rfl,rfl⟩
theorem Gy5 (hG:GX G) (hl:l.length<=12800000) (ws:List (List UInt8)) (cs:List DVal) (C:ws.map .str=cs) (H:Ab) {q:Nat} (y:H q=none) (hr:H r=some (srO l k)) (hk:k<=l.length) (D:ws.length<=1000):
  Ad Tryz.prog G 199 [.optr r 0,.oslice 1 q 0 ws.length ws.length] (upd H q (some (.cells cs 9))) (SrR r l H (Wf l ws k)):=by
 subst C;refine Ad.fzA q y ?_;have n:r≠q:=Ac y hr;simp only[fzs,fz,if_neg n,if_pos,jJ,Nat.mul_one];rw[List.take_of_length_le (by simp)];exact Dw2 hG hl ws D H k hr hk
end
section
variable {l:List Tok} {k:Nat}
theorem Dg4 (y:Nat) (h:y<=6): ∃n:Nat,(Gj l y).2.1=n/\n<=l.length/\((Gj l y).2.2=0->1<=n)/\((Gj l y).2.2=0\/(Gj l y).2.2=30\/(Gj l y).2.2=3):=by
 have ha:=Cp9 (l:=l) y;have C:=Bc4 (l:=l) y;rw[Gj,if_neg (by omega),jD];cases hr:We l y with
 |bot=>exact absurd hr C
 |fail k=>
  rw[hr] at ha;exact⟨k,rfl,ha,λh=>(by cases h),.inr (.inl rfl)⟩
 |ok x k=>
  rw[hr] at ha;dsimp only;split
  ·exact⟨k,rfl,ha.2,λ_=>ha.1,.inl rfl⟩
  ·exact⟨0,rfl,by omega,λh=>(by cases h),.inr (.inr rfl)⟩
theorem Ef9:Adv l 1 (Bc3 l):=by
 have t:=Fm1 (l:=l);exact Ca (t.choice _ (by omega)) λx n h1 h=>Ek (t.choicesL [x] n h) h1
theorem Ci9: ∃n:Nat,(Ji l).2.1=n/\n<=l.length/\((Ji l).2.2=0->1<=n)/\((Ji l).2.2=0\/(Ji l).2.2=30\/(Ji l).2.2=3):=by
 have ha:=Ef9 (l:=l);have y:=Au5 (l:=l);rw[Ji];cases hr:Bc3 l with
 |bot=>exact absurd hr y
 |fail k=>
  rw[hr] at ha;exact⟨k,rfl,ha,λh=>(by cases h),.inr (.inl rfl)⟩
 |ok x k=>
  rw[hr] at ha;dsimp only;split
  ·exact⟨k,rfl,ha.2,λ_=>ha.1,.inl rfl⟩
  ·exact⟨0,rfl,by omega,λh=>(by cases h),.inr (.inr rfl)⟩
end
def Kq (l:List Tok) {α:Type} (lb:Nat):Re α->Prop
 | .ok _ k=>lb<=k/\k<=l.length
 | .fail k=>k<=l.length
 | .long=>True
section
variable {l:List Tok} {k lb a b:Nat} {α β:Type}
theorem Kq.then {r:Re α} {f:α->Nat->Re β} (h:Kq l a r) (g: ∀x n,a<=n->n<=l.length->Kq l b (f x n)):Kq l b (r.then f):=by
 cases r with
 |ok x k=>exact g x k h.1 h.2
 |fail k=>exact h
 |long=>trivial
theorem Kq.ok {x:α} (h1:lb<=k) (h2:k<=l.length):Kq l lb (.ok x k):=⟨h1,h2⟩
theorem Kq.less {r:Re α} (h:Kq l a r) (hb:b<=a):Kq l b r:=by
 cases r with
 |ok x k=>exact⟨Nat.le_trans hb h.1,h.2⟩
 |fail k=>exact h
 |long=>trivial
theorem Kq.must {s:List UInt8} {f:Nat->Re α} (hk:k<=l.length) (g:k+1<=l.length->Kq l lb (f (k+1))):Kq l lb (Eh l s k f):=by
 rw[Eh];split
 ·exact g (Fu ‹_› hk)
 ·exact hk
theorem Kq.name (hk:k<=l.length):Kq l (k+1) (Ov l k):=by
 rw[Ov];split
 ·refine⟨Nat.le_refl _, ?_⟩;rcases Nat.lt_or_ge k l.length with h|h
  ·exact h
  ·rename_i c
   rw[Bt2 h] at c;exact absurd c (by decide)
 ·exact hk
theorem Dg5 {x:α} {n:Nat} {e:Int} (y:k+n<=l.length) (h1:e=0->1<=n):Kq l (k+1) (Bx5 k (x,(n:Int),e)):=by
 rw[Bx5];dsimp only;rw[jD];split
 ·have:=h1 ‹_›;exact⟨by omega,y⟩
 ·split
  ·exact y
  ·trivial
theorem Kq.ex (y:Nat) (C:y<=6) (hk:k<=l.length):Kq l (k+1) (exR l y k):=by
 obtain⟨n,h1,h2,h3,-⟩:=Dg4 (l:=l.drop k) y C;rw[List.length_drop] at h2;have e:Gj (l.drop k) y=((Gj (l.drop k) y).1,(n:Int),(Gj (l.drop k) y).2.2):=by rw[<-h1]
 rw[exR,e];exact Dg5 (by omega) h3
theorem Kq.ch (hk:k<=l.length):Kq l (k+1) (chR l k):=by
 obtain⟨n,h1,h2,h3,-⟩:=Ci9 (l:=l.drop k);rw[List.length_drop] at h2;have e:Ji (l.drop k)=((Ji (l.drop k)).1,(n:Int),(Ji (l.drop k)).2.2):=by rw[<-h1]
 rw[chR,e];exact Dg5 (by omega) h3
theorem Kq.list {one:Nat->Re α} {more:Nat->Option Nat} (h1: ∀k,k<=l.length->Kq l (k+1) (one k)) (h2: ∀k j,k<=l.length->more k=some j->k<=j/\j<=l.length): ∀(n:Nat) (xs:List α) (k:Nat),k<=l.length->Kq l k (Ui one more n xs k)
 | 0,_,_,_=>trivial
 |n+1,xs,k,hk=>by
  rw[Ui];cases hm:more k with
  |none=>exact⟨Nat.le_refl _,hk⟩
  |some j=>
   obtain⟨D,y⟩:=h2 k j hk hm;exact(h1 j y).then λx i E C=>(Kq.list h1 h2 n (xs++ [x]) i C).less (by omega)
theorem Kq.sev {one:Nat->Re α} {more:Nat->Option Nat} (h1: ∀k,k<=l.length->Kq l (k+1) (one k)) (h2: ∀k j,k<=l.length->more k=some j->k<=j/\j<=l.length) (hk:k<=l.length):Kq l (k+1) (Be2 l one more k):=
 (h1 k hk).then λx i y C=>(Kq.list h1 h2 _ [x] i C).less y
theorem Sn {s:List UInt8}: ∀k j,k<=l.length->byW l s k=some j->k<=j/\j<=l.length:=by
 intro k j hk h;rw[byW] at h;split at h
 ·cases h;exact⟨by omega,Fu ‹_› hk⟩
 ·cases h
theorem Bm5: ∀k j,k<=l.length->byN l k=some j->k<=j/\j<=l.length:=by
 intro k j hk h;rw[byN] at h;split at h
 ·cases h;exact⟨Nat.le_refl _,hk⟩
 ·cases h
theorem Cr5 {s:List UInt8}: ∀k j,k<=l.length->byI l s k=some j->k<=j/\j<=l.length:=by
 intro k j hk h;rw[byI] at h;split at h
 ·cases h;exact⟨Nat.le_refl _,hk⟩
 ·cases h
theorem Kq.names (hk:k<=l.length):Kq l (k+1) (Zi l k):=Kq.sev (λ_ h=>Kq.name h) Sn hk
theorem Kq.markL (line:Int): ∀(n:Nat) (x:Ex) (k:Nat),k<=l.length->Kq l k (markL l line n x k)
 | 0,_,_,_=>trivial
 |n+1,x,k,hk=>by
  rw[Dl.markL];split
  ·exact(Kq.name (Fu ‹_› hk)).then λs i C y=>(Kq.markL line n _ i y).less (by omega)
  ·exact⟨Nat.le_refl _,hk⟩
theorem Kq.mark (hk:k<=l.length):Kq l (k+1) (Ag1 l k):=(Kq.name hk).then λs i y C=>(Kq.markL _ _ _ i C).less y
theorem Kq.bounds (hk:k<=l.length):Kq l (k+1) (Sl l k):=
 (Kq.ex 2 (by omega) hk).then λa i E y=>Kq.must y λC=>(Kq.ex 2 (by omega) C).then λb i I D=>Kq.ok (by omega) D
theorem Kq.ind (hk:k<=l.length):Kq l (k+1) (Xm l k):=
 (Kq.mark hk).then λm i D y=>by
  split
  ·exact(Kq.bounds (Fu ‹_› y)).then λb i E C=>Kq.ok (by omega) C
  split
  ·exact(Kq.ex 0 (by omega) (Fu ‹_› y)).then λv i E C=>Kq.must C λI=>Kq.ok (by omega) I
  ·exact Kq.ok D y
theorem Kq.dis (hk:k<=l.length):Kq l (k+1) (Be3 l k):=
 (Kq.ex 2 (by omega) hk).then λx i E C=>by
  split
  ·exact(Kq.ex 2 (by omega) (Fu ‹_› C)).then λy i I D=>Kq.ok (by omega) D
  split
  ·rename_i h
   rw[jF] at h;exact(Kq.bounds (Fu h.2 C)).then λb i I D=>Kq.ok (by omega) D
  split
  ·exact C
  ·exact Kq.ok E C
theorem Kq.given (hk:k<=l.length):Kq l k (Rs l k):=by
 rw[Rs];split
 ·exact(Kq.ex 0 (by omega) (Fu ‹_› hk)).less (by omega)
 ·exact Kq.ok (Nat.le_refl _) hk
theorem Dg6 (hk:k<=l.length):k<=(Al7 l k).2/\(Al7 l k).2<=l.length:=by
 rw[Al7];split
 ·have:=Fu ‹isW l k [wIn]=true› hk;split
  ·have:=Fu ‹isW l (k+1) [Aw0]=true› this;exact⟨by dsimp only;omega,this⟩
  ·exact⟨by dsimp only;omega,this⟩
 ·split
  ·have:=Fu ‹isW l k [Aw0]=true› hk;exact⟨by dsimp only;omega,this⟩
  ·exact⟨Nat.le_refl _,hk⟩
theorem Kq.par (hk:k<=l.length):Kq l (k+1) (Bk9 l k):=
 (Kq.names hk).then λn i J y=>Kq.must y λC=>by
  obtain⟨L,D⟩:=Dg6 C;exact(Kq.mark D).then λt j M E=>(Kq.given E).then λe j O I=>Kq.ok (by omega) I
theorem Kq.pars (hk:k<=l.length):Kq l (k+1) (Bx6 l k):=Kq.sev (λ_ h=>Kq.par h) Sn hk
theorem Kq.asp (hk:k<=l.length):Kq l (k+1) (Bx7 l k):=
 (Kq.name hk).then λn i E y=>Kq.must y λC=>(Kq.ex 0 (by omega) C).then λe i I D=>Kq.ok (by omega) D
theorem Kq.asps (hk:k<=l.length):Kq l (k+1) (Ci8 l k):=Kq.sev (λ_ h=>Kq.asp h) Sn hk
theorem Kq.cmp (hk:k<=l.length):Kq l (k+1) (Cd2 l k):=
 (Kq.names hk).then λn i J y=>Kq.must y λC=>(Kq.ind C).then λs i L D=>(Kq.given D).then λe i M E=>Kq.must E λI=>Kq.ok (by omega) I
theorem Kq.cmps (hk:k<=l.length):Kq l (k+1) (Sb l k):=by
 rw[Sb];split
 ·have:=Fu ‹isW l k [Gg]=true› hk;exact Kq.must this λh=>Kq.ok (by omega) h
 ·exact Kq.sev (λ_ h=>Kq.cmp h) Bm5 hk
theorem Kq.arm (hk:k<=l.length):Kq l (k+1) (Cd3 l k):=
 Kq.must hk λy=>(Kq.ch y).then λc i I C=>Kq.must C λD=>(Kq.cmps D).then λm i J E=>Kq.ok (by omega) E
theorem Kq.arms (hk:k<=l.length):Kq l (k+1) (Bx8 l k):=Kq.sev (λ_ h=>Kq.arm h) Cr5 hk
end
theorem Fr6 (l:List (List UInt8)):l.flatMap (λs=> [DVal.str s])=l.map .str:=by induction l with
 |nil=>rfl
 |cons a l ih=>rw[List.flatMap_cons,ih];rfl
theorem Fr7 {S:Nat} {x Z:List DVal} (hx:x.length=S) (hz:Z.length=S):(if S<=(By 1 Z).length then some (x++List.drop S (By 1 Z)) else none)=some x:=by
 have e: ∀u:List DVal,By 1 u=u:=λu=>by simp [By]
 rw[e,if_pos (by omega),List.drop_eq_nil_of_le (by omega),jH]
section
variable {G:Nat->DVal} {r:Nat} {l:List Tok}
def Dw3 {L:Type} (ty S:Nat) (d:L->List DVal) (H:Ab) (l:List L) (v:DVal) (H':Ab):Prop:=Ik H ty S l.length (l.flatMap d) v H'
def Fr8 {L:Type} (G:Nat->DVal) (l:List Tok) (r:Nat) (f:FuncId) (D:L->DVal) (DL:List L->DVal):Prop:=
 ∀(B0:Ab) (g1 g2:FuncId) (xs1 ys1 xs2 ys2:List DVal) (one:Nat->Re L) (more:Nat->Option Nat)
  (_: ∀H k,SRt r l k B0 H->k<=l.length->Ad Tryz.prog G g1 (xs1++ []++ys1) H (SrR r l H ((one k).mp D)))
  (_: ∀H k,SRt r l k B0 H->k<=l.length->Ad Tryz.prog G g2 (xs2++ []++ys2) H (SrQ r l H (.bool (more k).isSome) ((more k).getD k)))
  (_: ∀k,k<=l.length->Kq l (k+1) (one k)) (_: ∀k j,k<=l.length->more k=some j->k<=j/\j<=l.length) (k:Nat) (_:B0 r=some (srO l k)) (_:k<=l.length),
  Ad Tryz.prog G f [.func (.func g1) xs1 ys1,.func (.func g2) xs2 ys2] B0 (SrR r l B0 ((Be2 l one more k).mp DL))
theorem Fr9 (hl:l.length<=12800000):
 Fr8 G l r 280 DVal.str dW/\
 Fr8 G l r 119 (λa=>DVal.agg (Gw a)) Gh/\
 Fr8 G l r 142 (λa=>DVal.agg (Ip a)) Ib/\
 Fr8 G l r 235 (λa=>DVal.agg (Ih a)) Ci/\
 Fr8 G l r 269 (λa=>DVal.agg (Kk a)) Ep:=by
 refine⟨?_, ?_, ?_, ?_, ?_⟩;all_goals intro B0 g1 g2 ag ah ai aj one more Z ak h1 h2 k hr hk
 all_goals have ha:=h1 k hk
 all_goals have ho:=Z B0 k (.refl hr) hk
 case' refine_1=>refine dci Tryz.func280 Tryz.call280 ?_;obtain⟨y,J⟩: ∃y,y=Dw3 9 1 (λs:List UInt8=> [DVal.str s]):=⟨_,rfl⟩;have hd: ∀x,((λs:List UInt8=> [DVal.str s]) x).length=1:=λ_=>rfl
 case' refine_2=>refine dci Tryz.func119 Tryz.call119 ?_;obtain⟨y,J⟩: ∃y,y=Dw3 136 21 Gw:=⟨_,rfl⟩;have hd: ∀x,(Gw x).length=21:=Eo
 case' refine_3=>refine dci Tryz.func142 Tryz.call142 ?_;obtain⟨y,J⟩: ∃y,y=Dw3 187 10 Ip:=⟨_,rfl⟩;have hd: ∀x,(Ip x).length=10:=Gr
 case' refine_4=>refine dci Tryz.func235 Tryz.call235 ?_;obtain⟨y,J⟩: ∃y,y=Dw3 202 47 Ih:=⟨_,rfl⟩;have hd: ∀x,(Ih x).length=47:=Ez
 case' refine_5=>refine dci Tryz.func269 Tryz.call269 ?_;obtain⟨y,J⟩: ∃y,y=Dw3 164 2 Kk:=⟨_,rfl⟩;have hd: ∀x,(Kk x).length=2:=Fa
 all_goals
  simp only[go_sem];simp only[jH] at ho;rw[Be2];cases hc:one k with
  |fail S=>
   rw[hc] at ho;refine(by simpa using ho:Ad _ _ _ _ _ _).mono ?_;rintro e H3 ⟨rfl,j,rfl⟩;simp only[go_sem];exact Tl.refl ⟨rfl,j,rfl⟩
  |long=>
   rw[hc] at ho;refine(by simpa using ho:Ad _ _ _ _ _ _).mono ?_;rintro e H3 ⟨rfl,j,rfl⟩;simp only[go_sem];exact Tl.refl ⟨rfl,j,rfl⟩
  |ok U S=>
   rw[hc] at ho ha;obtain⟨aq,ar⟩:=ha;refine(by simpa using ho:Ad _ _ _ _ _ _).mono ?_;rintro e H3 ⟨rfl,aa⟩;dsimp only[Re.then,Re.mp];have ab:=hd U;simp only[go_sem]
   (try (rw[Fr7 ab rfl];simp only[go_sem]))
   intro r7 V;simp only[go_sem];obtain⟨I,W⟩: ∃I:Nat×List _×Nat->(Nat->DVal)->Ab->Prop,∀s env heap,I s env heap↔(env 0= .func (.func g1) ag ah/\env 1= .func (.func g2) ai aj/\s.2.2<=l.length/\s.2.1.length<=s.2.2/\l.length<s.1+s.2.2/\Ui one more s.1 s.2.1 s.2.2=Ui one more (l.length+1) [U] S/\y (upd B0 r (some (srO l s.2.2))) s.2.1 (env 5) heap):=⟨_,λ_ _ _=>Iff.rfl⟩;subst J;refine Ea9.run I (λs=>s.1) (l.length+1,[U],S) ((W _ _ _).2 ?_) ?_
   ·simp only[go_sem];(repeat' apply And.intro)<;>(try first|rfl|assumption|omega);refine .inr ⟨r7,by rw[<-aa];exact V,by rw[List.flatMap_singleton,ab];rfl,rfl,by rw[List.flatMap_singleton];exact Aa _ _ _,by rw[aa] at V⊢;exact(Sub.refl _).new V _⟩
   ·rintro⟨n,xs,k1⟩ env heap al;obtain⟨e0,e1,X,am,hn,C,hv⟩:=(W _ _ _).1 al;dsimp only at X am hn C hv;obtain⟨m,rfl⟩: ∃m,n=m+1:=⟨n-1,by omega⟩;rw[Ui] at C;obtain⟨v,Y⟩: ∃v,env 5=v:=⟨_,rfl⟩;rw[Y] at hv;have ac:SRt r l k1 B0 heap:=Ik.sub hv;have hm:=ak heap k1 ac X;simp only[go_sem,e1];refine(by simpa using hm:Ad _ _ _ _ _ _).mono ?_;rintro _ H4 ⟨rfl,D⟩;cases hmo:more k1 with
    |none=>
     rw[hmo] at C D;rw[Option.getD_none,Ef ac.get] at D;subst D;dsimp only at C;simp only[go_sem,Y,Option.isSome_none];rw[<-C];first
     |exact Ik.fin hv ⟨rfl,rfl⟩
     |(unfold Dw3 at hv;rw[Fr6] at hv;exact Ik.fin hv ⟨rfl,rfl⟩)
    |some j=>
     rw[hmo] at C D;rw[Option.getD_some] at D;obtain⟨j1,j2⟩:=h2 k1 j X hmo;have L:=Ik.move hv (some (srO l j));rw[<-D] at L;have E:=Z H4 j (Ik.sub L) j2;have ad:=h1 j j2;simp only[go_sem,e0,Y,Option.isSome_some];dsimp only at C;cases hc2:one j with
     |fail O=>
      rw[hc2] at E C;refine(by simpa using E:Ad _ _ _ _ _ _).mono ?_;rintro e H5 ⟨rfl,i,M⟩;simp only[go_sem];rw[<-C];exact Tl.sub (by rw[M];exact Ik.sub (Ik.move L _)) ⟨rfl,i,rfl⟩
     |long=>
      rw[hc2] at E C;refine(by simpa using E:Ad _ _ _ _ _ _).mono ?_;rintro e H5 ⟨rfl,i,M⟩;simp only[go_sem];rw[<-C];exact Tl.sub (by rw[M];exact Ik.sub (Ik.move L _)) ⟨rfl,i,rfl⟩
     |ok a O=>
      rw[hc2] at E C ad;obtain⟨b1,b2⟩:=ad;refine(by simpa using E:Ad _ _ _ _ _ _).mono ?_;rintro e H5 ⟨rfl,M⟩;dsimp only[Re.then] at C;have ae:=Ik.move L (some (srO l O));rw[<-M] at ae;have af:=hd a;simp only[go_sem]
      (try (rw[Fr7 af rfl];simp only[go_sem]))
      intro r8 ao;simp only[go_sem];refine Ik.append (m:=1) (Ik.new ae ao _) (by first|rfl|rw[af]) (by omega) λv2 H6 ap=> ?_;simp only[go_sem];refine⟨(m,xs++ [a],O),_,Rn.refl _,(W _ _ _).2 ?_,by dsimp only;omega⟩;(have au:(xs++ [a]).length<=O:=by rw[jC,jQ];omega);simp only[go_sem,e0,e1];(repeat' apply And.intro)<;>(try first|rfl|assumption|omega);unfold Dw3;rw[jC,jQ,List.flatMap_append,List.flatMap_singleton];exact ap
end
theorem Bx9 (l:List Tok) (k:Nat):(l.flatMap Cu).drop (k*4)=(l.drop k).flatMap Cu:=by
 induction k generalizing l with
 |zero=>simp
 |succ k ih=>
  cases l with
  |nil=>simp
  |cons t l=>
   rw[List.flatMap_cons,jE,<-ih,Nat.succ_mul,Nat.add_comm,<-List.drop_drop,List.drop_left' (Az t)]
def Ag2 (B K:Ab):Prop:= ∀b,K b=none->B b=none
theorem Ag2.refl (B:Ab):Ag2 B B:=λ_ h=>h
theorem Ag2.upd {B K:Ab} (h:Ag2 B K) (x:Nat) (o:DObj):Ag2 B (upd K x (some o)):=λb hb=>by
 simp only[Go.Dl.upd] at hb;split at hb
 ·cases hb
 ·exact h b hb
theorem Be4 {q a:Nat} {x:DObj} {E:Option DObj}:((if q=a then some x else E)=none)↔q≠a/\a≠q/\E=none:=by
 by_cases h:q=a
 ·rw[if_pos h];exact⟨λh=>(by cases h),λk=>absurd h k.1⟩
 ·rw[if_neg h];exact⟨λk=>⟨h,λe=>h e.symm,k⟩,λk=>k.2.2⟩
theorem Ae {H:Ab} {r q:Nat} {x o:Option DObj} (h:H r=x) (n:r≠q):upd H q o r=x:=by rw[Ah _ _ _ _ n];exact h
section
variable {P:Program} {G:Nat->DVal} {f:FuncId} {args:List DVal} {H H0:Ab} {R:DEnd->Ab->Prop} {r k a:Nat} {l:List Tok}
theorem SRt.at:SRt r l k H (upd H r (some (srO l k))):=Sub.refl _
theorem ReC {α:Type} {x:Re α} {D:α->DVal} (h:Ad P G f args H (SrR r l H (x.mp D))) (adv:Kq l a x)
  (ok: ∀v k,x= .ok v k->a<=k->k<=l.length->R (.ret (D v)) (upd H r (some (srO l k))))
  (fail: ∀k j,x= .fail k->R (.panic (Ru k 40)) (upd H r (some (srO l j))))
  (long: ∀j,x= .long->R (.panic (Ru 0 3)) (upd H r (some (srO l j)))):Ad P G f args H R:=h.mono λe H' hx=>by
 cases x with
 |ok v k=>obtain⟨rfl,rfl⟩:=hx;exact ok v k rfl adv.1 adv.2
 |fail k=>obtain⟨rfl,j,rfl⟩:=hx;exact fail k j rfl
 |long=>obtain⟨rfl,j,rfl⟩:=hx;exact long j rfl
theorem SrM {s:List UInt8} (h:Ad P G f args H (SrQ r l H (.bool (isW l k [s])) (if isW l k [s] then k+1 else k))) (y:H r=some (srO l k)) (hk:k<=l.length)
  (C:isW l k [s]=true->k+1<=l.length->R (.ret (.bool true)) (upd H r (some (srO l (k+1)))))
  (no:isW l k [s]=false->R (.ret (.bool false)) H):Ad P G f args H R:=h.mono λe H' hx=>by
 obtain⟨rfl,rfl⟩:=hx;cases c:isW l k [s]
 ·rw[if_neg (by simp),Ef y];exact no c
 ·rw[if_pos rfl];exact C c (Fu c hk)
theorem SrR.ofK {x:Re DVal} {v:DVal} {i:Nat} (h:x= .ok v i):SrR r l H x (.ret v) (upd H r (some (srO l i))):=by subst h;exact⟨rfl,rfl⟩
theorem SrR.ofF {x:Re DVal} {i j:Nat} (h:x= .fail i):SrR r l H x (.panic (Ru i 40)) (upd H r (some (srO l j))):=by subst h;exact⟨rfl,j,rfl⟩
theorem SrR.ofL {x:Re DVal} {j:Nat} (h:x= .long):SrR r l H x (.panic (Ru 0 3)) (upd H r (some (srO l j))):=by subst h;exact⟨rfl,j,rfl⟩
def nz:DVal->DVal
 | .nilSlice=> .vslice [] 0
 |v=>v
theorem Go0 (v:DVal):DLe v (nz v):=by
 cases v<;>first|exact DLe.nil|exact λ_ _ _ h=>h
theorem Cr6 (w:World) (H:Ab): ∀(cs:List DVal) (xs:List Value),Ar w H cs xs->Ar w H (cs.map nz) xs
 | [],_,h=>h
 |c::cs,xs,h=>by
  simp only[jN,Ar] at h⊢
  obtain⟨y,ys,rfl,h1,h2⟩:=h;exact⟨y,ys,rfl,Go0 c w H y h1,Cr6 w H cs ys h2⟩
theorem SRt.finZ {cs:List DVal} {k:Nat} (h:SRt r l k H0 H) (y:R (.ret (.agg (cs.map nz))) (upd H0 r (some (srO l k)))):Dj R (.agg cs) H:=
 Dj.sub h (Dj.le (λw H x hx=>by
  simp only[Rel] at hx⊢
  obtain⟨xs,rfl,hx⟩:=hx;exact⟨xs,rfl,Cr6 w H _ _ hx⟩) (.refl y))
end
section
variable {G:Nat->DVal} {r:Nat} {l:List Tok}
theorem Gy6 (hl:l.length<=12800000) (B:Ab) (g:FuncId) (ys:List DVal) (x:Ex) (e:Int) (k:Nat) (hr:B r=some (srO l k)) (hk:k<=l.length) (n:Nat) (M:k+n<=l.length)
  (C: ∀K,Sub B K->Ad Tryz.prog G g ([]++ [Be (l.drop k)]++ys) K (Am (Bu4 (x,n,e)) K)):
  Ad Tryz.prog G 281 [.optr r 0,.func (.func g) [] ys] B (SrR r l B ((Bx5 k (x,(n:Int),e)).mp dE)):=by
 have O:(0:Int)<=(k:Int):=by omega
 have S:(k:Int)<=(l.length:Int):=by omega
 have U:IntKind.i64.wrap ((k:Int)+(n:Int))=((k+n:Nat):Int):=by rw[IntKind.wrap_i64];omega
 simp only[jG,jI,Be,List.length_drop] at C;have V:((l.drop k).flatMap Cu).take ((l.length-k)*4)=(l.drop k).flatMap Cu:=List.take_of_length_le (by rw[Ak Az,List.length_drop];exact Nat.le_refl _);have W:=Af x;refine dci Tryz.func281 Tryz.call281 ?_;simp(disch:=omega)only[go_sem]
 ((with_reducible show Dd _ _ _ _ _);intro q hq;dsimp only at hq;have D:=hq;have hz:=(show Ag2 B _ from(by repeat (first|exact Ag2.refl _|refine Ag2.upd ?_ _ _))) _ hq;have y:=Ac hz hr;have E:=y.symm;(try have I:=Ac hz hq0);(try have J:=(Ac hz hq0).symm);(try simp only[Aq] at hq);(repeat (have L:=hq.1;have hq:=hq.2)))
 simp(disch:=omega)only[go_sem, *];refine An (.take 0 (.take 1 (.take 2 (.take 3 (.take 4 (.take 5 (.take 6 (.take 7 (.take 8 (.take 9 (.alt (.go 15 [9,8,4] (.go 10 [] (.take 11 (.take 12 (.take 13 (.take 14 (.go 16 [] (.take 17 (.take 18 .done))))))))) (.go 10 [] (.take 11 (.take 12 (.take 13 (.take 14 (.go 15 [9,8,4] (.go 16 [] (.take 17 (.take 18 .done)))))))))))))))))))) ?_
 repeat' first
  |(refine Ad.monoR (C _ (by repeat (first|exact Sub.refl _|assumption|refine Sub.up ?_ (by assumption) _))) ?_)
  |with_reducible refine And.intro ?_ ?_
  |((with_reducible show Dd _ _ _ _ _);intro q hq;dsimp only at hq;have D:=hq;have hz:=(show Ag2 B _ from(by repeat (first|exact Ag2.refl _|refine Ag2.upd ?_ _ _))) _ hq;have y:=Ac hz hr;have E:=y.symm;(try have I:=Ac hz hq0);(try have J:=(Ac hz hq0).symm);(try simp only[Aq] at hq);(repeat (have L:=hq.1;have hq:=hq.2)))
  |simp(disch:=omega)only[go_sem, *,Be,Bu4,dE,jD,Bx9]
  |(with_reducible refine Iu ?_ ?_<;>intro hb<;>try simp only[decide_eq_true_eq,decide_eq_false_iff_not] at hb)
  |(show SRt _ _ _ _ _;first|with_reducible assumption|apply SRt.at|(apply SRt.refl;assumption)|apply SRt.set|(apply SRt.own<;>first|assumption|skip))
  |((with_reducible show Dj _ _ _);apply SRt.fin (H0:=B) (r:=r) (l:=l))
  |((with_reducible show Tl _ _ _);apply SRt.finP (H0:=B) (r:=r) (l:=l))
  |((first|refine SrR.ofK ?_|refine SrR.ofF ?_|refine SrR.ofL ?_);simp [Re.mp,Bx5,dE, *];done)
  |fail
end
def fT (ts:List Tok):Prop:= ∀t∈ts,t.text.length<=9223372036854775807
theorem Fb:fT []:=λt h=>by cases h
theorem Av {t:Tok} {ts:List Tok} (h:t.text.length<=9223372036854775807) (k:fT ts):fT (t::ts):=λx hx=>by
 rcases List.mem_cons.1 hx with rfl|hx
 ·exact h
 ·exact k x hx
theorem Bm {a b:List Tok} (h:fT a) (k:fT b):fT (a++b):=λx hx=>by
 rcases List.mem_append.1 hx with hx|hx
 ·exact h x hx
 ·exact k x hx
theorem Cr7 {b:Bool} {t:List Tok} (h:fT t):fT (Wz b t):=by
 cases b with
 |false=>exact h
 |true=>exact Av (by first|decide|exact hs|exact Nat.zero_le _) (Bm h (Av (by first|decide|exact hs|exact Nat.zero_le _) Fb))
theorem Ev7 (o:Nat): ∀s∈Ay o,s.length<=9223372036854775807:=by
 rw[Ay,List.getD];by_cases h:o<22
 ·have: ∀i:Fin 22,∀s∈((Dr1[i.1]?).getD []),s.length<=9223372036854775807:=by decide+kernel
  exact this ⟨o,h⟩
 ·rw[List.getElem?_eq_none (by have:Dr1.length=22:=rfl;omega)];intro s hs;cases hs
theorem Dg7 (o:Nat):fT ((Ay o).map Ag):=λt h=>by
 obtain⟨s,hs,rfl⟩:=List.mem_map.1 h;exact Ev7 o s hs
theorem By0 {s:List UInt8} (hs:(Ag s).text.length<=9223372036854775807): ∀ {l:List (List Tok)},(∀t∈l,fT t)->fT (Dw s l)
 | [],_=>Fb
 | [x],h=>h x (by simp)
 |x::y::r,h=>by
  rw[Sy s x _ (by simp)];exact Bm (h x (by simp)) (Av hs (By0 hs λt ht=>h t (List.mem_cons_of_mem _ ht)))
theorem Eg0 {l:List (List Tok)} (h: ∀t∈l,fT t) (i:Nat):fT (l.getD i []):=by
 rw[List.getD];cases hi:l[i]? with
 |none=>exact Fb
 |some t=>exact h t (List.mem_of_getElem? hi)
theorem Iq {c:Prop} [Decidable c] {a b:List Tok} (h:fT a) (k:fT b):fT (if c then a else b):=by
 split
 ·exact h
 ·exact k
theorem Gj3 (e:Ex) (hs:e.s.length<=9223372036854775807) {y C:List (List Tok)} (h: ∀t∈y,fT t) (k: ∀t∈C,fT t):fT (Om e y C):=by
 have g:=λi=>Eg0 h i;have p:=λi (b:Bool)=>Cr7 (b:=b) (g i);unfold Om;dsimp only
 repeat' (refine Iq ?_ ?_)
 ·exact Av (by first|decide|exact hs|exact Nat.zero_le _) Fb
 ·exact Av (by first|decide|exact hs|exact Nat.zero_le _) Fb
 ·exact Av (by first|decide|exact hs|exact Nat.zero_le _) Fb
 ·exact Bm (g 0) (Av (by first|decide|exact hs|exact Nat.zero_le _) (Av (by first|decide|exact hs|exact Nat.zero_le _) Fb))
 ·exact Bm (g 0) (Av (by first|decide|exact hs|exact Nat.zero_le _) (Av (by first|decide|exact hs|exact Nat.zero_le _) Fb))
 ·exact Bm (g 0) (Av (by first|decide|exact hs|exact Nat.zero_le _) (Av (by first|decide|exact hs|exact Nat.zero_le _) Fb))
 ·exact Bm (g 0) (Av (by first|decide|exact hs|exact Nat.zero_le _) (Bm (By0 (by first|decide|exact hs|exact Nat.zero_le _) k) (Av (by first|decide|exact hs|exact Nat.zero_le _) Fb)))
 ·exact Bm (g 0) (Av (by first|decide|exact hs|exact Nat.zero_le _) (p 1 _))
 ·exact Av (by first|decide|exact hs|exact Nat.zero_le _) (Bm (By0 (by first|decide|exact hs|exact Nat.zero_le _) k) (Av (by first|decide|exact hs|exact Nat.zero_le _) Fb))
 ·exact Av (by first|decide|exact hs|exact Nat.zero_le _) (Av (by first|decide|exact hs|exact Nat.zero_le _) (Bm (g 0) (Av (by first|decide|exact hs|exact Nat.zero_le _) (Bm (g 1) (Av (by first|decide|exact hs|exact Nat.zero_le _) (Bm (g 2) (Av (by first|decide|exact hs|exact Nat.zero_le _) Fb)))))))
 ·exact Bm (Dg7 _) (p 0 _)
 ·exact Bm (p 0 _) (Bm (Dg7 _) (p 1 _))
 ·exact Bm (p 0 _) (Av (by first|decide|exact hs|exact Nat.zero_le _) (Iq (Bm (p 1 _) (Av (by first|decide|exact hs|exact Nat.zero_le _) (p 2 _))) (g 1)))
 ·exact Bm (p 0 _) (Av (by first|decide|exact hs|exact Nat.zero_le _) (Av (by first|decide|exact hs|exact Nat.zero_le _) (Iq (Bm (p 1 _) (Av (by first|decide|exact hs|exact Nat.zero_le _) (p 2 _))) (g 1))))
theorem Fs0 (k:Int) (l:List Ex) {y:List (List Tok)} (h: ∀t∈y,fT t):fT (Dd5 k l y):=by
 have g:=λi=>Eg0 h i;have p:=λi (b:Bool)=>Cr7 (b:=b) (g i);unfold Dd5;dsimp only
 repeat' (refine Iq ?_ ?_)
 ·exact g 0
 ·exact Bm (p 0 _) (Av (by first|decide|exact hs|exact Nat.zero_le _) (p 1 _))
 ·exact Av (by first|decide|exact hs|exact Nat.zero_le _) Fb
mutual
theorem By1: ∀e:Ex,okE e->fT (Ai e)
 | .mk k o n s l a li en t,h=>by
  rw[okE] at h
  rw[Ai];exact Gj3 (.mk k o n s l a li en t) h.1 (Fs1 l h.2.1) (Go1 a h.2.2)
theorem Fs1: ∀l:List Ex,okL l-> ∀t∈Yz l,fT t
 | [],_=>λt h=>by cases h
 |x::l,hk=>λt h=>by
  rw[okL] at hk
  rw[Yz] at h
  rcases List.mem_cons.1 h with rfl|h
  ·exact By1 x hk.1
  ·exact Fs1 l hk.2 t h
theorem Hj5: ∀a:As,okA a->fT (Hl a)
 | .mk c e,h=>by
  rw[okA] at h
  rw[Hl,Ee2]
  split
  ·exact By1 e h.2
  ·exact Bm (By0 (by decide) (Go2 c h.1)) (Av (by decide) (By1 e h.2))
theorem Go1: ∀l:List As,Mu l-> ∀t∈Ae5 l,fT t
 | [],_=>λt h=>by cases h
 |x::l,hk=>λt h=>by
  rw[Mu] at hk
  rw[Ae5] at h
  rcases List.mem_cons.1 h with rfl|h
  ·exact Hj5 x hk.1
  ·exact Go1 l hk.2 t h
theorem Hg0: ∀c:Ch,okC c->fT (Da c)
 | .mk k l,h=>by
  rw[okC] at h
  rw[Da];exact Fs0 _ _ (Fs1 l h)
theorem Go2: ∀l:List Ch,Ts l-> ∀t∈Ae6 l,fT t
 | [],_=>λt h=>by cases h
 |x::l,hk=>λt h=>by
  rw[Ts] at hk
  rw[Ae6] at h
  rcases List.mem_cons.1 h with rfl|h
  ·exact Hg0 x hk.1
  ·exact Go2 l hk.2 t h
end
theorem Ag3 {l:List Tok} (h:fT l):Bv l:=λk=>by
 rw[tk,List.getD];cases hk:l[k]? with
 |none=>decide
 |some t=>exact h t (List.mem_of_getElem? hk)
section
end
end Go.Dl
-- Wi
namespace Go.Dl
open Go Go.Proofs
set_option maxRecDepth 10000
theorem Eg1 (l:List Tok) (k j:Nat):tk l (k+j)=tk (l.drop k) j:=by
 simp [tk,List.getD,List.getElem?_drop]
theorem Dg8 (l:List Tok) (k:Nat): ∀(ws:List (List UInt8)) (j:Nat),isW l (k+j) ws=isW (l.drop k) j ws
 | [],_=>rfl
 |s::r,j=>by rw[isW,isW,Eg1,Nat.add_assoc,Dg8 l k r (j+1)]
end Go.Dl
-- A3
namespace Go.Dl
open Go
set_option maxRecDepth 10000
def Gvs {α γ:Type} (st:α->γ) (r:Re α) (c:γ) (k:Nat):Prop:= ∃x,r= .ok x k/\st x=c
theorem Gvs.then {α γ β δ:Type} {st:α->γ} {y:β->δ} {r:Re α} {c:γ} {k k':Nat} {f:α->Nat->Re β} {C:δ} (h:Gvs st r c k) (g: ∀x,st x=c->Gvs y (f x k) C k'):Gvs y (r.then f) C k':=by
 obtain⟨x,rfl,hx⟩:=h;exact g x hx
theorem Gvs.mk {α γ:Type} {st:α->γ} (x:α) (k:Nat) {c:γ} (h:st x=c):Gvs st (.ok x k) c k:=⟨x,rfl,h⟩
def Pre (l:List Tok) (k:Nat) (ts:List Tok):Prop:=At (l.map stT) k ts
section
variable {l:List Tok} {k k':Nat} {s:List UInt8} {ts us:List Tok}
theorem Pre.tail {t:Tok} (h:Pre l k (t::ts)):Pre l (k+1) ts:=At.tail h
theorem Pre.left (h:Pre l k (ts++us)):Pre l k ts:=At.left h
theorem Pre.right (h:Pre l k (ts++us)):Pre l (k+ts.length) us:=At.right h
theorem Pre.head {t:Tok} (h:Pre l k (t::ts)):stT (tk l k)=t/\k<l.length:=by
 have:=At.head h;rw[Bi2,jK] at this;exact this
theorem Pre.word (h:Pre l k (Ag s::ts)):isW l k [s]=true:=by rw[<-Mv];exact At.word h
theorem Pre.not {t:Tok} (h:Pre l k (t::ts)) (y:nof [s] t):isW l k [s]=false:=by
 rw[<-Mv];exact Ho (by rw[(At.head h).1];exact y) (by simp) []
theorem Pre.nof {t:Tok} {ws:List (List UInt8)} (h:Pre l k (t::ts)) (y:nof ws t):nof ws (tk l k):=by
 have:=h.head.1;rw[<-this] at y;exact Fp3.1 y
theorem Ag4 {ws:List (List UInt8)} (h:nof ws (tk l k)) (hs:s∈ws):isW l k [s]=false:=Ho h hs []
theorem Pre.drop (h:Pre l k ts): ∃rest,(l.drop k).map stT=ts++rest:=by
 obtain⟨r,hr⟩:=h.2;exact⟨r,by rw[List.map_drop];exact hr.symm⟩
theorem Pre.le (h:Pre l k ts):k+ts.length<=l.length:=by have:=At.le h;rwa [jK] at this
theorem Eb {α:Type} {f:Nat->Re α} (h:Pre l k (Ag s::ts)):Eh l s k f=f (k+1):=by rw[Eh,if_pos h.word]
theorem Ag5 (h:Pre l k (Eg s::ts)):Ov l k= .ok s (k+1):=by
 have h1:=h.head.1;have hk:(tk l k).kind=1:=by have:=congrArg Tok.kind h1;exact this
 have ht:(tk l k).text=s:=by have:=congrArg Tok.text h1;exact this
 rw[Ov,if_pos hk,ht]
theorem Cr8 {α:Type} {x:α} {n k:Nat}:Bx5 k (x,(n:Int),(0:Int))= .ok x (k+n):=by simp [Bx5]
theorem Aw7:tk (l.drop k) k'=tk l (k+k'):=(Eg1 l k k').symm
theorem By2 {e:Ex} (j:Nat) (hm:Bu e=true) (h:Pre l k (Ai e)) (y:nof w0 (tk l (k+(Ai e).length))) (C:(j:Int)<=Aw e):Gvs stE (exR l j k) (stE e) (k+(Ai e).length):=by
 obtain⟨rest,hr⟩:=h.drop;obtain⟨x,h1,h2⟩:=Du6 (l:=l.drop k) (rest:=rest) hm hr (by rw[Aw7];exact y) j (.inl C);exact⟨x,by rw[exR,h1,Cr8],h2⟩
theorem Be5 {e:Ex} (hm:Bu e=true) (h:Pre l k (Ai e)) (y:nof w0 (tk l (k+(Ai e).length))):Gvs stE (exR l 0 k) (stE e) (k+(Ai e).length):=By2 0 hm h y (Rf e).1
theorem Vs {e:Ex} (hm:Bu e=true) (h:Pre l k (Ap e 2)) (I:nof w2 (tk l (k+(Ap e 2).length))):Gvs stE (exR l 2 k) (stE e) (k+(Ap e 2).length):=by
 obtain⟨rest,hr⟩:=h.drop;obtain⟨L,y⟩: ∃L,L=(l.drop k).map stT:=⟨_,rfl⟩;have hz: ∀k,(tk L k).line=0:=λk=>by rw[y];exact Kg k
 have D:At L 0 (Ap e 2):=⟨Nat.zero_le _,rest,by rw[jJ,y,hr]⟩;have R:=Du0 (p:=Q L) hz e 1 (Qd hm);have C:nof w2 (tk L (0+(Ap e 2).length)):=by rw[Nat.zero_add,y,Bi2,Fp3,Aw7];exact I
 have hle:0+(Ap e 2).length<=L.length:=D.le;have hs:(Q L).simple 0= .ok (stE e) (0+(Ap e 2).length):=by
  rcases Xf (p:=Q L) R D rfl with⟨_,hp⟩|⟨hl,r⟩
  ·have hf:=Lr (p:=Q L) (Nat.zero_le _) hp;have ht:=Ls (p:=Q L) (Nat.zero_le _) hf;rw[Kh (p:=Q L) (Nat.zero_le _) hle ht (s32 C),Sz hle C]
  ·rw[r.simp hl (s32 C),Sz hle C]
 rw[Nat.zero_add,y] at hs;obtain⟨x,J,E⟩:=Cq9 (Ef4 2) (show We ((l.drop k).map stT) 2=_ from hs);refine⟨x, ?_,E⟩;have hf:Gj (l.drop k) (2:Nat)=(x,(((Ap e 2).length:Nat):Int),0):=by
  rw[Gj,if_neg (by omega),jD,J];show(if Bu x=true then _ else _)=_;rw[if_pos (by rw[Jp E,hm])]
 have M:Gj (l.drop k) 2=(x,(((Ap e 2).length:Nat):Int),0):=hf;rw[exR,M,Cr8]
theorem Zm {a b:Ex} (ha:Bu a=true) (hb:Bu b=true) (h:Pre l k (Dh a b)) (C:nof w2 (tk l (k+(Dh a b).length))):Gvs (λx:Ex×Ex=>(stE x.1,stE x.2)) (Sl l k) (stE a,stE b) (k+(Dh a b).length):=by
 have e:k+(Dh a b).length=k+(Ap a 2).length+1+(Ap b 2).length:=by rw[Dh,jC,jA];omega
 rw[e] at C⊢
 have h1:=Pre.right (show Pre l k (Ap a 2++(Ag Et::Ap b 2)) from h);refine(Vs ha (Pre.left (show Pre l k (Ap a 2++(Ag Et::Ap b 2)) from h)) (h1.nof (by decide+kernel))).then λx hx=> ?_
 rw[Eb h1];exact(Vs hb h1.tail C).then λy D=> .mk _ _ (by rw[hx,D])
theorem By3 {α β γ:Type} {one:Nat->Re α} {g:β->List Tok} {st:α->γ} {stb:β->γ} (s:List UInt8) (W:List (List UInt8)) (C: ∀t,t=Ag s->nof W t)
  : ∀(bs:List β) (n:Nat) (y:List α) (k:Nat),(∀b∈bs,∀j,Pre l j (g b)->nof W (tk l (j+(g b).length))->Gvs st (one j) (stb b) (j+(g b).length))->bs.length<n->Pre l k (bs.flatMap λb=>Ag s::g b)->nof W (tk l (k+(bs.flatMap λb=>Ag s::g b).length))->isW l (k+(bs.flatMap λb=>Ag s::g b).length) [s]=false->
   Gvs (λxs:List α=>xs.map st) (Ui one (byW l s) n y k) (y.map st++bs.map stb) (k+(bs.flatMap λb=>Ag s::g b).length)
 | [],n+1,y,k,_,_,h,hn,hs=>by
  rw[List.flatMap_nil,jB,Nat.add_zero] at hs⊢
  rw[Ui,byW,hs];exact .mk _ _ (by simp)
 |b::bs,n+1,y,k,ho,hl,h,hn,hs=>by
  rw[List.flatMap_cons] at h hn hs⊢
  have e:k+((Ag s::g b)++bs.flatMap λb=>Ag s::g b).length=k+1+(g b).length+(bs.flatMap λb=>Ag s::g b).length:=by rw[jC,jA];omega
  rw[e] at hn hs⊢
  have h0:Pre l k (Ag s::(g b++bs.flatMap λb=>Ag s::g b)):=h;have h1:=h0.tail;have h2:=h1.right;rw[Ui,byW,if_pos h0.word];dsimp only;refine(ho b (by simp) (k+1) h1.left ?_).then λx hx=> ?_
  ·cases bs with
   |nil=>exact hn
   |cons c cs=>exact h2.nof (C _ rfl)
  ·have:=By3 s W C bs n (y++ [x]) (k+1+(g b).length) (λc hc=>ho c (List.mem_cons_of_mem _ hc)) (by simp at hl;omega) h2 hn hs;rw[List.map_append,jO] at this;simpa [hx] using this
theorem By4 {β:Type} (g:β->List Tok) (s:List UInt8) (bs:List β):bs.length<=(bs.flatMap λb=>Ag s::g b).length:=by
 induction bs with
 |nil=>simp
 |cons b bs ih=>rw[List.flatMap_cons,jC,jA,jA];omega
theorem Be6 {α β γ:Type} {one:Nat->Re α} {g:β->List Tok} {st:α->γ} {stb:β->γ} (s:List UInt8) (W:List (List UInt8)) (C: ∀t,t=Ag s->nof W t) (bs:List β) (h0:bs≠ [])
  (D: ∀b∈bs,∀j,Pre l j (g b)->nof W (tk l (j+(g b).length))->Gvs st (one j) (stb b) (j+(g b).length)) (h:Pre l k (Dw s (bs.map g))) (y:nof W (tk l (k+(Dw s (bs.map g)).length))) (hs:isW l (k+(Dw s (bs.map g)).length) [s]=false):
  Gvs (λxs:List α=>xs.map st) (Be2 l one (byW l s) k) (bs.map stb) (k+(Dw s (bs.map g)).length):=by
 cases bs with
 |nil=>exact absurd rfl h0
 |cons b bs=>
  have E:Dw s ((b::bs).map g)=g b++bs.flatMap λb=>Ag s::g b:=by rw[jN,Aj0,List.flatMap_map]
  rw[E] at h y hs⊢
  have h2:=h.right;rw[jC,<-Nat.add_assoc] at y hs⊢
  refine(D b (by simp) k h.left ?_).then λx hx=> ?_
  ·cases bs with
   |nil=>exact y
   |cons c cs=>exact h2.nof (C _ rfl)
  ·have I:=h2.le;have hb:=By4 g s bs;have:=By3 (st:=st) (stb:=stb) s W C bs (l.length+1) [x] (k+(g b).length) (λc hc=>D c (List.mem_cons_of_mem _ hc)) (by omega) h2 y hs;rw[jN,<-hx];exact this
theorem Ag6 (y:List (List UInt8)) (h0:y≠ []) (h:Pre l k (Cq y)) (hs:isW l (k+(Cq y).length) [Dm]=false):Gvs (λx=>x) (Zi l k) y (k+(Cq y).length):=by
 have:=Be6 (l:=l) (k:=k) (one:=Ov l) (g:=λs=> [Eg s]) (st:=λx=>x) (stb:=λx=>x) Dm [] (λt _=>λs h=>by cases h) y h0 (λb _ j hb _=>⟨b,Ag5 hb,rfl⟩) h (λs h=>by cases h) hs;obtain⟨x,h1,h2⟩:=this;exact⟨x,h1,by simpa using h2⟩
def Gy7 (x:Ex) (s:List UInt8):Ex:= .mk 4 0 0 s [x] [] 0 0 0
def Hg1 (s:List UInt8):Ex:= .mk 3 0 0 s [] [] 0 0 0
def Ab5 (ss:List (List UInt8)):List Tok:=ss.flatMap λs=> [Ag Ju,Eg s]
theorem Bj2: ∀(n d:Nat) (e:Ex),Dk d e=true->Rz n e=true-> ∃s ss,stE e=ss.foldl Gy7 (Hg1 s)/\Ai e=Eg s::Ab5 ss
 | 0,_,_,_,h=>by cases h
 |n+1,d,e,hv,h=>by
  obtain⟨hf,hp⟩:=Hy hv;rw[Rz] at h;by_cases c:e.kind=4
  ·rw[if_pos c] at h;obtain⟨⟨x,hx,D⟩,h1,h2,h3⟩:=Dt9 (.inl c) hf;rw[hx] at h;have y:=hp x (Ba (by rw[hx];simp));obtain⟨s,ss,e1,C⟩:=Bj2 n _ x y h;refine⟨s,ss++ [e.s], ?_, ?_⟩
   ·rw[List.foldl_append,<-e1,Fv e,c,h1,h2,hx,h3];rfl
   ·rw[Ee3 c,tE,hx];show Ai x++_=_;rw[C,Ab5,Ab5,List.flatMap_append];simp
  ·rw[if_neg c,decide_eq_true_eq] at h;obtain⟨h1,h2,h3,h4⟩:=ff3 h hf;exact⟨e.s,[],by rw[Fv e,h,h1,h2,h3,h4];rfl,by rw[Dd6 h];rfl⟩
theorem Zn {e:Ex} (h:Ga e=true):Bu e=true/\ ∃s ss,stE e=ss.foldl Gy7 (Hg1 s)/\Ai e=Eg s::Ab5 ss:=by
 rw[Ga,jF] at h;exact⟨h.1,Bj2 _ _ e (Qd h.1) h.2⟩
theorem Bj3 (line:Int): ∀(y:List (List UInt8)) (n:Nat) (x:Ex) (k:Nat),y.length<n->Pre l k (Ab5 y)->isW l (k+(Ab5 y).length) [Ju]=false->Gvs stE (markL l line n x k) (y.foldl Gy7 (stE x)) (k+(Ab5 y).length)
 | [],n+1,x,k,_,h,hn=>by
  rw[Ab5,List.flatMap_nil,jB,Nat.add_zero] at hn⊢
  rw[markL,hn];exact .mk _ _ rfl
 |s::y,n+1,x,k,hl,h,hn=>by
  have h0:Pre l k (Ag Ju::Eg s::Ab5 y):=h;have e:k+(Ab5 (s::y)).length=k+1+1+(Ab5 y).length:=by rw[Ab5,Ab5,List.flatMap_cons,jC];simp;omega
  rw[e] at hn⊢
  rw[markL,if_pos h0.word,Ag5 h0.tail];have:=Bj3 line y n (.mk 4 0 0 s [x] [] line 0 0) (k+1+1) (by simp at hl;omega) h0.tail.tail hn;exact this
theorem Fs2 (y:List (List UInt8)):y.length<=(Ab5 y).length:=by
 induction y with
 |nil=>simp
 |cons s y ih=>rw[Ab5,List.flatMap_cons,jC,jA];change _<=_+(Ab5 y).length;simp;omega
theorem Zo {e:Ex} (hm:Ga e=true) (h:Pre l k (Ai e)) (y:isW l (k+(Ai e).length) [Ju]=false):Gvs stE (Ag1 l k) (stE e) (k+(Ai e).length):=by
 obtain⟨_,s,ss,e1,C⟩:=Zn hm;rw[C] at h y⊢
 rw[jA,show k+((Ab5 ss).length+1)=k+1+(Ab5 ss).length by omega] at y⊢
 have hl:=Fs2 ss;have hle:=h.tail.le;rw[Ag1,Ag5 h,e1];exact Bj3 _ ss _ _ (k+1) (by omega) h.tail y
end
def stI (s:Ind):Ind:=⟨stE s.name,stE s.lo,stE s.hi,stE s.value⟩
def stD (d:Dis):Dis:=⟨stE d.name,stE d.lo,stE d.hi⟩
def stP (p:Par):Par:=⟨p.names,p.mode,stE p.type,stE p.e,0⟩
def Ab6 (a:Asp):Asp:=⟨a.name,stE a.e⟩
def Ny (c:Cmp):Cmp:=⟨c.names,stI c.sub,stE c.e,0⟩
def Wg (a:Arm):Arm:=⟨a.c.map stC,a.comps.map Ny⟩
def Nl (t:Typ):Typ:=⟨t.kind,t.names,stE t.lo,stE t.hi,stI t.sub,stD t.disc,t.comps.map Ny,t.var,t.arms.map Wg,t.limited⟩
theorem Mb {x y:Ex} (h:stE x=stE y):noE x=noE y:=by
 unfold noE;rw[Bool.eq_iff_iff,Tv,Tv,h]
theorem Hh8 {x:Ex}:noE x=true↔stE x=ex0:=by
 unfold noE;rw[Tv];rfl
theorem Gy8 {x:Ex} (h:Bu x=true):noE x=false:=by
 cases c:noE x with
 |false=>rfl
 |true=>
  have hk:x.kind=0:=by rw[<-Jo,Hh8.1 c];rfl
  rw[Bu,jF,Oj] at h;have:Ax x=false:=by unfold Ax;simp [hk]
  rw[this] at h;simp at h
theorem Fs3 {x:Ex} (h:noE x=true):Bu x=false:=by
 cases c:Bu x with
 |false=>rfl
 |true=>rw[Gy8 c] at h;cases h
theorem By5 {x:Ex} (h:Ga x=true):Bu x=true:=by rw[Ga,jF] at h;exact h.1
theorem Dg9: ∀(n:Nat) (x y:Ex),stE x=stE y->Rz n x=Rz n y
 | 0,_,_,_=>rfl
 |n+1,x,y,h=>by
  have hk:x.kind=y.kind:=by rw[<-Jo x,h,Jo]
  have hl:x.l.map stE=y.l.map stE:=by rw[<-De1,h,De1]
  have hd:stE (x.l.getD 0 ex0)=stE (y.l.getD 0 ex0):=by
   (have e: ∀z:List Ex,stE (z.getD 0 ex0)=(z.map stE).getD 0 ex0:=λz=>by cases z<;>rfl);rw[e,e,hl]
  rw[Rz,Rz,hk,Dg9 n _ _ hd]
theorem Aw8 {x y:Ex} (h:stE x=stE y):Ga x=Ga y:=by
 unfold Ga;rw[Jp h,<-Cq1 x,h,Cq1,Dg9 _ _ _ h]
def wG:List (List UInt8):=w0++ [Et,Ew]
def wF:List (List UInt8):=wG++ [Pf]
section
variable {l:List Tok} {k k':Nat} {s:List UInt8} {ts us:List Tok}
theorem Fs4 (a b:Ex):(Dh a b).length=(Ap a 2).length+1+(Ap b 2).length:=by rw[Dh,jC,jA];omega
theorem Xo {x:Ind} (hm:Co x=true) (h:Pre l k (Ie x)) (C:nof wG (tk l (k+(Ie x).length))):Gvs stI (Xm l k) (stI x) (k+(Ie x).length):=by
 rw[Co,jF] at hm;obtain⟨h1,h2⟩:=hm;have M:=By5 h1;have hz: ∀y,noE y=true->stE y=stE ex0:=λy c=>Hh8.1 c;cases hv:noE x.value with
 |true=>
  rw[hv,if_pos rfl] at h2;cases hlo:noE x.lo with
  |true=>
   have J:noE x.hi=true:=by
    rw[hlo,Fs3 hlo] at h2;simpa using h2
   (have e:Ie x=Ai x.name:=by rw[Ie,hv,hlo];simp);rw[e] at h C⊢
   (refine(Zo h1 h (Ag4 C (by decide+kernel))).then λm hx=> ?_);rw[Ag4 C (show Ew∈wG by decide+kernel),Ag4 C (show Bc∈wG by decide+kernel)];exact .mk _ _ (by rw[stI,stI,hx,hz _ hv,hz _ hlo,hz _ J])
  |false=>
   rw[hlo,jT,Bool.false_or,jF] at h2;(have e:Ie x=Ai x.name++(Ag Ew::Dh x.lo x.hi):=by rw[Ie,hv,hlo];simp);rw[e] at h C⊢
   have hr:=h.right;(have D:k+(Ai x.name++(Ag Ew::Dh x.lo x.hi)).length=k+(Ai x.name).length+1+(Dh x.lo x.hi).length:=by rw[jC,jA];omega);rw[D] at C⊢
   (refine(Zo h1 h.left (hr.not (by decide+kernel))).then λm hx=> ?_);rw[if_pos hr.word];(refine(Zm h2.1 h2.2 hr.tail (Ft C (by decide+kernel))).then λb hb=> ?_);have hb1:=congrArg Prod.fst hb;have E:=congrArg Prod.snd hb;dsimp only at hb1 E;exact .mk _ _ (by rw[stI,stI,hx,hz _ hv,hb1,E])
 |false=>
  rw[hv,if_neg (by simp),jF,jF] at h2;have e:Ie x=Ai x.name++(Ag Bc::(Ai x.value++ [Ag Bs])):=by rw[Ie,hv];simp
  rw[e] at h C⊢
  have hr:=h.right;have I:=hr.tail.right;have D:k+(Ai x.name++(Ag Bc::(Ai x.value++ [Ag Bs]))).length=k+(Ai x.name).length+1+(Ai x.value).length+1:=by simp only[jC,jA,jB];omega
  rw[D] at C⊢
  refine(Zo h1 h.left (hr.not (by decide+kernel))).then λm hx=> ?_
  rw[hr.not (s:=Ew) (by decide+kernel),if_neg (by simp),if_pos hr.word];refine(Be5 h2.2 hr.tail.left (I.nof (by decide+kernel))).then λv L=> ?_
  rw[Eb I];exact .mk _ _ (by rw[stI,stI,hx,L,hz _ h2.1.1,hz _ h2.1.2])
theorem Cj0 {x:Dis} (hm:Dt x=true) (h:Pre l k (Nj x)) (C:nof wG (tk l (k+(Nj x).length))):Gvs stD (Be3 l k) (stD x) (k+(Nj x).length):=by
 have hz: ∀y,noE y=true->stE y=stE ex0:=λy c=>Hh8.1 c;have I: ∀y,Bn y=true->(2:Int)<=Aw y:=λy c=>by rw[Vp c];decide
 rw[Dt] at hm;cases hlo:noE x.lo with
 |true=>
  have J:noE x.hi=true:=by
   cases c:noE x.hi with
   |true=>rfl
   |false=>rw[hlo,c,Fs3 hlo] at hm;simp at hm
  rw[hlo,J,Bool.and_true,if_pos rfl,Bool.or_eq_true,jF,decide_eq_true_eq] at hm;have e:Nj x=Ai x.name:=by rw[Nj,hlo];simp
  rw[e] at h C⊢
  have M:Bu x.name=true:=hm.elim By5 (·.2);have O:Bn x.name=true:=by
   rcases hm with c|c
   ·obtain⟨_,s,ss,e1,_⟩:=Zn c;have hk:x.name.kind=3\/x.name.kind=4:=by
     rw[<-Jo,e1];rcases List.eq_nil_or_concat ss with rfl|⟨r,t,rfl⟩
     ·exact .inl rfl
     ·rw[List.concat_eq_append,List.foldl_append];exact .inr rfl
    exact Ty (by omega)
   ·exact Ty (by omega)
  refine(By2 2 M h (Ft C (by decide+kernel)) (I _ O)).then λy D=> ?_
  rw[Ag4 C (show Et∈wG by decide+kernel),Ag4 C (show Ew∈wG by decide+kernel),Bool.and_false];have S:y.kind=x.name.kind:=by rw[<-Jo,D,Jo]
  have hq:(!Ga y&&decide (y.kind≠6))=false:=by
   rw[Aw8 D,S];rcases hm with c|c
   ·rw[c];rfl
   ·rw[c.1];simp
  rw[hq];exact .mk _ _ (by rw[stD,stD,D,hz _ hlo,hz _ J])
 |false=>
  rw[hlo,jT,if_neg (by simp),jF,jF] at hm;obtain⟨⟨h1,h2⟩,h3⟩:=hm;cases hnm:noE x.name with
  |true=>
   (have e:Nj x=Dh x.lo x.hi:=by rw[Nj,hlo,hnm];simp);rw[e] at h C⊢
   have h':Pre l k (Ap x.lo 2++(Ag Et::Ap x.hi 2)):=h;have hr:=h'.right;rw[Fs4,show k+((Ap x.lo 2).length+1+(Ap x.hi 2).length)=k+(Ap x.lo 2).length+1+(Ap x.hi 2).length by omega] at C⊢
   (refine(Vs h1 h'.left (hr.nof (by decide+kernel))).then λa ha=> ?_);rw[if_pos hr.word];(refine(Vs h2 hr.tail (Ft C (by decide+kernel))).then λb hb=> ?_);exact .mk _ _ (by rw[stD,stD,ha,hb,hz _ hnm])
  |false=>
   (have E:Ga x.name=true:=by rw[hnm] at h3;simpa using h3);(have e:Nj x=Ai x.name++(Ag Ew::Dh x.lo x.hi):=by rw[Nj,hlo,hnm];simp);rw[e] at h C⊢
   have hr:=h.right;(have U:k+(Ai x.name++(Ag Ew::Dh x.lo x.hi)).length=k+(Ai x.name).length+1+(Dh x.lo x.hi).length:=by rw[jC,jA];omega);rw[U] at C⊢
   obtain⟨_,s,ss,e1,_⟩:=Zn E;have hk:x.name.kind=3\/x.name.kind=4:=by
    rw[<-Jo,e1];rcases List.eq_nil_or_concat ss with rfl|⟨r,t,rfl⟩
    ·exact .inl rfl
    ·rw[List.concat_eq_append,List.foldl_append];exact .inr rfl
   (refine(By2 2 (By5 E) h.left (hr.nof (by decide+kernel)) (I _ (Ty (by omega)))).then λy D=> ?_);rw[hr.not (s:=Et) (by decide+kernel),if_neg (by simp),Aw8 D,E,hr.word,if_pos (by rfl)];(refine(Zm h1 h2 hr.tail (Ft C (by decide+kernel))).then λb hb=> ?_);have hb1:=congrArg Prod.fst hb;have L:=congrArg Prod.snd hb;dsimp only at hb1 L;exact .mk _ _ (by rw[stD,stD,D,hb1,L])
theorem Bj4 {e:Ex} (hm:Gk e=true) (h:Pre l k (Ph e)) (y:nof wF (tk l (k+(Ph e).length))):Gvs stE (Rs l k) (stE e) (k+(Ph e).length):=by
 rw[Gk,Bool.or_eq_true] at hm;cases c:noE e with
 |true=>
  have e1:Ph e= []:=by rw[Ph,c];rfl
  rw[e1,jB,Nat.add_zero] at y⊢
  rw[Rs,Ag4 y (by decide+kernel),if_neg (by simp)];exact .mk _ _ (Hh8.1 c).symm
 |false=>
  have hv:Bu e=true:=by rw[c] at hm;simpa using hm
  have e1:Ph e=Ag Pf::Ai e:=by rw[Ph,c];rfl
  rw[e1] at h y⊢
  rw[jA,show k+((Ai e).length+1)=k+1+(Ai e).length by omega] at y⊢
  rw[Rs,if_pos h.word];exact Be5 hv h.tail (Ft y (by decide+kernel))
theorem Aw9 {y:List (List UInt8)} {m:Nat} (h:Ey y m=true):y≠ []:=by
 rintro rfl;simp [Ey] at h
theorem Gj4 {e:Ex} (h:Ga e=true): ∃s ts,Ai e=Eg s::ts:=by
 obtain⟨_,s,ss,_,y⟩:=Zn h;exact⟨s,_,y⟩
theorem Ev8 {p:Par} (hm:Fp p=true) (h:Pre l k (Pj p)) (C:nof wF (tk l (k+(Pj p).length))):Gvs stP (Bk9 l k) (stP p) (k+(Pj p).length):=by
 simp only[Fp,jF,Bool.or_eq_true,decide_eq_true_eq] at hm;obtain⟨⟨⟨⟨⟨h1,h2⟩,h3⟩,h4⟩,h5⟩,h6⟩:=hm;have D:Pj p=Cq p.names++(Ag Rq::(Xi p.mode++(Ai p.type++Ph p.e))):=rfl;have E:k+(Pj p).length=k+(Cq p.names).length+1+(Xi p.mode).length+(Ai p.type).length+(Ph p.e).length:=by rw[D];simp only[jC,jA];omega
 rw[E] at C⊢
 rw[D] at h;have ha:=h.right;have hb:=ha.tail.right;have hc:=hb.right;rw[Bk9];refine(Ag6 p.names (Aw9 h1) h.left (ha.not (by decide+kernel))).then λn I=> ?_
 subst I;rw[Eb ha];obtain⟨s,ts,hts⟩:=Gj4 h2;have hbb:Pre l (k+(Cq p.names).length+1+(Xi p.mode).length) (Eg s::ts):=by have:=hb.left;rw[hts] at this;exact this
 have J:Al7 l (k+(Cq p.names).length+1)=(p.mode,k+(Cq p.names).length+1+(Xi p.mode).length):=by
  have hi:=hbb.not (s:=wIn) (Xc (.inl rfl));have ho:=hbb.not (s:=Aw0) (Xc (.inl rfl));have y:=ha.tail.left;have L:p.mode=1\/p.mode=2\/p.mode=3:=by omega
  rcases L with c|c|c
  ·(have:Xi p.mode= []:=by rw[c];rfl);rw[this,jB,Nat.add_zero] at hi ho;rw[Al7,hi,ho,this,c];rfl
  ·(have:Xi p.mode= [Ag Aw0]:=by rw[c];rfl);rw[this] at y;rw[Al7,y.not (s:=wIn) (by decide+kernel),y.word,this,c];rfl
  ·(have:Xi p.mode= [Ag wIn,Ag Aw0]:=by rw[c];rfl);rw[this] at y;rw[Al7,y.word,y.tail.word,this,c];rfl
 rw[J];dsimp only;refine(Zo h2 hb.left ?_).then λt ht=> ?_
 ·cases c:noE p.e with
  |true=>
   (have:Ph p.e= []:=by rw[Ph,c];rfl);rw[this,jB,Nat.add_zero] at C;exact Ag4 C (by decide+kernel)
  |false=>
   (have:Ph p.e=Ag Pf::Ai p.e:=by rw[Ph,c];rfl);rw[this] at hc;exact hc.not (by decide+kernel)
 ·refine(Bj4 h3 hc C).then λe he=> ?_
  exact .mk _ _ (by rw[stP,stP,ht,he])
theorem Ev9 {a:Asp} (hm:Nh a=true) (h:Pre l k (Af3 a)) (y:nof wF (tk l (k+(Af3 a).length))):Gvs Ab6 (Bx7 l k) (Ab6 a) (k+(Af3 a).length):=by
 rw[Nh,jF] at hm;have C:Af3 a=Eg a.name::Ag Bp::Ai a.e:=rfl;rw[C] at h y⊢
 rw[show k+(Eg a.name::Ag Bp::Ai a.e).length=k+1+1+(Ai a.e).length by simp only[jA];omega] at y⊢
 have e1:Bx7 l k=(exR l 0 (k+1+1)).then λe i=> .ok ⟨a.name,e⟩ i:=by
  rw[Bx7,Ag5 h];exact Eb (f:=λi=>(exR l 0 i).then λe i=> .ok (⟨a.name,e⟩:Asp) i) h.tail
 rw[e1];exact(Be5 hm.2 h.tail.tail (Ft y (by decide+kernel))).then λe he=> .mk _ _ (by rw[Ab6,Ab6,he])
theorem Ew0 {c:Cmp} (hm:En c=true) (h:Pre l k (Uc c)):Gvs Ny (Cd2 l k) (Ny c) (k+(Uc c).length):=by
 simp only[En,jF] at hm;obtain⟨⟨h1,h2⟩,h3⟩:=hm;have y:Uc c=Cq c.names++(Ag Rq::(Ie c.sub++(Ph c.e++ [Ag Hd]))):=rfl;have C:k+(Uc c).length=k+(Cq c.names).length+1+(Ie c.sub).length+(Ph c.e).length+1:=by rw[y];simp only[jC,jA,jB];omega
 rw[C];rw[y] at h;have ha:=h.right;have hb:=ha.tail.right;have hc:=hb.right;rw[Cd2];refine(Ag6 c.names (Aw9 h1) h.left (ha.not (by decide+kernel))).then λn D=> ?_
 subst D;rw[Eb ha];refine(Xo h2 ha.tail.left ?_).then λs hs=> ?_
 ·cases cc:noE c.e with
  |true=>
   (have:Ph c.e= []:=by rw[Ph,cc];rfl);rw[this] at hb;exact hb.nof (t:=Ag Hd) (by decide+kernel)
  |false=>
   (have:Ph c.e=Ag Pf::Ai c.e:=by rw[Ph,cc];rfl);rw[this] at hb;exact hb.nof (t:=Ag Pf) (by decide+kernel)
 ·refine(Bj4 h3 hb.left (hc.nof (by decide+kernel))).then λe he=> ?_
  rw[Eb hc];exact .mk _ _ (by rw[Ny,Ny,hs,he])
end
theorem Ax0 (l:List Ch):Ia (l.map stC)=Ia l:=by
 have e: ∀c:Ch,(stC c).l.all Bu=c.l.all Bu:=λc=>by
  rw[Ee6,List.all_map];exact congrArg c.l.all (funext λx=>Cq2 x)
 rw[Ia,Ia,Bv2,List.all_map];exact congrArg (Cl l&& ·) (congrArg l.all (funext e))
def Fs (cs:List Cmp):List Tok:=if cs.isEmpty then [Ag Gg,Ag Hd] else cs.flatMap Uc
def So (a:Arm):List Tok:=Ag Pg::(Dw Gp (a.c.map Da)++(Ag Bp::Fs a.comps))
def Ow (v:List UInt8) (az:List Arm):List Tok:=if v= [] then [] else Ag Lv::Eg v::Ag wIs::(az.flatMap So++ [Ag Ri,Ag Lv,Ag Hd])
def Bl0 (t:Typ):List Tok:=Ag Cs::((if t.comps.isEmpty then [] else Fs t.comps)++(Ow t.var t.arms++ [Ag Ri,Ag Cs]))
def Mn (t:Typ):List Tok:=
 if t.kind=1 then Ag Bc::(Cq t.names++ [Ag Bs])
 else if t.kind=2 then Ag Ew::Dh t.lo t.hi
 else if t.kind=3 then Ag Aw1::Ie t.sub
 else if t.kind=4 then Ag Lw::Ag Bc::(Nj t.disc++(Ag Bs::Ag wOf::Ie t.sub))
 else if t.kind=6 then Ag Mm::Ie t.sub
 else if t.kind=7 then(if t.limited then [Ag Kp] else [])++ [Ag Gb]
 else if t.comps.isEmpty&&decide (t.var= []) then [Ag Gg,Ag Cs]
 else Bl0 t
theorem Aj4 (cs:List Cmp) (d:Int):Hw (Ly cs d)=Fs cs:=by
 rw[Ly,Fs];split
 ·rfl
 ·rw[Hw,List.flatMap_map]
theorem Dw4 {cs:List Ch} (h:Ia cs=true):(Lt cs).1=Dw Gp (cs.map Da):=by rw[Lt,if_pos h]
theorem Tb (a b:List Lin):Hw (a++b)=Hw a++Hw b:=by rw[Hw,Hw,Hw,List.flatMap_append]
theorem Qi (a:Lin) (b:List Lin):Hw (a::b)=a.l++Hw b:=by rw[Hw,Hw,List.flatMap_cons]
theorem Fs5 {a:Arm} (h:Eu a=true) (d:Int):Hw (Af4 d a)=So a:=by
 rw[Eu,jF] at h;rw[Af4,Qi,Aj4,Dw4 h.2,So];simp
theorem Cj1 (d:Int): ∀ {az:List Arm},az.all Eu=true->Hw (az.flatMap (Af4 d))=az.flatMap So
 | [],_=>rfl
 |a::az,h=>by
  rw[List.all_cons,jF] at h;rw[List.flatMap_cons,List.flatMap_cons,Tb,Fs5 h.1,Cj1 d h.2]
theorem Fs6 {t:Typ} (h:t.arms.all Eu=true) (d:Int):Hw (Bx0 t d)=Bl0 t:=by
 have h1:Hw (if t.comps.isEmpty then [] else Ly t.comps (Ps (d+1)))=(if t.comps.isEmpty then [] else Fs t.comps):=by
  split
  ·rfl
  ·exact Aj4 _ _
 have h2:Hw (if t.var= [] then [] else⟨Ps (d+1),[Ag Lv,Eg t.var,Ag wIs]⟩::(t.arms.flatMap (Af4 d)++ [⟨Ps (d+1),[Ag Ri,Ag Lv,Ag Hd]⟩]))=Ow t.var t.arms:=by
  rw[Ow];split
  ·rfl
  ·rw[Qi,Tb,Cj1 _ h];rfl
 rw[Bx0,Qi,Tb,Tb,h1,h2];rfl
theorem Dw5 {t:Typ} (h:Gs t=true):t.arms.all Eu=true:=by
 simp only[Gs,jF] at h;exact h.1.2
theorem By6 {t:Typ} (h:Dn t=true) (d:Int):Hw (Ig t d)=Mn t:=by
 have e1: ∀ts,Hw [⟨d,ts⟩]=ts:=λts=>by rw[Qi];exact jH _
 by_cases y:t.kind=1
 ·rw[Ig,Mn,if_pos y,if_pos y,e1]
 by_cases C:t.kind=2
 ·rw[Ig,Mn,if_neg y,if_neg y,if_pos C,if_pos C,e1]
 by_cases D:t.kind=3
 ·rw[Ig,Mn,if_neg y,if_neg y,if_neg C,if_neg C,if_pos D,if_pos D,e1]
 by_cases E:t.kind=4
 ·rw[Ig,Mn,if_neg y,if_neg y,if_neg C,if_neg C,if_neg D,if_neg D,if_pos E,if_pos E,e1]
 by_cases c6:t.kind=6
 ·rw[Ig,Mn,if_neg y,if_neg y,if_neg C,if_neg C,if_neg D,if_neg D,if_neg E,if_neg E,if_pos c6,if_pos c6,e1]
 by_cases I:t.kind=7
 ·rw[Ig,Mn,if_neg y,if_neg y,if_neg C,if_neg C,if_neg D,if_neg D,if_neg E,if_neg E,if_neg c6,if_neg c6,if_pos I,if_pos I,e1]
 by_cases J:t.kind=5
 ·rw[Dn,if_neg y,if_neg C,if_neg (by omega),if_neg E,if_pos J] at h;simp only[jF] at h;rw[Ig,Mn,if_neg y,if_neg y,if_neg C,if_neg C,if_neg D,if_neg D,if_neg E,if_neg E,if_neg c6,if_neg c6,if_neg I,if_neg I];split
  ·exact e1 _
  ·exact Fs6 (Dw5 h.1.2) d
 ·rw[Dn,if_neg y,if_neg C,if_neg (by omega),if_neg E,if_neg J,decide_eq_false I] at h;simp at h
section
variable {l:List Tok} {k k':Nat} {s:List UInt8} {ts us:List Tok}
theorem Gj5:Nt (List.map stC) (Bc3 l) (Bc3 (l.map stT)):=by
 have h:=Gn2 (l:=l);exact Cz (h.choice 0) λx k=>h.choicesL [x] k
theorem Fs7 {cs:List Ch} (hm:Ia cs=true) (h:Pre l k (Dw Gp (cs.map Da))) (I:nof w0 (tk l (k+(Dw Gp (cs.map Da)).length))) (hb:isW l (k+(Dw Gp (cs.map Da)).length) [Gp]=false):
  Gvs (List.map stC) (chR l k) (cs.map stC) (k+(Dw Gp (cs.map Da)).length):=by
 obtain⟨rest,hr⟩:=h.drop;obtain⟨L,y⟩: ∃L,L=(l.drop k).map stT:=⟨_,rfl⟩;have hz: ∀k,(tk L k).line=0:=λk=>by rw[y];exact Kg k
 have C:At L 0 (Dw Gp (cs.map Da)):=⟨Nat.zero_le _,rest,by rw[jJ,y,hr]⟩;have J:nof w0 (tk L (0+(Dw Gp (cs.map Da)).length)):=by rw[Nat.zero_add,y,Bi2,Fp3,Aw7];exact I
 have M:isW L (0+(Dw Gp (cs.map Da)).length) [Gp]=false:=by rw[Nat.zero_add,y,Mv,<-Dg8];exact hb
 have O:=hm;rw[Ia,jF,List.all_eq_true] at hm;obtain⟨D,S⟩:=hm;simp only[Cl,jF,decide_eq_true_eq,List.all_eq_true] at D;cases cs with
 |nil=>simp at D
 |cons c r=>
  obtain⟨j,U,V,-⟩:=Av1 (l:=L) (f:=(Q L).choice) (fL:=(Q L).choicesL) (sep:=Gp) (W:=w0) (g:=Da) (st:=stC) (λaz k hk=>Bv8 (p:=Q L) az hk) (by decide+kernel) (b:=c) (r:=r)
   (λd hd k C X=>Ch8 (p:=Q L) (D.2 d hd) (λx hx=>Du0 (p:=Q L) hz x 1 (Qd (List.all_eq_true.1 (S d hd) x hx))) C X) C rfl J M
  have hq:Bc3 L= .ok ((c::r).map stC) (0+(Dw Gp ((c::r).map Da)).length):=by
   (show((Q L).choice 0).then _=_);rw[U];exact V
  rw[y] at hq;obtain⟨x,e1,E⟩:=Cq9 Gj5 hq;refine⟨x, ?_,E⟩;have hf:Ji (l.drop k)=(x,(((Dw Gp ((c::r).map Da)).length:Nat):Int),0):=by
   rw[Ji,e1];show(if Ia x=true then _ else _)=_;rw[if_pos (by rw[<-Ax0 x,E,Ax0];exact O),Nat.zero_add]
  rw[chR,hf,Cr8]
theorem Bj5 {α β γ:Type} {one:Nat->Re α} {more:Nat->Option Nat} {g:β->List Tok} {st:α->γ} {stb:β->γ} (ok:Tok->Prop)
  : ∀(bs:List β) (n:Nat) (y:List α) (k:Nat),(∀b∈bs,∀j,Pre l j (g b)->more j=some j/\ok (tk l j)/\(ok (tk l (j+(g b).length))->Gvs st (one j) (stb b) (j+(g b).length)))->bs.length<n->Pre l k (bs.flatMap g)->ok (tk l (k+(bs.flatMap g).length))->more (k+(bs.flatMap g).length)=none->
   Gvs (λxs:List α=>xs.map st) (Ui one more n y k) (y.map st++bs.map stb) (k+(bs.flatMap g).length)
 | [],n+1,y,k,_,_,h,_,hs=>by
  rw[List.flatMap_nil,jB,Nat.add_zero] at hs⊢
  rw[Ui,hs];exact .mk _ _ (by simp)
 |b::bs,n+1,y,k,ho,hl,h,hk,hs=>by
  rw[List.flatMap_cons] at h hk hs⊢
  rw[jC,<-Nat.add_assoc] at hk hs⊢
  have h2:=h.right;obtain⟨C,E,D⟩:=ho b (by simp) k h.left;rw[Ui,C];dsimp only;refine(D ?_).then λx hx=> ?_
  ·cases bs with
   |nil=>simpa using hk
   |cons c cs=>rw[List.flatMap_cons] at h2;exact(ho c (by simp) _ h2.left).2.1
  ·have:=Bj5 ok bs n (y++ [x]) (k+(g b).length) (λc hc=>ho c (List.mem_cons_of_mem _ hc)) (by simp at hl;omega) h2 hk hs;rw[List.map_append,jO] at this;simpa [hx] using this
theorem Eg2 {β:Type} (g:β->List Tok): ∀(bs:List β),(∀b∈bs,1<=(g b).length)->bs.length<=(bs.flatMap g).length
 | [],_=>by simp
 |b::bs,h=>by
  have:=Eg2 g bs λc hc=>h c (List.mem_cons_of_mem _ hc);have:=h b (by simp);rw[List.flatMap_cons,jC,jA];omega
theorem By7 {α β γ:Type} {one:Nat->Re α} {more:Nat->Option Nat} {g:β->List Tok} {st:α->γ} {stb:β->γ} (ok:Tok->Prop) (bs:List β) (h0:bs≠ []) (h1: ∀b∈bs,1<=(g b).length)
  (y: ∀b∈bs,∀j,Pre l j (g b)->more j=some j/\ok (tk l j)/\(ok (tk l (j+(g b).length))->Gvs st (one j) (stb b) (j+(g b).length))) (h:Pre l k (bs.flatMap g)) (hk:ok (tk l (k+(bs.flatMap g).length))) (hs:more (k+(bs.flatMap g).length)=none):
   Gvs (λxs:List α=>xs.map st) (Be2 l one more k) (bs.map stb) (k+(bs.flatMap g).length):=by
 cases bs with
 |nil=>exact absurd rfl h0
 |cons b bs=>
  have hle:=h.le;have hfl:=Eg2 g (b::bs) h1;rw[List.flatMap_cons] at h hk hs⊢
  rw[jC,<-Nat.add_assoc] at hk hs⊢
  have h2:=h.right;obtain⟨_,_,C⟩:=y b (by simp) k h.left;refine(C ?_).then λx hx=> ?_
  ·cases bs with
   |nil=>simpa using hk
   |cons c cs=>rw[List.flatMap_cons] at h2;exact(y c (by simp) _ h2.left).2.1
  ·have:=Bj5 (st:=st) (stb:=stb) ok bs (l.length+1) [x] (k+(g b).length) (λc hc=>y c (List.mem_cons_of_mem _ hc)) (by simp at hfl hle;omega) h2 hk hs;rw[jN,<-hx];exact this
theorem Fs8 {y:List (List UInt8)} (h:y≠ []): ∃s ts,Cq y=Eg s::ts:=by
 cases y with
 |nil=>exact absurd rfl h
 |cons s r=>exact⟨s,_,by rw[Cq,jN,Aj0];rfl⟩
theorem Cr9 {c:Cmp} (hm:En c=true): ∃s ts,Uc c=Eg s::ts:=by
 simp only[En,jF] at hm;obtain⟨s,ts,e⟩:=Fs8 (Aw9 hm.1.1);exact⟨s,_,by rw[Uc,e];rfl⟩
theorem Pre.kind {t:Tok} (h:Pre l k (t::ts)):(tk l k).kind=t.kind:=by have:=congrArg Tok.kind h.head.1;exact this
theorem Ap8 {cs:List Cmp} (hm:cs.all En=true) (h:Pre l k (Fs cs)) (y:(tk l (k+(Fs cs).length)).kind≠1):Gvs (List.map Ny) (Sb l k) (cs.map Ny) (k+(Fs cs).length):=by
 rw[List.all_eq_true] at hm;cases cs with
 |nil=>
  have h0:Pre l k [Ag Gg,Ag Hd]:=h;rw[Sb,if_pos h0.word,Eb h0.tail];exact .mk _ _ rfl
 |cons c r=>
  have e:Fs (c::r)=(c::r).flatMap Uc:=rfl;rw[e] at h y⊢
  have hst: ∀b∈c::r,∀j,Pre l j (Uc b)->(tk l j).kind=1:=λb hb j hj=>by
   obtain⟨s,ts,e⟩:=Cr9 (hm b hb);rw[e] at hj;exact hj.kind
  have C:Pre l k (Uc c):=by rw[List.flatMap_cons] at h;exact h.left
  obtain⟨s,ts,D⟩:=Cr9 (hm c (by simp));rw[D] at C;rw[Sb,C.not (s:=Gg) (Xc (.inl rfl)),if_neg (by simp)];exact By7 (one:=Cd2 l) (more:=byN l) (g:=Uc) (st:=Ny) (stb:=Ny) (λ_=>True) (c::r) (by simp) (λb hb=>by obtain⟨s,ts,e⟩:=Cr9 (hm b hb);rw[e];simp) (λb hb j hj=>⟨by rw[byN,if_pos (hst b hb j hj)],trivial,λ_=>Ew0 (hm b hb) hj⟩) h trivial (by rw[byN,if_neg y])
theorem Ew1 {a:Arm} (hm:Eu a=true) (h:Pre l k (So a)) (y:(tk l (k+(So a).length)).kind≠1):Gvs Wg (Cd3 l k) (Wg a) (k+(So a).length):=by
 rw[Eu,jF] at hm;have C:So a=Ag Pg::(Dw Gp (a.c.map Da)++(Ag Bp::Fs a.comps)):=rfl;have D:k+(So a).length=k+1+(Dw Gp (a.c.map Da)).length+1+(Fs a.comps).length:=by rw[C];simp only[jC,jA];omega
 rw[D] at y⊢
 rw[C] at h;have ha:=h.tail.right;rw[Cd3,Eb h];refine(Fs7 hm.2 h.tail.left (ha.nof (by decide+kernel)) (ha.not (by decide+kernel))).then λc hc=> ?_
 rw[Eb ha];refine(Ap8 hm.1 ha.tail y).then λm E=> ?_
 exact .mk _ _ (by rw[Wg,Wg,hc,E])
theorem Dw6 {az:List Arm} (h0:az≠ []) (hm:az.all Eu=true) (h:Pre l k (az.flatMap So)) (C:(tk l (k+(az.flatMap So).length)).kind≠1) (hw:isW l (k+(az.flatMap So).length) [Pg]=false):Gvs (List.map Wg) (Bx8 l k) (az.map Wg) (k+(az.flatMap So).length):=by
 rw[List.all_eq_true] at hm;exact By7 (one:=Cd3 l) (more:=byI l Pg) (g:=So) (st:=Wg) (stb:=Wg) (λt=>t.kind≠1) az h0 (λb hb=>by rw[So];simp) (λb hb j hj=>by
  have y:Pre l j (Ag Pg::(Dw Gp (b.c.map Da)++(Ag Bp::Fs b.comps))):=hj;exact⟨by rw[byI,if_pos y.word],by rw[y.kind];decide+kernel,λhk=>Ew1 (hm b hb) hj hk⟩) h C (by rw[byI,hw];rfl)
theorem Ew2 {t:Typ} (hm:Gs t=true) (hk:t.kind=5) (J:Ub t=true) (hb:Vq t=true) (hi:Rg t.sub=true) (C:Rh t.disc=true) (hl:t.limited=false) (h:Pre l k (Bl0 t)):Gvs Nl (Dw1 l (k+1)) (Nl t) (k+(Bl0 t).length):=by
 have hz: ∀y,noE y=true->stE y=stE ex0:=λy c=>Hh8.1 c;have ab:=hm;simp only[Gs,jF,decide_eq_true_eq,Bool.or_eq_true] at hm;obtain⟨⟨⟨⟨⟨h1,h2⟩,h3⟩,h4⟩,h5⟩,h6⟩:=hm;have L:Bl0 t=Ag Cs::((if t.comps.isEmpty then [] else Fs t.comps)++(Ow t.var t.arms++ [Ag Ri,Ag Cs])):=rfl;have X:k+(Bl0 t).length=k+1+(if t.comps.isEmpty then [] else Fs t.comps).length+(Ow t.var t.arms).length+1+1:=by rw[L];simp only[jC,jA,jB];omega
 rw[X];rw[L] at h;have ha:=h.tail.right;have D:=ha.right;have hst:Nl t=⟨5,[],ex0,ex0,Ak6,Ak7,t.comps.map Ny,t.var,t.arms.map Wg,false⟩:=by
  simp only[Rg,Rh,Vq,Ub,jF,decide_eq_true_eq,List.length_eq_zero_iff] at hi C hb J;rw[Nl,stI,stD,hk,J,hl,hz _ hb.1,hz _ hb.2,hz _ hi.1.1.1,hz _ hi.1.1.2,hz _ hi.1.2,hz _ hi.2,hz _ C.1.1,hz _ C.1.2,hz _ C.2];rfl
 have ac:tk l (k+1+(if t.comps.isEmpty then [] else Fs t.comps).length)=tk l (k+1+(if t.comps.isEmpty then [] else Fs t.comps).length):=rfl;have Y: ∀ts,Pre l (k+1+(if t.comps.isEmpty then [] else Fs t.comps).length) ts->ts=Ow t.var t.arms++ [Ag Ri,Ag Cs]->(tk l (k+1+(if t.comps.isEmpty then [] else Fs t.comps).length)).kind≠1/\isW l (k+1+(if t.comps.isEmpty then [] else Fs t.comps).length) [Gg]=false:=λts hp e=>by
  subst e;by_cases c:t.var= []
  ·rw[Ow,if_pos c] at hp;have M:Pre l _ (Ag Ri:: [Ag Cs]):=hp;exact⟨by rw[M.kind];decide+kernel,M.not (by decide+kernel)⟩
  ·rw[Ow,if_neg c] at hp;exact⟨by rw[hp.kind];decide+kernel,hp.not (by decide+kernel)⟩
 obtain⟨k1,E⟩:=Y _ ha rfl;rw[Dw1];have Z:Gvs (List.map Ny) (if(tk l (k+1)).kind=1\/isW l (k+1) [Gg]=true then Sb l (k+1) else .ok [] (k+1)) (t.comps.map Ny) (k+1+(if t.comps.isEmpty then [] else Fs t.comps).length):=by
  have hc:=h.tail.left;cases hcs:t.comps with
  |nil=>
   rw[hcs] at k1 E;change (tk l (k+1)).kind≠1 at k1;change isW l (k+1) [Gg]=false at E;rw[if_neg (by rw[E];simp [k1])];exact .mk _ _ rfl
  |cons c r=>
   rw[hcs] at h1 k1;(have O:Pre l (k+1) (Fs (c::r)):=by rw[hcs] at hc;exact hc);have S:Pre l (k+1) (Uc c):=by
    have:Pre l (k+1) (Uc c++r.flatMap Uc):=O;exact this.left
   obtain⟨s,ts,e2⟩:=Cr9 (List.all_eq_true.1 h1 c (by simp));rw[e2] at S;rw[if_pos (.inl S.kind)];exact Ap8 h1 O k1
 refine Z.then λm aa=> ?_
 have g2:Gvs (λx:List UInt8×List Arm=>(x.1,x.2.map Wg)) (if isW l (k+1+(if t.comps.isEmpty then [] else Fs t.comps).length) [Lv] then(Ov l (k+1+(if t.comps.isEmpty then [] else Fs t.comps).length+1)).then λv i=>Eh l wIs i λi=>(Bx8 l i).then λa i=>Eh l Ri i λi=>Eh l Lv i λi=>Eh l Hd i λi=> .ok (v,a) i else .ok ([],[]) (k+1+(if t.comps.isEmpty then [] else Fs t.comps).length))
   (t.var,t.arms.map Wg) (k+1+(if t.comps.isEmpty then [] else Fs t.comps).length+(Ow t.var t.arms).length):=by
  obtain⟨q,hq⟩: ∃q,q=k+1+(if t.comps.isEmpty then [] else Fs t.comps).length:=⟨_,rfl⟩;rw[<-hq] at ha D⊢
  by_cases c:t.var= []
  ·have I:t.arms= []:=List.length_eq_zero_iff.1 (h2.1 c);(have hp:Pre l q [Ag Ri,Ag Cs]:=by rw[Ow,if_pos c] at ha;exact ha);rw[hp.not (by decide+kernel),if_neg (by simp),c,I,Ow,if_pos rfl];exact .mk _ _ rfl
  ·have I:t.arms≠ []:=λe=>c (h2.2 (by rw[e];rfl));(have e1:Ow t.var t.arms=Ag Lv::Eg t.var::Ag wIs::(t.arms.flatMap So++ [Ag Ri,Ag Lv,Ag Hd]):=by rw[Ow,if_neg c]);have hp:=ha.left;rw[e1] at hp⊢
   have hr:=hp.tail.tail.tail.right;rw[if_pos hp.word,Ag5 hp.tail,show q+(Ag Lv::Eg t.var::Ag wIs::(t.arms.flatMap So++ [Ag Ri,Ag Lv,Ag Hd])).length=q+1+1+1+(t.arms.flatMap So).length+1+1+1 by simp only[jC,jA,jB];omega];dsimp only[Re.then];rw[Eb hp.tail.tail];(refine(Dw6 I h5 hp.tail.tail.tail.left (by rw[hr.kind];decide+kernel) (hr.not (by decide+kernel))).then λa hA=> ?_);rw[Eb hr,Eb hr.tail,Eb hr.tail.tail];exact .mk _ _ (by rw[hA])
 refine g2.then λva U=> ?_
 rw[Eb D,Eb D.tail];have V:=congrArg Prod.fst U;have W:=congrArg Prod.snd U;dsimp only at V W;refine .mk _ _ ?_;rw[hst,Nl,V,W,aa];rfl
theorem Ew3 {t:Typ} (hm:Dn t=true) (h:Pre l k (Mn t)) (D:nof wG (tk l (k+(Mn t).length))):Gvs Nl (Xn l k) (Nl t) (k+(Mn t).length):=by
 have hz: ∀y,noE y=true->stE y=stE ex0:=λy c=>Hh8.1 c;have zI: ∀y,Rg y=true->stI y=stI Ak6:=λy c=>by
  simp only[Rg,jF] at c;rw[stI,hz _ c.1.1.1,hz _ c.1.1.2,hz _ c.1.2,hz _ c.2];rfl
 have Z: ∀y,Rh y=true->stD y=stD Ak7:=λy c=>by
  simp only[Rh,jF] at c;rw[stD,hz _ c.1.1,hz _ c.1.2,hz _ c.2];rfl
 have zR: ∀y,Xh y=true->y.comps= []/\y.var= []/\y.arms= []:=λy c=>by
  simp only[Xh,jF,decide_eq_true_eq,List.length_eq_zero_iff] at c;exact⟨c.1.1,c.1.2,c.2⟩
 have E: ∀y,Vq y=true->stE y.lo=stE ex0/\stE y.hi=stE ex0:=λy c=>by
  simp only[Vq,jF] at c;exact⟨hz _ c.1,hz _ c.2⟩
 have zN: ∀y,Ub y=true->y.names= []:=λy c=>by
  simp only[Ub,decide_eq_true_eq,List.length_eq_zero_iff] at c;exact c
 by_cases I:t.kind=1
 ·have O:Mn t=Ag Bc::(Cq t.names++ [Ag Bs]):=by rw[Mn,if_pos I]
  rw[Dn,if_pos I] at hm;simp only[jF,Bool.not_eq_true'] at hm;obtain⟨⟨⟨⟨⟨J,C⟩,L⟩,M⟩,S⟩,V⟩:=hm;obtain⟨W,X,Y⟩:=zR _ S;rw[O] at h⊢
  have hr:=h.tail.right;rw[Xn,if_pos h.word,show k+(Ag Bc::(Cq t.names++ [Ag Bs])).length=k+1+(Cq t.names).length+1 by simp only[jC,jA,jB];omega];refine(Ag6 t.names (Aw9 J) h.tail.left (hr.not (by decide+kernel))).then λn ac=> ?_
  subst ac;rw[Eb hr];exact .mk _ _ (by rw[Nl,Nl,I,(E _ C).1,(E _ C).2,zI _ L,Z _ M,W,X,Y,V];rfl)
 by_cases U:t.kind=2
 ·have O:Mn t=Ag Ew::Dh t.lo t.hi:=by rw[Mn,if_neg I,if_pos U]
  rw[Dn,if_neg I,if_pos U] at hm;simp only[jF,Bool.not_eq_true'] at hm;obtain⟨⟨⟨⟨⟨J,C⟩,L⟩,M⟩,S⟩,V⟩:=hm;obtain⟨W,X,Y⟩:=zR _ S;rw[O] at h D⊢
  rw[jA,show k+((Dh t.lo t.hi).length+1)=k+1+(Dh t.lo t.hi).length by omega] at D⊢
  rw[Xn,h.not (s:=Bc) (by decide+kernel),if_neg (by simp),if_pos h.word];refine(Zm C.1 C.2 h.tail (Ft D (by decide+kernel))).then λb hb=> ?_
  have hb1:=congrArg Prod.fst hb;have ab:=congrArg Prod.snd hb;dsimp only at hb1 ab;exact .mk _ _ (by rw[Nl,Nl,U,zN _ J,hb1,ab,zI _ L,Z _ M,W,X,Y,V];rfl)
 by_cases aa:t.kind=3\/t.kind=6
 ·rw[Dn,if_neg I,if_neg U,if_pos aa] at hm;simp only[jF,Bool.not_eq_true'] at hm;obtain⟨⟨⟨⟨⟨J,C⟩,L⟩,M⟩,S⟩,V⟩:=hm;obtain⟨W,X,Y⟩:=zR _ S;rcases aa with c3|c6
  ·(have O:Mn t=Ag Aw1::Ie t.sub:=by rw[Mn,if_neg I,if_neg U,if_pos c3]);rw[O] at h D⊢
   rw[jA,show k+((Ie t.sub).length+1)=k+1+(Ie t.sub).length by omega] at D⊢
   rw[Xn,h.not (s:=Bc) (by decide+kernel),if_neg (by simp),h.not (s:=Ew) (by decide+kernel),if_neg (by simp),h.not (s:=Lw) (by decide+kernel),if_neg (by simp),h.not (s:=Cs) (by decide+kernel),if_neg (by simp),if_pos h.word];(refine(Xo L h.tail D).then λy hy=> ?_);exact .mk _ _ (by rw[Nl,Nl,c3,zN _ J,(E _ C).1,(E _ C).2,hy,Z _ M,W,X,Y,V];rfl)
  ·(have O:Mn t=Ag Mm::Ie t.sub:=by rw[Mn,if_neg I,if_neg U,if_neg (by omega),if_neg (by omega),if_pos c6]);rw[O] at h D⊢
   rw[jA,show k+((Ie t.sub).length+1)=k+1+(Ie t.sub).length by omega] at D⊢
   rw[Xn,h.not (s:=Bc) (by decide+kernel),if_neg (by simp),h.not (s:=Ew) (by decide+kernel),if_neg (by simp),h.not (s:=Lw) (by decide+kernel),if_neg (by simp),h.not (s:=Cs) (by decide+kernel),if_neg (by simp),h.not (s:=Aw1) (by decide+kernel),if_neg (by simp),if_pos h.word];(refine(Xo L h.tail D).then λy hy=> ?_);exact .mk _ _ (by rw[Nl,Nl,c6,zN _ J,(E _ C).1,(E _ C).2,hy,Z _ M,W,X,Y,V];rfl)
 by_cases c4:t.kind=4
 ·have O:Mn t=Ag Lw::Ag Bc::(Nj t.disc++(Ag Bs::Ag wOf::Ie t.sub)):=by rw[Mn,if_neg I,if_neg U,if_neg (by omega),if_pos c4]
  rw[Dn,if_neg I,if_neg U,if_neg aa,if_pos c4] at hm;simp only[jF,Bool.not_eq_true'] at hm;obtain⟨⟨⟨⟨⟨J,C⟩,L⟩,M⟩,S⟩,V⟩:=hm;obtain⟨W,X,Y⟩:=zR _ S;rw[O] at h D⊢
  have hr:=h.tail.tail.right;rw[show k+(Ag Lw::Ag Bc::(Nj t.disc++(Ag Bs::Ag wOf::Ie t.sub))).length=k+1+1+(Nj t.disc).length+1+1+(Ie t.sub).length by simp only[jC,jA];omega] at D⊢
  rw[Xn,h.not (s:=Bc) (by decide+kernel),if_neg (by simp),h.not (s:=Ew) (by decide+kernel),if_neg (by simp),if_pos h.word,Eb h.tail];refine(Cj0 M h.tail.tail.left (hr.nof (by decide+kernel))).then λd hd=> ?_
  rw[Eb hr,Eb hr.tail];refine(Xo L hr.tail.tail D).then λy hy=> ?_
  exact .mk _ _ (by rw[Nl,Nl,c4,zN _ J,(E _ C).1,(E _ C).2,hy,hd,W,X,Y,V];rfl)
 by_cases c5:t.kind=5
 ·rw[Dn,if_neg I,if_neg U,if_neg aa,if_neg c4,if_pos c5] at hm;simp only[jF,Bool.not_eq_true'] at hm;obtain⟨⟨⟨⟨⟨J,C⟩,L⟩,M⟩,S⟩,V⟩:=hm;have O:Mn t=if t.comps.isEmpty&&decide (t.var= []) then [Ag Gg,Ag Cs] else Bl0 t:=by rw[Mn,if_neg I,if_neg U,if_neg (by omega),if_neg c4,if_neg (by omega),if_neg (by omega)]
  rw[O] at h D⊢
  by_cases cc:(t.comps.isEmpty&&decide (t.var= []))=true
  ·rw[if_pos cc] at h D⊢
   rw[jF,decide_eq_true_eq,List.isEmpty_iff] at cc;have ad:t.arms= []:=by
    simp only[Gs,jF,decide_eq_true_eq,Bool.or_eq_true] at S;exact List.length_eq_zero_iff.1 (S.1.1.1.1.2.1 cc.2)
   rw[Xn,h.not (s:=Bc) (by decide+kernel),if_neg (by simp),h.not (s:=Ew) (by decide+kernel),if_neg (by simp),h.not (s:=Lw) (by decide+kernel),if_neg (by simp),h.not (s:=Cs) (by decide+kernel),if_neg (by simp),h.not (s:=Aw1) (by decide+kernel),if_neg (by simp),h.not (s:=Mm) (by decide+kernel),if_neg (by simp),h.not (s:=Gb) (by decide+kernel),if_neg (by simp),h.not (s:=Kp) (by decide+kernel),if_neg (by simp),if_pos h.word,Eb h.tail];exact .mk _ _ (by rw[Nl,Nl,c5,zN _ J,(E _ C).1,(E _ C).2,zI _ L,Z _ M,cc.1,cc.2,ad,V];rfl)
  ·rw[if_neg cc] at h D⊢
   have h':Pre l k (Ag Cs::((if t.comps.isEmpty then [] else Fs t.comps)++(Ow t.var t.arms++ [Ag Ri,Ag Cs]))):=h;rw[Xn,h'.not (s:=Bc) (by decide+kernel),if_neg (by simp),h'.not (s:=Ew) (by decide+kernel),if_neg (by simp),h'.not (s:=Lw) (by decide+kernel),if_neg (by simp),if_pos h'.word];exact Ew2 S c5 J C L M V h
 ·rw[Dn,if_neg I,if_neg U,if_neg aa,if_neg c4,if_neg c5] at hm;simp only[jF,decide_eq_true_eq] at hm;obtain⟨⟨⟨⟨⟨c7,J⟩,C⟩,L⟩,M⟩,S⟩:=hm;obtain⟨W,X,Y⟩:=zR _ S;have O:Mn t=(if t.limited then [Ag Kp] else [])++ [Ag Gb]:=by rw[Mn,if_neg I,if_neg U,if_neg (by omega),if_neg c4,if_neg (by omega),if_pos c7]
  rw[O] at h D⊢
  cases cl:t.limited with
  |false=>
   rw[cl] at h;have h':Pre l k [Ag Gb]:=h;rw[Xn,h'.not (s:=Bc) (by decide+kernel),if_neg (by simp),h'.not (s:=Ew) (by decide+kernel),if_neg (by simp),h'.not (s:=Lw) (by decide+kernel),if_neg (by simp),h'.not (s:=Cs) (by decide+kernel),if_neg (by simp),h'.not (s:=Aw1) (by decide+kernel),if_neg (by simp),h'.not (s:=Mm) (by decide+kernel),if_neg (by simp),if_pos h'.word];exact .mk _ _ (by rw[Nl,Nl,c7,zN _ J,(E _ C).1,(E _ C).2,zI _ L,Z _ M,W,X,Y,cl];rfl)
  |true=>
   rw[cl] at h;have h':Pre l k [Ag Kp,Ag Gb]:=h;rw[Xn,h'.not (s:=Bc) (by decide+kernel),if_neg (by simp),h'.not (s:=Ew) (by decide+kernel),if_neg (by simp),h'.not (s:=Lw) (by decide+kernel),if_neg (by simp),h'.not (s:=Cs) (by decide+kernel),if_neg (by simp),h'.not (s:=Aw1) (by decide+kernel),if_neg (by simp),h'.not (s:=Mm) (by decide+kernel),if_neg (by simp),h'.not (s:=Gb) (by decide+kernel),if_neg (by simp),if_pos h'.word,Eb h'.tail];exact .mk _ _ (by rw[Nl,Nl,c7,zN _ J,(E _ C).1,(E _ C).2,zI _ L,Z _ M,W,X,Y,cl];rfl)
end
end Go.Dl
