/- The data level and the contracts of the functions that are reached (part 5). -/
import Derived.RecoverIn
import Derived.Test.YtddbdpcgikmiaaaGreatDoorPnd
set_option linter.unusedSimpArgs false
set_option linter.unusedVariables false
set_option linter.unusedSectionVars false
-- Chapter 3: what is valid: the fields of 
namespace Go.Dl
open Go Go.Proofs
set_option maxRecDepth 100000
theorem Gm5 (n:Nat):((n:Int)=0)=(n=0):=by rw[eq_iff_iff];omega
theorem Gp9 (n:Nat):((n:Int)=1)=(n=1):=by rw[eq_iff_iff];omega
theorem Gq0 (n:Nat):((n:Int)=2)=(n=2):=by rw[eq_iff_iff];omega
theorem Gq1 (n:Nat):((n:Int)=3)=(n=3):=by rw[eq_iff_iff];omega
section
variable {G:Nat->DVal} {H:Ac}
set_option maxHeartbeats 4000000 in
theorem Cq9 (hG:GX G) (H:Ac) (e:Ex) (hb:Fh e<=1099511627776) (hs:e.s.length<=9223372036854775807):Af Tryz.prog G 69 [.agg (dEx e)] H (Au (.bool (Bc e)) H):=by
 have U:= @Fw7 e;have V:= @Fw6 e;have hfl:=Ax Ad e.l;have C: ∀a∈e.a,a.c.length<=1099511627776:=fun a ha=>by
  have h1:=Df1 ha;have h2:=Vx a.c;rw[Am7] at h1;omega
 have s1:Cn (dEx e) 0 [DVal.int .u8 0]= [DVal.int .u8 0,DVal.int .u8 e.oper,DVal.int .i64 e.n,DVal.str e.s,DVal.vslice (e.l.flatMap dEx) e.l.length,DVal.vslice (e.a.flatMap dAs) e.a.length,DVal.int .i64 e.line,DVal.int .i64 e.ent,DVal.int .i64 e.t]:=by rw[Ox];rfl
 have s2:Cn [DVal.int .u8 0,DVal.int .u8 e.oper,DVal.int .i64 e.n,DVal.str e.s,DVal.vslice (e.l.flatMap dEx) e.l.length,DVal.vslice (e.a.flatMap dAs) e.a.length,DVal.int .i64 e.line,DVal.int .i64 e.ent,DVal.int .i64 e.t] 6 [DVal.int .i64 0]= [DVal.int .u8 0,DVal.int .u8 e.oper,DVal.int .i64 e.n,DVal.str e.s,DVal.vslice (e.l.flatMap dEx) e.l.length,DVal.vslice (e.a.flatMap dAs) e.a.length,DVal.int .i64 0,DVal.int .i64 e.ent,DVal.int .i64 e.t]:=rfl;have D:Cn [DVal.int .u8 0,DVal.int .u8 e.oper,DVal.int .i64 e.n,DVal.str e.s,DVal.vslice (e.l.flatMap dEx) e.l.length,DVal.vslice (e.a.flatMap dAs) e.a.length,DVal.int .i64 0,DVal.int .i64 e.ent,DVal.int .i64 e.t] 7 [DVal.int .i64 0]= [DVal.int .u8 0,DVal.int .u8 e.oper,DVal.int .i64 e.n,DVal.str e.s,DVal.vslice (e.l.flatMap dEx) e.l.length,DVal.vslice (e.a.flatMap dAs) e.a.length,DVal.int .i64 0,DVal.int .i64 0,DVal.int .i64 e.t]:=rfl;have E:Cn [DVal.int .u8 0,DVal.int .u8 e.oper,DVal.int .i64 e.n,DVal.str e.s,DVal.vslice (e.l.flatMap dEx) e.l.length,DVal.vslice (e.a.flatMap dAs) e.a.length,DVal.int .i64 0,DVal.int .i64 0,DVal.int .i64 e.t] 8 [DVal.int .i64 0]= [DVal.int .u8 0,DVal.int .u8 e.oper,DVal.int .i64 e.n,DVal.str e.s,DVal.vslice (e.l.flatMap dEx) e.l.length,DVal.vslice (e.a.flatMap dAs) e.a.length,DVal.int .i64 0,DVal.int .i64 0,DVal.int .i64 0]:=rfl;have I:Cn [DVal.int .u8 0,DVal.int .u8 e.oper,DVal.int .i64 e.n,DVal.str e.s,DVal.vslice (e.l.flatMap dEx) e.l.length,DVal.vslice (e.a.flatMap dAs) e.a.length,DVal.int .i64 0,DVal.int .i64 0,DVal.int .i64 0] 4 [DVal.nilSlice]= [DVal.int .u8 0,DVal.int .u8 e.oper,DVal.int .i64 e.n,DVal.str e.s,DVal.nilSlice,DVal.vslice (e.a.flatMap dAs) e.a.length,DVal.int .i64 0,DVal.int .i64 0,DVal.int .i64 0]:=rfl;have J:Cn [DVal.int .u8 0,DVal.int .u8 e.oper,DVal.int .i64 e.n,DVal.str e.s,DVal.nilSlice,DVal.vslice (e.a.flatMap dAs) e.a.length,DVal.int .i64 0,DVal.int .i64 0,DVal.int .i64 0] 1 [DVal.int .u8 0]= [DVal.int .u8 0,DVal.int .u8 0,DVal.int .i64 e.n,DVal.str e.s,DVal.nilSlice,DVal.vslice (e.a.flatMap dAs) e.a.length,DVal.int .i64 0,DVal.int .i64 0,DVal.int .i64 0]:=rfl;have L:Cn [DVal.int .u8 0,DVal.int .u8 e.oper,DVal.int .i64 e.n,DVal.str e.s,DVal.nilSlice,DVal.vslice (e.a.flatMap dAs) e.a.length,DVal.int .i64 0,DVal.int .i64 0,DVal.int .i64 0] 2 [DVal.int .i64 0]= [DVal.int .u8 0,DVal.int .u8 e.oper,DVal.int .i64 0,DVal.str e.s,DVal.nilSlice,DVal.vslice (e.a.flatMap dAs) e.a.length,DVal.int .i64 0,DVal.int .i64 0,DVal.int .i64 0]:=rfl;have M:Cn [DVal.int .u8 0,DVal.int .u8 e.oper,DVal.int .i64 e.n,DVal.str e.s,DVal.nilSlice,DVal.vslice (e.a.flatMap dAs) e.a.length,DVal.int .i64 0,DVal.int .i64 0,DVal.int .i64 0] 3 [DVal.str []]= [DVal.int .u8 0,DVal.int .u8 e.oper,DVal.int .i64 e.n,DVal.str [],DVal.nilSlice,DVal.vslice (e.a.flatMap dAs) e.a.length,DVal.int .i64 0,DVal.int .i64 0,DVal.int .i64 0]:=rfl;have O:Cn [DVal.int .u8 0,DVal.int .u8 e.oper,DVal.int .i64 e.n,DVal.str e.s,DVal.nilSlice,DVal.vslice (e.a.flatMap dAs) e.a.length,DVal.int .i64 0,DVal.int .i64 0,DVal.int .i64 0] 5 [DVal.nilSlice]= [DVal.int .u8 0,DVal.int .u8 e.oper,DVal.int .i64 e.n,DVal.str e.s,DVal.nilSlice,DVal.nilSlice,DVal.int .i64 0,DVal.int .i64 0,DVal.int .i64 0]:=rfl;refine Ab Tryz.func69 Tryz.call69 rfl (by kernel_rfl) ?_;simp(disch:=omega)only[go_sem,DVal.cells];intro r1 S;dsimp only at S;simp(disch:=omega)only[go_sem,DVal.cells];intro r3 y;dsimp only at y;obtain⟨W,X,Y⟩:=Av.1 y;obtain⟨x,Z,hg⟩: ∃x,e.l.getD 1 ex0=x/\(1<e.l.length->((e.l.flatMap dEx).drop 9).take 9=dEx x):=⟨_,rfl,fun h=>by rw[List.getD,List.getElem?_eq_getElem h];exact Cu Ad e.l 1 h⟩
 repeat' first
  | (with_reducible refine(Xb hG _ e.s hs).mono ?_;rintro _ H1 ⟨rfl,rfl⟩)
  | (with_reducible refine(Bk3 G _ e.a (by omega)).mono ?_;rintro _ H1 ⟨rfl,rfl⟩)
  | (with_reducible refine(An0 G _ e.a (by omega) C).mono ?_;rintro _ H1 ⟨rfl,rfl⟩)
  | (with_reducible refine(Us G _ x).mono ?_;rintro _ H1 ⟨rfl,rfl⟩)
  | simp(disch:=omega)only[go_sem,s1,s2,D,E,I,J,L,M,O,jA,jB,hfl, *]
  | (with_reducible refine Ot ?_ ?_<;>intro hc<;>try simp only[decide_eq_true_eq,decide_eq_false_iff_not] at hc)
  | (with_reducible refine Lm ?_ ?_<;>intro hc<;>try simp only[decide_eq_true_eq,decide_eq_false_iff_not] at hc)
  | (refine(Bk2 G _ e 1 (by decide)).mono ?_;rintro _ H1 ⟨rfl,rfl⟩)
  | (refine(Bk2 G _ e 2 (by decide)).mono ?_;rintro _ H1 ⟨rfl,rfl⟩)
  | (refine Es.sub (show Sub H _ from(by repeat (first | exact Sub.refl _ | assumption | refine Sub.up ?_ (by assumption) _))) (Es.refl ⟨?_,rfl⟩);clear U V hfl C hb hs s1 s2 D E I J L M O hg S y W X Y;(try simp only[Gm5,Gp9,Gq0,Gq1] at*);simp only[Bc,Z];simp [zO,zN,zS,zA,Ep, *];done)
end
mutual
def okE:Ex->Prop
 | .mk _ _ _ s l a _ _ _=>s.length<=9223372036854775807/\okL l/\Ph a
def okL:List Ex->Prop
 | []=>True
 | x::l=>okE x/\okL l
def okA:As->Prop
 | .mk c e=>Yp c/\okE e
def Ph:List As->Prop
 | []=>True
 | x::l=>okA x/\Ph l
def okC:Ch->Prop
 | .mk _ l=>okL l
def Yp:List Ch->Prop
 | []=>True
 | x::l=>okC x/\Yp l
end
theorem Be2: ∀ {l:List Ex},okL l-> ∀x∈l,okE x
 | y::l,h,x,hx=>by
  rw[okL] at h;rcases List.mem_cons.1 hx with rfl | hx
  ·exact h.1
  ·exact Be2 h.2 x hx
theorem Cr0: ∀ {l:List As},Ph l-> ∀x∈l,okA x
 | y::l,h,x,hx=>by
  rw[Ph] at h;rcases List.mem_cons.1 hx with rfl | hx
  ·exact h.1
  ·exact Cr0 h.2 x hx
theorem Bk5: ∀ {l:List Ch},Yp l-> ∀x∈l,okC x
 | y::l,h,x,hx=>by
  rw[Yp] at h;rcases List.mem_cons.1 hx with rfl | hx
  ·exact h.1
  ·exact Bk5 h.2 x hx
theorem Ge5 {e:Ex}:okE e↔e.s.length<=9223372036854775807/\okL e.l/\Ph e.a:=by cases e;rw[okE];rfl
theorem Ge6 {e:As}:okA e↔Yp e.c/\okE e.e:=by cases e;rw[okA];rfl
theorem Ge7 {e:Ch}:okC e↔okL e.l:=by cases e;rw[okC];rfl
theorem Ec7 {a:As} (h:okA a): ∀x∈Fb a,okE x:=fun x hx=>by
 rw[Ge6] at h;rcases List.mem_append.1 hx with hx | hx
 ·obtain⟨c,hc,hx⟩:=List.mem_flatMap.1 hx;exact Be2 (Ge7.1 (Bk5 h.1 c hc)) x hx
 ·rw[List.mem_singleton] at hx;subst hx;exact h.2
theorem Ec8 {e:Ex} (h:okE e): ∀x∈parts e,okE x:=fun x hx=>by
 rw[Ge5] at h;rcases List.mem_append.1 hx with hx | hx
 ·exact Be2 h.2.1 x hx
 ·obtain⟨a,ha,hx⟩:=List.mem_flatMap.1 hx;exact Ec7 (Cr0 h.2.2 a ha) x hx
theorem Df4 {a:As}: ∀x∈Fb a,Fh x<=Xg a:=fun x hx=>by
 rw[Am7];rcases List.mem_append.1 hx with hx | hx
 ·obtain⟨c,hc,hx⟩:=List.mem_flatMap.1 hx;have h1:=Vv hc;have h2:=Am8 hx;rw[Xh] at h1;omega
 ·rw[List.mem_singleton] at hx;subst hx;omega
theorem Bk6 {e x:Ex} (hx:x∈parts e):Fh x<Fh e:=by
 rcases List.mem_append.1 hx with hx | hx
 ·exact Ge4 hx
 ·obtain⟨a,ha,hx⟩:=List.mem_flatMap.1 hx;have h1:=Df1 ha;have h2:=Df4 x hx;omega
structure Fit (e:Ex):Prop where
 big:Fh e<=1099511627776
 ok:okE e
theorem Fit.parts {e x:Ex} (h:Fit e) (hx:x∈Dl.parts e):Fit x:=⟨by have:=Bk6 hx;have:=h.big;omega,Ec8 h.ok x hx⟩
theorem Fit.s {e:Ex} (h:Fit e):e.s.length<=9223372036854775807:=(Ge5.1 h.ok).1
mutual
theorem Bx3: ∀e:Ex,Hx e<=Fh e
 | .mk _ _ _ _ l a _ _ _=>by rw[Hx,Fh];have:=Au9 l;have:=Bk7 a;omega
theorem Au9: ∀l:List Ex,Bj5 l<=Ls l
 | []=>Nat.le_refl _
 | x::l=>by rw[Bj5,Ls];have:=Bx3 x;have:=Au9 l;omega
theorem Ec9: ∀a:As,Cq0 a<=Xg a
 | .mk c e=>by rw[Cq0,Xg];have:=Bk8 c;have:=Bx3 e;omega
theorem Bk7: ∀l:List As,Au0 l<=Fl l
 | []=>Nat.le_refl _
 | x::l=>by rw[Au0,Fl];have:=Ec9 x;have:=Bk7 l;omega
theorem Ed0: ∀c:Ch,Dp3 c<=Am5 c
 | .mk _ l=>by rw[Dp3,Am5];have:=Au9 l;omega
theorem Bk8: ∀l:List Ch,Au1 l<=Jm l
 | []=>Nat.le_refl _
 | x::l=>by rw[Au1,Jm];have:=Ed0 x;have:=Bk8 l;omega
end
mutual
theorem Ce5 (r:Nat) (cs:List DVal): ∀e:Ex,fzs r cs (dEx e)=dEx e
 | .mk _ _ _ _ l a _ _ _=>by simp only[dEx,fzs,fz,Ce6 r cs l,Dp6 r cs a]
theorem Ce6 (r:Nat) (cs:List DVal): ∀l:List Ex,fzs r cs (Ce4 l)=Ce4 l
 | []=>by simp only[Ce4,fzs]
 | x::l=>by rw[Ce4,Ag5,Ce5 r cs x,Ce6 r cs l]
theorem Ge8 (r:Nat) (cs:List DVal): ∀a:As,fzs r cs (dAs a)=dAs a
 | .mk c e=>by simp only[dAs,fzs,fz,Dp7 r cs c,Ce5 r cs e]
theorem Dp6 (r:Nat) (cs:List DVal): ∀l:List As,fzs r cs (Cq2 l)=Cq2 l
 | []=>by simp only[Cq2,fzs]
 | x::l=>by rw[Cq2,Ag5,Ge8 r cs x,Dp6 r cs l]
theorem Ge9 (r:Nat) (cs:List DVal): ∀c:Ch,fzs r cs (dCh c)=dCh c
 | .mk _ l=>by simp only[dCh,fzs,fz,Ce6 r cs l]
theorem Dp7 (r:Nat) (cs:List DVal): ∀l:List Ch,fzs r cs (Cq3 l)=Cq3 l
 | []=>by simp only[Cq3,fzs]
 | x::l=>by rw[Cq3,Ag5,Ge9 r cs x,Dp7 r cs l]
end
def Gf0 (d:Nat) (x:Ex) (s:Int) (b:Bool) (s':Int):Prop:=0<=s->s<=256->b=(Fc d x&&decide ((Hx x:Int)<=s))/\(b=true->s'=s-Hx x)
theorem Dp8 (d:Nat): ∀(l:List Ex) (s:Int) (b:Bool) (y:Int),Df3 (Gf0 d) l s b y->0<=s->s<=256->b=(l.all (Fc d)&&decide ((Pg l:Int)<=s))/\(b=true->y=s-Pg l)
 | [],s,b,y,h,h0,_=>by
  obtain⟨rfl,rfl⟩:=h;exact⟨by simp [Pg,h0],fun _=>by simp [Pg]⟩
 | x::l,s,b,y,h,h0,h1=>by
  obtain⟨I,s1,hx,h⟩:=h;obtain⟨hb,hs⟩:=hx h0 h1;have C:Pg (x::l)=Hx x+Pg l:=by simp [Pg]
  rcases h with⟨rfl,h⟩ | ⟨rfl,rfl,rfl⟩
  ·have e1:=hs rfl;have D:=hb.symm;rw[jF,decide_eq_true_eq] at D;obtain⟨k1,E⟩:=Dp8 d l s1 b y h (by omega) (by omega);refine⟨?_,fun hb=> ?_⟩
   ·rw[k1,List.all_cons,D.1,jS,C];congr 1;exact decide_eq_decide.2 ⟨fun h=>by omega,fun h=>by omega⟩
   ·rw[E hb,C];omega
  ·refine⟨?_,fun h=>(by cases h)⟩;rw[List.all_cons,C];cases hv:Fc d x with
   | false=>rfl
   | true=>
    rw[hv,jS] at hb;have:=of_decide_eq_false hb.symm;rw[decide_eq_false (by omega),Bool.and_false]
section
variable {G:Nat->DVal} {H:Ac}
theorem Bk9 (G:Nat->DVal) (H:Ac) (d:Int) (h y:Nat):Af Tryz.prog G 67 ([]++ [.int .i64 d]++ [.optr h 0, .optr y 0]) H
  (fun e H'=> ∃rd,H rd=none/\e= .ret (.func (.func 68) [] [.optr h 0, .optr rd 0, .optr y 0])/\H'=upd H rd (some (Vy d))):=by
 refine Ab Tryz.func67 Tryz.call67 rfl (by kernel_rfl) ?_;simp(disch:=omega)only[go_sem,DVal.cells,jG,jI];intro rd C;dsimp only at C;simp(disch:=omega)only[go_sem];exact Es.refl ⟨rd,C,rfl,rfl⟩
theorem Ed1 (hG:GX G) (C D:Nat) (af:C≠D): ∀(x:Ex) (H:Ac) (d:Nat) (s:Int) (I:Nat),Fit x->d<=1000000->H C=some (Vy s)->H I=some (Vy d)->C≠I->H D=some (.cells [.func (.func 67) [] [.optr C 0, .optr D 0]] 119)->
  Af Tryz.prog G 68 ([]++ [.agg (dEx x)]++ [.optr C 0, .optr I 0, .optr D 0]) H (Fw8 (Gf0 d) x s C H):=by
 intro x
 induction x using Ex.ind with
 | h x ih=>
  intro H d s I hx hd hl aa ag ha;refine Ab Tryz.func68 Tryz.call68 rfl (by kernel_rfl) ?_;simp(disch:=omega)only[go_sem,DVal.cells,jG,jI];intro J X;dsimp only at X;have n1:C≠J:=Ae X hl;have n2:I≠J:=Ae X aa;have n3:D≠J:=Ae X ha;unfold Vy at hl aa;obtain⟨s1,ah⟩: ∃s1,s1=IntKind.i64.wrap (s-1):=⟨_,rfl⟩;have ac:I≠C:=ag.symm;have ad:D≠C:=af.symm;simp(disch:=omega)only[go_sem,n1,n2,n3,hl,aa,ha,ag,af,ac,ad,<-ah];refine Aj (by kernel_rfl) (.take 0 (.take 1 (.take 2 (.take 3 (.take 4 (.take 5 (.take 6 (.take 7 (.go 8 [] (.take 9 (.take 10 (.take 11 (.take 12 (.take 13 (.take 14 (.go 15 [11] (.go 16 [] (.take 17 (.take 18 .done))))))))))))))))))) (by kernel_rfl) ?_;have q1:J≠C:=n1.symm;have q2:J≠I:=n2.symm;have q3:J≠D:=n3.symm;obtain⟨S,ab⟩: ∃S,S=upd (upd H J (some (.cells (dEx x) 27))) C (some (.cells [.int .i64 s1] 3)):=⟨_,rfl⟩;have V:Yo C H S:=by rw[ab];exact((Yo.refl C H).new X _).set _
  have E:S C=some (.cells [.int .i64 s1] 3):=by rw[ab];exact Aa _ _ _
  have L:S I=some (.cells [.int .i64 d] 3):=V _ _ ac aa;have M:S D=some (.cells [.func (.func 67) [] [.optr C 0, .optr D 0]] 119):=V _ _ ad ha;have O:S J=some (.cells (dEx x) 27):=by rw[ab];simp [upd,q1]
  rw[<-ab];have sv: ∀b:Bool,0<=s->s<=256->s1=s-1:=fun _ h0 h1=>by rw[ah,IntKind.wrap_i64];omega
  have ai:(Hx x:Int)=1+(Pg (parts x):Int):=by rw[Sl x];omega
  by_cases c1:0<=s1
  ·by_cases c2:d<=32
   ·have ae:(d:Int)<=32:=by omega
    simp(disch:=omega)only[go_sem,E,L,M,O,c1,ae];refine(Cq9 hG _ x hx.big hx.s).mono ?_;rintro _ H5 ⟨rfl,rfl⟩;cases hf:Bc x with
    | true=>
     have aj:IntKind.i64.wrap ((d:Int)+1)=((d+1:Nat):Int):=by rw[IntKind.wrap_i64];omega
     simp(disch:=omega)only[go_sem,E,L,M,O,aj];refine(Bk9 G _ ((d+1:Nat):Int) C D).mono ?_;rintro _ H6 ⟨U,Y,rfl,rfl⟩;have Z:C≠U:=Ae Y E;have p2:D≠U:=Ae Y M;have p3:I≠U:=Ae Y L;have p4:J≠U:=Ae Y O;have ak:Yo C H (upd H5 U (some (Vy ((d+1:Nat):Int)))):=V.new Y _;simp(disch:=omega)only[go_sem,E,L,M,O,Z,p3,p4];refine(Ec6 G _ x hx.big 68 [] [.optr C 0, .optr U 0, .optr D 0] (Gf0 (d+1)) C s1 (by simp only[upd,if_neg Z];exact E) fun y hy t K hK W=>ih y hy K (d+1) t U (hx.parts hy) (by omega) hK (W _ _ Z.symm (Aa _ _ _)) Z (W _ _ ad (by simp only[upd,if_neg p2];exact M))).mono ?_;rintro _ H7 ⟨b,t,rfl,hR,ht,W⟩;have k2:H7 I=some (.cells [.int .i64 d] 3):=W _ _ ac (by simp only[upd,if_neg p3];exact L);have k4:H7 J=some (.cells (dEx x) 27):=W _ _ q1 (by simp only[upd,if_neg p4];exact O);simp(disch:=omega)only[go_sem,E,L,M,O,Z,p3,p4,k2,k4]
     trace_state
     refine Es.refl ⟨b,t,rfl,fun h0 h1=> ?_,ht,ak.trans W⟩;have e1:=sv true h0 h1;obtain⟨w1,w2⟩:=Dp8 (d+1) _ _ _ _ hR c1 (by omega);refine⟨?_,fun hb=>by rw[w2 hb,ai];omega⟩;rw[w1,Py,hf,decide_eq_true c2,jS,jS];congr 1;exact decide_eq_decide.2 ⟨fun h=>by omega,fun h=>by omega⟩
    | false=>
     simp(disch:=omega)only[go_sem,E,L,M,O];refine Es.refl ⟨false,s1,rfl,fun _ _=>⟨?_,fun h=>(by cases h)⟩,E,V⟩;rw[Py,hf,Bool.and_false,jT,jT]
   ·have ae: ¬(d:Int)<=32:=by omega
    simp(disch:=omega)only[go_sem,E,L,M,O,c1,ae];refine Es.refl ⟨false,s1,rfl,fun _ _=>⟨?_,fun h=>(by cases h)⟩,E,V⟩;rw[Py,decide_eq_false c2,jT,jT,jT]
  ·simp(disch:=omega)only[go_sem,E,L,M,O,c1];refine Es.refl ⟨false,s1,rfl,fun h0 h1=>⟨?_,fun h=>(by cases h)⟩,E,V⟩;have:=sv true h0 h1;rw[decide_eq_false (by omega),Bool.and_false]
theorem Zt (hG:GX G) (H:Ac) (e:Ex) (he:Fit e):Af Tryz.prog G 12 [.agg (dEx e)] H (Au (.bool (Cg e)) H):=by
 refine Ab Tryz.func12 Tryz.call12 rfl (by kernel_rfl) ?_;simp(disch:=omega)only[go_sem,DVal.cells];intro C Z;dsimp only at Z;simp(disch:=omega)only[go_sem,DVal.cells];intro y U;dsimp only at U;obtain⟨m1,J,ab⟩:=Av.1 U;simp(disch:=omega)only[go_sem,DVal.cells,m1,J];intro h V;dsimp only at V;obtain⟨p1,W,ac⟩:=Av.1 V;obtain⟨p3,p4,ad⟩:=Av.1 ac;simp(disch:=omega)only[go_sem,DVal.cells,m1,J,p1,W,p3,p4];have aa:Sub H (upd (upd (upd H C (some (.cells (dEx e) 27))) y (some (Vy 256))) h (some (.cells [.func (.func 67) [] [.optr y 0, .optr h 0]] 119))):=((Sub.refl H).new Z _ |>.new U _).new V _;have E:upd (upd (upd H C (some (.cells (dEx e) 27))) y (some (Vy 256))) h (some (.cells [.func (.func 67) [] [.optr y 0, .optr h 0]] 119)) C=some (.cells (dEx e) 27):=by simp [upd,J,p4]
 have I:upd (upd (upd H C (some (.cells (dEx e) 27))) y (some (Vy 256))) h (some (.cells [.func (.func 67) [] [.optr y 0, .optr h 0]] 119)) y=some (Vy 256):=by simp [upd,W]
 have D:upd (upd (upd H C (some (.cells (dEx e) 27))) y (some (Vy 256))) h (some (.cells [.func (.func 67) [] [.optr y 0, .optr h 0]] 119)) h=some (.cells [.func (.func 67) [] [.optr y 0, .optr h 0]] 119):=Aa _ _ _;change dwp _ _ _ _ _ ⟨_,upd (upd (upd H C (some (.cells (dEx e) 27))) y (some (Vy 256))) h (some (.cells [.func (.func 67) [] [.optr y 0, .optr h 0]] 119))⟩;generalize upd (upd (upd H C (some (.cells (dEx e) 27))) y (some (Vy 256))) h (some (.cells [.func (.func 67) [] [.optr y 0, .optr h 0]] 119))=K at aa E I D;refine Aj (by kernel_rfl) (.take 0 (.take 2 (.go 1 [2] (.go 3 [] (.take 4 .done))))) (by kernel_rfl) ?_;simp(disch:=omega)only[go_sem,E,I,D];refine(Bk9 G _ 1 y h).mono ?_;rintro _ H6 ⟨L,M,rfl,rfl⟩;have X:C≠L:=Ae M E;have O:y≠L:=Ae M I;have S:h≠L:=Ae M D;simp(disch:=omega)only[go_sem,E,I,D,X,O,S];refine(Ed1 hG y h W e _ 1 256 L he (by decide) (by simp only[upd,if_neg O];exact I) (Aa _ _ _) O (by simp only[upd,if_neg S];exact D)).mono ?_;rintro _ H7 ⟨b,t,rfl,hR,ht,Y⟩;obtain⟨w1,_⟩:=hR (by decide) (by decide);have z1:H7 C=some (.cells (dEx e) 27):=Y _ _ J (by simp only[upd,if_neg X];exact E);have z4:H7 h=some (.cells [.func (.func 67) [] [.optr y 0, .optr h 0]] 119):=Y _ _ p1 (by simp only[upd,if_neg S];exact D);simp(disch:=omega)only[go_sem,E,I,D,X,O,S,z1,z4];refine Es.sub (Y.sub (aa.new M _) ab) (Es.refl ⟨?_,rfl⟩);rw[w1,Cg];have:((Hx e:Int)<=256)↔Hx e<=256:=by omega
 simp only[this]
end
def Lt (H':Ac) (v:DVal) (H:Ac) (v':DVal):Prop:= ∀w,Bj w H'-> ∀x,Rel w H' v x->Rel w H v' x
def Kq (H':Ac) (vs:List DVal) (H:Ac) (vs':List DVal):Prop:= ∀w,Bj w H'-> ∀xs,Az w H' vs xs->Az w H vs' xs
section
variable {H H':Ac}
theorem Lt.keep (h:Sub H H') (v:DVal):Lt H' v H v:=fun w _ x hx=>Rel.lasts (Er h w) _ _ hx
theorem Lt.le {v y:DVal} (h:Sub H H') (k:DLe v y):Lt H' v H y:=fun w _ x hx=>Rel.lasts (Er h w) _ _ (k w H' x hx)
theorem Lt.own {e:TypeId} {size n:Nat} {cs:List DVal} {v:DVal} (h:Jf H e size n cs v H'):Lt H' v H (.vslice cs n):=fun w hw x hx=>(h.ghost w hw).2.2 x hx
theorem Lt.block {e:TypeId} {size r n:Nat} {cs:List DVal} (h:Sub H H') (hr:H r=none) (y:H' r=some (.cells cs e)) (hl:cs.length=n*size):Lt H' (.oslice size r 0 n n) H (.vslice cs n):=
 Lt.own (e:=e) (.inr ⟨r,hr,hl,rfl,y,h⟩)
theorem Kq.nil:Kq H' [] H []:=fun w _ xs hx=>by simpa [Az] using hx
theorem Kq.cons {v C:DVal} {vs D:List DVal} (h:Lt H' v H C) (k:Kq H' vs H D):Kq H' (v::vs) H (C::D):=fun w hw xs hx=>by
 simp only[Az] at hx⊢
 obtain⟨y,ys,rfl,h1,h2⟩:=hx;exact⟨y,ys,rfl,h w hw y h1,k w hw ys h2⟩
theorem Kq.keep (h:Sub H H') (vs:List DVal):Kq H' vs H vs:=fun w _ xs hx=>Az.lasts (Er h w) _ _ hx
theorem Kq.append {a y b C:List DVal} (h:Kq H' a H y) (k:Kq H' b H C):Kq H' (a++b) H (y++C):=fun w hw x hx=>by
 have e:x=x.take a.length++x.drop a.length:=(List.take_append_drop _ _).symm;have h1:=hx.take a.length;have h2:=hx.drop a.length;rw[List.take_left] at h1;rw[List.drop_left] at h2;rw[e];exact(h w hw _ h1).append (k w hw _ h2)
theorem Lt.agg {vs y:List DVal} (h:Kq H' vs H y):Lt H' (.agg vs) H (.agg y):=fun w hw x hx=>by
 simp only[Rel] at hx⊢
 obtain⟨xs,rfl,h1⟩:=hx;exact⟨xs,rfl,h w hw _ h1⟩
theorem Lt.tuple {vs y:List DVal} (h:Kq H' vs H y):Lt H' (.tuple vs) H (.tuple y):=fun w hw x hx=>by
 simp only[Rel] at hx⊢
 obtain⟨xs,rfl,h1⟩:=hx;exact⟨xs,rfl,h w hw _ h1⟩
theorem Lt.nil (h:Sub H H'):Lt H' .nilSlice H (.vslice [] 0):=Lt.le h .nil
theorem Lt.cells {e:TypeId} {size r n:Nat} {cs cs':List DVal} (h:Sub H H') (hr:H r=none) (C:H' r=some (.cells cs e)) (hl:cs.length=n*size) (hs:Kq H' cs H cs'):Lt H' (.oslice size r 0 n n) H (.vslice cs' n):=fun w hw x hx=>by
 obtain⟨_,_,J⟩:=Ln.fz (v:= .oslice size r 0 n n) C w hw;obtain⟨ys,L,M⟩:=Zh hw C;simp only[Rel] at hx⊢
 obtain⟨o,cap,rfl,h1,h2,h3,h4⟩:=hx;refine⟨_,cap,rfl,h2, ?_⟩;by_cases h0:cs= []
 ·subst h0;have:=hs w hw [] (by simp [Az]);cases cs' with
  | nil=>exact .inl rfl
  | cons c cs'=>simp [Az] at this
 ·obtain⟨D,E,hh⟩:=hw.holds C;have ho:o=0:=by
   rcases h3 with h3 | h3
   ·exfalso;have:n=0:=by omega
    subst this;rw[Nat.zero_mul] at hl;exact h0 (List.length_eq_zero_iff.1 hl)
   ·exact h3
  subst ho;exact .inr ⟨r,0,D,rfl, .inr ⟨hr,fun i y I=>by simpa using hh i y I⟩,hs w hw D E⟩
theorem Lt.fin {R:DEnd->Ac->Prop} {v y:DVal} (hs:Sub H H') (h:Lt H' v H y) (k:R (.ret y) H):Es R v H':= .ghost (fun w hw=>⟨((Ln.sub hs v) w hw).1,((Ln.sub hs v) w hw).2.1,h w hw⟩) (.refl k)
theorem Kq.call {P:Program} {G:Nat->DVal} {f:FuncId} {args args':List DVal} {R:DEnd->Ac->Prop} (hs:Sub H H') (h:Kq H' args H args') (k:Af P G f args' H R):Af P G f args H' R:=
 Af.pre (fun w hw=>⟨((Ln.sub hs (.tuple args)) w hw).1,((Ln.sub hs (.tuple args)) w hw).2.1,Lt.tuple h w hw⟩) k
theorem Kq.lent {P:Program} {G:Nat->DVal} {f:FuncId} {args args':List DVal} {v:DVal} (h:Kq H' args H args') (k:Af P G f args' h0 (Au v h0)) (hv:Am2 v=true):Af P G f args H' (Au v H'):=
 k.lent (fun w vs hw hr=>Az.lasts (Co6 H w) _ _ (h w hw vs hr)) hv
theorem Lt.ex {k o n:Int} {s:List UInt8} {h y:DVal} {l:List Ex} {a:List As} {li en t:Int} (hs:Sub H H') (hl:Lt H' h H (dXs l)) (ha:Lt H' y H (dAl a)):
  Kq H' [.int .u8 k, .int .u8 o, .int .i64 n, .str s,h,y, .int .i64 li, .int .i64 en, .int .i64 t] H (dEx (.mk k o n s l a li en t)):=by
 rw[Xf];exact .cons (.keep hs _) (.cons (.keep hs _) (.cons (.keep hs _) (.cons (.keep hs _) (.cons hl (.cons ha (.keep hs _))))))
theorem Lt.exs0 (hs:Sub H H'):Lt H' .nilSlice H (dXs []):=Lt.nil hs
theorem Lt.as0 (hs:Sub H H'):Lt H' .nilSlice H (dAl []):=Lt.nil hs
theorem Lt.ch0 (hs:Sub H H'):Lt H' .nilSlice H (dCl []):=Lt.nil hs
end
section
variable {G:Nat->DVal} {H:Ac}
theorem Cr1 (hG:GX G) (H:Ac) (e:Ex) (he:Fit e):Af Tryz.prog G 77 ([]++ [.agg (dEx e)]++ []) H (Au (.bool (!Cg e)) H):=by
 refine Ab Tryz.func77 Tryz.call77 rfl (by kernel_rfl) ?_;simp(disch:=omega)only[go_sem,DVal.cells,jG,jH];intro r hr;dsimp only at hr;simp(disch:=omega)only[go_sem];refine(Zt hG _ e he).mono ?_;rintro _ H1 ⟨rfl,rfl⟩;simp(disch:=omega)only[go_sem];exact Es.dropA r hr (Es.refl ⟨rfl,rfl⟩)
theorem Cr2 (hG:GX G) (H:Ac) (c:Ch) (h: ∀x∈c.l,Fit x) (hl:c.l.length<=1099511627776):Af Tryz.prog G 75 ([]++ [.agg (dCh c)]++ []) H (Au (.bool (!c.l.all Cg)) H):=by
 refine Ab Tryz.func75 Tryz.call75 rfl (by kernel_rfl) ?_;simp(disch:=omega)only[go_sem,DVal.cells,jG,jH];intro r hr;dsimp only at hr;simp(disch:=omega)only[go_sem];refine(Ag8 G _ (fun e=>!Cg e) c.l 77 [] [] hl fun x hx=>Cr1 hG _ x (h x hx)).mono ?_;rintro _ H1 ⟨rfl,rfl⟩;rw[Ut];simp(disch:=omega)only[go_sem];exact Es.dropA r hr (Es.refl ⟨rfl,rfl⟩)
theorem Nm (hG:GX G) (H:Ac) (l:List Ch) (hb:Jm l<=1000000000000) (hk:Yp l):Af Tryz.prog G 16 [dCl l] H (Au (.bool (Kp l)) H):=by
 have y:=Vx l;refine Ab Tryz.func16 Tryz.call16 rfl (by kernel_rfl) ?_;simp(disch:=omega)only[go_sem,dCl];refine(Ag9 G _ l (by omega)).mono ?_;rintro _ H1 ⟨rfl,rfl⟩;cases h:Dk l with
 | false=>
  simp(disch:=omega)only[go_sem];exact Es.refl ⟨by rw[Kp,h,jT],rfl⟩
 | true=>
  simp(disch:=omega)only[go_sem];refine(Bk1 G H1 (fun c=>!c.l.all Cg) l 75 [] [] (by omega) fun c hc=> ?_).mono ?_
  ·have h1:=Vv hc;have h2:=Vw c.l;rw[Xh] at h1;refine Cr2 hG _ c (fun x hx=> ?_) (by omega);have h3:=Am8 hx;exact⟨by omega,Be2 (Ge7.1 (Bk5 hk c hc)) x hx⟩
  ·rintro _ H2 ⟨rfl,rfl⟩;rw[Ut];simp(disch:=omega)only[go_sem];exact Es.refl ⟨by rw[Kp,h,jS,Bool.not_not],rfl⟩
end
def eqF {α:Type} (p:α->α->Bool):List α->List α->Bool
 | [],[]=>true
 | x::l,y::m=>p x y&&eqF p l m
 | _,_=>false
theorem Dp9 {α:Type} {p:α->α->Bool}: ∀ {l m:List α},eqF p l m=true->l.length=m.length
 | [],[],_=>rfl
 | [],_::_,h=>by cases h
 | _::_,[],h=>by cases h
 | x::l,y::m,h=>by
  rw[eqF,jF] at h;rw[jA,jA,Dp9 h.2]
theorem Ce7 {α:Type} {p:α->α->Bool} {l m:List α} (h:l.length≠m.length):eqF p l m=false:=by
 cases e:eqF p l m with
 | false=>rfl
 | true=>exact absurd (Dp9 e) h
theorem An1 {α:Type} {p:α->α->Bool} {l m:List α} {k:Nat} (h1:k<l.length) (h2:k<m.length):eqF p (l.drop k) (m.drop k)=(p l[k] m[k]&&eqF p (l.drop (k+1)) (m.drop (k+1))):=by
 rw[List.drop_eq_getElem_cons h1,List.drop_eq_getElem_cons h2,eqF]
theorem Ah0: ∀l m:List Ex,Lr l m=eqF Hq l m
 | [],[]=>by simp [Lr,eqF]
 | [],_::_=>by simp [Lr,eqF]
 | _::_,[]=>by simp [Lr,eqF]
 | x::l,y::m=>by rw[Lr,eqF,Ah0 l m]
theorem Bl0: ∀l m:List As,Nu l m=eqF Az6 l m
 | [],[]=>by simp [Nu,eqF]
 | [],_::_=>by simp [Nu,eqF]
 | _::_,[]=>by simp [Nu,eqF]
 | x::l,y::m=>by rw[Nu,eqF,Bl0 l m]
theorem Bl1: ∀l m:List Ch,Mv l m=eqF Az7 l m
 | [],[]=>by simp [Mv,eqF]
 | [],_::_=>by simp [Mv,eqF]
 | _::_,[]=>by simp [Mv,eqF]
 | x::l,y::m=>by rw[Mv,eqF,Bl1 l m]
theorem Ev5 (x y:As):Az6 x y=(Mv x.c y.c&&Hq x.e y.e):=by cases x;rw[Az6];rfl
theorem Ev6 (x y:Ch):Az7 x y=(decide (x.kind=y.kind)&&Lr x.l y.l):=by cases x;rw[Az7];rfl
theorem Dq0 (G:Nat->DVal) (H:Ac) (p:Ex->Ex->Bool) (l m:List Ex) (g:FuncId) (hl:l.length<=1099511627776)
  (hp: ∀x∈l,∀y∈m,∀H,Af Tryz.prog G g ([]++ [.agg (dEx x), .agg (dEx y)]++ []) H (Au (.bool (p x y)) H)):
  Af Tryz.prog G 71 [.vslice (l.flatMap dEx) l.length, .vslice (m.flatMap dEx) m.length, .func (.func g) [] []] H (Au (.bool (eqF p l m)) H):=by
 refine Ab Tryz.func71 Tryz.call71 rfl (by kernel_rfl) ?_;by_cases aa:l.length=m.length
 ·have O:(l.length:Int)=(m.length:Int):=by omega
  simp(disch:=omega)only[go_sem,O];obtain⟨I,S⟩: ∃I:Nat->(Nat->DVal)->Ac->Prop,∀k env heap,I k env heap↔(env 0= .vslice (l.flatMap dEx) l.length/\env 1= .vslice (m.flatMap dEx) m.length/\env 2= .func (.func g) [] []/\env 15= .vslice (l.flatMap dEx) l.length/\env 16=dI m.length/\env 17=dI k/\k<=l.length/\eqF p l m=eqF p (l.drop k) (m.drop k)/\Sub H heap):=⟨_,fun _ _ _=>Iff.rfl⟩;refine Dn5.run I (fun k=>l.length-k) 0 ((S _ _ _).2 ?_) ?_
  ·simp(disch:=omega)only[go_sem];(repeat' apply And.intro)<;>(try first | rfl | assumption | omega);exact Sub.refl _
  ·intro k env heap hi;obtain⟨h,e1,C,D,E,J,hk,L,ab⟩:=(S _ _ _).1 hi;have hfl:=Ax Ad l;have U:=Ax Ad m;by_cases V:k<l.length
   ·have M:(k:Int)<(m.length:Int):=by omega
    have ac:(k:Int)<(l.length:Int):=by omega
    have W:k<m.length:=by omega
    have X:=Cu Ad l k V;have Y:=Cu Ad m k W;have ae:IntKind.i64.wrap ((k:Int)+1)=((k+1:Nat):Int):=by rw[IntKind.wrap_i64];omega
    simp(disch:=omega)only[go_sem,h,e1,C,D,E,J,M,ac,X,Y,hfl,U,jD];intro r8 ad;dsimp only at ad;simp(disch:=omega)only[go_sem,h,e1,C,D,E,J,M,ac,X,Y,hfl,U,jD];intro r9 Z;dsimp only at Z;obtain⟨m2,m1,ag⟩:=Av.1 Z;simp(disch:=omega)only[go_sem,h,e1,C,D,E,J,m1,m2,X,Y,hfl,U,jD];refine(hp l[k] (List.getElem_mem V) m[k] (List.getElem_mem W) _).mono ?_;rintro _ H1 ⟨rfl,rfl⟩;rw[An1 V W] at L;have af:=(ab.new ad (some (DObj.cells (dEx l[k]) 27))).new Z (some (DObj.cells (dEx m[k]) 27));cases hb:p l[k] m[k] with
    | true=>
     rw[hb,jS] at L;simp(disch:=omega)only[go_sem,h,e1,C,D,E,J];refine⟨k+1,_,Ri.refl _,(S _ _ _).2 ?_,by omega⟩;simp(disch:=omega)only[go_sem,h,e1,C,D,E,J,ae];(repeat' apply And.intro)<;>(try first | rfl | assumption | omega)
    | false=>
     rw[hb,jT] at L;simp(disch:=omega)only[go_sem,h,e1,C,D,E,J];exact Es.sub af (Es.refl ⟨by rw[L],rfl⟩)
   ·have:k=l.length:=by omega
    subst this;have M: ¬(l.length:Int)<(m.length:Int):=by omega
    simp(disch:=omega)only[go_sem,h,e1,C,D,E,J,M];refine Es.sub ab (Es.refl ⟨?_,rfl⟩);rw[L,List.drop_length,aa,List.drop_length];rfl
 ·have O: ¬(l.length:Int)=(m.length:Int):=by omega
  simp(disch:=omega)only[go_sem,O];exact Es.refl ⟨by rw[Ce7 aa],rfl⟩
theorem Fp5 (G:Nat->DVal) (H:Ac) (p:As->As->Bool) (l m:List As) (g:FuncId) (hl:l.length<=1099511627776)
  (hp: ∀x∈l,∀y∈m,∀H,Af Tryz.prog G g ([]++ [.agg (dAs x), .agg (dAs y)]++ []) H (Au (.bool (p x y)) H)):
  Af Tryz.prog G 182 [.vslice (l.flatMap dAs) l.length, .vslice (m.flatMap dAs) m.length, .func (.func g) [] []] H (Au (.bool (eqF p l m)) H):=by
 refine Ab Tryz.func182 Tryz.call182 rfl (by kernel_rfl) ?_;by_cases aa:l.length=m.length
 ·have O:(l.length:Int)=(m.length:Int):=by omega
  simp(disch:=omega)only[go_sem,O];obtain⟨I,S⟩: ∃I:Nat->(Nat->DVal)->Ac->Prop,∀k env heap,I k env heap↔(env 0= .vslice (l.flatMap dAs) l.length/\env 1= .vslice (m.flatMap dAs) m.length/\env 2= .func (.func g) [] []/\env 15= .vslice (l.flatMap dAs) l.length/\env 16=dI m.length/\env 17=dI k/\k<=l.length/\eqF p l m=eqF p (l.drop k) (m.drop k)/\Sub H heap):=⟨_,fun _ _ _=>Iff.rfl⟩;refine Dn5.run I (fun k=>l.length-k) 0 ((S _ _ _).2 ?_) ?_
  ·simp(disch:=omega)only[go_sem];(repeat' apply And.intro)<;>(try first | rfl | assumption | omega);exact Sub.refl _
  ·intro k env heap hi;obtain⟨h,e1,C,D,E,J,hk,L,ab⟩:=(S _ _ _).1 hi;have hfl:=Ax Fz l;have U:=Ax Fz m;by_cases V:k<l.length
   ·have M:(k:Int)<(m.length:Int):=by omega
    have ac:(k:Int)<(l.length:Int):=by omega
    have W:k<m.length:=by omega
    have X:=Cu Fz l k V;have Y:=Cu Fz m k W;have ae:IntKind.i64.wrap ((k:Int)+1)=((k+1:Nat):Int):=by rw[IntKind.wrap_i64];omega
    simp(disch:=omega)only[go_sem,h,e1,C,D,E,J,M,ac,X,Y,hfl,U,jD];intro r8 ad;dsimp only at ad;simp(disch:=omega)only[go_sem,h,e1,C,D,E,J,M,ac,X,Y,hfl,U,jD];intro r9 Z;dsimp only at Z;obtain⟨m2,m1,ag⟩:=Av.1 Z;simp(disch:=omega)only[go_sem,h,e1,C,D,E,J,m1,m2,X,Y,hfl,U,jD];refine(hp l[k] (List.getElem_mem V) m[k] (List.getElem_mem W) _).mono ?_;rintro _ H1 ⟨rfl,rfl⟩;rw[An1 V W] at L;have af:=(ab.new ad (some (DObj.cells (dAs l[k]) 44))).new Z (some (DObj.cells (dAs m[k]) 44));cases hb:p l[k] m[k] with
    | true=>
     rw[hb,jS] at L;simp(disch:=omega)only[go_sem,h,e1,C,D,E,J];refine⟨k+1,_,Ri.refl _,(S _ _ _).2 ?_,by omega⟩;simp(disch:=omega)only[go_sem,h,e1,C,D,E,J,ae];(repeat' apply And.intro)<;>(try first | rfl | assumption | omega)
    | false=>
     rw[hb,jT] at L;simp(disch:=omega)only[go_sem,h,e1,C,D,E,J];exact Es.sub af (Es.refl ⟨by rw[L],rfl⟩)
   ·have:k=l.length:=by omega
    subst this;have M: ¬(l.length:Int)<(m.length:Int):=by omega
    simp(disch:=omega)only[go_sem,h,e1,C,D,E,J,M];refine Es.sub ab (Es.refl ⟨?_,rfl⟩);rw[L,List.drop_length,aa,List.drop_length];rfl
 ·have O: ¬(l.length:Int)=(m.length:Int):=by omega
  simp(disch:=omega)only[go_sem,O];exact Es.refl ⟨by rw[Ce7 aa],rfl⟩
theorem Fp6 (G:Nat->DVal) (H:Ac) (p:Ch->Ch->Bool) (l m:List Ch) (g:FuncId) (hl:l.length<=1099511627776)
  (hp: ∀x∈l,∀y∈m,∀H,Af Tryz.prog G g ([]++ [.agg (dCh x), .agg (dCh y)]++ []) H (Au (.bool (p x y)) H)):
  Af Tryz.prog G 213 [.vslice (l.flatMap dCh) l.length, .vslice (m.flatMap dCh) m.length, .func (.func g) [] []] H (Au (.bool (eqF p l m)) H):=by
 refine Ab Tryz.func213 Tryz.call213 rfl (by kernel_rfl) ?_;by_cases aa:l.length=m.length
 ·have O:(l.length:Int)=(m.length:Int):=by omega
  simp(disch:=omega)only[go_sem,O];obtain⟨I,S⟩: ∃I:Nat->(Nat->DVal)->Ac->Prop,∀k env heap,I k env heap↔(env 0= .vslice (l.flatMap dCh) l.length/\env 1= .vslice (m.flatMap dCh) m.length/\env 2= .func (.func g) [] []/\env 15= .vslice (l.flatMap dCh) l.length/\env 16=dI m.length/\env 17=dI k/\k<=l.length/\eqF p l m=eqF p (l.drop k) (m.drop k)/\Sub H heap):=⟨_,fun _ _ _=>Iff.rfl⟩;refine Dn5.run I (fun k=>l.length-k) 0 ((S _ _ _).2 ?_) ?_
  ·simp(disch:=omega)only[go_sem];(repeat' apply And.intro)<;>(try first | rfl | assumption | omega);exact Sub.refl _
  ·intro k env heap hi;obtain⟨h,e1,C,D,E,J,hk,L,ab⟩:=(S _ _ _).1 hi;have hfl:=Ax Gh l;have U:=Ax Gh m;by_cases V:k<l.length
   ·have M:(k:Int)<(m.length:Int):=by omega
    have ac:(k:Int)<(l.length:Int):=by omega
    have W:k<m.length:=by omega
    have X:=Cu Gh l k V;have Y:=Cu Gh m k W;have ae:IntKind.i64.wrap ((k:Int)+1)=((k+1:Nat):Int):=by rw[IntKind.wrap_i64];omega
    simp(disch:=omega)only[go_sem,h,e1,C,D,E,J,M,ac,X,Y,hfl,U,jD];intro r8 ad;dsimp only at ad;simp(disch:=omega)only[go_sem,h,e1,C,D,E,J,M,ac,X,Y,hfl,U,jD];intro r9 Z;dsimp only at Z;obtain⟨m2,m1,ag⟩:=Av.1 Z;simp(disch:=omega)only[go_sem,h,e1,C,D,E,J,m1,m2,X,Y,hfl,U,jD];refine(hp l[k] (List.getElem_mem V) m[k] (List.getElem_mem W) _).mono ?_;rintro _ H1 ⟨rfl,rfl⟩;rw[An1 V W] at L;have af:=(ab.new ad (some (DObj.cells (dCh l[k]) 47))).new Z (some (DObj.cells (dCh m[k]) 47));cases hb:p l[k] m[k] with
    | true=>
     rw[hb,jS] at L;simp(disch:=omega)only[go_sem,h,e1,C,D,E,J];refine⟨k+1,_,Ri.refl _,(S _ _ _).2 ?_,by omega⟩;simp(disch:=omega)only[go_sem,h,e1,C,D,E,J,ae];(repeat' apply And.intro)<;>(try first | rfl | assumption | omega)
    | false=>
     rw[hb,jT] at L;simp(disch:=omega)only[go_sem,h,e1,C,D,E,J];exact Es.sub af (Es.refl ⟨by rw[L],rfl⟩)
   ·have:k=l.length:=by omega
    subst this;have M: ¬(l.length:Int)<(m.length:Int):=by omega
    simp(disch:=omega)only[go_sem,h,e1,C,D,E,J,M];refine Es.sub ab (Es.refl ⟨?_,rfl⟩);rw[L,List.drop_length,aa,List.drop_length];rfl
 ·have O: ¬(l.length:Int)=(m.length:Int):=by omega
  simp(disch:=omega)only[go_sem,O];exact Es.refl ⟨by rw[Ce7 aa],rfl⟩
def Av0 (P:Program) (G:Nat->DVal) (f:FuncId) (x:Ex):Prop:= ∀y H,Af P G f ([]++ [.agg (dEx x), .agg (dEx y)]++ []) H (Au (.bool (Hq x y)) H)
theorem Df5 (G:Nat->DVal) (H:Ac) (x y:Ch) (hl:x.l.length<=1099511627776) (E: ∀e∈x.l,Av0 Tryz.prog G 13 e):Af Tryz.prog G 214 ([]++ [.agg (dCh x), .agg (dCh y)]++ []) H (Au (.bool (Az7 x y)) H):=by
 rw[Ev6,Ah0];refine Ab Tryz.func214 Tryz.call214 rfl (by kernel_rfl) ?_;simp(disch:=omega)only[go_sem,DVal.cells,jG,jH];intro J I;dsimp only at I;simp(disch:=omega)only[go_sem,DVal.cells];intro L h;dsimp only at h;obtain⟨C,D,M⟩:=Av.1 h;by_cases h1:x.kind=y.kind
 ·simp(disch:=omega)only[go_sem,D,C,h1];refine(Dq0 G _ Hq x.l y.l 13 hl fun e he f _ K=>E e he f K).mono ?_;rintro _ H1 ⟨rfl,rfl⟩;simp(disch:=omega)only[go_sem];exact Es.sub (show Sub H _ from(by repeat (first | exact Sub.refl _ | assumption | refine Sub.up ?_ (by assumption) _))) (Es.refl ⟨by simp,rfl⟩)
 ·simp(disch:=omega)only[go_sem,D,C,h1];exact Es.sub (show Sub H _ from(by repeat (first | exact Sub.refl _ | assumption | refine Sub.up ?_ (by assumption) _))) (Es.refl ⟨by simp,rfl⟩)
theorem Ed2 (G:Nat->DVal) (H:Ac) (l m:List Ch) (hl:Jm l<=1099511627776) (h: ∀e∈l.flatMap Ch.l,Av0 Tryz.prog G 13 e):Af Tryz.prog G 116 [dCl l,dCl m] H (Au (.bool (Mv l m)) H):=by
 have y:=Vx l;refine Ab Tryz.func116 Tryz.call116 rfl (by kernel_rfl) ?_;simp(disch:=omega)only[go_sem,dCl];refine(Fp6 G _ Az7 l m 214 (by omega) fun c hc d _ K=>Df5 G K c d (by have:=Vv hc;have:=Vw c.l;rw[Xh] at*;omega) fun e he=>h e (List.mem_flatMap.2 ⟨c,hc,he⟩)).mono ?_;rintro _ H1 ⟨rfl,rfl⟩;simp(disch:=omega)only[go_sem];exact Es.refl ⟨by rw[Bl1],rfl⟩
theorem Df6 (G:Nat->DVal) (H:Ac) (x y:As) (hl:Xg x<=1099511627776) (E: ∀e∈Fb x,Av0 Tryz.prog G 13 e):Af Tryz.prog G 183 ([]++ [.agg (dAs x), .agg (dAs y)]++ []) H (Au (.bool (Az6 x y)) H):=by
 have hb:=Am7 x;have dx:=Cq4 x;have dy:=Cq4 y;rw[Ev5];refine Ab Tryz.func183 Tryz.call183 rfl (by kernel_rfl) ?_;simp(disch:=omega)only[go_sem,DVal.cells,jG,jH];intro L J;dsimp only at J;simp(disch:=omega)only[go_sem,DVal.cells];intro M I;dsimp only at I;obtain⟨C,D,O⟩:=Av.1 I;simp(disch:=omega)only[go_sem,D,C];refine(Ed2 G _ x.c y.c (by omega) fun e he=>E e (List.mem_append_left _ he)).mono ?_;rintro _ H1 ⟨rfl,rfl⟩;cases h:Mv x.c y.c with
 | false=>
  simp(disch:=omega)only[go_sem,D,C];exact Es.sub (show Sub H _ from(by repeat (first | exact Sub.refl _ | assumption | refine Sub.up ?_ (by assumption) _))) (Es.refl ⟨by simp,rfl⟩)
 | true=>
  simp(disch:=omega)only[go_sem,D,C,dx,dy];refine(E x.e (Ow x) y.e _).mono ?_;rintro _ H1 ⟨rfl,rfl⟩;simp(disch:=omega)only[go_sem];exact Es.sub (show Sub H _ from(by repeat (first | exact Sub.refl _ | assumption | refine Sub.up ?_ (by assumption) _))) (Es.refl ⟨by simp,rfl⟩)
theorem Cr3 (G:Nat->DVal) (H:Ac) (l m:List As) (hl:Fl l<=1099511627776) (h: ∀e∈l.flatMap Fb,Av0 Tryz.prog G 13 e):Af Tryz.prog G 72 [dAl l,dAl m] H (Au (.bool (Nu l m)) H):=by
 have y:=Au8 l;refine Ab Tryz.func72 Tryz.call72 rfl (by kernel_rfl) ?_;simp(disch:=omega)only[go_sem,dAl];refine(Fp5 G _ Az6 l m 183 (by omega) fun a ha b _ K=>Df6 G K a b (by have:=Au7 ha;omega) fun e he=>h e (List.mem_flatMap.2 ⟨a,ha,he⟩)).mono ?_;rintro _ H1 ⟨rfl,rfl⟩;simp(disch:=omega)only[go_sem];exact Es.refl ⟨by rw[Bl0],rfl⟩
theorem Fp7 (G:Nat->DVal): ∀x:Ex,Fh x<=1099511627776->Av0 Tryz.prog G 13 x:=by
 intro x
 induction x using Ex.ind with
 | h x ih=>
  intro hb y H;have L:=Am6 x;have M:=Vw x.l;have E: ∀e∈parts x,Av0 Tryz.prog G 13 e:=fun e he=>ih e he (by have:=Bk6 he;omega);rw[Eu7,Ah0];refine Ab Tryz.func13 Tryz.call13 rfl (by kernel_rfl) ?_;simp(disch:=omega)only[go_sem,DVal.cells,jG,jH];intro O J;dsimp only at J;simp(disch:=omega)only[go_sem,DVal.cells];intro S I;dsimp only at I;obtain⟨C,D,U⟩:=Av.1 I;by_cases h1:x.kind=y.kind
  ·by_cases h2:x.oper=y.oper
   ·by_cases h3:x.n=y.n
    ·by_cases h4:x.s=y.s
     ·simp(disch:=omega)only[go_sem,D,C,h1,h2,h3,h4];refine(Dq0 G _ Hq x.l y.l 13 (by omega) fun e he f _ K=>E e (Be he) f K).mono ?_;rintro _ H1 ⟨rfl,rfl⟩;cases h5:eqF Hq x.l y.l with
      | true=>
       simp(disch:=omega)only[go_sem,D,C];refine(Cr3 G _ x.a y.a (by omega) fun e he=>E e (List.mem_append_right _ he)).mono ?_;rintro _ H1 ⟨rfl,rfl⟩;simp(disch:=omega)only[go_sem];exact Es.sub (show Sub H _ from(by repeat (first | exact Sub.refl _ | assumption | refine Sub.up ?_ (by assumption) _))) (Es.refl ⟨by simp,rfl⟩)
      | false=>
       simp(disch:=omega)only[go_sem,D,C];exact Es.sub (show Sub H _ from(by repeat (first | exact Sub.refl _ | assumption | refine Sub.up ?_ (by assumption) _))) (Es.refl ⟨by simp,rfl⟩)
     ·simp(disch:=omega)only[go_sem,D,C,h1,h2,h3,h4];exact Es.sub (show Sub H _ from(by repeat (first | exact Sub.refl _ | assumption | refine Sub.up ?_ (by assumption) _))) (Es.refl ⟨by simp,rfl⟩)
    ·simp(disch:=omega)only[go_sem,D,C,h1,h2,h3];exact Es.sub (show Sub H _ from(by repeat (first | exact Sub.refl _ | assumption | refine Sub.up ?_ (by assumption) _))) (Es.refl ⟨by simp,rfl⟩)
   ·simp(disch:=omega)only[go_sem,D,C,h1,h2];exact Es.sub (show Sub H _ from(by repeat (first | exact Sub.refl _ | assumption | refine Sub.up ?_ (by assumption) _))) (Es.refl ⟨by simp,rfl⟩)
  ·simp(disch:=omega)only[go_sem,D,C,h1];exact Es.sub (show Sub H _ from(by repeat (first | exact Sub.refl _ | assumption | refine Sub.up ?_ (by assumption) _))) (Es.refl ⟨by simp,rfl⟩)
theorem Kx (G:Nat->DVal) (H:Ac) (x y:Ex) (hx:Fh x<=1099511627776):Af Tryz.prog G 13 [.agg (dEx x), .agg (dEx y)] H (Au (.bool (Hq x y)) H):=Fp7 G x hx y H
section
variable {G:Nat->DVal} {H:Ac}
theorem Xi (G:Nat->DVal) (H:Ac) (e:Ex):Af Tryz.prog G 84 [.agg (dEx e)] H (Au (dI (Ba e)) H):=by
 refine Ab Tryz.func84 Tryz.call84 rfl (by kernel_rfl) ?_;simp(disch:=omega)only[go_sem,DVal.cells];intro r hr;dsimp only at hr;by_cases E:e.kind=13
 ·skip
  simp(disch:=omega)only[go_sem,E];exact Es.dropA r hr (Es.refl ⟨by simp [Ba,E],rfl⟩)
 by_cases S:e.kind=14
 ·skip
  simp(disch:=omega)only[go_sem,E,S];exact Es.dropA r hr (Es.refl ⟨by simp [Ba,E,S],rfl⟩)
 by_cases h:e.kind=11
 ·by_cases y:e.oper=18
  ·skip
   simp(disch:=omega)only[go_sem,h,y];exact Es.dropA r hr (Es.refl ⟨by simp [Ba,h,y],rfl⟩)
  by_cases D:e.oper=19
  ·skip
   simp(disch:=omega)only[go_sem,h,y,D];exact Es.dropA r hr (Es.refl ⟨by simp [Ba,h,y,D],rfl⟩)
  by_cases I:e.oper=20
  ·skip
   simp(disch:=omega)only[go_sem,h,y,D,I];exact Es.dropA r hr (Es.refl ⟨by simp [Ba,h,y,D,I],rfl⟩)
  by_cases U:e.oper=21
  ·skip
   simp(disch:=omega)only[go_sem,h,y,D,I,U];exact Es.dropA r hr (Es.refl ⟨by simp [Ba,h,y,D,I,U],rfl⟩)
  simp(disch:=omega)only[go_sem,h,y,D,I,U];exact Es.dropA r hr (Es.refl ⟨by simp [Ba,h,y,D,I,U],rfl⟩)
 by_cases C:e.kind=12
 ·by_cases J:13<=e.oper
  ·by_cases Y:e.oper<=17
   ·skip
    simp(disch:=omega)only[go_sem,C,h,J,Y];refine Es.dropA r hr (Es.refl ⟨?_,rfl⟩);congr 2;rw[Ba,if_neg (by omega),if_neg (by omega),if_pos (by omega)];(repeat (first | rfl | rw[if_pos (by omega)] | rw[if_neg (by omega)]))
   ·have L:7<=e.oper:=by omega
    have W: ¬e.oper<=12:=by omega
    have V:3<=e.oper:=by omega
    have X: ¬e.oper<=6:=by omega
    have M: ¬e.oper=1:=by omega
    have O: ¬e.oper=2:=by omega
    simp(disch:=omega)only[go_sem,C,h,J,Y,L,W,M,O,V,X];refine Es.dropA r hr (Es.refl ⟨?_,rfl⟩);congr 2;rw[Ba,if_neg (by omega),if_neg (by omega),if_pos (by omega)];(repeat (first | rfl | rw[if_pos (by omega)] | rw[if_neg (by omega)]))
  ·by_cases L:7<=e.oper
   ·have W:e.oper<=12:=by omega
    simp(disch:=omega)only[go_sem,C,h,J,L,W];refine Es.dropA r hr (Es.refl ⟨?_,rfl⟩);congr 2;rw[Ba,if_neg (by omega),if_neg (by omega),if_pos (by omega)];(repeat (first | rfl | rw[if_pos (by omega)] | rw[if_neg (by omega)]))
   ·by_cases M:e.oper=1
    ·skip
     simp(disch:=omega)only[go_sem,C,h,M];refine Es.dropA r hr (Es.refl ⟨?_,rfl⟩);congr 2;rw[Ba,if_neg (by omega),if_neg (by omega),if_pos (by omega)];(repeat (first | rfl | rw[if_pos (by omega)] | rw[if_neg (by omega)]))
    by_cases O:e.oper=2
    ·skip
     simp(disch:=omega)only[go_sem,C,h,O];refine Es.dropA r hr (Es.refl ⟨?_,rfl⟩);congr 2;rw[Ba,if_neg (by omega),if_neg (by omega),if_pos (by omega)];(repeat (first | rfl | rw[if_pos (by omega)] | rw[if_neg (by omega)]))
    by_cases V:3<=e.oper
    ·have X:e.oper<=6:=by omega
     simp(disch:=omega)only[go_sem,C,h,J,L,M,O,V,X];refine Es.dropA r hr (Es.refl ⟨?_,rfl⟩);congr 2;rw[Ba,if_neg (by omega),if_neg (by omega),if_pos (by omega)];(repeat (first | rfl | rw[if_pos (by omega)] | rw[if_neg (by omega)]))
    ·skip
     simp(disch:=omega)only[go_sem,C,h,J,L,M,O,V];refine Es.dropA r hr (Es.refl ⟨?_,rfl⟩);congr 2;rw[Ba,if_neg (by omega),if_neg (by omega),if_pos (by omega)];(repeat (first | rfl | rw[if_pos (by omega)] | rw[if_neg (by omega)]))
 simp(disch:=omega)only[go_sem,h,C,E,S];exact Es.dropA r hr (Es.refl ⟨by simp [Ba,h,C,E,S],rfl⟩)
end
end Go.Dl
-- THE DATA LEVEL, PART N: a call that is p
namespace Go.Dl
open Go
set_option maxRecDepth 10000
section
variable {P:Program} {G:Nat->DVal}
theorem Bx4 {fn:Func} {args:List DVal} {H:Ac} {vs:List Value} {w:World} {T:List Deferred} {st:Bool} (D:args.length<=fn.ntmps) (hv:Az w H args vs) (y:Bj w H) (hG:GOk G w H):
  Sim G ⟨fn.ntmps,⟨w.heap.size,T,st⟩⟩ ⟨Ta args 0,H⟩ { tmps:=vs.toArray++Array.replicate (fn.ntmps-vs.toArray.size) undef,defers:=T } w:=by
 have hl:=hv.length;refine⟨by simp;omega,⟨[],rfl,List.nodup_nil,by simp⟩,fun i hi=> ?_,y,hG,Nat.le_refl _⟩;have h0:=As9 args 0 i;rw[Nat.zero_add] at h0;show Rel w H (Ta args 0 i) _;rw[h0];by_cases h:i<args.length
 ·have h1:args[i]? =some (args.getD i Fa):=by simp [List.getD,List.getElem?_eq_getElem h]
  obtain⟨x,hx,hr⟩:=hv.get h1;have:(vs.toArray++Array.replicate (fn.ntmps-vs.toArray.size) undef).getD i undef=x:=by
   have C:i<vs.length:=by omega
   rw[Array.getD_eq_getD_getElem?,Array.getElem?_append_left (by simpa using C)];simp [hx]
  rw[this];exact hr
 ·have h1:args.getD i Fa=Fa:=by simp [List.getD,List.getElem?_eq_none (Nat.le_of_not_lt h)]
  have:(vs.toArray++Array.replicate (fn.ntmps-vs.toArray.size) undef).getD i undef=undef:=by
   rw[Array.getD_eq_getD_getElem?,Array.getElem?_append_right (by simp;omega)];simp only[Array.getElem?_replicate];split<;>rfl
  rw[h1,this];exact Wp w H
def Bl2 (R:Ac->Prop):DExit->DS->Prop
 | .normal,s=>R s.heap
 | .ret,s=>R s.heap
 | _,_=>False
def Af0 (t ty:Nat) (ps:String) (af:Array Edge):Oper:= { dst:=some t,op:= .call { callee:= .builtin .recover,args:= #[],argTypes:= #[] },type:=ty,pos:=ps,after:=af,guard:=none }
def Az9 (t t' ty:Nat) (ps:String) (af:Array Edge):Oper:= { dst:=some t',op:= .assign (.tmp t),type:=ty,pos:=ps,after:=af,guard:=none }
theorem Xj {N:Fr} {s:DS} {a:Act} {w:World} (C:Sim G N s a w) (h:N.base.still=true):a.defers=N.base.late:=by
 obtain⟨y,h1,_,h3⟩:=C.defers;cases y with
 | nil=>exact h1
 | cons D y=>have:=(h3 D (by simp)).1.2;rw[h] at this;cases this
theorem Ed3 {n:Nat} {y:Array Oper} {Q:Exit->Act->List Frame->World->Prop} {i:Nat} {rest:List Nat} {a:Act} {cs:List Frame} {w:World} {o:Oper} (C:y[i]? =some o) (D:o.guard=none) (hr:(execOp a.eval o).run P w= .ok .recover w) (E:recoverD cs=none)
  (h:wpOpsSIn Fence.wide n P y Q rest (a.put o.dst .nilIface) cs w):wpOpsSIn Fence.wide n P y Q (i::rest) a cs w:=by
 unfold wpOpsSIn;rw[C];refine⟨fun _ _=>trivial, ?_⟩;rw[if_pos (by simp [Region.wanted,D]),hr,E];exact h
theorem Ev7 {n:Nat} {y:Array Oper} {Q:Exit->Act->List Frame->World->Prop} {i:Nat} {rest:List Nat} {a:Act} {cs cs':List Frame} {w:World} {o:Oper} {v:Value} (C:y[i]? =some o) (D:o.guard=none) (hr:(execOp a.eval o).run P w= .ok .recover w) (E:recoverD cs=some (v,cs'))
  (h:wpOpsSIn Fence.wide n P y Q rest (a.put o.dst v) cs' w):wpOpsSIn Fence.wide n P y Q (i::rest) a cs w:=by
 unfold wpOpsSIn;rw[C];refine⟨fun _ _=>trivial, ?_⟩;rw[if_pos (by simp [Region.wanted,D]),hr,E];exact h
theorem Cr4 {n:Nat} {y:Array Oper} {Q:Exit->Act->List Frame->World->Prop} {i:Nat} {rest:List Nat} {a:Act} {cs:List Frame} {w:World} {o:Oper} {v:Value} (C:y[i]? =some o) (D:o.guard=none) (hr:(execOp a.eval o).run P w= .ok (.value v) w)
  (h:wpOpsSIn Fence.wide n P y Q rest (a.put o.dst v) cs w):wpOpsSIn Fence.wide n P y Q (i::rest) a cs w:=by
 unfold wpOpsSIn;rw[C];refine⟨fun _ _=>trivial, ?_⟩;rw[if_pos (by simp [Region.wanted,D]),hr];exact h
theorem Cr5 {f:FuncId} {fn:Func} {id:Nat} {y C D L:Nat} {E M:String} {I O:Array Edge} {c:Code} {U:List DVal} {H:Ac} {R:Ac->Prop} {n:Nat} {vs:List Value} {w:World} {u:FrameMode} {x:DVal}
  (hf:P.funcs[f]? =some fn) (hb:fn.body=some (.seq (.region id #[Af0 y D E I,Az9 y C L M O] false) c))
  (hk:(decide (U.length<=fn.ntmps)&&Im fn.ntmps c&&Yn c&&decide (y<fn.ntmps)&&decide (C<fn.ntmps))=true) (ab:fn.results= #[])
  (hv:Az w H U vs) (hH:Bj w H) (hG:GOk G w H)
  (hu:(u= .returning/\x= .nilIface)\/ ∃v,u= .panicking [{ v,recovered:=false }]/\Rel w H x v)
  (h:dwp P G fn.ntmps c (Bl2 R) ⟨upd (upd (Ta U 0) y x) C x,H⟩):
  CallsDIn Fence.wide n P f vs.toArray u w fun e u' w'=> ∃v H',e= .returned v/\settle u'= .returning/\R H'/\Bj w' H'/\Ext H w H' w':=by
 simp only[jF,decide_eq_true_eq] at hk;obtain⟨⟨⟨⟨hA,hok⟩,hfl⟩,X⟩,ac⟩:=hk;refine callsDIn_of_wpSIn hf hb trivial fun J cs hm=>wpSIn_seq (wpSIn_region ?_);have hS:=Bx4 (G:=G) (T:= []) (st:=true) hA hv hH hG;have key: ∀(v:Value) (u':FrameMode),settle u'= .returning->Rel w H x v->
   c.wpSIn Fence.wide n P (bodyPostS P fn J cs fun e u' w'=> ∃v H',e= .returned v/\settle u'= .returning/\R H'/\Bj w' H'/\Ext H w H' w')
    (({ tmps:=vs.toArray++Array.replicate (fn.ntmps-vs.toArray.size) undef,defers:= [] }:Act).put (some y) v |>.put (some C) v) ({ J with mode:=u' }::cs) w:=by
  intro v u' hs hx;refine wpSIn_of_wpIn rfl ?_;have ad:=(hS.put (dst:=some y) (by simpa [Da] using X) hx).put (dst:=some C) (by simpa [Da] using ac) hx;refine wpIn_mono (Hg (.inl rfl) c hok (.inr hfl) _ _ h _ w ad) ?_;rintro e a' w1 ⟨e',s',S,hX,V,hE⟩;have hd:=Xj V rfl;have hr:(results fn a'.tmps).run P w1= .ok (.tuple #[]) w1:=by
   unfold results;rw[ab];simp [Sem.run_pure]
  cases hX with
  | normal=>exact⟨hd,u',rfl,_,hr,_,s'.heap,rfl,hs,S,V.heap,hE⟩
  | ret=>exact⟨hd,u',rfl,_,hr,_,s'.heap,rfl,hs,S,V.heap,hE⟩
  | exit id=>exact S.elim
  | goto l=>exact S.elim
  | panic d v hv=>exact S.elim
 have ae:List.range (#[Af0 y D E I,Az9 y C L M O]:Array Oper).size= [0,1]:=rfl;have Y:(#[Af0 y D E I,Az9 y C L M O]:Array Oper)[0]? =some (Af0 y D E I):=rfl;have e1:(#[Af0 y D E I,Az9 y C L M O]:Array Oper)[1]? =some (Az9 y C L M O):=rfl;have r0: ∀ρ w,(execOp ρ (Af0 y D E I)).run P w= .ok .recover w:=fun ρ w=>by
  simp [execOp,Af0,resolve,invoke,builtin,Sem.run_pure]
 have Z: ∀ρ w,(execOp ρ (Az9 y C L M O)).run P w= .ok (.value (ρ (.tmp y))) w:=fun ρ w=>by
  simp [execOp,Az9,Sem.run_pure]
 have aa: ∀v,(({ tmps:=vs.toArray++Array.replicate (fn.ntmps-vs.toArray.size) undef,defers:= [] }:Act).put (some y) v).eval (.tmp y)=v:=fun v=>by
  have W:=hS.size;dsimp only at W;simp [Act.eval,Act.put,Array.getD,W,X];intro hle;simp at W;omega
 rw[ae];rcases hu with⟨rfl,rfl⟩ | ⟨v,rfl,hx⟩
 ·have hr:recoverD (J::cs)=none:=by simp [recoverD,hm]
  have hc: { J with mode:= .returning }=J:=by cases J;simp at hm;simp [hm]
  refine Ed3 Y rfl (r0 _ _) hr (Cr4 e1 rfl (Z _ _) ?_);rw[show(Af0 y D E I).dst=some y from rfl,aa];have:=key .nilIface .returning rfl (by simp [Rel]);rw[hc] at this;exact this
 ·have hr:recoverD (J::cs)=some (v,{ J with mode:= .panicking [{ v,recovered:=true }] }::cs):=by simp [recoverD,hm]
  refine Ev7 Y rfl (r0 _ _) hr (Cr4 e1 rfl (Z _ _) ?_);rw[show(Af0 y D E I).dst=some y from rfl,aa];exact key v _ rfl hx
theorem Cr6 (env:Nat->DVal): ∀l:List Operand,(Hf G env l).length=l.length
 | []=>rfl
 | x::l=>by rw[Hf,jA,Cr6 env l,jA]
def Df7 (d:Nat) (g:FuncId) (caps:Array Operand) (ty:Nat) (ps:String) (af:Array Edge):Oper:= { dst:=some d,op:= .makeFunc (.func g) #[] caps,type:=ty,pos:=ps,after:=af,guard:=none }
def Ev8 (d ty:Nat) (ps:String) (af:Array Edge):Oper:= { dst:=none,op:= .defer { callee:= .value (.tmp d),args:= #[],argTypes:= #[] },type:=ty,pos:=ps,after:=af,guard:=none }
def Ev9 (P:Program) (G:Nat->DVal) (rs:List ResultVar) (R:DEnd->Ac->Prop) (m t1 t2:Nat) (cc:Code) (caps:List DVal):DExit->DS->Prop
 | .normal,s=>dwp P G m cc (Bl2 fun H'=>Bv5 R H' (Mt (Qn P ⟨s.env,H'⟩ rs))) ⟨upd (upd (Ta caps 0) t1 .nilIface) t2 .nilIface,s.heap⟩
 | .ret,s=>dwp P G m cc (Bl2 fun H'=>Bv5 R H' (Mt (Qn P ⟨s.env,H'⟩ rs))) ⟨upd (upd (Ta caps 0) t1 .nilIface) t2 .nilIface,s.heap⟩
 | .panic v,s=>dwp P G m cc (Bl2 fun H'=>Bv5 R H' (Mt (Qn P ⟨s.env,H'⟩ rs))) ⟨upd (upd (Ta caps 0) t1 v) t2 v,s.heap⟩
 | _,_=>False
theorem Ka {f g:FuncId} {fn I:Func} {L M C O:Code} {id am d S Z U y2 y3 y4:Nat} {V p2 p3 p4:String} {W aa ao ap:Array Edge} {E:Array Operand} {args:List DVal} {H:Ac} {R:DEnd->Ac->Prop}
  (hf:P.funcs[f]? =some fn) (hg:P.funcs[g]? =some I) (aq: ∀vs w,(callFunc f vs).run P w= .ok (.enter f vs) w) (ar: ∀vs w,(callFunc g vs).run P w= .ok (.enter g vs) w)
  (hb:fn.body=some (.seq L (.seq M (.seq (.region id #[Df7 d g E U V W,Ev8 d y2 p2 aa] false) C))))
  (au:I.body=some (.seq (.region am #[Af0 S y3 p3 ao,Az9 S Z y4 p4 ap] false) O))
  (hk:(decide (args.length<=fn.ntmps)&&(Im fn.ntmps L&&Yn L)&&(Im fn.ntmps M&&Yn M)&&(Im fn.ntmps C&&Yn C)&&decide (d<fn.ntmps)&&E.toList.all (Ca fn.ntmps)&&fn.results.toList.all (Bh7 fn.ntmps))=true)
  (ag:(decide (E.toList.length<=I.ntmps)&&Im I.ntmps O&&Yn O&&decide (S<I.ntmps)&&decide (Z<I.ntmps))=true) (av:I.results= #[])
  (h:dwp P G fn.ntmps L (Ay2 (fun s=>dwp P G fn.ntmps M (Ay2 (fun s1=>dwp P G fn.ntmps C (Ev9 P G fn.results.toList R I.ntmps S Z O (Hf G s1.env E.toList)) ⟨upd s1.env d (.func (.func g) [] (Hf G s1.env E.toList)),s1.heap⟩) fun _ _=>False) s) fun _ _=>False) ⟨Ta args 0,H⟩):Af P G f args H R:=by
 simp only[jF,decide_eq_true_eq] at hk;obtain⟨⟨⟨⟨⟨⟨hA,aw,ax⟩,ay,a2⟩,a4,a5⟩,hd⟩,a6⟩,hres⟩:=hk;refine⟨aq,fun vs w hv hH hG=> ?_⟩;refine(callsIn_wide (n:=0)).1 (callsIn_of_wp_marks hf hb trivial ?_);have hS:=Bx4 (G:=G) (T:= []) (st:=true) hA hv hH hG;refine wpIn_seq (wpIn_mono (Hg (.inl rfl) L aw (.inr ax) _ _ h _ w hS) ?_);rintro e a0 w0 ⟨e',s0,hQ,hX,a7,a8⟩;cases hX<;>first | exact hQ.elim | skip
 refine wpIn_seq (wpIn_mono (Hg (.inl rfl) M ay (.inr a2) _ _ hQ _ w0 a7) ?_);rintro e J w1 ⟨e',s1,ah,hX,ab,ae⟩;cases hX<;>first | exact ah.elim | skip
 have ae:=a8.trans ae;have a9:J.defers= []:=Xj ab rfl;have af:=Sy ab a6;obtain⟨y,ai⟩: ∃y:List Value,y=E.toList.map J.eval:=⟨_,rfl⟩;have ba:E.map J.eval=y.toArray:=by rw[ai,<-Array.toList_map]
 rw[<-ai] at af;have bb:Rel w1 s1.heap (.func (.func g) [] (Hf G s1.env E.toList)) (.func (.func g) #[] y.toArray):=by
  simp only[Rel];refine⟨#[],y.toArray,rfl, ?_, ?_⟩
  ·simp [Az]
  ·simpa using af
 obtain⟨D,hD⟩: ∃D:Deferred,D= { target:= .fn (.func g) y.toArray,args:= #[] }:=⟨_,rfl⟩;have bc:Sim G ⟨fn.ntmps,⟨w.heap.size,[D],true⟩⟩ ⟨upd s1.env d (.func (.func g) [] (Hf G s1.env E.toList)),s1.heap⟩ ({ (J.put (some d) (.func (.func g) #[] y.toArray)) with defers:= [D] }) w1:=by
  have:=ab.put (dst:=some d) (by simpa [Da] using hd) bb;exact⟨this.size,⟨[],rfl,List.nodup_nil,by simp⟩,this.tmps,this.heap,this.glob,this.base⟩
 refine wpIn_seq ?_;have bd: #[Df7 d g E U V W,Ev8 d y2 p2 aa]= [Df7 d g E U V W,Ev8 d y2 p2 aa].toArray:=rfl;rw[bd];refine wpIn_region_lit (wpListIn_plain rfl fun K hK=> ?_);have rm:(execOp J.eval (Df7 d g E U V W)).run P w1= .ok (.value (.func (.func g) #[] y.toArray)) w1:=by
  simp [execOp,Df7,Instr.makeFunc,Sem.run_pure,ba]
 have be:=ab.size;have bf:(J.put (some d) (.func (.func g) #[] y.toArray)).eval (.tmp d)= .func (.func g) #[] y.toArray:=by
  simp [Act.eval,Act.put,Array.getD,be,hd]
 have rd:(execOp (J.put (some d) (.func (.func g) #[] y.toArray)).eval (Ev8 d y2 p2 aa)).run P w1= .ok (.defer D) w1:=by
  simp [execOp,Ev8,resolve,bf,Deferred.ofValue,Sem.run_pure,hD]
 unfold Oper.wpIn;refine⟨fun _ _=>trivial, ?_⟩;rw[Oper.semAt_eq _ _ _ (by intro c;simp [Df7]),rm];refine hK _ _ (wpListIn_plain rfl fun K2 bg=> ?_);unfold Oper.wpIn;refine⟨fun _ _=>trivial, ?_⟩;rw[show Fence.wide.round=none from rfl,Oper.semAt_none,show(Df7 d g E U V W).dst=some d from rfl,rd];refine bg _ _ (wpListIn_nil ?_);have bh:(J.put (some d) (.func (.func g) #[] y.toArray)).defers= []:=a9;rw[bh];show C.wpIn _ _ _ _ _ _;refine wpIn_mono (Hg (.inl rfl) C a4 (.inr a5) _ _ ah _ w1 bc) ?_;rintro e a3 w3 ⟨e',X,Y,bi,ac,aj⟩;have bj:=ae.trans aj;have bk:a3.defers= [D]:=Xj ac rfl;have bl:Az w3 X.heap (Hf G s1.env E.toList) y:=af.lasts aj.lasts;have bm:(invoke D.target D.args).run P w3= .ok (.enter g y.toArray) w3:=by
  rw[hD];simp [invoke,ar]
 have key: ∀(u:FrameMode) (x:DVal),u≠ .run->((u= .returning/\x= .nilIface)\/ ∃v,u= .panicking [{ v,recovered:=false }]/\Rel w3 X.heap x v)->
   dwp P G I.ntmps O (Bl2 fun H'=>Bv5 R H' (Mt (Qn P ⟨X.env,H'⟩ fn.results.toList))) ⟨upd (upd (Ta (Hf G s1.env E.toList) 0) S x) Z x,X.heap⟩->
   LeavesInM Fence.wide 0 P fn a3.tmps (fun e w'=> ∃e' H',R e' H'/\RelE w' H' e' e/\Bj w' H'/\Ext H w H' w') a3.defers u w3:=by
  intro u x bn hu hc;rw[bk];refine⟨bn, .inr ⟨(fun h=>by cases h), .func g,y.toArray,g,y.toArray,(by rw[hD]),bm,fun _ _=>trivial, ?_⟩⟩;refine(Cr5 hg au (by rw[Cr6];exact(by simp only[jF,decide_eq_true_eq] at ag⊢;exact ag)) av bl ac.heap ac.glob hu hc).mono ?_;rintro e4 u4 w4 ⟨v4,H4,rfl,bo,ad,bp,ak⟩;dsimp only;rw[bo];have al:=ac.ext ak bp;cases hdt:Mt (Qn P ⟨X.env,H4⟩ fn.results.toList) with
  | none=>rw[hdt] at ad;exact ad.elim
  | some v=>
   rw[hdt] at ad;obtain⟨x,hx,hr⟩:=Ay5 (P:=P) al hres hdt;obtain⟨v',H',bq,hR⟩:=ad;obtain⟨g1,g2,g3⟩:=bq w4 al.heap;exact⟨x,hx, .ret v',H',hR, .ret v' x (g3 x hr),g1,(bj.trans ak).trans ⟨rfl,rfl,rfl,Nat.le_refl _,fun _ _ _=>rfl,fun b hb=> .inl (g2 b hb),fun _ _=>rfl,fun _ _ _=>rfl⟩⟩
 cases bi with
 | normal=>exact key .returning .nilIface (by simp) (.inl ⟨rfl,rfl⟩) Y
 | ret=>exact key .returning .nilIface (by simp) (.inl ⟨rfl,rfl⟩) Y
 | exit id=>exact Y.elim
 | goto l=>exact Y.elim
 | panic d v hv=>exact key _ d (by simp) (.inr ⟨v,rfl,hv⟩) Y
end
attribute [go_sem] Bl2.eq_1 Bl2.eq_2 Ev9.eq_1 Ev9.eq_2 Ev9.eq_3
end Go.Dl
-- Chapter 3: the package's reader: tokens,
namespace Go.Dl
open Go Go.Proofs
set_option maxRecDepth 100000
abbrev rdO (l:List Tok) (k:Nat):DObj:= .cells [Bh l,dI k] 226
def RAt (r:Nat) (l:List Tok) (k:Nat) (H0 H:Ac):Prop:=Sub (upd H0 r (some (rdO l k))) H
section
variable {G:Nat->DVal} {H0 H:Ac} {r k:Nat} {l:List Tok}
theorem RAt.refl (h:H r=some (rdO l k)):RAt r l k H H:=fun b o hb=>by
 simp only[upd] at hb;split at hb
 ·rename_i e;subst e;rw[h];exact hb
 ·exact hb
theorem RAt.get (h:RAt r l k H0 H):H r=some (rdO l k):=h _ _ (Aa _ _ _)
theorem RAt.new (h:RAt r l k H0 H) {x:Nat} (hx:H x=none) (o:Option DObj):RAt r l k H0 (upd H x o):=Sub.new h hx o
theorem RAt.more (h:RAt r l k H0 H) {H':Ac} (s:Sub H H'):RAt r l k H0 H':=Sub.trans h s
theorem RAt.set (h:RAt r l k H0 H) (k':Nat):RAt r l k' H0 (upd H r (some (rdO l k'))):=fun b o hb=>by
 simp only[upd] at hb⊢
 by_cases e:b=r
 ·rw[if_pos e] at hb⊢;exact hb
 ·rw[if_neg e] at hb⊢;exact h b o (by simp only[upd];rw[if_neg e];exact hb)
theorem RAt.own (h:RAt r l k H0 H) {x:Nat} (hx:H0 x=none) (hr:x≠r) (o:Option DObj):RAt r l k H0 (upd H x o):=Sub.up h (by simp only[upd];rw[if_neg hr];exact hx) o
theorem RAt.lo (h:RAt r l k H0 H) {x:Nat} (hx:H x=none):H0 x=none:=by
 have:=Sub.lo h hx;simp only[upd] at this;split at this
 ·cases this
 ·exact this
theorem RAt.fin {R:DEnd->Ac->Prop} {v:DVal} (h:RAt r l k H0 H) (y:R (.ret v) (upd H0 r (some (rdO l k)))):Es R v H:=Es.sub h (.refl y)
theorem Sz.sub {R:DEnd->Ac->Prop} {v:DVal} {H':Ac} (h:Sub H' H) (y:R (.panic v) H'):Sz R v H:=⟨v,H',Ln.sub h v,y⟩
theorem RAt.finP {R:DEnd->Ac->Prop} {v:DVal} (h:RAt r l k H0 H) (y:R (.panic v) (upd H0 r (some (rdO l k)))):Sz R v H:=Sz.sub h y
theorem Dv {H:Ac} {r:Nat} {x:Option DObj} (h:H r=x):upd H r x=H:=by
 funext b;simp only[upd];split
 ·rename_i e;rw[e,h]
 ·rfl
theorem Ew0 {i:Nat} (h:i<l.length):tk l i=l[i]:=by rw[tk,List.getD,List.getElem?_eq_getElem h];rfl
theorem Bl3 {i:Nat} (h:l.length<=i):tk l i=Am3:=by rw[tk,List.getD,List.getElem?_eq_none h];rfl
theorem Ah1 (G:Nat->DVal) (H:Ac) (j:Nat) (hr:H r=some (rdO l k)) (hl:l.length<=1000000) (hk:k<=1000000) (E:j<=1000000):Af Tryz.prog G 171 [.optr r 0,dI j] H (Au (.agg (Cy (tk l (k+j)))) H):=by
 have hw:IntKind.i64.wrap ((k:Int)+(j:Int))=((k+j:Nat):Int):=by rw[IntKind.wrap_i64];omega
 unfold rdO at hr;refine Ab Tryz.func171 Tryz.call171 rfl (by kernel_rfl) ?_;simp(disch:=omega)only[go_sem];intro C y;dsimp only at y;have h:r≠C:=Ae y hr;by_cases c:k+j<l.length
 ·have c':((k+j:Nat):Int)<(l.length:Int):=by omega
  have D:=Cu Aq l (k+j) c;have hfl:=Ax Aq l;rw[Ew0 c];simp(disch:=omega)only[go_sem,h,hr];refine Aj (by kernel_rfl) pL12 (by kernel_rfl) ?_;simp(disch:=omega)only[go_sem,h,hr,hw,c',Bh];refine Aj (by kernel_rfl) pL11 (by kernel_rfl) ?_;simp(disch:=omega)only[go_sem,h,hr,hw,c',Bh,D,hfl,jD];simp(disch:=omega)only[go_sem,Cy];exact Es.dropA C y (Es.refl ⟨rfl,rfl⟩)
 ·have c': ¬((k+j:Nat):Int)<(l.length:Int):=by omega
  rw[Bl3 (by omega)];simp(disch:=omega)only[go_sem,h,hr];refine Aj (by kernel_rfl) pL12 (by kernel_rfl) ?_;simp(disch:=omega)only[go_sem,h,hr,hw,c',Bh];exact Es.dropA C y (Es.refl ⟨rfl,rfl⟩)
theorem Zu (G:Nat->DVal) (H:Ac) (hr:H r=some (rdO l k)) (hl:l.length<=1000000) (hk:k<=1000000):Af Tryz.prog G 171 [.optr r 0,dI 0] H (Au (.agg (Cy (tk l k))) H):=
 Ah1 G H 0 hr hl hk (by omega)
theorem Av1 (G:Nat->DVal) (H:Ac) (hr:H r=some (rdO l k)) (hl:l.length<=1000000) (hk:k<=1000000):Af Tryz.prog G 169 [.optr r 0] H (Au (dI (tk l k).line) H):=by
 refine Ab Tryz.func169 Tryz.call169 rfl (by kernel_rfl) ?_;simp(disch:=omega)only[go_sem];refine(Ah1 G H 0 hr hl hk (by omega)).mono ?_;rintro _ H1 ⟨rfl,rfl⟩;simp(disch:=omega)only[go_sem,Nat.add_zero,Cy];exact Es.refl ⟨rfl,rfl⟩
def dW (ws:List (List UInt8)):DVal:= .vslice (ws.map .str) ws.length
theorem Ew1 {ws:List (List UInt8)} {j:Nat} (h:j<ws.length):isW l (k+j) (ws.drop j)=(decide ((tk l (k+j)).kind=Il ws[j])&&decide ((tk l (k+j)).text=ws[j])&&isW l (k+(j+1)) (ws.drop (j+1))):=by
 rw[List.drop_eq_getElem_cons h,isW];rfl
theorem An2 (hG:GX G) (H:Ac) (ws:List (List UInt8)) (hr:H r=some (rdO l k)) (hl:l.length<=1000000) (hk:k<=900000) (hw:ws.length<=1000):Af Tryz.prog G 172 [.optr r 0,dW ws] H (Au (.bool (isW l k ws)) H):=by
 refine Ab Tryz.func172 Tryz.call172 rfl (by kernel_rfl) ?_;simp(disch:=omega)only[go_sem,dW];obtain⟨I,M⟩: ∃I:Nat->(Nat->DVal)->Ac->Prop,∀j env heap,I j env heap↔(env 0= .optr r 0/\env 9=dW ws/\env 10=dI ws.length/\env 11=dI j/\j<=ws.length/\isW l k ws=isW l (k+j) (ws.drop j)/\Sub H heap):=⟨_,fun _ _ _=>Iff.rfl⟩;refine Dn5.run I (fun j=>ws.length-j) 0 ((M _ _ _).2 ?_) ?_
 ·simp(disch:=omega)only[go_sem];(repeat' apply And.intro)<;>(try first | rfl | assumption | omega);exact Sub.refl H
 ·intro j env heap hi;obtain⟨y,C,D,E,hj,hm,hs⟩:=(M _ _ _).1 hi;have Y:=hs _ _ hr;by_cases S:j<ws.length
  ·have O:(j:Int)<(ws.length:Int):=by omega
   have U:IntKind.i64.wrap ((j:Int)+1)=((j+1:Nat):Int):=by rw[IntKind.wrap_i64];omega
   have V:(ws.map DVal.str)[j]? =some (.str ws[j]):=by rw[List.getElem?_map,List.getElem?_eq_getElem S];rfl
   have Z:(ws.map DVal.str).length=ws.length:=jK _;rw[Ew1 S] at hm;obtain⟨s,W⟩: ∃s,s=ws[j]:=⟨_,rfl⟩;obtain⟨t,ht⟩: ∃t,t=tk l (k+j):=⟨_,rfl⟩;rw[<-W,<-ht] at hm;rw[<-W] at V;simp(disch:=omega)only[go_sem,y,C,D,E,O,dW,V,Z,jD];refine(Ah1 G heap j Y hl (by omega) (by omega)).mono ?_;rintro _ H1 ⟨rfl,rfl⟩;rw[<-ht];simp(disch:=omega)only[go_sem,y,C,D,E];intro r7 X;dsimp only at X;have J: ∀x,Sub H (upd H1 r7 x):=fun x=>hs.new X x;simp(disch:=omega)only[go_sem,y,C,D,E,Cy];refine(Vt hG _ s).mono ?_;rintro _ H2 ⟨rfl,rfl⟩;by_cases h:t.kind=Il s
   ·by_cases L:t.text=s
    ·rw[decide_eq_true h,decide_eq_true L,jS,jS] at hm;rw[Il] at h;cases hkb:Tw s with
     | true=>
      rw[hkb,if_pos rfl] at h;simp(disch:=omega)only[go_sem,y,C,D,E,h,L];refine⟨j+1,_,Ri.refl _,(M _ _ _).2 ?_,by omega⟩;simp(disch:=omega)only[go_sem,y,C,D,E,U];(repeat' apply And.intro)<;>(try first | rfl | assumption | omega);exact J _
     | false=>
      rw[hkb,if_neg (by simp)] at h;simp(disch:=omega)only[go_sem,y,C,D,E,h,L];refine⟨j+1,_,Ri.refl _,(M _ _ _).2 ?_,by omega⟩;simp(disch:=omega)only[go_sem,y,C,D,E,U];(repeat' apply And.intro)<;>(try first | rfl | assumption | omega);exact J _
    ·rw[decide_eq_false L,Bool.and_false,jT] at hm;rw[Il] at h;cases hkb:Tw s with
     | true=>
      rw[hkb,if_pos rfl] at h;simp(disch:=omega)only[go_sem,y,C,D,E,h,L];exact Es.sub (J _) (.refl ⟨by rw[hm],rfl⟩)
     | false=>
      rw[hkb,if_neg (by simp)] at h;simp(disch:=omega)only[go_sem,y,C,D,E,h,L];exact Es.sub (J _) (.refl ⟨by rw[hm],rfl⟩)
   ·rw[decide_eq_false h,jT,jT] at hm;rw[Il] at h;cases hkb:Tw s with
    | true=>
     rw[hkb,if_pos rfl] at h;simp(disch:=omega)only[go_sem,y,C,D,E,h];exact Es.sub (J _) (.refl ⟨by rw[hm],rfl⟩)
    | false=>
     rw[hkb,if_neg (by simp)] at h;simp(disch:=omega)only[go_sem,y,C,D,E,h];exact Es.sub (J _) (.refl ⟨by rw[hm],rfl⟩)
  ·have:j=ws.length:=by omega
   subst this;have O: ¬(ws.length:Int)<(ws.length:Int):=by omega
   rw[List.drop_length,isW] at hm;simp(disch:=omega)only[go_sem,y,C,D,E,O];exact Es.sub hs (.refl ⟨by rw[hm],rfl⟩)
def RdQ (r:Nat) (l:List Tok) (H:Ac) (v:DVal) (k:Nat) (e:DEnd) (H':Ac):Prop:=e= .ret v/\H'=upd H r (some (rdO l k))
def Ce8 (k:Nat):DVal:= .iface 231 (.agg [dI k])
theorem Bx5 (hG:GX G) (H:Ac) (ws:List (List UInt8)) (hr:H r=some (rdO l k)) (hl:l.length<=1000000) (hk:k<=900000) (hw:ws.length<=1000):Af Tryz.prog G 167 [.optr r 0,dW ws] H (RdQ r l H (.bool (isW l k ws)) (if isW l k ws then k+ws.length else k)):=by
 refine Ab Tryz.func167 Tryz.call167 rfl (by kernel_rfl) ?_;simp(disch:=omega)only[go_sem];refine(An2 hG H ws hr hl hk hw).mono ?_;rintro _ H1 ⟨rfl,rfl⟩;cases h:isW l k ws with
 | false=>
  simp(disch:=omega)only[go_sem];exact Es.refl ⟨rfl,(Dv hr).symm⟩
 | true=>
  have y:IntKind.i64.wrap ((k:Int)+(ws.length:Int))=((k+ws.length:Nat):Int):=by rw[IntKind.wrap_i64];omega
  unfold rdO at hr;simp(disch:=omega)only[go_sem,hr,dW,y];exact Es.refl ⟨rfl,rfl⟩
theorem Av2 (G:Nat->DVal) (H:Ac) (hr:H r=some (rdO l k)):Af Tryz.prog G 168 [.optr r 0] H (fun e H'=>e= .panic (Ce8 k)/\H'=H):=by
 unfold rdO at hr;refine Ab Tryz.func168 Tryz.call168 rfl (by kernel_rfl) ?_;simp(disch:=omega)only[go_sem,hr];exact Sz.refl ⟨rfl,rfl⟩
theorem Av3 (hG:GX G) (H:Ac) (q:Nat) (s:List UInt8) (h:H q=none) (hr:H r=some (rdO l k)) (hl:l.length<=1000000) (hk:k<=900000):Af Tryz.prog G 167 [.optr r 0, .oslice 1 q 0 1 1] (upd H q (some (.cells [.str s] 9))) (RdQ r l H (.bool (isW l k [s])) (if isW l k [s] then k+1 else k)):=by
 refine Af.fzA q h ?_;have n:r≠q:=Ae h hr;simp only[fzs,fz,if_neg n,if_pos];exact Bx5 hG H [s] hr hl hk (by simp)
theorem Gm6 (hG:GX G) (H:Ac) (q:Nat) (s t:List UInt8) (h:H q=none) (hr:H r=some (rdO l k)) (hl:l.length<=1000000) (hk:k<=900000):Af Tryz.prog G 167 [.optr r 0, .oslice 1 q 0 2 2] (upd H q (some (.cells [.str s, .str t] 9))) (RdQ r l H (.bool (isW l k [s,t])) (if isW l k [s,t] then k+2 else k)):=by
 refine Af.fzA q h ?_;have n:r≠q:=Ae h hr;simp only[fzs,fz,if_neg n,if_pos];exact Bx5 hG H [s,t] hr hl hk (by simp)
theorem is1 (hG:GX G) (H:Ac) (q:Nat) (s:List UInt8) (h:H q=none) (hr:H r=some (rdO l k)) (hl:l.length<=1000000) (hk:k<=900000):Af Tryz.prog G 172 [.optr r 0, .oslice 1 q 0 1 1] (upd H q (some (.cells [.str s] 9))) (Au (.bool (isW l k [s])) H):=by
 refine Af.fzA q h ?_;have n:r≠q:=Ae h hr;simp only[fzs,fz,if_neg n,if_pos];exact An2 hG H [s] hr hl hk (by simp)
theorem is2 (hG:GX G) (H:Ac) (q:Nat) (s t:List UInt8) (h:H q=none) (hr:H r=some (rdO l k)) (hl:l.length<=1000000) (hk:k<=900000):Af Tryz.prog G 172 [.optr r 0, .oslice 1 q 0 2 2] (upd H q (some (.cells [.str s, .str t] 9))) (Au (.bool (isW l k [s,t])) H):=by
 refine Af.fzA q h ?_;have n:r≠q:=Ae h hr;simp only[fzs,fz,if_neg n,if_pos];exact An2 hG H [s,t] hr hl hk (by simp)
def RdR (r:Nat) (l:List Tok) (H:Ac):Res DVal->DEnd->Ac->Prop
 | .bot,_,_=>False
 | .fail k,e,H'=>e= .panic (Ce8 k)/\H'=upd H r (some (rdO l k))
 | .ok v k,e,H'=>e= .ret v/\H'=upd H r (some (rdO l k))
theorem Sm (hG:GX G) (H:Ac) (s:List UInt8) (hr:H r=some (rdO l k)) (hl:l.length<=1000000) (hk:k<=900000):Af Tryz.prog G 176 [.optr r 0, .str s] H (RdR r l H (must l s k fun k=> .ok (.tuple []) k)):=by
 refine Ab Tryz.func176 Tryz.call176 rfl (by kernel_rfl) ?_;simp(disch:=omega)only[go_sem];intro q hq;dsimp only at hq;simp(disch:=omega)only[go_sem];refine(Av3 hG H q s hq hr hl hk).mono ?_;rintro _ H1 ⟨rfl,rfl⟩;rw[must];cases h:isW l k [s] with
 | true=>
  simp(disch:=omega)only[go_sem];exact Es.refl ⟨rfl,rfl⟩
 | false=>
  simp(disch:=omega)only[go_sem];refine(Av2 G _ (Aa _ _ _)).mono ?_;rintro _ H2 ⟨rfl,rfl⟩;simp(disch:=omega)only[go_sem];exact Sz.refl ⟨rfl,rfl⟩
theorem Av4 (G:Nat->DVal) (H:Ac) (D:Int) (hr:H r=some (rdO l k)) (hl:l.length<=1000000) (hk:k<=900000):Af Tryz.prog G 174 [.optr r 0, .int .u8 D] H (RdR r l H (if(tk l k).kind=D then .ok (.agg (Cy (tk l k))) (k+1) else .fail k)):=by
 refine Ab Tryz.func174 Tryz.call174 rfl (by kernel_rfl) ?_;simp(disch:=omega)only[go_sem];intro S h;dsimp only at h;have y:r≠S:=Ae h hr;have E:=hr;have hw:IntKind.i64.wrap ((k:Int)+1)=((k+1:Nat):Int):=by rw[IntKind.wrap_i64];omega
 unfold rdO at E;simp(disch:=omega)only[go_sem];refine(Zu G _ (l:=l) (k:=k) (by rw[Ak _ _ _ _ y];exact hr) hl (by omega)).mono ?_;rintro _ H1 ⟨rfl,rfl⟩;obtain⟨t,ht⟩: ∃t,t=tk l k:=⟨_,rfl⟩;rw[<-ht];simp(disch:=omega)only[go_sem];intro U C;dsimp only at C;obtain⟨L,M,V⟩:=Av.1 C;have I:r≠U:=Ae V hr;have J:=y.symm;have O:=I.symm;by_cases c:t.kind=D
 ·rw[if_pos c];simp(disch:=omega)only[go_sem,L,M,y,I,J,O,Cy,E,hw,c];exact RAt.fin (k:=k+1) ((((RAt.refl hr).new h _).new C _).set (k+1) |>.own h J _) ⟨rfl,rfl⟩
 ·rw[if_neg c];simp(disch:=omega)only[go_sem,L,M,y,I,J,O,Cy,E,c];have ha:=((RAt.refl hr).new h (some (.cells [.int .u8 0, .int .i64 0, .str [], .int .i64 0] 31))).new C (some (.cells [.int .u8 t.kind,dI t.line, .str t.text,dI t.n] 31));refine(Av2 G _ ha.get).mono ?_;rintro _ H2 ⟨rfl,rfl⟩;simp(disch:=omega)only[go_sem];exact RAt.finP ha ⟨rfl,rfl⟩
end
section
variable {G:Nat->DVal} {H0 H:Ac} {r k:Nat} {l:List Tok}
def Oy:DVal:= .vslice (Eu8.map dW) 22
theorem Ap {x y:List DVal} (hx:x.length=9) (h:y.length=9):
  (if 9<=(Cc 2 [DVal.int .u8 0,DVal.int .u8 0,DVal.int .i64 0,DVal.str [],DVal.nilSlice,DVal.nilSlice,DVal.int .i64 0,DVal.int .i64 0,DVal.int .i64 0]).length then
   if 18<=(x++List.drop 9 (Cc 2 [DVal.int .u8 0,DVal.int .u8 0,DVal.int .i64 0,DVal.str [],DVal.nilSlice,DVal.nilSlice,DVal.int .i64 0,DVal.int .i64 0,DVal.int .i64 0])).length then
    some (List.take 9 (x++List.drop 9 (Cc 2 [DVal.int .u8 0,DVal.int .u8 0,DVal.int .i64 0,DVal.str [],DVal.nilSlice,DVal.nilSlice,DVal.int .i64 0,DVal.int .i64 0,DVal.int .i64 0]))++y++
     List.drop 18 (x++List.drop 9 (Cc 2 [DVal.int .u8 0,DVal.int .u8 0,DVal.int .i64 0,DVal.str [],DVal.nilSlice,DVal.nilSlice,DVal.int .i64 0,DVal.int .i64 0,DVal.int .i64 0])))
   else none
  else none)=some (x++y):=by
 have e: ∀u:List DVal,Cc 2 u=u++u:=fun u=>by simp [Cc]
 rw[e];rw[if_pos (by simp),if_pos (by simp [hx]),List.take_left' hx,List.drop_eq_nil_of_le (by simp [hx]),jH]
set_option maxHeartbeats 4000000 in
theorem Lu (G:Nat->DVal) (H:Ac):Af Tryz.prog G 248 [] H (Au Oy H):=by
 refine Ab Tryz.func248 Tryz.call248 rfl (by kernel_rfl) ?_;simp(disch:=omega)only[go_sem];intro b1 av;dsimp only at av;obtain⟨C,aw⟩: ∃K,K=upd H b1 (some (.cells [.str [43]] 9)):=⟨_,rfl⟩;rw[<-aw];simp(disch:=omega)only[go_sem];intro b2 ax;dsimp only at ax;obtain⟨D,ay⟩: ∃K,K=upd C b2 (some (.cells [.str [45]] 9)):=⟨_,rfl⟩;rw[<-ay];simp(disch:=omega)only[go_sem];intro b3 a0;dsimp only at a0;obtain⟨E,a1⟩: ∃K,K=upd D b3 (some (.cells [.str [42]] 9)):=⟨_,rfl⟩;rw[<-a1];simp(disch:=omega)only[go_sem];intro b4 a2;dsimp only at a2;obtain⟨I,a3⟩: ∃K,K=upd E b4 (some (.cells [.str [47]] 9)):=⟨_,rfl⟩;rw[<-a3];simp(disch:=omega)only[go_sem];intro b5 a4;dsimp only at a4;obtain⟨J,a5⟩: ∃K,K=upd I b5 (some (.cells [.str [109,111,100]] 9)):=⟨_,rfl⟩;rw[<-a5];simp(disch:=omega)only[go_sem];intro b6 a6;dsimp only at a6;obtain⟨L,a7⟩: ∃K,K=upd J b6 (some (.cells [.str [114,101,109]] 9)):=⟨_,rfl⟩;rw[<-a7];simp(disch:=omega)only[go_sem];intro b7 a8;dsimp only at a8;obtain⟨M,a9⟩: ∃K,K=upd L b7 (some (.cells [.str [61]] 9)):=⟨_,rfl⟩;rw[<-a9];simp(disch:=omega)only[go_sem];intro b8 ba;dsimp only at ba;obtain⟨O,bb⟩: ∃K,K=upd M b8 (some (.cells [.str [47,61]] 9)):=⟨_,rfl⟩;rw[<-bb];simp(disch:=omega)only[go_sem];intro b9 bc;dsimp only at bc;obtain⟨S,bd⟩: ∃K,K=upd O b9 (some (.cells [.str [60]] 9)):=⟨_,rfl⟩;rw[<-bd];simp(disch:=omega)only[go_sem];intro ag be;dsimp only at be;obtain⟨U,bf⟩: ∃K,K=upd S ag (some (.cells [.str [60,61]] 9)):=⟨_,rfl⟩;rw[<-bf];simp(disch:=omega)only[go_sem];intro ah bg;dsimp only at bg;obtain⟨V,bh⟩: ∃K,K=upd U ah (some (.cells [.str [62]] 9)):=⟨_,rfl⟩;rw[<-bh];simp(disch:=omega)only[go_sem];intro ai bi;dsimp only at bi;obtain⟨W,bj⟩: ∃K,K=upd V ai (some (.cells [.str [62,61]] 9)):=⟨_,rfl⟩;rw[<-bj];simp(disch:=omega)only[go_sem];intro aj bk;dsimp only at bk;obtain⟨X,bl⟩: ∃K,K=upd W aj (some (.cells [.str [97,110,100]] 9)):=⟨_,rfl⟩;rw[<-bl];simp(disch:=omega)only[go_sem];intro ak bm;dsimp only at bm;obtain⟨Y,bn⟩: ∃K,K=upd X ak (some (.cells [.str [111,114]] 9)):=⟨_,rfl⟩;rw[<-bn];simp(disch:=omega)only[go_sem];intro al bo;dsimp only at bo;obtain⟨Z,bp⟩: ∃K,K=upd Y al (some (.cells [.str [120,111,114]] 9)):=⟨_,rfl⟩;rw[<-bp];simp(disch:=omega)only[go_sem];intro am bq;dsimp only at bq;obtain⟨aa,br⟩: ∃K,K=upd Z am (some (.cells [.str [97,110,100], .str [116,104,101,110]] 9)):=⟨_,rfl⟩;rw[<-br];simp(disch:=omega)only[go_sem];intro ao bs;dsimp only at bs;obtain⟨ab,bt⟩: ∃K,K=upd aa ao (some (.cells [.str [111,114], .str [101,108,115,101]] 9)):=⟨_,rfl⟩;rw[<-bt];simp(disch:=omega)only[go_sem];intro ap bu;dsimp only at bu;obtain⟨ac,bv⟩: ∃K,K=upd ab ap (some (.cells [.str [43]] 9)):=⟨_,rfl⟩;rw[<-bv];simp(disch:=omega)only[go_sem];intro aq bw;dsimp only at bw;obtain⟨ad,bx⟩: ∃K,K=upd ac aq (some (.cells [.str [45]] 9)):=⟨_,rfl⟩;rw[<-bx];simp(disch:=omega)only[go_sem];intro ar bz;dsimp only at bz;obtain⟨ae,b0⟩: ∃K,K=upd ad ar (some (.cells [.str [97,98,115]] 9)):=⟨_,rfl⟩;rw[<-b0];simp(disch:=omega)only[go_sem];intro au ca;dsimp only at ca;obtain⟨af,cb⟩: ∃K,K=upd ae au (some (.cells [.str [110,111,116]] 9)):=⟨_,rfl⟩;rw[<-cb];simp(disch:=omega)only[go_sem];intro cc cd;dsimp only at cd;obtain⟨h,ce⟩: ∃K,K=upd af cc (some (.cells [.nilSlice, .oslice 1 b1 0 1 1, .oslice 1 b2 0 1 1, .oslice 1 b3 0 1 1, .oslice 1 b4 0 1 1, .oslice 1 b5 0 1 1, .oslice 1 b6 0 1 1, .oslice 1 b7 0 1 1, .oslice 1 b8 0 1 1, .oslice 1 b9 0 1 1, .oslice 1 ag 0 1 1, .oslice 1 ah 0 1 1, .oslice 1 ai 0 1 1, .oslice 1 aj 0 1 1, .oslice 1 ak 0 1 1, .oslice 1 al 0 1 1, .oslice 1 am 0 2 2, .oslice 1 ao 0 2 2, .oslice 1 ap 0 1 1, .oslice 1 aq 0 1 1, .oslice 1 ar 0 1 1, .oslice 1 au 0 1 1] 54)):=⟨_,rfl⟩;rw[<-ce];have s1:Sub H C:=by rw[aw];exact(Sub.refl _).new av _
 have s2:Sub C D:=by rw[ay];exact(Sub.refl _).new ax _
 have s3:Sub D E:=by rw[a1];exact(Sub.refl _).new a0 _
 have s4:Sub E I:=by rw[a3];exact(Sub.refl _).new a2 _
 have s5:Sub I J:=by rw[a5];exact(Sub.refl _).new a4 _
 have s6:Sub J L:=by rw[a7];exact(Sub.refl _).new a6 _
 have s7:Sub L M:=by rw[a9];exact(Sub.refl _).new a8 _
 have s8:Sub M O:=by rw[bb];exact(Sub.refl _).new ba _
 have s9:Sub O S:=by rw[bd];exact(Sub.refl _).new bc _
 have s10:Sub S U:=by rw[bf];exact(Sub.refl _).new be _
 have cf:Sub U V:=by rw[bh];exact(Sub.refl _).new bg _
 have cg:Sub V W:=by rw[bj];exact(Sub.refl _).new bi _
 have ci:Sub W X:=by rw[bl];exact(Sub.refl _).new bk _
 have cj:Sub X Y:=by rw[bn];exact(Sub.refl _).new bm _
 have ck:Sub Y Z:=by rw[bp];exact(Sub.refl _).new bo _
 have cl:Sub Z aa:=by rw[br];exact(Sub.refl _).new bq _
 have cm:Sub aa ab:=by rw[bt];exact(Sub.refl _).new bs _
 have cn:Sub ab ac:=by rw[bv];exact(Sub.refl _).new bu _
 have co:Sub ac ad:=by rw[bx];exact(Sub.refl _).new bw _
 have cp:Sub ad ae:=by rw[b0];exact(Sub.refl _).new bz _
 have cq:Sub ae af:=by rw[cb];exact(Sub.refl _).new ca _
 have cr:Sub af h:=by rw[ce];exact(Sub.refl _).new cd _
 have ct:Sub h h:=Sub.refl _;have cu:Sub af h:=cr.trans ct;have cv:Sub ae h:=cq.trans cu;have cw:Sub ad h:=cp.trans cv;have cx:Sub ac h:=co.trans cw;have cy:Sub ab h:=cn.trans cx;have cz:Sub aa h:=cm.trans cy;have c0:Sub Z h:=cl.trans cz;have da:Sub Y h:=ck.trans c0;have db:Sub X h:=cj.trans da;have dc:Sub W h:=ci.trans db;have dd:Sub V h:=cg.trans dc;have de:Sub U h:=cf.trans dd;have t9:Sub S h:=s10.trans de;have t8:Sub O h:=s9.trans t9;have t7:Sub M h:=s8.trans t8;have t6:Sub L h:=s7.trans t7;have t5:Sub J h:=s6.trans t6;have t4:Sub I h:=s5.trans t5;have t3:Sub E h:=s4.trans t4;have t2:Sub D h:=s3.trans t3;have t1:Sub C h:=s2.trans t2;have t0:Sub H h:=s1.trans t1;have u1:Sub H H:=Sub.refl H;have u2:Sub H C:=u1.trans s1;have u3:Sub H D:=u2.trans s2;have u4:Sub H E:=u3.trans s3;have u5:Sub H I:=u4.trans s4;have u6:Sub H J:=u5.trans s5;have u7:Sub H L:=u6.trans s6;have u8:Sub H M:=u7.trans s7;have u9:Sub H O:=u8.trans s8;have df:Sub H S:=u9.trans s9;have dg:Sub H U:=df.trans s10;have dh:Sub H V:=dg.trans cf;have di:Sub H W:=dh.trans cg;have dj:Sub H X:=di.trans ci;have dk:Sub H Y:=dj.trans cj;have dl:Sub H Z:=dk.trans ck;have dm:Sub H aa:=dl.trans cl;have dn:Sub H ab:=dm.trans cm;have dp:Sub H ac:=dn.trans cn;have dq:Sub H ad:=dp.trans co;have dr:Sub H ae:=dq.trans cp;have ds:Sub H af:=dr.trans cq;have y:Sub H h:=ds.trans cr;have c1:h b1=some (.cells [.str [43]] 9):=t1 _ _ (by rw[aw];exact Aa _ _ _);have c2:h b2=some (.cells [.str [45]] 9):=t2 _ _ (by rw[ay];exact Aa _ _ _);have c3:h b3=some (.cells [.str [42]] 9):=t3 _ _ (by rw[a1];exact Aa _ _ _);have c4:h b4=some (.cells [.str [47]] 9):=t4 _ _ (by rw[a3];exact Aa _ _ _);have c5:h b5=some (.cells [.str [109,111,100]] 9):=t5 _ _ (by rw[a5];exact Aa _ _ _);have c6:h b6=some (.cells [.str [114,101,109]] 9):=t6 _ _ (by rw[a7];exact Aa _ _ _);have c7:h b7=some (.cells [.str [61]] 9):=t7 _ _ (by rw[a9];exact Aa _ _ _);have c8:h b8=some (.cells [.str [47,61]] 9):=t8 _ _ (by rw[bb];exact Aa _ _ _);have c9:h b9=some (.cells [.str [60]] 9):=t9 _ _ (by rw[bd];exact Aa _ _ _);have dt:h ag=some (.cells [.str [60,61]] 9):=de _ _ (by rw[bf];exact Aa _ _ _);have du:h ah=some (.cells [.str [62]] 9):=dd _ _ (by rw[bh];exact Aa _ _ _);have dv:h ai=some (.cells [.str [62,61]] 9):=dc _ _ (by rw[bj];exact Aa _ _ _);have dw:h aj=some (.cells [.str [97,110,100]] 9):=db _ _ (by rw[bl];exact Aa _ _ _);have dx:h ak=some (.cells [.str [111,114]] 9):=da _ _ (by rw[bn];exact Aa _ _ _);have dy:h al=some (.cells [.str [120,111,114]] 9):=c0 _ _ (by rw[bp];exact Aa _ _ _);have dz:h am=some (.cells [.str [97,110,100], .str [116,104,101,110]] 9):=cz _ _ (by rw[br];exact Aa _ _ _);have d0:h ao=some (.cells [.str [111,114], .str [101,108,115,101]] 9):=cy _ _ (by rw[bt];exact Aa _ _ _);have d1:h ap=some (.cells [.str [43]] 9):=cx _ _ (by rw[bv];exact Aa _ _ _);have d2:h aq=some (.cells [.str [45]] 9):=cw _ _ (by rw[bx];exact Aa _ _ _);have d3:h ar=some (.cells [.str [97,98,115]] 9):=cv _ _ (by rw[b0];exact Aa _ _ _);have d4:h au=some (.cells [.str [110,111,116]] 9):=cu _ _ (by rw[cb];exact Aa _ _ _);have d5:h cc=some (.cells [.nilSlice, .oslice 1 b1 0 1 1, .oslice 1 b2 0 1 1, .oslice 1 b3 0 1 1, .oslice 1 b4 0 1 1, .oslice 1 b5 0 1 1, .oslice 1 b6 0 1 1, .oslice 1 b7 0 1 1, .oslice 1 b8 0 1 1, .oslice 1 b9 0 1 1, .oslice 1 ag 0 1 1, .oslice 1 ah 0 1 1, .oslice 1 ai 0 1 1, .oslice 1 aj 0 1 1, .oslice 1 ak 0 1 1, .oslice 1 al 0 1 1, .oslice 1 am 0 2 2, .oslice 1 ao 0 2 2, .oslice 1 ap 0 1 1, .oslice 1 aq 0 1 1, .oslice 1 ar 0 1 1, .oslice 1 au 0 1 1] 54):=ct _ _ (by rw[ce];exact Aa _ _ _);have d6:Lt h (.oslice 1 cc 0 22 22) H (.vslice (Eu8.map dW) 22):=Lt.cells (cs':=Eu8.map dW) y (ds.lo cd) d5 rfl (.cons (.nil y) (.cons (Lt.block y (u1.lo av) c1 rfl) (.cons (Lt.block y (u2.lo ax) c2 rfl) (.cons (Lt.block y (u3.lo a0) c3 rfl) (.cons (Lt.block y (u4.lo a2) c4 rfl) (.cons (Lt.block y (u5.lo a4) c5 rfl) (.cons (Lt.block y (u6.lo a6) c6 rfl) (.cons (Lt.block y (u7.lo a8) c7 rfl) (.cons (Lt.block y (u8.lo ba) c8 rfl) (.cons (Lt.block y (u9.lo bc) c9 rfl) (.cons (Lt.block y (df.lo be) dt rfl) (.cons (Lt.block y (dg.lo bg) du rfl) (.cons (Lt.block y (dh.lo bi) dv rfl) (.cons (Lt.block y (di.lo bk) dw rfl) (.cons (Lt.block y (dj.lo bm) dx rfl) (.cons (Lt.block y (dk.lo bo) dy rfl) (.cons (Lt.block y (dl.lo bq) dz rfl) (.cons (Lt.block y (dm.lo bs) d0 rfl) (.cons (Lt.block y (dn.lo bu) d1 rfl) (.cons (Lt.block y (dp.lo bw) d2 rfl) (.cons (Lt.block y (dq.lo bz) d3 rfl) (.cons (Lt.block y (dr.lo ca) d4 rfl) (.nil)))))))))))))))))))))));simp(disch:=omega)only[go_sem];exact Lt.fin y d6 ⟨rfl,rfl⟩
theorem Av5 (G:Nat->DVal) (H:Ac) (o:Nat) (a b:Ex):Af Tryz.prog G 166 [.int .u8 o, .agg (dEx a), .agg (dEx b)] H (Au (.agg (dEx (both o a b))) H):=by
 have hea:both o a b= .mk 12 o 0 [] [a,b] [] a.line 0 0:=rfl;rw[hea];have O: [a,b].flatMap dEx=dEx a++dEx b:=by simp
 have Y:(dEx a)[6]? =some (dI a.line):=by cases a;rfl
 have S:(dEx a).length=9:=Ad a;have U:(dEx b).length=9:=Ad b;refine Ab Tryz.func166 Tryz.call166 rfl (by kernel_rfl) ?_;simp(disch:=omega)only[go_sem,DVal.cells];intro r4 V;dsimp only at V;simp(disch:=omega)only[go_sem,DVal.cells];intro r5 h;dsimp only at h;obtain⟨y,C,ae⟩:=Av.1 h;simp(disch:=omega)only[go_sem];intro r6 D;dsimp only at D;obtain⟨E,I,Z⟩:=Av.1 D;obtain⟨J,L,aa⟩:=Av.1 Z;simp(disch:=omega)only[go_sem,y,C,E,I,J,L];rw[Ap S U];simp(disch:=omega)only[go_sem,y,C,E,I,J,L];intro r7 M;dsimp only at M;obtain⟨W,X,ab⟩:=Av.1 M;obtain⟨p3,p4,ac⟩:=Av.1 ab;obtain⟨p5,p6,ad⟩:=Av.1 ac;simp(disch:=omega)only[go_sem,y,C,E,I,J,L,W,X,p3,p4,p5,p6,Y];have hs:=(((((Sub.refl H).new V (some (.cells (dEx a) 27))).new h (some (.cells (dEx b) 27))).new D (some (.cells [.int .u8 0, .int .u8 0, .int .i64 0, .str [], .nilSlice, .nilSlice, .int .i64 0, .int .i64 0, .int .i64 0] 27))).new M (some (.cells (dEx a++dEx b) 27))).up aa (some (.cells [.int .u8 12, .int .u8 o, .int .i64 0, .str [], .oslice 9 r7 0 2 2, .nilSlice, .int .i64 a.line, .int .i64 0, .int .i64 0] 27));refine Lt.fin hs (Lt.agg (Lt.ex (l:= [a,b]) hs (Lt.block (e:=27) hs ad ?_ ?_) (.as0 hs))) ⟨rfl,rfl⟩
 ·rw[O];simp [upd,W,X]
 ·rw[O,jC,S,U]
end
def Bc6:Nat->Nat->List Nat
 | _,0=> []
 | h,n+1=>h::Bc6 (h-1) n
theorem Ah2 {o:Nat} (h:o<22):(Eu8.map dW)[o]? =some (dW (Bd o)):=by
 rw[List.getElem?_map,Bd,List.getD,List.getElem?_eq_getElem (by exact h)];rfl
theorem Df8 (o:Nat):(Bd o).length<=2:=by
 rw[Bd,List.getD];by_cases h:o<22
 ·have: ∀i:Fin 22,((Eu8[i.1]?).getD []).length<=2:=by decide
  exact this ⟨o,h⟩
 ·rw[List.getElem?_eq_none (by have:Eu8.length=22:=rfl;omega)];decide
section
variable {G:Nat->DVal} {H0 H:Ac} {r k:Nat} {l:List Tok}
theorem Ew2 (want:Nat) (o:Nat) (m:List Nat):opF l want k (o::m)=if isW l k (Bd o) then(if want≠0/\o≠want then(0,k) else(o,k+(Bd o).length)) else opF l want k m:=rfl
set_option maxHeartbeats 4000000 in
theorem Sn (hG:GX G) (H:Ac) (lo hi want:Nat) (h1:1<=lo) (h2:lo<=hi) (h3:hi<=21) (hr:H r=some (rdO l k)) (hl:l.length<=1000000) (hk:k<=900000):
  Af Tryz.prog G 165 [.optr r 0, .int .u8 lo, .int .u8 hi, .int .u8 want] H (RdQ r l H (.int .u8 (opF l want k (Bc6 hi (hi+1-lo))).1) (opF l want k (Bc6 hi (hi+1-lo))).2):=by
 have O:=hr;unfold rdO at O;refine Ab Tryz.func165 Tryz.call165 rfl (by kernel_rfl) ?_;simp(disch:=omega)only[go_sem];refine(Lu G H).mono ?_;rintro _ H1 ⟨rfl,rfl⟩;simp(disch:=omega)only[go_sem];obtain⟨I,S⟩: ∃I:Nat->(Nat->DVal)->Ac->Prop,∀j env heap,I j env heap↔(env 0= .optr r 0/\env 1= .int .u8 lo/\env 3= .int .u8 want/\env 9=Oy/\env 10= .int .u8 ((hi-j:Nat):Int)/\j<=hi+1-lo/\opF l want k (Bc6 hi (hi+1-lo))=opF l want k (Bc6 (hi-j) (hi+1-lo-j))/\heap=H1):=⟨_,fun _ _ _=>Iff.rfl⟩;refine Dn5.run I (fun j=>hi+1-lo-j) 0 ((S _ _ _).2 ?_) ?_
 ·simp(disch:=omega)only[go_sem];(repeat' apply And.intro)<;>(try first | rfl | assumption | omega)
 ·intro j env heap Y;obtain⟨y,e1,C,D,h,hj,hm,rfl⟩:=(S _ _ _).1 Y;by_cases ac:j<hi+1-lo
  ·obtain⟨o,ho⟩: ∃o,o=hi-j:=⟨_,rfl⟩;have hn:hi+1-lo-j=(hi+1-lo-(j+1))+1:=by omega
   rw[hn,Bc6,Ew2,<-ho] at hm;rw[<-ho] at h;have U:(lo:Int)<=(o:Int):=by omega
   have Z:IntKind.u8.wrap ((o:Int)-1)=((hi-(j+1):Nat):Int):=by
    rw[IntKind.wrap_u8];omega
   have E:=Ah2 (o:=o) (by omega);have aa:=Df8 o;obtain⟨ws,ab⟩: ∃ws,ws=Bd o:=⟨_,rfl⟩;rw[<-ab] at E aa hm;have J:(Eu8.map dW).length=22:=rfl;obtain⟨W,L⟩: ∃W,W=Eu8.map dW:=⟨_,rfl⟩;rw[<-L] at E J;simp(disch:=omega)only[go_sem,y,e1,C,D,h,U,Oy,<-L,E,J,jD];refine(An2 hG heap ws hr hl hk (by omega)).mono ?_;rintro _ H2 ⟨rfl,rfl⟩;cases hb:isW l k ws with
   | false=>
    rw[hb] at hm;simp(disch:=omega)only[go_sem,y,e1,C,D,h];refine⟨j+1,_,Ri.refl _,(S _ _ _).2 ?_,by omega⟩;simp(disch:=omega)only[go_sem,y,e1,C,D,h,Z];(repeat' apply And.intro)<;>(try first | rfl | assumption | omega);rw[hm,if_neg (by simp),Nat.sub_sub,ho];rfl
   | true=>
    rw[hb,if_pos rfl] at hm;have X:IntKind.i64.wrap ((k:Int)+(ws.length:Int))=((k+ws.length:Nat):Int):=by rw[IntKind.wrap_i64];omega
    by_cases c1:want=0
    ·have M:(want:Int)=0:=by omega
     rw[if_neg (by omega)] at hm;simp(disch:=omega)only[go_sem,y,e1,C,D,h,M,Oy,<-L,E,J,jD];refine Aj (by kernel_rfl) pL11 (by kernel_rfl) ?_;simp(disch:=omega)only[go_sem,y,e1,C,D,h,Oy,<-L,E,J,jD,O,X,dW];rw[hm];exact Es.refl ⟨rfl,rfl⟩
    ·have M: ¬(want:Int)=0:=by omega
     by_cases c2:o=want
     ·have V:(o:Int)=(want:Int):=by omega
      rw[if_neg (by omega)] at hm;simp(disch:=omega)only[go_sem,y,e1,C,D,h,M,V,Oy,<-L,E,J,jD];refine Aj (by kernel_rfl) pL11 (by kernel_rfl) ?_;simp(disch:=omega)only[go_sem,y,e1,C,D,h,Oy,<-L,E,J,jD,O,X,dW];rw[hm];exact Es.refl ⟨rfl,rfl⟩
     ·have V: ¬(o:Int)=(want:Int):=by omega
      rw[if_pos ⟨c1,c2⟩] at hm;simp(disch:=omega)only[go_sem,y,e1,C,D,h,M,V];rw[hm];exact Es.refl ⟨rfl,(Dv hr).symm⟩
  ·have:j=hi+1-lo:=by omega
   subst this;have ho:hi-(hi+1-lo)=lo-1:=by omega
   have U: ¬(lo:Int)<=((lo-1:Nat):Int):=by omega
   rw[Nat.sub_self,ho,Bc6,opF] at hm;rw[ho] at h;simp(disch:=omega)only[go_sem,y,e1,C,D,h,U];rw[hm];exact Es.refl ⟨rfl,(Dv hr).symm⟩
end
def Res.mp {α:Type} (f:α->DVal):Res α->Res DVal
 | .bot=> .bot
 | .fail k=> .fail k
 | .ok x k=> .ok (f x) k
def dE (e:Ex):DVal:= .agg (dEx e)
section
variable {G:Nat->DVal} {H0 H:Ac} {r k:Nat} {l:List Tok}
def RdC (P:Program) (G:Nat->DVal) (l:List Tok) (f:FuncId) (r:Nat) (res:Nat->Res DVal):Prop:=
 ∀H k,H r=some (rdO l k)->k<=l.length->res k≠ .bot->Af P G f [.optr r 0] H (RdR r l H (res k))
set_option maxHeartbeats 4000000 in
theorem Bl4 (hG:GX G) (g:FuncId) (T:Nat->Nat->Res Ex) (L:Nat->Ex->Nat->Res Ex) (lo hi:Nat) (h1:1<=lo) (h2:lo<=hi) (h3:hi<=21) (hl:l.length<=800000)
  (ad: ∀x k,L 0 x k= .bot) (hL: ∀m x k,L (m+1) x k=if(opF l 0 k (Bc6 hi (hi+1-lo))).1=0 then .ok x k else(T m (opF l 0 k (Bc6 hi (hi+1-lo))).2).then fun y k'=>L m (both (opF l 0 k (Bc6 hi (hi+1-lo))).1 x y) k')
  (hT: ∀m k,k<=l.length->Adv l (k+1) (T m k)) (ae: ∀o∈Bc6 hi (hi+1-lo),o<22/\o≠0)
  (n:Nat) (hg: ∀m<n,RdC Tryz.prog G l g r fun k=>(T m k).mp dE) (H:Ac) (x:Ex) (k:Nat) (hr:H r=some (rdO l k)) (hk:k<=l.length) (hn:L n x k≠ .bot):
  Af Tryz.prog G 170 [.optr r 0, .agg (dEx x), .int .u8 lo, .int .u8 hi, .func (.func g) [.optr r 0] []] H (RdR r l H ((L n x k).mp dE)):=by
 refine Ab Tryz.func170 Tryz.call170 rfl (by kernel_rfl) ?_;simp(disch:=omega)only[go_sem,DVal.cells];intro r6 ab;dsimp only at ab;simp(disch:=omega)only[go_sem,DVal.cells];intro rx ac;dsimp only at ac;obtain⟨m1,m2,af⟩:=Av.1 ac;have V:r≠r6:=Ae ab hr;have Y:r≠rx:=Ae af hr;have ha:=((RAt.refl hr).new ab (some (.cells (dEx x) 27))).new ac (some (.cells [.int .u8 0, .int .u8 0, .int .i64 0, .str [], .nilSlice, .nilSlice, .int .i64 0, .int .i64 0, .int .i64 0] 27));simp(disch:=omega)only[go_sem,m1,m2,V,Y];refine(Sn hG _ lo hi 0 h1 h2 h3 ha.get (by omega) (by omega)).mono ?_;rintro _ H1 ⟨rfl,rfl⟩;obtain⟨os,ag⟩: ∃os,os=Bc6 hi (hi+1-lo):=⟨_,rfl⟩;rw[<-ag] at hL ae⊢
 have Z:=V.symm;have qx:=Y.symm;obtain⟨z,hz⟩: ∃z,z=(some (.cells [.int .u8 0, .int .u8 0, .int .i64 0, .str [], .nilSlice, .nilSlice, .int .i64 0, .int .i64 0, .int .i64 0] 27):Option DObj):=⟨_,rfl⟩;rw[<-hz] at ha;obtain⟨n',rfl⟩: ∃n',n=n'+1:=by
  cases n with
  | zero=>exact absurd (ad _ _) hn
  | succ n'=>exact⟨n',rfl⟩
 simp(disch:=omega)only[go_sem,m1,m2,V,Y];obtain⟨I,hI⟩: ∃I:Nat×Ex×Nat->(Nat->DVal)->Ac->Prop,∀s env heap,I s env heap↔(env 0= .optr r 0/\env 2= .int .u8 lo/\env 3= .int .u8 hi/\env 4= .func (.func g) [.optr r 0] []/\env 6= .optr r6 0/\env 10= .optr rx 0/\env 11= .int .u8 (opF l 0 s.2.2 os).1/\s.2.2<=l.length/\s.1<=n'/\L (s.1+1) s.2.1 s.2.2=L (n'+1) x k/\RAt r l (opF l 0 s.2.2 os).2 H heap/\heap r6=some (.cells (dEx s.2.1) 27)/\heap rx=z):=⟨_,fun _ _ _=>Iff.rfl⟩;refine Dn5.run I (fun s=>s.1) (n',x,k) ((hI _ _ _).2 ?_) ?_
 ·simp(disch:=omega)only[go_sem,<-hz,m1,m2,V,Y,Z,qx];(repeat' apply And.intro)<;>(try first | rfl | assumption | omega);exact ha.set _
 ·rintro⟨m,y,k1⟩ env heap am;obtain⟨C,D,E,J,M,O,S,ah,hm,h,U,g6,gx⟩:=(hI _ _ _).1 am;dsimp only at S ah hm h U g6;rw[hL] at h;have ai:=Ej (want:=0) (os:=os) (k:=k1) (l:=l) ae ah;obtain⟨o,ho⟩: ∃o,o=(opF l 0 k1 os).1:=⟨_,rfl⟩;obtain⟨W,aj⟩: ∃W,W=(opF l 0 k1 os).2:=⟨_,rfl⟩;rw[<-ho,<-aj] at h ai;rw[<-ho] at S;rw[<-aj] at U;by_cases c:o=0
  ·have c':(o:Int)=0:=by omega
   rw[if_pos c] at h;rw[hz] at gx;have ao:W=k1:=ai.1 c;rw[ao] at U;simp(disch:=omega)only[go_sem,C,D,E,J,M,O,S,c',g6,gx];rw[<-h];exact RAt.fin (U.own af qx _) ⟨rfl,rfl⟩
  ·have c': ¬(o:Int)=0:=by omega
   rw[if_neg c] at h;simp(disch:=omega)only[go_sem,C,D,E,J,M,O,S,c'];refine Aj (by kernel_rfl) pL19 (by kernel_rfl) ?_;simp(disch:=omega)only[go_sem,C,D,E,J,M,O,S,g6];have ak:=hT m W (by omega);have aa:=hg m (by omega) heap W U.get (by omega);dsimp only at aa;cases hTk:T m W with
   | bot=>rw[hTk] at h;exact absurd h.symm hn
   | fail X=>
    rw[hTk] at aa h;refine(aa (by simp [Res.mp])).mono ?_;rintro e H2 ⟨rfl,rfl⟩;simp(disch:=omega)only[go_sem];rw[<-h];exact RAt.finP (U.set X) ⟨rfl,rfl⟩
   | ok y2 X=>
    rw[hTk] at aa h ak;dsimp only[Res.then,Adv] at h ak;refine(aa (by simp [Res.mp])).mono ?_;rintro e H2 ⟨rfl,rfl⟩;simp(disch:=omega)only[go_sem,C,D,E,J,M,O,S,dE,Z];refine(Av5 G _ o y y2).mono ?_;rintro _ H3 ⟨rfl,rfl⟩;have ap:=Ad (both o y y2);have aq:=Bo (both o y y2);have ar:=Ad y;have au:(dEx y).drop 9= []:=List.drop_eq_nil_of_le (by omega);simp(disch:=omega)only[go_sem,C,D,E,J,M,O,S,g6,V,Z,ap,aq,ar,au];have al:RAt r l X H (upd (upd heap r (some (rdO l X))) r6 (some (.cells (dEx (both o y y2)) 27))):=(U.set X).own ab Z _;refine(Sn hG _ lo hi 0 h1 h2 h3 al.get (by omega) (by omega)).mono ?_;rintro _ H4 ⟨rfl,rfl⟩;rw[<-ag];obtain⟨m',rfl⟩: ∃m',m=m'+1:=by
     cases m with
     | zero=>rw[ad] at h;exact absurd h.symm hn
     | succ m'=>exact⟨m',rfl⟩
    simp(disch:=omega)only[go_sem,C,D,E,J,M,O];refine⟨(m',both o y y2,X),_,Ri.refl _,(hI _ _ _).2 ?_,by dsimp only;omega⟩;simp(disch:=omega)only[go_sem,C,D,E,J,M,O,Z,qx,V,Y,g6,gx,m1,m2,h];(repeat' apply And.intro)<;>(try first | rfl | assumption | omega);exact al.set _
end
section
variable {G:Nat->DVal} {H0 H:Ac} {r k:Nat} {l:List Tok}
theorem Fp8 (hG:GX G) (H:Ac) (hr:H r=some (rdO l k)) (hl:l.length<=800000) (hk:k<=l.length):Af Tryz.prog G 165 [.optr r 0, .int .u8 20, .int .u8 21, .int .u8 0] H (RdQ r l H (.int .u8 (opF l 0 k La).1) (opF l 0 k La).2):=
 Sn hG H 20 21 0 (by decide) (by decide) (by decide) hr (by omega) (by omega)
theorem Ew3 (hG:GX G) (H:Ac) (hr:H r=some (rdO l k)) (hl:l.length<=800000) (hk:k<=l.length):Af Tryz.prog G 165 [.optr r 0, .int .u8 18, .int .u8 19, .int .u8 0] H (RdQ r l H (.int .u8 (opF l 0 k Gx).1) (opF l 0 k Gx).2):=
 Sn hG H 18 19 0 (by decide) (by decide) (by decide) hr (by omega) (by omega)
theorem Fp9 (hG:GX G) (H:Ac) (hr:H r=some (rdO l k)) (hl:l.length<=800000) (hk:k<=l.length):Af Tryz.prog G 165 [.optr r 0, .int .u8 7, .int .u8 12, .int .u8 0] H (RdQ r l H (.int .u8 (opF l 0 k Nv).1) (opF l 0 k Nv).2):=
 Sn hG H 7 12 0 (by decide) (by decide) (by decide) hr (by omega) (by omega)
theorem Dq1 (hG:GX G) (H:Ac) (want:Nat) (hr:H r=some (rdO l k)) (hl:l.length<=800000) (hk:k<=l.length):Af Tryz.prog G 165 [.optr r 0, .int .u8 13, .int .u8 17, .int .u8 want] H (RdQ r l H (.int .u8 (opF l want k Fp).1) (opF l want k Fp).2):=
 Sn hG H 13 17 want (by decide) (by decide) (by decide) hr (by omega) (by omega)
theorem Cf {α:Type} {f:α->DVal} {x:Res α} (h:x≠ .bot):x.mp f≠ .bot:=by cases x<;>simp_all [Res.mp]
theorem Ai {x:List DVal} (hx:x.length=9):
  (if 9<=(Cc 1 [DVal.int .u8 0,DVal.int .u8 0,DVal.int .i64 0,DVal.str [],DVal.nilSlice,DVal.nilSlice,DVal.int .i64 0,DVal.int .i64 0,DVal.int .i64 0]).length then
   some (x++List.drop 9 (Cc 1 [DVal.int .u8 0,DVal.int .u8 0,DVal.int .i64 0,DVal.str [],DVal.nilSlice,DVal.nilSlice,DVal.int .i64 0,DVal.int .i64 0,DVal.int .i64 0]))
  else none)=some x:=by
 have e: ∀u:List DVal,Cc 1 u=u:=fun u=>by simp [Cc]
 rw[e,if_pos (by simp),List.drop_eq_nil_of_le (by simp),jH]
theorem Ew4 {x:List DVal} (hx:x.length=9) (z:List DVal) (hz:z.length=9):x++z.drop 9=x:=by rw[List.drop_eq_nil_of_le (by omega),jH]
theorem An {H:Ac} {r x:Nat} {y:Option DObj} {o:DObj} (h:H x=some o) (C:x≠r):upd H r y x=some o:=by rw[Ak _ _ _ _ C];exact h
set_option maxHeartbeats 4000000 in
theorem Cr7 (hG:GX G) (hl:l.length<=800000) (p:PS) (hA:p.Adv l) (hp:RdC Tryz.prog G l 64 r fun k=>(p.primary k).mp dE):RdC Tryz.prog G l 63 r fun k=>((Bl l p).factor k).mp dE:=by
 intro H k hr hk hn;dsimp only[Bl] at hn⊢
 have ae:=Ej (want:=0) (os:=La) (k:=k) (l:=l) Gp7.2.2.2.2.2 hk;refine Ab Tryz.func63 Tryz.call63 rfl (by kernel_rfl) ?_;simp(disch:=omega)only[go_sem];intro y J;dsimp only at J;obtain⟨Ha,V⟩: ∃K,K=upd H y (some (.cells [.int .u8 0, .int .u8 0, .int .i64 0, .str [], .nilSlice, .nilSlice, .int .i64 0, .int .i64 0, .int .i64 0] 27)):=⟨_,rfl⟩;rw[<-V];have af:Ha y=some (.cells [.int .u8 0, .int .u8 0, .int .i64 0, .str [], .nilSlice, .nilSlice, .int .i64 0, .int .i64 0, .int .i64 0] 27):=by rw[V];exact Aa _ _ _
 have n2:r≠y:=Ae J hr;have q2:=n2.symm;have ha:RAt r l k H Ha:=by rw[V];exact(RAt.refl hr).new J _
 simp(disch:=omega)only[go_sem];refine(Av1 G _ ha.get (by omega) (by omega)).mono ?_;rintro _ H1 ⟨rfl,rfl⟩;simp(disch:=omega)only[go_sem];refine(Fp8 hG _ ha.get hl hk).mono ?_;rintro _ H2 ⟨rfl,W⟩;obtain⟨o,ho⟩: ∃o,o=(opF l 0 k La).1:=⟨_,rfl⟩;obtain⟨D,ab⟩: ∃D,D=(opF l 0 k La).2:=⟨_,rfl⟩;rw[<-ho,<-ab] at ae hn⊢
 rw[<-ab] at W;have X:RAt r l D H H2:=by rw[W];exact ha.set D
 have g2:H2 y=some (.cells [.int .u8 0, .int .u8 0, .int .i64 0, .str [], .nilSlice, .nilSlice, .int .i64 0, .int .i64 0, .int .i64 0] 27):=by rw[W];exact An af q2
 simp(disch:=omega)only[go_sem];have L:=hp _ D X.get (by omega);dsimp only at L;cases hpr:p.primary D with
 | bot=>rw[hpr] at hn;exact absurd rfl hn
 | fail U=>
  rw[hpr] at L;refine(L (Cf (by simp))).mono ?_;rintro e Y ⟨rfl,rfl⟩;simp(disch:=omega)only[go_sem];exact RAt.finP (X.set U) ⟨rfl,rfl⟩
 | ok x U=>
  rw[hpr] at L;refine(L (Cf (by simp))).mono ?_;rintro e Y ⟨rfl,ac⟩;have M:RAt r l U H Y:=by rw[ac];exact X.set U
  dsimp only[Res.then];have C:Y y=some (.cells [.int .u8 0, .int .u8 0, .int .i64 0, .str [], .nilSlice, .nilSlice, .int .i64 0, .int .i64 0, .int .i64 0] 27):=by rw[ac];exact An g2 q2
  simp(disch:=omega)only[go_sem,dE];intro r5 E;dsimp only at E;have I:y≠r5:=Ae E C;have O:=I.symm;have h:=Ad x;have S:=Bo x;have hc:=Ew4 h [.int .u8 0, .int .u8 0, .int .i64 0, .str [], .nilSlice, .nilSlice, .int .i64 0, .int .i64 0, .int .i64 0] rfl;simp(disch:=omega)only[go_sem,I,O,C,h,S];by_cases c:o=0
  ·have c':(o:Int)=0:=by omega
   simp(disch:=omega)only[go_sem,I,O,C,h,S,c'];rw[show Qq o (tk l k).line x=x by rw[Qq,if_pos c]];exact RAt.fin ((M.new E _).own J q2 _) ⟨rfl,rfl⟩
  ·have c': ¬(o:Int)=0:=by omega
   simp(disch:=omega)only[go_sem,I,O,C,h,S,c'];rw[Ai h];simp(disch:=omega)only[go_sem,I,O,C,h,S,c'];intro Z aa;dsimp only at aa;obtain⟨m1,m2,ad⟩:=Av.1 aa;have n8:y≠Z:=Ae ad C;have q8:=n8.symm;simp(disch:=omega)only[go_sem,I,O,C,h,S,m1,m2,n8,q8];rw[show Qq o (tk l k).line x= .mk 11 o 0 [] [x] [] (tk l k).line 0 0 by rw[Qq,if_neg c]];have p5:r≠r5:=Ae E M.get;have hs:=(((M.new E (some (.cells (dEx x) 27))).new aa (some (.cells (dEx x) 27))).own (M.lo E) p5.symm (some (.cells [.int .u8 11, .int .u8 o, .int .i64 0, .str [], .oslice 9 Z 0 1 1, .nilSlice, .int .i64 (tk l k).line, .int .i64 0, .int .i64 0] 27))).own J q2 (some (.cells [.int .u8 11, .int .u8 o, .int .i64 0, .str [], .oslice 9 Z 0 1 1, .nilSlice, .int .i64 (tk l k).line, .int .i64 0, .int .i64 0] 27));refine Lt.fin hs (Lt.agg (Lt.ex (l:= [x]) hs (Lt.block (e:=27) hs (Sub.lo M ad) ?_ ?_) (.as0 hs))) ⟨rfl,rfl⟩
   ·rw[List.flatMap_singleton];simp [upd,m1,m2,n8,q8]
   ·rw[List.flatMap_singleton,h]
theorem Ew5 (hG:GX G) (hl:l.length<=800000) (n:Nat) (h: ∀m<n,RdC Tryz.prog G l 63 r fun k=>((P l m).factor k).mp dE) (H:Ac) (x:Ex) (k:Nat) (hr:H r=some (rdO l k)) (hk:k<=l.length) (y:(P l n).mulL x k≠ .bot):
  Af Tryz.prog G 170 [.optr r 0, .agg (dEx x), .int .u8 3, .int .u8 6, .func (.func 63) [.optr r 0] []] H (RdR r l H (((P l n).mulL x k).mp dE)):=
 Bl4 hG _ (fun m=>(P l m).factor) (fun m=>(P l m).mulL) 3 6 (by decide) (by decide) (by decide) hl (fun _ _=>rfl) (fun _ _ _=>rfl) (fun m k hk=>(Jz m).factor k hk) Gp7.2.2.2.2.1 n h H x k hr hk y
theorem Cr8 (hG:GX G) (hl:l.length<=800000) (n:Nat) (h: ∀m<n,RdC Tryz.prog G l 62 r fun k=>((P l m).term k).mp dE) (H:Ac) (x:Ex) (k:Nat) (hr:H r=some (rdO l k)) (hk:k<=l.length) (y:(P l n).addL x k≠ .bot):
  Af Tryz.prog G 170 [.optr r 0, .agg (dEx x), .int .u8 1, .int .u8 2, .func (.func 62) [.optr r 0] []] H (RdR r l H (((P l n).addL x k).mp dE)):=
 Bl4 hG _ (fun m=>(P l m).term) (fun m=>(P l m).addL) 1 2 (by decide) (by decide) (by decide) hl (fun _ _=>rfl) (fun _ _ _=>rfl) (fun m k hk=>(Jz m).term k hk) Gp7.2.2.2.1 n h H x k hr hk y
set_option maxHeartbeats 4000000 in
theorem Ed4 (hG:GX G) (hl:l.length<=800000) (n:Nat) (V: ∀m≤n,RdC Tryz.prog G l 63 r fun k=>((P l m).factor k).mp dE):RdC Tryz.prog G l 62 r fun k=>((P l (n+1)).term k).mp dE:=by
 intro H k hr hk hn;have e:(P l (n+1)).term k=((P l n).factor k).then fun x k=>(P l n).mulL x k:=rfl
 dsimp only at hn⊢
 rw[e] at hn⊢
 refine Ab Tryz.func62 Tryz.call62 rfl (by kernel_rfl) ?_;simp(disch:=omega)only[go_sem];intro D I;dsimp only at I;obtain⟨W,O⟩: ∃K,K=upd H D (some (.cells [.int .u8 0, .int .u8 0, .int .i64 0, .str [], .nilSlice, .nilSlice, .int .i64 0, .int .i64 0, .int .i64 0] 27)):=⟨_,rfl⟩;rw[<-O];have ab:W D=some (.cells [.int .u8 0, .int .u8 0, .int .i64 0, .str [], .nilSlice, .nilSlice, .int .i64 0, .int .i64 0, .int .i64 0] 27):=by rw[O];exact Aa _ _ _
 have n2:r≠D:=Ae I hr;have q2:=n2.symm;have ha:RAt r l k H W:=by rw[O];exact(RAt.refl hr).new I _
 simp(disch:=omega)only[go_sem];have E:=V n (Nat.le_refl _) _ k ha.get hk;have X:=(Jz (l:=l) n).factor k hk;dsimp only at E;cases hpr:(P l n).factor k with
 | bot=>rw[hpr] at hn;exact absurd rfl hn
 | fail C=>
  rw[hpr] at E;refine(E (Cf (by simp))).mono ?_;rintro e J ⟨rfl,rfl⟩;simp(disch:=omega)only[go_sem];exact RAt.finP (ha.set C) ⟨rfl,rfl⟩
 | ok x C=>
  rw[hpr] at E hn X;refine(E (Cf (by simp))).mono ?_;rintro e J ⟨rfl,Y⟩;have S:RAt r l C H J:=by rw[Y];exact ha.set C
  dsimp only[Res.then,Adv] at hn X⊢
  have g3:J D=some (.cells [.int .u8 0, .int .u8 0, .int .i64 0, .str [], .nilSlice, .nilSlice, .int .i64 0, .int .i64 0, .int .i64 0] 27):=by rw[Y];exact An ab q2
  simp(disch:=omega)only[go_sem,dE];have Z:(P l n).mulL x C≠ .bot:=fun h=>hn (by rw[h];rfl);have L:=Ew5 hG hl n (fun m hm=>V m (by omega)) J x C S.get (by omega) Z;cases hpc:(P l n).mulL x C with
  | bot=>exact absurd hpc Z
  | fail M=>
   rw[hpc] at L;refine L.mono ?_;rintro e U ⟨rfl,rfl⟩;simp(disch:=omega)only[go_sem];exact RAt.finP (S.set M) ⟨rfl,rfl⟩
  | ok y M=>
   rw[hpc] at L;refine L.mono ?_;rintro e U ⟨rfl,aa⟩;have ac:RAt r l M H U:=by rw[aa];exact S.set M
   have g4:U D=some (.cells [.int .u8 0, .int .u8 0, .int .i64 0, .str [], .nilSlice, .nilSlice, .int .i64 0, .int .i64 0, .int .i64 0] 27):=by rw[aa];exact An g3 q2
   have ad:=Ad y;have ae:=Bo y;simp(disch:=omega)only[go_sem,dE,g4,ad,ae];exact RAt.fin (ac.own I q2 _) ⟨rfl,rfl⟩
end
section
variable {G:Nat->DVal} {H0 H:Ac} {r k:Nat} {l:List Tok}
set_option maxHeartbeats 4000000 in
theorem Cr9 (hG:GX G) (hl:l.length<=800000) (n:Nat) (hg: ∀m≤n,RdC Tryz.prog G l 62 r fun k=>((P l m).term k).mp dE):RdC Tryz.prog G l 61 r fun k=>((P l (n+1)).simple k).mp dE:=by
 intro H k hr hk hn;have e:(P l (n+1)).simple k=((P l n).term (opF l 0 k Gx).2).then fun x k'=>(P l n).addL (Qq (opF l 0 k Gx).1 (tk l k).line x) k':=rfl
 dsimp only at hn⊢
 rw[e] at hn⊢
 have ax:=Ej (want:=0) (os:=Gx) (k:=k) (l:=l) Gp7.2.2.1 hk;refine Ab Tryz.func61 Tryz.call61 rfl (by kernel_rfl) ?_;simp(disch:=omega)only[go_sem];intro D ac;dsimp only at ac;obtain⟨Ha,ah⟩: ∃K,K=upd H D (some (.cells [.int .u8 0, .int .u8 0, .int .i64 0, .str [], .nilSlice, .nilSlice, .int .i64 0, .int .i64 0, .int .i64 0] 27)):=⟨_,rfl⟩;rw[<-ah];have ay:Ha D=some (.cells [.int .u8 0, .int .u8 0, .int .i64 0, .str [], .nilSlice, .nilSlice, .int .i64 0, .int .i64 0, .int .i64 0] 27):=by rw[ah];exact Aa _ _ _
 have n2:r≠D:=Ae ac hr;have q2:=n2.symm;have ha:RAt r l k H Ha:=by rw[ah];exact(RAt.refl hr).new ac _
 simp(disch:=omega)only[go_sem];refine(Av1 G _ ha.get (by omega) (by omega)).mono ?_;rintro _ H1 ⟨rfl,rfl⟩;simp(disch:=omega)only[go_sem];refine(Ew3 hG _ ha.get hl hk).mono ?_;rintro _ H2 ⟨rfl,ai⟩;obtain⟨o,ho⟩: ∃o,o=(opF l 0 k Gx).1:=⟨_,rfl⟩;obtain⟨V,ar⟩: ∃V,V=(opF l 0 k Gx).2:=⟨_,rfl⟩;rw[<-ho,<-ar] at ax hn⊢
 rw[<-ar] at ai;have aj:RAt r l V H H2:=by rw[ai];exact ha.set V
 have g2:H2 D=some (.cells [.int .u8 0, .int .u8 0, .int .i64 0, .str [], .nilSlice, .nilSlice, .int .i64 0, .int .i64 0, .int .i64 0] 27):=by rw[ai];exact An ay q2
 simp(disch:=omega)only[go_sem];have ad:=hg n (Nat.le_refl _) _ V aj.get (by omega);have au:=(Jz (l:=l) n).term V (by omega);dsimp only at ad;cases hpr:(P l n).term V with
 | bot=>rw[hpr] at hn;exact absurd rfl hn
 | fail E=>
  rw[hpr] at ad;refine(ad (Cf (by simp))).mono ?_;rintro e O ⟨rfl,rfl⟩;simp(disch:=omega)only[go_sem];exact RAt.finP (aj.set E) ⟨rfl,rfl⟩
 | ok x E=>
  rw[hpr] at ad hn au;refine(ad (Cf (by simp))).mono ?_;rintro e O ⟨rfl,av⟩;have ak:RAt r l E H O:=by rw[av];exact aj.set E
  dsimp only[Res.then,Adv] at hn au⊢
  have J:O D=some (.cells [.int .u8 0, .int .u8 0, .int .i64 0, .str [], .nilSlice, .nilSlice, .int .i64 0, .int .i64 0, .int .i64 0] 27):=by rw[av];exact An g2 q2
  have Z:(P l n).addL (Qq o (tk l k).line x) E≠ .bot:=fun h=>hn (by rw[h];rfl);simp(disch:=omega)only[go_sem,dE];intro I ae;dsimp only at ae;have S:D≠I:=Ae ae J;have q5:=S.symm;have p5:r≠I:=Ae ae ak.get;have W:=Ad x;have af:=Bo x;simp(disch:=omega)only[go_sem,S,q5,J,W,af];by_cases c:o=0
  ·have c':(o:Int)=0:=by omega
   simp(disch:=omega)only[go_sem,S,q5,J,W,af,c'];rw[show Qq o (tk l k).line x=x by rw[Qq,if_pos c]] at Z⊢
   have U:=ak.new ae (some (.cells (dEx x) 27));have g5:upd O I (some (.cells (dEx x) 27)) D=some (.cells [.int .u8 0, .int .u8 0, .int .i64 0, .str [], .nilSlice, .nilSlice, .int .i64 0, .int .i64 0, .int .i64 0] 27):=An J S;obtain⟨C,aa⟩: ∃C,C=upd O I (some (.cells (dEx x) 27)):=⟨_,rfl⟩;rw[<-aa] at U g5⊢
   have L:=Cr8 hG hl n (fun m hm=>hg m (by omega)) C x E U.get (by omega) Z;cases hpc:(P l n).addL x E with
   | bot=>exact absurd hpc Z
   | fail M=>
    rw[hpc] at L;refine L.mono ?_;rintro e X ⟨rfl,rfl⟩;simp(disch:=omega)only[go_sem];exact RAt.finP (U.set M) ⟨rfl,rfl⟩
   | ok y M=>
    rw[hpc] at L;refine L.mono ?_;rintro e X ⟨rfl,ag⟩;have al:RAt r l M H X:=by rw[ag];exact U.set M
    have g4:X D=some (.cells [.int .u8 0, .int .u8 0, .int .i64 0, .str [], .nilSlice, .nilSlice, .int .i64 0, .int .i64 0, .int .i64 0] 27):=by rw[ag];exact An g5 q2
    have am:=Ad y;have ao:=Bo y;simp(disch:=omega)only[go_sem,dE,g4,am,ao];exact RAt.fin (al.own ac q2 _) ⟨rfl,rfl⟩
  ·have c': ¬(o:Int)=0:=by omega
   simp(disch:=omega)only[go_sem,S,q5,J,W,af,c'];rw[Ai W];simp(disch:=omega)only[go_sem,S,q5,J,W,af,c'];intro Y aw;dsimp only at aw;obtain⟨m1,m2,ap⟩:=Av.1 aw;have n8:D≠Y:=Ae ap J;have q8:=n8.symm;simp(disch:=omega)only[go_sem,S,q5,J,W,af,m1,m2,n8,q8];obtain⟨xe,aq⟩: ∃xe,xe=Qq o (tk l k).line x:=⟨_,rfl⟩;rw[<-aq] at Z⊢
   rw[show Qq o (tk l k).line x= .mk 11 o 0 [] [x] [] (tk l k).line 0 0 by rw[Qq,if_neg c]] at aq;obtain⟨c5,a0⟩: ∃c5,c5=(some (.cells [.int .u8 11, .int .u8 o, .int .i64 0, .str [], .oslice 9 Y 0 1 1, .nilSlice, .int .i64 (tk l k).line, .int .i64 0, .int .i64 0] 27):Option DObj):=⟨_,rfl⟩;obtain⟨C,aa⟩: ∃C,C=upd O I c5:=⟨_,rfl⟩;have U:RAt r l E H C:=by rw[aa];exact ak.new ae _
   have g5:C D=some (.cells [.int .u8 0, .int .u8 0, .int .i64 0, .str [], .nilSlice, .nilSlice, .int .i64 0, .int .i64 0, .int .i64 0] 27):=by rw[aa];exact An J S
   rw[<-a0];have ab:Sub C (upd (upd (upd O I (some (.cells (dEx x) 27))) Y (some (.cells (dEx x) 27))) I c5):=by
    intro b ob hb;rw[aa] at hb;simp only[upd] at hb⊢
    by_cases e1:b=I
    ·rw[if_pos e1] at hb⊢;exact hb
    ·rw[if_neg e1] at hb⊢
     have e2:b≠Y:=fun e=>by rw[e,ap] at hb;cases hb
     rw[if_neg e2,if_neg e1];exact hb
   have a1:C Y=none:=by rw[aa,Ak _ _ _ _ m1];exact ap
   have L:=Cr8 hG hl n (fun m hm=>hg m (by omega)) C xe E U.get (by omega) Z;have a2:Kq (upd (upd (upd O I (some (.cells (dEx x) 27))) Y (some (.cells (dEx x) 27))) I c5)
     [.optr r 0, .agg [.int .u8 11, .int .u8 o, .int .i64 0, .str [], .oslice 9 Y 0 1 1, .nilSlice, .int .i64 (tk l k).line, .int .i64 0, .int .i64 0], .int .u8 1, .int .u8 2, .func (.func 62) [.optr r 0] []] C
     [.optr r 0, .agg (dEx xe), .int .u8 1, .int .u8 2, .func (.func 62) [.optr r 0] []]:=by
    rw[aq];refine .cons (.keep ab _) (.cons (Lt.agg (Lt.ex (l:= [x]) ab (Lt.block (e:=27) ab a1 ?_ ?_) (.as0 ab))) (.keep ab _))
    ·rw[List.flatMap_singleton];simp [upd,m1,m2]
    ·rw[List.flatMap_singleton,W]
   refine a2.call ab ?_;cases hpc:(P l n).addL xe E with
   | bot=>exact absurd hpc Z
   | fail M=>
    rw[hpc] at L;refine L.mono ?_;rintro e X ⟨rfl,rfl⟩;simp(disch:=omega)only[go_sem];exact RAt.finP (U.set M) ⟨rfl,rfl⟩
   | ok y M=>
    rw[hpc] at L;refine L.mono ?_;rintro e X ⟨rfl,ag⟩;have al:RAt r l M H X:=by rw[ag];exact U.set M
    have g4:X D=some (.cells [.int .u8 0, .int .u8 0, .int .i64 0, .str [], .nilSlice, .nilSlice, .int .i64 0, .int .i64 0, .int .i64 0] 27):=by rw[ag];exact An g5 q2
    have am:=Ad y;have ao:=Bo y;simp(disch:=omega)only[go_sem,dE,g4,am,ao];exact RAt.fin (al.own ac q2 _) ⟨rfl,rfl⟩
end
section
variable {G:Nat->DVal} {H0 H:Ac} {r k:Nat} {l:List Tok}
def Df9 (P:Program) (G:Nat->DVal) (l:List Tok) (f:FuncId) (r:Nat) (a:DVal) (res:Nat->Res DVal):Prop:=
 ∀H k,H r=some (rdO l k)->k<=l.length->res k≠ .bot->Af P G f [.optr r 0,a] H (RdR r l H (res k))
theorem Jf.set {H B H':Ac} {e:TypeId} {size n:Nat} {cs:List DVal} {v:DVal} {x:Nat} {o:DObj} (h:Jf B e size n cs v H') (s:Sub H B) (hx:H x=none) (C:B x=some o) (y:Option DObj):Jf H e size n cs v (upd H' x y):=by
 rcases h with⟨a,b,c,d⟩ | ⟨q,h1,h2,h3,h4,h5⟩
 ·exact .inl ⟨a,b,c,Sub.up (s.trans d) hx _⟩
 ·have hq:q≠x:=fun e=>by rw[e,C] at h1;cases h1
  exact .inr ⟨q,s.lo h1,h2,h3,by rw[Ak _ _ _ _ hq];exact h4,Sub.up (s.trans h5) hx _⟩
theorem Sub.move {H H':Ac} (h:Sub H H') (r:Nat) (x:Option DObj):Sub (upd H r x) (upd H' r x):=h.both r x
set_option maxHeartbeats 4000000 in
theorem Bt7 (hG:GX G) (hl:l.length<=800000) (p:PS) (hA:p.Adv l) (hp:RdC Tryz.prog G l 61 r fun k=>(p.simple k).mp dE) (x:Ex):Df9 Tryz.prog G l 60 r (.agg (dEx x)) fun k=>((Bl l p).relation x k).mp dE:=by
 intro H k hr hk hn;dsimp only[Bl] at hn⊢
 have bd:=Ej (want:=0) (os:=Nv) (k:=k) (l:=l) Gp7.2.1 hk;have ag:=Ad x;have bs:=Bo x;have be:(dEx x)[6]? =some (dI x.line):=by cases x;rfl
 refine Ab Tryz.func60 Tryz.call60 rfl (by kernel_rfl) ?_;simp(disch:=omega)only[go_sem,DVal.cells];intro L a4;dsimp only at a4;obtain⟨Hb,a5⟩: ∃K,K=upd H L (some (.cells (dEx x) 27)):=⟨_,rfl⟩;rw[<-a5];have bf:Hb L=some (.cells (dEx x) 27):=by rw[a5];exact Aa _ _ _
 have n3:r≠L:=Ae a4 hr;have q3:=n3.symm;simp(disch:=omega)only[go_sem,DVal.cells];intro h al;dsimp only at al;obtain⟨Ha,av⟩: ∃K,K=upd Hb h (some (.cells [.int .u8 0, .int .u8 0, .int .i64 0, .str [], .nilSlice, .nilSlice, .int .i64 0, .int .i64 0, .int .i64 0] 27)):=⟨_,rfl⟩;rw[<-av];have bt:Ha h=some (.cells [.int .u8 0, .int .u8 0, .int .i64 0, .str [], .nilSlice, .nilSlice, .int .i64 0, .int .i64 0, .int .i64 0] 27):=by rw[av];exact Aa _ _ _
 have a6:RAt r l k H Hb:=by rw[a5];exact(RAt.refl hr).new a4 _
 have n4:r≠h:=Ae al a6.get;have W:=n4.symm;have m3:L≠h:=Ae al bf;have m4:=m3.symm;have aw:H h=none:=a6.lo al;have ha:RAt r l k H Ha:=by rw[av];exact a6.new al _
 have g3:Ha L=some (.cells (dEx x) 27):=by rw[av];exact An bf m3
 simp(disch:=omega)only[go_sem];refine(Fp9 hG _ ha.get hl hk).mono ?_;rintro _ H2 ⟨rfl,ax⟩;obtain⟨o,ho⟩: ∃o,o=(opF l 0 k Nv).1:=⟨_,rfl⟩;obtain⟨k2,bg⟩: ∃k2,k2=(opF l 0 k Nv).2:=⟨_,rfl⟩;rw[<-ho,<-bg] at bd hn⊢
 rw[<-bg] at ax;have X:RAt r l k2 H H2:=by rw[ax];exact ha.set k2
 have ah:H2 L=some (.cells (dEx x) 27):=by rw[ax];exact An g3 q3
 have ay:H2 h=some (.cells [.int .u8 0, .int .u8 0, .int .i64 0, .str [], .nilSlice, .nilSlice, .int .i64 0, .int .i64 0, .int .i64 0] 27):=by rw[ax];exact An bt W
 by_cases c:o=0
 ·have c':(o:Int)=0:=by omega
  have bu:k2=k:=bd.1 c;rw[if_neg (by omega)] at hn⊢
  rw[bu] at X;refine(fun(tail: ∀(S:DS) (M:Nat) (U:Int),RAt r l M H S.heap->S.heap L=some (.cells (dEx x) 27)->S.heap h=some (.cells [.int .u8 0, .int .u8 0, .int .i64 0, .str [], .nilSlice, .nilSlice, .int .i64 0, .int .i64 0, .int .i64 0] 27)->M<=l.length->S.env 0= .optr r 0->S.env 3= .optr L 0->S.env 4= .optr h 0->S.env 6= .int .u8 U->(inK l x U M p).mp dE≠ .bot->(?T:DS->Nat->Int->Prop) S M U)=> ?A) ?B
  case A=>
   simp(disch:=omega)only[go_sem,c'];intro q1 bh;dsimp only at bh;simp(disch:=omega)only[go_sem];refine(Av3 hG H2 q1 wIn bh X.get (by omega) (by omega)).mono ?_;rintro _ V ⟨rfl,O⟩;by_cases b1:isW l k [wIn]=true
   ·rw[if_pos b1] at hn O⊢
    have aa:RAt r l (k+1) H V:=by rw[O];exact X.set _
    have ac:V L=some (.cells (dEx x) 27):=by rw[O];exact An ah q3
    have ai:V h=some (.cells [.int .u8 0, .int .u8 0, .int .i64 0, .str [], .nilSlice, .nilSlice, .int .i64 0, .int .i64 0, .int .i64 0] 27):=by rw[O];exact An ay W
    have ad:=Bf b1 hk;obtain⟨M,am⟩: ∃M,M=k+1:=⟨_,rfl⟩;rw[<-am] at hn aa⊢
    rw[jQ,<-am] at ad;simp(disch:=omega)only[go_sem,b1];obtain⟨U,a7⟩: ∃U:Int,U=13:=⟨_,rfl⟩;rw[<-a7] at hn⊢
    generalize hS:(DS.mk _ V:DS)=S;have hH:S.heap=V:=by rw[<-hS]
    exact tail S M U (by rw[hH];exact aa) (by rw[hH];exact ac) (by rw[hH];exact ai) ad (by rw[<-hS];first | rfl | simp(disch:=omega)only[go_sem]) (by rw[<-hS];first | rfl | simp(disch:=omega)only[go_sem]) (by rw[<-hS];first | rfl | simp(disch:=omega)only[go_sem]) (by rw[<-hS];first | rfl | simp(disch:=omega)only[go_sem]) hn
   ·have bv:isW l k [wIn]=false:=by simpa using b1
    rw[if_neg b1] at hn O⊢
    rw[Dv X.get] at O;subst O;simp(disch:=omega)only[go_sem,bv];intro q2 bi;dsimp only at bi;simp(disch:=omega)only[go_sem];refine(Gm6 hG _ q2 Ve wIn bi X.get (by omega) (by omega)).mono ?_;rintro _ V ⟨rfl,O⟩;by_cases b2:isW l k [Ve,wIn]=true
    ·rw[if_pos b2] at hn O⊢
     have aa:RAt r l (k+2) H V:=by rw[O];exact X.set _
     have ac:V L=some (.cells (dEx x) 27):=by rw[O];exact An ah q3
     have ai:V h=some (.cells [.int .u8 0, .int .u8 0, .int .i64 0, .str [], .nilSlice, .nilSlice, .int .i64 0, .int .i64 0, .int .i64 0] 27):=by rw[O];exact An ay W
     have ad:=Bf b2 hk;obtain⟨M,am⟩: ∃M,M=k+2:=⟨_,rfl⟩;rw[<-am] at hn aa⊢
     rw[show [Ve,wIn].length=2 from rfl,<-am] at ad;simp(disch:=omega)only[go_sem,b2];obtain⟨U,a7⟩: ∃U:Int,U=14:=⟨_,rfl⟩;rw[<-a7] at hn⊢
     generalize hS:(DS.mk _ V:DS)=S;have hH:S.heap=V:=by rw[<-hS]
     exact tail S M U (by rw[hH];exact aa) (by rw[hH];exact ac) (by rw[hH];exact ai) ad (by rw[<-hS];first | rfl | simp(disch:=omega)only[go_sem]) (by rw[<-hS];first | rfl | simp(disch:=omega)only[go_sem]) (by rw[<-hS];first | rfl | simp(disch:=omega)only[go_sem]) (by rw[<-hS];first | rfl | simp(disch:=omega)only[go_sem]) hn
    ·have bw:isW l k [Ve,wIn]=false:=by simpa using b2
     rw[if_neg b2] at hn O⊢
     rw[Dv X.get] at O;subst O;simp(disch:=omega)only[go_sem,bw,ah,ay,ag,bs];exact RAt.fin (X.own aw W _) ⟨rfl,rfl⟩
  case B=>
   rintro⟨E,V⟩ M U aa ac ai ad C D I J hn;dsimp only at aa ac ai C D I J;refine Aj (by kernel_rfl) (.take 0 (.take 1 (.go 2 [0] (.go 3 [] (.take 4 .done))))) (by kernel_rfl) ?_;simp(disch:=omega)only[go_sem,ac,C,D,I,J];unfold inK at hn⊢
   have Y:=hp _ M aa.get ad;dsimp only at Y;have bj:=hA.simple M ad;cases hpr:p.simple M with
   | bot=>rw[hpr] at hn;exact absurd rfl hn
   | fail k5=>
    rw[hpr] at Y;refine(Y (Cf (by simp))).mono ?_;rintro e H5 ⟨rfl,rfl⟩;simp(disch:=omega)only[go_sem,C,D,I,J];exact RAt.finP (aa.set k5) ⟨rfl,rfl⟩
   | ok y k5=>
    rw[hpr] at Y hn bj;refine(Y (Cf (by simp))).mono ?_;rintro e H5 ⟨rfl,a8⟩;have a0:RAt r l k5 H H5:=by rw[a8];exact aa.set k5
    have a1:H5 L=some (.cells (dEx x) 27):=by rw[a8];exact An ac q3
    have a2:H5 h=some (.cells [.int .u8 0, .int .u8 0, .int .i64 0, .str [], .nilSlice, .nilSlice, .int .i64 0, .int .i64 0, .int .i64 0] 27):=by rw[a8];exact An ai W
    dsimp only[Res.then,Adv] at hn bj⊢
    have aj:=Ad y;simp(disch:=omega)only[go_sem,C,D,I,J,dE,ac,a1];rw[Ap ag aj];simp(disch:=omega)only[go_sem,C,D,I,J];intro Z ae;dsimp only at ae;have ao: [x,y].flatMap dEx=dEx x++dEx y:=by simp
    obtain⟨H7,ak⟩: ∃K,K=upd H5 Z (some (.cells (dEx x++dEx y) 27)):=⟨_,rfl⟩;rw[<-ak];have a3:H7 Z=some (.cells (dEx x++dEx y) 27):=by rw[ak];exact Aa _ _ _
    have bx:L≠Z:=Ae ae a1;have bz:h≠Z:=Ae ae a2;have a9:r≠Z:=Ae ae a0.get;have ap:RAt r l k5 H H7:=by rw[ak];exact a0.new ae _
    have bk:H7 L=some (.cells (dEx x) 27):=by rw[ak];exact An a1 bx
    have bl:H7 h=some (.cells [.int .u8 0, .int .u8 0, .int .i64 0, .str [], .nilSlice, .nilSlice, .int .i64 0, .int .i64 0, .int .i64 0] 27):=by rw[ak];exact An a2 bz
    have bm:Sub H5 H7:=by rw[ak];exact(Sub.refl _).new ae _
    simp(disch:=omega)only[go_sem,C,D,I,J];intro q7 bn;dsimp only at bn;simp(disch:=omega)only[go_sem,C,D,I,J];refine(Av3 hG H7 q7 Ev bn ap.get (by omega) (by omega)).mono ?_;rintro _ H8 ⟨rfl,af⟩;by_cases b3:isW l k5 [Ev]=true
    ·rw[if_pos b3] at hn af⊢
     simp(disch:=omega)only[go_sem,C,D,I,J,b3];have bo:RAt r l (k5+1) H H8:=by rw[af];exact ap.set _
     have cl:H8 L=some (.cells (dEx x) 27):=by rw[af];exact An bk q3
     have cm:H8 h=some (.cells [.int .u8 0, .int .u8 0, .int .i64 0, .str [], .nilSlice, .nilSlice, .int .i64 0, .int .i64 0, .int .i64 0] 27):=by rw[af];exact An bl W
     have bp:=Bf b3 (by omega);rw[jQ] at bp;have aq:=hp _ (k5+1) bo.get bp;dsimp only at aq;cases hpz2:p.simple (k5+1) with
     | bot=>rw[hpz2] at hn;exact absurd rfl hn
     | fail k6=>
      rw[hpz2] at aq;refine(aq (Cf (by simp))).mono ?_;rintro e H9 ⟨rfl,rfl⟩;simp(disch:=omega)only[go_sem,C,D,I,J];exact RAt.finP (bo.set k6) ⟨rfl,rfl⟩
     | ok z k6=>
      rw[hpz2] at aq hn;refine(aq (Cf (by simp))).mono ?_;rintro e H9 ⟨rfl,b0⟩;have bq:=Ad z;dsimp only[Res.then];simp(disch:=omega)only[go_sem,C,D,I,J,dE];rw[Ai bq];simp(disch:=omega)only[go_sem,C,D,I,J];intro b5 ba;dsimp only at ba;obtain⟨Bk,ar⟩: ∃K,K=upd H5 r (some (rdO l k6)):=⟨_,rfl⟩;have bb:H9=upd H7 r (some (rdO l k6)):=by
       rw[b0,af];funext b;simp only[upd];split<;>rfl
      have b6:Sub Bk H9:=by rw[ar,bb];exact bm.move r _
      have hv:Jf Bk 27 9 2 ([x,y].flatMap dEx) (.oslice 9 Z 0 2 2) H9:= .inr ⟨Z,by rw[ar,Ak _ _ _ _ a9.symm];exact ae,by rw[ao,jC,ag,aj],rfl,by rw[ao,bb];exact An a3 a9.symm,b6⟩;rw[ao] at hv;have br:H9 Z=some (.cells (dEx x++dEx y) 27):=by rw[bb];exact An a3 a9.symm
      have b7:Z≠b5:=Ae ba br;simp(disch:=omega)only[go_sem,C,D,I,J];rw[if_neg b7,br];refine Jf.appendO (m:=1) (hv.new ba _) bq (by omega) fun v2 b8 au=> ?_;have e3:dEx x++dEx y++dEx z= [x,y,z].flatMap dEx:=by simp
      rw[e3] at au;have h9:RAt r l k6 H Bk:=by rw[ar];exact a0.set k6
      have b3:Bk L=some (.cells (dEx x) 27):=by rw[ar];exact An a1 q3
      have b4:Bk h=some (.cells [.int .u8 0, .int .u8 0, .int .i64 0, .str [], .nilSlice, .nilSlice, .int .i64 0, .int .i64 0, .int .i64 0] 27):=by rw[ar];exact An a2 W
      have b9:=au.keep b3;have ca:=au.keep b4;obtain⟨cb,hc2⟩:=au.cell1;have ab:=fun yy=>au.set h9 (x:=h) (by rw[Ak _ _ _ _ W];exact aw) b4 yy;simp(disch:=omega)only[go_sem,C,D,I,J,b9,ca,cb,hc2,be];exact Lt.fin (ab _).sub (Lt.agg (Lt.ex (l:= [x,y,z]) (ab _).sub (Lt.own (ab _)) (.as0 (ab _).sub))) ⟨rfl,rfl⟩
    ·have cc:isW l k5 [Ev]=false:=by simpa using b3
     rw[if_neg b3] at hn af⊢
     rw[Dv ap.get] at af;subst af;have cd:List.take 9 (List.drop 9 (dEx x++dEx y))=dEx y:=by rw[List.drop_left' ag];exact List.take_of_length_le (by omega)
     have ce:18<=(dEx x++dEx y).length:=by rw[jC];omega
     simp(disch:=omega)only[go_sem,C,D,I,J,cc,a3,cd,ag,aj,ce];refine(Us G _ y).mono ?_;rintro _ H9 ⟨rfl,rfl⟩;by_cases b4:Cd y=true
     ·rw[if_pos b4] at hn⊢
      have hv:Jf H5 27 9 2 ([x,y].flatMap dEx) (.oslice 9 Z 0 2 2) H9:= .inr ⟨Z,ae,by rw[ao,jC,ag,aj],rfl,by rw[ao];exact a3,bm⟩;have ab:=fun yy=>hv.set a0 (x:=h) (by rw[Ak _ _ _ _ W];exact aw) a2 yy;simp(disch:=omega)only[go_sem,C,D,I,J,b4,bk,bl,be];exact Lt.fin (ab _).sub (Lt.agg (Lt.ex (l:= [x,y]) (ab _).sub (Lt.own (ab _)) (.as0 (ab _).sub))) ⟨rfl,rfl⟩
     ·have cf:Cd y=false:=by simpa using b4
      rw[if_neg b4] at hn⊢
      simp(disch:=omega)only[go_sem,C,D,I,J,cf];refine(Av2 G _ ap.get).mono ?_;rintro _ b8 ⟨rfl,rfl⟩;simp(disch:=omega)only[go_sem,C,D,I,J];exact RAt.finP ap ⟨rfl,rfl⟩
 ·have c': ¬(o:Int)=0:=by omega
  rw[if_pos c] at hn⊢
  simp(disch:=omega)only[go_sem,c'];refine Aj (by kernel_rfl) pL19 (by kernel_rfl) ?_;simp(disch:=omega)only[go_sem,ah];have Y:=hp _ k2 X.get (by omega);dsimp only at Y;cases hpr:p.simple k2 with
  | bot=>rw[hpr] at hn;exact absurd rfl hn
  | fail k3=>
   rw[hpr] at Y;refine(Y (Cf (by simp))).mono ?_;rintro e H3 ⟨rfl,rfl⟩;simp(disch:=omega)only[go_sem];exact RAt.finP (X.set k3) ⟨rfl,rfl⟩
  | ok y k3=>
   rw[hpr] at Y;refine(Y (Cf (by simp))).mono ?_;rintro e H3 ⟨rfl,bc⟩;have cg:RAt r l k3 H H3:=by rw[bc];exact X.set k3
   have ci:H3 L=some (.cells (dEx x) 27):=by rw[bc];exact An ah q3
   have cj:H3 h=some (.cells [.int .u8 0, .int .u8 0, .int .i64 0, .str [], .nilSlice, .nilSlice, .int .i64 0, .int .i64 0, .int .i64 0] 27):=by rw[bc];exact An ay W
   dsimp only[Res.then];simp(disch:=omega)only[go_sem,dE,ah,ci];refine(Av5 G _ o x y).mono ?_;rintro _ H5 ⟨rfl,rfl⟩;have aj:=Ad (both o x y);have ck:=Bo (both o x y);simp(disch:=omega)only[go_sem,cj,aj,ck];exact RAt.fin (cg.own aw W _) ⟨rfl,rfl⟩
end
end Go.Dl
