/- The data level and the contracts of the functions that are reached (part 13). -/
import Derived.ChangeSame
import Derived.Deep.Slices
import Derived.RowKit3
import Derived.Test.YtddbdpcgikmiaaaGreatDoorRows
import Derived.DeepKeys4
import Derived.LaidLaws
import Derived.Stop.LaidErr
import Derived.Shelf.Vars
import Derived.Test.YtddbdpcgikmiaaaGreatDoorPgl
set_option linter.unusedSimpArgs false
set_option linter.unusedVariables false
set_option linter.unusedSectionVars false
-- C5
namespace Go.Dl
open Go Go.Proofs
set_option maxRecDepth 100000
theorem Ah2 {α:Type} (f:α->α->Bool): ∀l m:List α,Ru f l m=eqF f l m
 | [],[]=>rfl
 | [],_::_=>rfl
 | _::_,[]=>rfl
 | x::l,y::m=>by rw[Ru,eqF,Ah2 f l m]
theorem Fj3 (G:Nat->DVal) (H:Ac) (p:Par->Par->Bool) (l m:List Par) (g:FuncId) (hl:l.length<=1099511627776)
  (hp: ∀x∈l,∀y∈m,∀H,Ag Tryz.prog G g ([]++ [.agg (Gt x), .agg (Gt y)]++ []) H (Ax (.bool (p x y)) H)):
  Ag Tryz.prog G 127 [.vslice (l.flatMap Gt) l.length, .vslice (m.flatMap Gt) m.length, .func (.func g) [] []] H (Ax (.bool (eqF p l m)) H):=by
 refine Ab Tryz.func127 Tryz.call127 rfl (by kernel_rfl) ?_;by_cases ab:l.length=m.length
 ·have S:(l.length:Int)=(m.length:Int):=by omega
  simp(disch:=omega)only[go_sem,S];obtain⟨I,U⟩: ∃I:Nat->(Nat->DVal)->Ac->Prop,∀k env heap,I k env heap↔(env 0= .vslice (l.flatMap Gt) l.length/\env 1= .vslice (m.flatMap Gt) m.length/\env 2= .func (.func g) [] []/\env 15= .vslice (l.flatMap Gt) l.length/\env 16=dI m.length/\env 17=dI k/\k<=l.length/\eqF p l m=eqF p (l.drop k) (m.drop k)/\Sub H heap):=⟨_,fun _ _ _=>Iff.rfl⟩;refine Dr7.run I (fun k=>l.length-k) 0 ((U _ _ _).2 ?_) ?_
  ·simp(disch:=omega)only[go_sem];(repeat' apply And.intro)<;>(try first | rfl | assumption | omega);exact Sub.refl _
  ·intro k env heap hi;obtain⟨C,e1,D,E,J,L,hk,M,ac⟩:=(U _ _ _).1 hi;have hfl:=Aw Bx l;have V:=Aw Bx m;by_cases W:k<l.length
   ·have O:(k:Int)<(m.length:Int):=by omega
    have ad:(k:Int)<(l.length:Int):=by omega
    have X:k<m.length:=by omega
    have Y:=Co Bx l k W;have Z:=Co Bx m k X;have af:IntKind.i64.wrap ((k:Int)+1)=((k+1:Nat):Int):=by rw[IntKind.wrap_i64];omega
    simp(disch:=omega)only[go_sem,C,e1,D,E,J,L,O,ad,Y,Z,hfl,V,jD];intro r8 ae;dsimp only at ae;simp(disch:=omega)only[go_sem,C,e1,D,E,J,L,O,ad,Y,Z,hfl,V,jD];intro r9 aa;dsimp only at aa;obtain⟨m2,m1,ah⟩:=Ba.1 aa;simp(disch:=omega)only[go_sem,C,e1,D,E,J,L,m1,m2,Y,Z,hfl,V,jD];refine(hp l[k] (List.getElem_mem W) m[k] (List.getElem_mem X) _).mono ?_;rintro _ H1 ⟨rfl,rfl⟩;rw[Wv W X] at M;have ag:=(ac.new ae (some (DObj.cells (Gt l[k]) 136))).new aa (some (DObj.cells (Gt m[k]) 136));cases hb:p l[k] m[k] with
    | true=>
     rw[hb,jS] at M;simp(disch:=omega)only[go_sem,C,e1,D,E,J,L];refine⟨k+1,_,Rz.refl _,(U _ _ _).2 ?_,by omega⟩;simp(disch:=omega)only[go_sem,C,e1,D,E,J,L,af];(repeat' apply And.intro)<;>(try first | rfl | assumption | omega)
    | false=>
     rw[hb,jT] at M;simp(disch:=omega)only[go_sem,C,e1,D,E,J,L];exact Fa.sub ag (Fa.refl ⟨by rw[M],rfl⟩)
   ·have:k=l.length:=by omega
    subst this;have O: ¬(l.length:Int)<(m.length:Int):=by omega
    simp(disch:=omega)only[go_sem,C,e1,D,E,J,L,O];refine Fa.sub ac (Fa.refl ⟨?_,rfl⟩);rw[M,List.drop_length,ab,List.drop_length];rfl
 ·have S: ¬(l.length:Int)=(m.length:Int):=by omega
  simp(disch:=omega)only[go_sem,S];exact Fa.refl ⟨by rw[Ay4 ab],rfl⟩
theorem Fj4 (G:Nat->DVal) (H:Ac) (p:Cmp->Cmp->Bool) (l m:List Cmp) (g:FuncId) (hl:l.length<=1099511627776)
  (hp: ∀x∈l,∀y∈m,∀H,Ag Tryz.prog G g ([]++ [.agg (Hu x), .agg (Hu y)]++ []) H (Ax (.bool (p x y)) H)):
  Ag Tryz.prog G 152 [.vslice (l.flatMap Hu) l.length, .vslice (m.flatMap Hu) m.length, .func (.func g) [] []] H (Ax (.bool (eqF p l m)) H):=by
 refine Ab Tryz.func152 Tryz.call152 rfl (by kernel_rfl) ?_;by_cases ab:l.length=m.length
 ·have S:(l.length:Int)=(m.length:Int):=by omega
  simp(disch:=omega)only[go_sem,S];obtain⟨I,U⟩: ∃I:Nat->(Nat->DVal)->Ac->Prop,∀k env heap,I k env heap↔(env 0= .vslice (l.flatMap Hu) l.length/\env 1= .vslice (m.flatMap Hu) m.length/\env 2= .func (.func g) [] []/\env 15= .vslice (l.flatMap Hu) l.length/\env 16=dI m.length/\env 17=dI k/\k<=l.length/\eqF p l m=eqF p (l.drop k) (m.drop k)/\Sub H heap):=⟨_,fun _ _ _=>Iff.rfl⟩;refine Dr7.run I (fun k=>l.length-k) 0 ((U _ _ _).2 ?_) ?_
  ·simp(disch:=omega)only[go_sem];(repeat' apply And.intro)<;>(try first | rfl | assumption | omega);exact Sub.refl _
  ·intro k env heap hi;obtain⟨C,e1,D,E,J,L,hk,M,ac⟩:=(U _ _ _).1 hi;have hfl:=Aw Ca l;have V:=Aw Ca m;by_cases W:k<l.length
   ·have O:(k:Int)<(m.length:Int):=by omega
    have ad:(k:Int)<(l.length:Int):=by omega
    have X:k<m.length:=by omega
    have Y:=Co Ca l k W;have Z:=Co Ca m k X;have af:IntKind.i64.wrap ((k:Int)+1)=((k+1:Nat):Int):=by rw[IntKind.wrap_i64];omega
    simp(disch:=omega)only[go_sem,C,e1,D,E,J,L,O,ad,Y,Z,hfl,V,jD];intro r8 ae;dsimp only at ae;simp(disch:=omega)only[go_sem,C,e1,D,E,J,L,O,ad,Y,Z,hfl,V,jD];intro r9 aa;dsimp only at aa;obtain⟨m2,m1,ah⟩:=Ba.1 aa;simp(disch:=omega)only[go_sem,C,e1,D,E,J,L,m1,m2,Y,Z,hfl,V,jD];refine(hp l[k] (List.getElem_mem W) m[k] (List.getElem_mem X) _).mono ?_;rintro _ H1 ⟨rfl,rfl⟩;rw[Wv W X] at M;have ag:=(ac.new ae (some (DObj.cells (Hu l[k]) 202))).new aa (some (DObj.cells (Hu m[k]) 202));cases hb:p l[k] m[k] with
    | true=>
     rw[hb,jS] at M;simp(disch:=omega)only[go_sem,C,e1,D,E,J,L];refine⟨k+1,_,Rz.refl _,(U _ _ _).2 ?_,by omega⟩;simp(disch:=omega)only[go_sem,C,e1,D,E,J,L,af];(repeat' apply And.intro)<;>(try first | rfl | assumption | omega)
    | false=>
     rw[hb,jT] at M;simp(disch:=omega)only[go_sem,C,e1,D,E,J,L];exact Fa.sub ag (Fa.refl ⟨by rw[M],rfl⟩)
   ·have:k=l.length:=by omega
    subst this;have O: ¬(l.length:Int)<(m.length:Int):=by omega
    simp(disch:=omega)only[go_sem,C,e1,D,E,J,L,O];refine Fa.sub ac (Fa.refl ⟨?_,rfl⟩);rw[M,List.drop_length,ab,List.drop_length];rfl
 ·have S: ¬(l.length:Int)=(m.length:Int):=by omega
  simp(disch:=omega)only[go_sem,S];exact Fa.refl ⟨by rw[Ay4 ab],rfl⟩
theorem Fj5 (G:Nat->DVal) (H:Ac) (p:Arm->Arm->Bool) (l m:List Arm) (g:FuncId) (hl:l.length<=1099511627776)
  (hp: ∀x∈l,∀y∈m,∀H,Ag Tryz.prog G g ([]++ [.agg (La x), .agg (La y)]++ []) H (Ax (.bool (p x y)) H)):
  Ag Tryz.prog G 114 [.vslice (l.flatMap La) l.length, .vslice (m.flatMap La) m.length, .func (.func g) [] []] H (Ax (.bool (eqF p l m)) H):=by
 refine Ab Tryz.func114 Tryz.call114 rfl (by kernel_rfl) ?_;by_cases ab:l.length=m.length
 ·have S:(l.length:Int)=(m.length:Int):=by omega
  simp(disch:=omega)only[go_sem,S];obtain⟨I,U⟩: ∃I:Nat->(Nat->DVal)->Ac->Prop,∀k env heap,I k env heap↔(env 0= .vslice (l.flatMap La) l.length/\env 1= .vslice (m.flatMap La) m.length/\env 2= .func (.func g) [] []/\env 15= .vslice (l.flatMap La) l.length/\env 16=dI m.length/\env 17=dI k/\k<=l.length/\eqF p l m=eqF p (l.drop k) (m.drop k)/\Sub H heap):=⟨_,fun _ _ _=>Iff.rfl⟩;refine Dr7.run I (fun k=>l.length-k) 0 ((U _ _ _).2 ?_) ?_
  ·simp(disch:=omega)only[go_sem];(repeat' apply And.intro)<;>(try first | rfl | assumption | omega);exact Sub.refl _
  ·intro k env heap hi;obtain⟨C,e1,D,E,J,L,hk,M,ac⟩:=(U _ _ _).1 hi;have hfl:=Aw Ct l;have V:=Aw Ct m;by_cases W:k<l.length
   ·have O:(k:Int)<(m.length:Int):=by omega
    have ad:(k:Int)<(l.length:Int):=by omega
    have X:k<m.length:=by omega
    have Y:=Co Ct l k W;have Z:=Co Ct m k X;have af:IntKind.i64.wrap ((k:Int)+1)=((k+1:Nat):Int):=by rw[IntKind.wrap_i64];omega
    simp(disch:=omega)only[go_sem,C,e1,D,E,J,L,O,ad,Y,Z,hfl,V,jD];intro r8 ae;dsimp only at ae;simp(disch:=omega)only[go_sem,C,e1,D,E,J,L,O,ad,Y,Z,hfl,V,jD];intro r9 aa;dsimp only at aa;obtain⟨m2,m1,ah⟩:=Ba.1 aa;simp(disch:=omega)only[go_sem,C,e1,D,E,J,L,m1,m2,Y,Z,hfl,V,jD];refine(hp l[k] (List.getElem_mem W) m[k] (List.getElem_mem X) _).mono ?_;rintro _ H1 ⟨rfl,rfl⟩;rw[Wv W X] at M;have ag:=(ac.new ae (some (DObj.cells (La l[k]) 164))).new aa (some (DObj.cells (La m[k]) 164));cases hb:p l[k] m[k] with
    | true=>
     rw[hb,jS] at M;simp(disch:=omega)only[go_sem,C,e1,D,E,J,L];refine⟨k+1,_,Rz.refl _,(U _ _ _).2 ?_,by omega⟩;simp(disch:=omega)only[go_sem,C,e1,D,E,J,L,af];(repeat' apply And.intro)<;>(try first | rfl | assumption | omega)
    | false=>
     rw[hb,jT] at M;simp(disch:=omega)only[go_sem,C,e1,D,E,J,L];exact Fa.sub ag (Fa.refl ⟨by rw[M],rfl⟩)
   ·have:k=l.length:=by omega
    subst this;have O: ¬(l.length:Int)<(m.length:Int):=by omega
    simp(disch:=omega)only[go_sem,C,e1,D,E,J,L,O];refine Fa.sub ac (Fa.refl ⟨?_,rfl⟩);rw[M,List.drop_length,ab,List.drop_length];rfl
 ·have S: ¬(l.length:Int)=(m.length:Int):=by omega
  simp(disch:=omega)only[go_sem,S];exact Fa.refl ⟨by rw[Ay4 ab],rfl⟩
section
variable (G:Nat->DVal) (H:Ac)
theorem n40 {l:List (List UInt8)} {n:Nat} (h:Be0 n l) (C:n<=1048576):l.length<=1099511627776:=by have:=h.1;omega
theorem l40 {α:Type} {f:Nat->α->Prop} {l:List α} {n:Nat} (h:Ks f n l) (C:n<=1048576):l.length<=1099511627776:=by have:=h.1;omega
theorem bft:(false==true)=false:=rfl
theorem btf:(true==false)=false:=rfl
theorem bff:(false==false)=true:=rfl
theorem btt:(true==true)=true:=rfl
theorem Gw6 {l:List Ch} (h:Ck5 1048576 l):Jk l<=1099511627776:=by have:=h.1;omega
theorem Fj6 (a b:Par) (ha:Si 1048576 a) (hb:Si 1048576 b):Ag Tryz.prog G 128 ([]++ [.agg (Gt a), .agg (Gt b)]++ []) H (Ax (.bool (Lv a b)) H):=by
 obtain⟨Y,Z,f2⟩:=ha;refine Ab Tryz.func128 Tryz.call128 rfl (by kernel_rfl) ?_;simp(disch:=omega)only[go_sem,DVal.cells,jG,jH];intro L O;dsimp only at O;obtain⟨E,I⟩: ∃K',K'=upd H L (some (.cells (Gt a) 136)):=⟨_,rfl⟩;rw[<-I];have S:E L=some (.cells (Gt a) 136):=by rw[I];exact Aa _ _ _
 have U:Sub H E:=by rw[I];exact(Sub.refl _).new O _
 simp(disch:=omega)only[go_sem,DVal.cells,jG,jH];intro V W;dsimp only at W;obtain⟨K,J⟩: ∃K',K'=upd E V (some (.cells (Gt b) 136)):=⟨_,rfl⟩;rw[<-J];have X:K V=some (.cells (Gt b) 136):=by rw[J];exact Aa _ _ _
 have M:Sub E K:=by rw[J];exact(Sub.refl _).new W _
 have C:K L=some (.cells (Gt a) 136):=M _ _ S;have D:=X;have t:Sub H K:=U.trans M;clear M U X S J I;simp(disch:=omega)only[go_sem,C,D,Bx,Ih,Ii,Ij,Fi];refine Ag.monoR (Ad0 G K a.names b.names (n40 Y (by omega)) (n40 hb.1 (by omega))) ?_;cases h1:decide (a.names=b.names)
 ·simp(disch:=omega)only[go_sem,C,D,Bx,Ih,Ii,Ij,Fi];exact Fa.sub t (.refl ⟨by simp [Lv, *],rfl⟩)
 simp(disch:=omega)only[go_sem,C,D,Bx,Ih,Ii,Ij,Fi];by_cases h2:a.mode=b.mode
 ·simp(disch:=omega)only[go_sem,C,D,h2,Bx,Ih,Ii,Ij,Fi];refine Ag.monoR (Hv G K a.type b.type (Zf Z (by omega))) ?_;cases h3:Fw a.type b.type
  ·simp(disch:=omega)only[go_sem,C,D,Bx,Ih,Ii,Ij,Fi];exact Fa.sub t (.refl ⟨by simp [Lv, *],rfl⟩)
  simp(disch:=omega)only[go_sem,C,D,Bx,Ih,Ii,Ij,Fi];refine Ag.monoR (Hv G K a.e b.e (Zf f2 (by omega))) ?_;cases h4:Fw a.e b.e
  ·simp(disch:=omega)only[go_sem,C,D,Bx,Ih,Ii,Ij,Fi];exact Fa.sub t (.refl ⟨by simp [Lv, *],rfl⟩)
  simp(disch:=omega)only[go_sem,C,D,Bx,Ih,Ii,Ij,Fi];exact Fa.sub t (.refl ⟨by simp [Lv, *],rfl⟩)
 ·simp(disch:=omega)only[go_sem,C,D,h2,Bx,Ih,Ii,Ij,Fi];exact Fa.sub t (.refl ⟨by simp [Lv,h2],rfl⟩)
theorem Fj7 (a b:Cmp) (ha:Sj 1048576 a) (hb:Sj 1048576 b):Ag Tryz.prog G 153 ([]++ [.agg (Hu a), .agg (Hu b)]++ []) H (Ax (.bool (Na a b)) H):=by
 obtain⟨Y,Z,f2⟩:=ha;refine Ab Tryz.func153 Tryz.call153 rfl (by kernel_rfl) ?_;simp(disch:=omega)only[go_sem,DVal.cells,jG,jH];intro L O;dsimp only at O;obtain⟨E,I⟩: ∃K',K'=upd H L (some (.cells (Hu a) 202)):=⟨_,rfl⟩;rw[<-I];have S:E L=some (.cells (Hu a) 202):=by rw[I];exact Aa _ _ _
 have U:Sub H E:=by rw[I];exact(Sub.refl _).new O _
 simp(disch:=omega)only[go_sem,DVal.cells,jG,jH];intro V W;dsimp only at W;obtain⟨K,J⟩: ∃K',K'=upd E V (some (.cells (Hu b) 202)):=⟨_,rfl⟩;rw[<-J];have X:K V=some (.cells (Hu b) 202):=by rw[J];exact Aa _ _ _
 have M:Sub E K:=by rw[J];exact(Sub.refl _).new W _
 have C:K L=some (.cells (Hu a) 202):=M _ _ S;have D:=X;have t:Sub H K:=U.trans M;clear M U X S J I;simp(disch:=omega)only[go_sem,C,D,Ca,Iq,Ir,Fv];refine Ag.monoR (Ad0 G K a.names b.names (n40 Y (by omega)) (n40 hb.1 (by omega))) ?_;cases h1:decide (a.names=b.names)
 ·simp(disch:=omega)only[go_sem,C,D,Ca,Iq,Ir,Fv];exact Fa.sub t (.refl ⟨by simp [Na, *],rfl⟩)
 simp(disch:=omega)only[go_sem,C,D,Ca,Iq,Ir,Fv];refine Ag.monoR (Ym G K a.sub b.sub Z) ?_;cases h2:My a.sub b.sub
 ·simp(disch:=omega)only[go_sem,C,D,Ca,Iq,Ir,Fv];exact Fa.sub t (.refl ⟨by simp [Na, *],rfl⟩)
 simp(disch:=omega)only[go_sem,C,D,Ca,Iq,Ir,Fv];refine Ag.monoR (Hv G K a.e b.e (Zf f2 (by omega))) ?_;cases h4:Fw a.e b.e
 ·simp(disch:=omega)only[go_sem,C,D,Ca,Iq,Ir,Fv];exact Fa.sub t (.refl ⟨by simp [Na, *],rfl⟩)
 simp(disch:=omega)only[go_sem,C,D,Ca,Iq,Ir,Fv];exact Fa.sub t (.refl ⟨by simp [Na, *],rfl⟩)
theorem Zh (a b:List Par) (ha:Ks Si 1048576 a) (hb:Ks Si 1048576 b):Ag Tryz.prog G 29 [Gm a,Gm b] H (Ax (.bool (Ru Lv a b)) H):=by
 refine Ab Tryz.func29 Tryz.call29 rfl (by kernel_rfl) ?_;simp(disch:=omega)only[go_sem,Gm];refine Ag.monoR (Fj3 G H Lv a b 128 (l40 ha (by omega)) fun x hx y C K=>Fj6 G K x y (ha.2 x hx) (hb.2 y C)) ?_;simp(disch:=omega)only[go_sem];exact Fa.refl ⟨by rw[Ah2],rfl⟩
theorem Ae2 (a b:List Cmp) (ha:Ks Sj 1048576 a) (hb:Ks Sj 1048576 b):Ag Tryz.prog G 47 [Cv a,Cv b] H (Ax (.bool (Ru Na a b)) H):=by
 refine Ab Tryz.func47 Tryz.call47 rfl (by kernel_rfl) ?_;simp(disch:=omega)only[go_sem,Cv];refine Ag.monoR (Fj4 G H Na a b 153 (l40 ha (by omega)) fun x hx y C K=>Fj7 G K x y (ha.2 x hx) (hb.2 y C)) ?_;simp(disch:=omega)only[go_sem];exact Fa.refl ⟨by rw[Ah2],rfl⟩
theorem Fj8 (a b:Arm) (ha:Be2 1048576 a) (hb:Be2 1048576 b):Ag Tryz.prog G 115 ([]++ [.agg (La a), .agg (La b)]++ []) H (Ax (.bool (Rk a b)) H):=by
 obtain⟨Y,Z⟩:=ha;refine Ab Tryz.func115 Tryz.call115 rfl (by kernel_rfl) ?_;simp(disch:=omega)only[go_sem,DVal.cells,jG,jH];intro L O;dsimp only at O;obtain⟨E,I⟩: ∃K',K'=upd H L (some (.cells (La a) 164)):=⟨_,rfl⟩;rw[<-I];have S:E L=some (.cells (La a) 164):=by rw[I];exact Aa _ _ _
 have U:Sub H E:=by rw[I];exact(Sub.refl _).new O _
 simp(disch:=omega)only[go_sem,DVal.cells,jG,jH];intro V W;dsimp only at W;obtain⟨K,J⟩: ∃K',K'=upd E V (some (.cells (La b) 164)):=⟨_,rfl⟩;rw[<-J];have X:K V=some (.cells (La b) 164):=by rw[J];exact Aa _ _ _
 have M:Sub E K:=by rw[J];exact(Sub.refl _).new W _
 have C:K L=some (.cells (La a) 164):=M _ _ S;have D:=X;have t:Sub H K:=U.trans M;clear M U X S J I;simp(disch:=omega)only[go_sem,C,D,Ct,Qh,Qi];refine Ag.monoR (Ay6 G K a.c b.c (Gw6 Y)) ?_;cases h1:Kx a.c b.c
 ·simp(disch:=omega)only[go_sem,C,D,Ct,Qh,Qi];exact Fa.sub t (.refl ⟨by simp [Rk, *],rfl⟩)
 simp(disch:=omega)only[go_sem,C,D,Ct,Qh,Qi];refine Ag.monoR (Ae2 G K a.comps b.comps Z hb.2) ?_;cases h4:Ru Na a.comps b.comps
 ·simp(disch:=omega)only[go_sem,C,D,Ct,Qh,Qi];exact Fa.sub t (.refl ⟨by simp [Rk, *],rfl⟩)
 simp(disch:=omega)only[go_sem,C,D,Ct,Qh,Qi];exact Fa.sub t (.refl ⟨by simp [Rk, *],rfl⟩)
set_option maxHeartbeats 40000000 in
theorem Cm8 (a b:Typ) (ha:Oy 1048576 a) (hb:Oy 1048576 b):Ag Tryz.prog G 25 [.agg (Cl a), .agg (Cl b)] H (Ax (.bool (Yl a b)) H):=by
 obtain⟨Z,f1,f2,f3,f4,f5,f6,L⟩:=ha;refine Ab Tryz.func25 Tryz.call25 rfl (by kernel_rfl) ?_;simp(disch:=omega)only[go_sem,DVal.cells];intro I M;dsimp only at M;obtain⟨C,D⟩: ∃K',K'=upd H I (some (.cells (Cl a) 62)):=⟨_,rfl⟩;rw[<-D];have O:C I=some (.cells (Cl a) 62):=by rw[D];exact Aa _ _ _
 have S:Sub H C:=by rw[D];exact(Sub.refl _).new M _
 simp(disch:=omega)only[go_sem,DVal.cells];intro U V;dsimp only at V;obtain⟨K,E⟩: ∃K',K'=upd C U (some (.cells (Cl b) 62)):=⟨_,rfl⟩;rw[<-E];have W:K U=some (.cells (Cl b) 62):=by rw[E];exact Aa _ _ _
 have J:Sub C K:=by rw[E];exact(Sub.refl _).new V _
 have X:K I=some (.cells (Cl a) 62):=J _ _ O;have Y:=W;have t:Sub H K:=S.trans J;clear J S W O E D;by_cases h0:a.kind=b.kind;all_goals by_cases h7:a.var=b.var
 all_goals cases h8:a.limited
 all_goals cases h9:b.limited
 all_goals simp(disch:=omega)only[go_sem,X,Y,Bt,Mp,Ng,Nh,Iv,Iw,Ix,Iy,Iz,Ja,Jb,h0]
 all_goals repeat' first
  | (refine Ag.monoR (Ad0 G K a.names b.names (n40 Z (by omega)) (n40 hb.1 (by omega))) ?_;cases h1:decide (a.names=b.names))
  | (refine Ag.monoR (Hv G K a.lo b.lo (Zf f1 (by omega))) ?_;cases h2:Fw a.lo b.lo)
  | (refine Ag.monoR (Hv G K a.hi b.hi (Zf f2 (by omega))) ?_;cases h3:Fw a.hi b.hi)
  | (refine Ag.monoR (Ym G K a.sub b.sub f3) ?_;cases h4:My a.sub b.sub)
  | (refine Ag.monoR (Yn G K a.disc b.disc f4) ?_;cases h5:Mz a.disc b.disc)
  | (refine Ag.monoR (Ae2 G K a.comps b.comps f5 hb.2.2.2.2.2.1) ?_;cases h6:Ru Na a.comps b.comps)
  | (refine Ag.monoR (Fj5 G K Rk a.arms b.arms 115 (l40 L (by omega)) fun x hx y hy K=>Fj8 G K x y (L.2 x hx) (hb.2.2.2.2.2.2.2.2 y hy)) ?_;rw[<-Ah2 Rk a.arms b.arms];cases h10:Ru Rk a.arms b.arms)
  | ((with_reducible show Fa _ _ _);exact Fa.sub t (.refl ⟨by simp [Yl, *],rfl⟩))
  | simp(disch:=omega)only[go_sem,X,Y,Bt,Mp,Ng,Nh,Iv,Iw,Ix,Iy,Iz,Ja,Jb,h7,h8,h9,Ey,bft,btf,bff,btt]
end
section
variable {G:Nat->DVal}
theorem Fa.nzA {R:DEnd->Ac->Prop} {cs:List DVal} {H H':Ac} (h:Sub H H') (C:R (.ret (.agg (cs.map nz))) H):Fa R (.agg cs) H':=
 Fa.sub h (Fa.le (fun w H x hx=>by
  simp only[Rel] at hx⊢
  obtain⟨xs,rfl,hx⟩:=hx;exact⟨xs,rfl,Ck8 w H _ _ hx⟩) (.refl C))
theorem Nc (G:Nat->DVal) (H:Ac) (s:List UInt8) (hs:s.length<=1000):Ag Tryz.prog G 55 [.str s] H (Ax (Bl (Ck s).1) H):=by
 refine Ab Tryz.func55 Tryz.call55 rfl (by kernel_rfl) ?_;simp(disch:=omega)only[go_sem];refine Ag.monoR (Ck2 G H s (by omega)) ?_;simp(disch:=omega)only[go_sem];exact Fa.refl ⟨rfl,rfl⟩
theorem Oh (G:Nat->DVal) (H:Ac) (s:List UInt8):Ag Tryz.prog G 87 [.str s] H (Ax (dE (.mk 3 0 0 s [] [] 0 0 0)) H):=by
 refine Ab Tryz.func87 Tryz.call87 rfl (by kernel_rfl) ?_;simp(disch:=omega)only[go_sem];intro q hq;dsimp only at hq;simp(disch:=omega)only[go_sem];exact Fa.nzA ((Sub.refl H).new hq _) ⟨by rw[dE,Xz];rfl,rfl⟩
theorem Sy (G:Nat->DVal) (H:Ac) (n:Int):Ag Tryz.prog G 88 [.int .i64 n] H (Ax (dE (.mk 1 0 n [] [] [] 0 0 0)) H):=by
 refine Ab Tryz.func88 Tryz.call88 rfl (by kernel_rfl) ?_;simp(disch:=omega)only[go_sem];intro q hq;dsimp only at hq;simp(disch:=omega)only[go_sem];exact Fa.nzA ((Sub.refl H).new hq _) ⟨by rw[dE,Xz];rfl,rfl⟩
def Gp4 (l:List Tok):Bool:=decide (l.length<=400)&&l.all fun t=>decide (t.text.length<=1000)
theorem Av0 {l:List Tok} (h:Gp4 l=true):l.length<=500000/\Cg l:=by
 rw[Gp4,jF,decide_eq_true_eq,List.all_eq_true] at h;exact⟨by omega,Bt0 fun t ht=>by have:=of_decide_eq_true (h.2 t ht);omega⟩
def Fj9 (s:List UInt8) (n kind:Int) (text:List UInt8):Bool:=
 decide (s.length<=1000)&&Gp4 (Ck s).1&&(decide ((Lq (Ck s).1).2.1=n)&&decide ((Lq (Ck s).1).2.2=0)&&decide ((Lq (Ck s).1).1.kind=kind)&&Du (Lq (Ck s).1).1&&
  (decide ((Ie (Lq (Ck s).1).1 0).length<=1000)&&((Ie (Lq (Ck s).1).1 0).all fun y=>decide (y.l.length<=1000))&&decide ((Sc (Ie (Lq (Ck s).1).1 0)).1=text)&&decide ((Sc (Ie (Lq (Ck s).1).1 0)).2=0)))
theorem Gp5 (t:Typ):(Cl t)[0]? =some (.int .u8 t.kind):=rfl
theorem Vv (hG:GX G) (H:Ac) (s:List UInt8) (n kind:Int) (text:List UInt8) (h:Fj9 s n kind text=true):Ag Tryz.prog G 86 [.str s,dI n, .int .u8 kind, .str text] H (Ax (.bool true) H):=by
 simp only[Fj9,jF,decide_eq_true_eq] at h;obtain⟨⟨h0,h1⟩,⟨⟨⟨h2,h3⟩,h4⟩,h5⟩,⟨⟨h6,h7⟩,h8⟩,h9⟩:=h;obtain⟨hl,C⟩:=Av0 h1;obtain⟨x,hx⟩: ∃x,Lq (Ck s).1=x:=⟨_,rfl⟩;rw[hx] at h2 h3 h4 h5 h6 h7 h8 h9;obtain⟨t,n',e⟩:=x;dsimp only at h2 h3 h4 h5 h6 h7 h8 h9;subst h2 h3;have D:Oy 1048576 t:=by
  cases hr:Se (Ck s).1 0 with
  | ok y k=>
   rw[Lq,hr,Lk] at hx;split at hx
   ·cases hx;exact Bh7 C hl (Nat.zero_le _) t k hr
   ·cases hx
  | fail k=>rw[Lq,hr] at hx;cases hx
  | long=>rw[Lq,hr] at hx;cases hx
 refine Ab Tryz.func86 Tryz.call86 rfl (by kernel_rfl) ?_;simp(disch:=omega)only[go_sem];refine Ag.monoR (Nc G H s h0) ?_;simp(disch:=omega)only[go_sem];refine Ag.monoR (Yt hG H hl C) ?_;rw[hx];simp(disch:=omega)only[go_sem,Kh,Bt];intro q hq;dsimp only at hq;simp(disch:=omega)only[go_sem,Bt,Ht,jH,jL];refine Ag.monoR (Sf hG _ t 0 D) ?_;rw[Ce1,h5,if_pos rfl];simp(disch:=omega)only[go_sem];refine Ag.monoR (Cy4 G _ (Ie t 0) (by omega) (fun y E=>by have:=of_decide_eq_true (List.all_eq_true.1 h7 y E);omega)) ?_;simp(disch:=omega)only[go_sem,Bt,Gp5,h4,h8,h9];exact Fa.sub ((Sub.refl H).new hq _) (.refl ⟨rfl,rfl⟩)
theorem Ag.nz2 {P:Program} {f:FuncId} {args:List DVal} {H:Ac} {R:DEnd->Ac->Prop} (h:Ag P G f (args.map Dl.nz2) H R):Ag P G f args H R:=
 Ag.pre (fun w hw=>⟨hw,fun _ h=>h,fun x hx=>by
  simp only[Rel] at hx⊢
  obtain⟨xs,rfl,hx⟩:=hx;exact⟨xs,rfl,Cm5 w H _ _ hx⟩⟩) h
theorem Mh.part {H H':Ac} {e:TypeId} {size r n lo:Nat} {cs D cs':List DVal} (hr:H r=none) (E:H' r=some (.cells D e)) (I:D.take (n*size)=cs) (hl:cs.length=n*size) (hs:Lf H' cs H cs'):Mh H' (.oslice size r 0 n lo) H (.vslice cs' n):=fun w hw x hx=>by
 simp only[Rel] at hx⊢
 obtain⟨o,cap,rfl,h1,h2,h3,h4⟩:=hx;refine⟨_,cap,rfl,h2, ?_⟩;by_cases h0:cs= []
 ·subst h0;have:=hs w hw [] (by simp [Az]);cases cs' with
  | nil=>exact .inl rfl
  | cons c cs'=>simp [Az] at this
 ·obtain⟨J,L,hh⟩:=hw.holds E;have ho:o=0:=by
   rcases h3 with h3 | h3
   ·exfalso;have:n=0:=by omega
    subst this;rw[Nat.zero_mul] at hl;exact h0 (List.length_eq_zero_iff.1 hl)
   ·exact h3
  subst ho;have h5:=L.take (n*size);rw[I] at h5;exact .inr ⟨r,0,J.take (n*size),rfl, .inr ⟨hr,fun i y C=>by
   rw[List.getElem?_take] at C;split at C
   ·simpa using hh i y C
   ·cases C⟩,hs w hw _ h5⟩
def nm0 (s:List UInt8):Ex:= .mk 3 0 0 s [] [] 0 0 0
def nr0 (n:Int):Ex:= .mk 1 0 n [] [] [] 0 0 0
def tkI:List UInt8:= [73,110,116,101,103,101,114,32,114,97,110,103,101,32,49,32,46,46,32,49,48]
def tkD:List UInt8:= [84,32,114,97,110,103,101,32,49,32,46,46,32,78,41]
def tkE:List UInt8:= [84,32,40,49,41]
def tkP:List UInt8:= [65,32,58,32,105,110,32,111,117,116,32,84,59,32,66,44,32,67,32,58,32,84,32,58,61,32,49,41]
def tkQ:List UInt8:= [65,32,58,32,105,110,32,111,117,116,32,84]
def Fk0:Ind:=⟨nm0 [73,110,116,101,103,101,114],nr0 1,nr0 10,ex0⟩
def Fk1:Dis:=⟨nm0 [84],nr0 1,nm0 [78]⟩
def Db8:List Par:= [⟨[[65]],3,nm0 [84],ex0,0⟩,⟨[[66],[67]],1,nm0 [84],nr0 1,0⟩]
def Wh:Par:=⟨[[65]],3,nm0 [84],ex0,0⟩
def En8:Ex:= .mk 5 0 0 [] [nm0 [80]] [] 0 0 0
theorem Bv4 (s:List UInt8) (hs:s.length<=1000):Dp 1048576 (nm0 s):=⟨by simp [nm0,Fo,Mg,Fx],by simp only[nm0,okE,okL,Pc];exact⟨by omega,trivial,trivial⟩⟩
theorem Fk2 (n:Int):Dp 1048576 (nr0 n):=⟨by simp [nr0,Fo,Mg,Fx],by simp [nr0,okE,okL,Pc]⟩
theorem En9:Dp 1048576 En8:=⟨by simp [En8,nm0,Fo,Mg,Fx],by simp [En8,nm0,okE,okL,Pc]⟩
theorem Bv5:Si 1048576 Wh:=⟨⟨by decide,by simp [Wh]⟩,Bv4 _ (by decide),Cj⟩
theorem Db9:Ks Si 1048576 [Wh]:=⟨by decide,fun x hx=>by rw[List.mem_singleton.1 hx];exact Bv5⟩
theorem Dq0:Ks Si 1048576 Db8:=⟨by decide,fun x hx=>by
 rcases List.mem_cons.1 hx with rfl | hx
 ·exact Bv5
 ·rw[List.mem_singleton.1 hx];exact⟨⟨by decide,by simp⟩,Bv4 _ (by decide),Fk2 1⟩⟩
theorem Yw {α:Type} {r:Re α} {fine:α->Bool} {z x:α} {n:Int} (h:Lk r fine z=(x,n,0)): ∃k,r= .ok x k:=by
 cases r with
 | ok y k=>
  rw[Lk] at h;split at h
  ·cases h;exact⟨k,rfl⟩
  ·cases h
 | fail k=>cases h
 | long=>cases h
set_option maxHeartbeats 8000000 in
theorem Dc0 (hG:GX G) (H:Ac):Ag Tryz.prog G 19 [] H (Ax (.bool true) H):=by
 have W:=fun K=>Vv hG K [40,82,101,100,44,32,71,114,101,101,110,41,59] 5 1 [40,82,101,100,44,32,71,114,101,101,110,41,10] (by kernel_rfl);have X:=fun K=>Vv hG K [108,105,109,105,116,101,100,32,112,114,105,118,97,116,101,59] 2 7 [108,105,109,105,116,101,100,32,112,114,105,118,97,116,101,10] (by kernel_rfl);have Y:=fun K=>Vv hG K [110,117,108,108,32,114,101,99,111,114,100] 2 5 [110,117,108,108,32,114,101,99,111,114,100,10] (by kernel_rfl);have Z:=fun K=>Vv hG K [114,101,99,111,114,100,32,65,32,58,32,84,59,32,99,97,115,101,32,68,32,105,115,32,119,104,101,110,32,49,32,61,62,32,110,117,108,108,59,32,101,110,100,32,99,97,115,101,59,32,101,110,100,32,114,101,99,111,114,100,59] 18 5 [114,101,99,111,114,100,10,32,32,65,32,58,32,84,59,10,32,32,99,97,115,101,32,68,32,105,115,10,32,32,32,32,119,104,101,110,32,49,32,61,62,10,32,32,32,32,32,32,110,117,108,108,59,10,32,32,101,110,100,32,99,97,115,101,59,10,101,110,100,32,114,101,99,111,114,100,10] (by kernel_rfl);have O:=Av0 (l:=(Ck tkI).1) (by kernel_rfl);have S:=Av0 (l:=(Ck tkD).1) (by kernel_rfl);have xE:=Av0 (l:=(Ck tkE).1) (by kernel_rfl);have U:=Av0 (l:=(Ck tkP).1) (by kernel_rfl);have tI:=fun K=>Nc G K tkI (by decide);have tD:=fun K=>Nc G K tkD (by decide);have tE:=fun K=>Nc G K tkE (by decide);have tP:=fun K=>Nc G K tkP (by decide);have V:=fun K=>Nc G K tkQ (by decide);have I:=fun K=>Db2 hG K O.1 O.2;have J:=fun K=>Ul hG K S.1 S.2;have L:=fun K=>Ul hG K xE.1 xE.2;have M:=fun K=>Sw hG K U.1 U.2;have eI:Ad2 (Ck tkI).1=((Ad2 (Ck tkI).1).1,5,0):=by kernel_rfl
 have D:=fun K=>Ym G K (Ad2 (Ck tkI).1).1 Fk0 (by obtain⟨k,hk⟩:=Yw (r:=Wd _ 0) (fine:=En) (z:=Ut) eI;exact Ag8 O.2 O.1 (Nat.zero_le _) _ k hk);rw[show My (Ad2 (Ck tkI).1).1 Fk0=true by kernel_rfl] at D;rw[eI] at I;generalize (Ad2 (Ck tkI).1).1=i at I D;have eD:Pu (Ck tkD).1=((Pu (Ck tkD).1).1,5,0):=by kernel_rfl
 have E:=fun K=>Yn G K (Pu (Ck tkD).1).1 Fk1 (by obtain⟨k,hk⟩:=Yw (r:=Am4 _ 0) (fine:=Fh) (z:=Rt) eD;exact Au1 S.2 S.1 _ k hk);rw[show Mz (Pu (Ck tkD).1).1 Fk1=true by kernel_rfl] at E;rw[eD] at J;generalize (Pu (Ck tkD).1).1=d at J E;have eE:Pu (Ck tkE).1=((Pu (Ck tkE).1).1,4,40):=by kernel_rfl
 rw[eE] at L;generalize (Pu (Ck tkE).1).1=d2 at L;have eP:Ss (Ck tkP).1=((Ss (Ck tkP).1).1,13,0):=by kernel_rfl
 have sP:=fun K=>Zh G K (Ss (Ck tkP).1).1 Db8 (by obtain⟨k,hk⟩:=Yw (r:=At0 _ 0) (fine:=Jq) (z:= []) eP;exact Au2 U.2 U.1 (Nat.zero_le _) _ k hk) Dq0;rw[show Ru Lv (Ss (Ck tkP).1).1 Db8=true by kernel_rfl] at sP;rw[eP] at M;generalize (Ss (Ck tkP).1).1=pp at M sP;have wT:=fun K=>Px hG K [Wh] Db9;have sQ:=fun K=>Dj3 G K (Au9 [Wh]).1 (Ck tkQ).1 (by decide+kernel);rw[show Zb (Au9 [Wh]).1 (Ck tkQ).1=true by kernel_rfl] at sQ;rw[show(Au9 [Wh]).2=0 by kernel_rfl] at wT;generalize (Au9 [Wh]).1=mq at sQ wT;have m1:=fun K=>Qy hG K (nm0 [80]) (Bv4 _ (by decide));rw[show Ib (nm0 [80])=true by kernel_rfl] at m1;have m2:=fun K=>Qy hG K En8 En9;rw[show Ib En8=false by kernel_rfl] at m2;have m3:=fun K=>Ps hG K [] Ep;rw[show Jq []=true from rfl] at m3;rw[show Dv Fk0=dEx (.mk 3 0 0 [73,110,116,101,103,101,114] [] [] 0 0 0)++(dEx (.mk 1 0 1 [] [] [] 0 0 0)++(dEx (.mk 1 0 10 [] [] [] 0 0 0)++dEx ex0)) from rfl,Qk] at D;rw[show Dy Fk1=dEx (.mk 3 0 0 [84] [] [] 0 0 0)++(dEx (.mk 1 0 1 [] [] [] 0 0 0)++dEx (.mk 3 0 0 [78] [] [] 0 0 0)) from rfl] at E;simp only[Kh,tkI,tkD,tkE,tkP,tkQ] at*
 refine Ab Tryz.func19 Tryz.call19 rfl (by kernel_rfl) ?_
 repeat' first
  | (with_reducible refine Ag.monoR (W _) ?_)
  | (with_reducible refine Ag.monoR (X _) ?_)
  | (with_reducible refine Ag.monoR (Y _) ?_)
  | (with_reducible refine Ag.monoR (Z _) ?_)
  | (with_reducible refine Ag.monoR (tI _) ?_)
  | (with_reducible refine Ag.monoR (tD _) ?_)
  | (with_reducible refine Ag.monoR (tE _) ?_)
  | (with_reducible refine Ag.monoR (tP _) ?_)
  | (with_reducible refine Ag.monoR (V _) ?_)
  | (with_reducible refine Ag.monoR (I _) ?_)
  | (with_reducible refine Ag.monoR (J _) ?_)
  | (with_reducible refine Ag.monoR (L _) ?_)
  | (with_reducible refine Ag.monoR (M _) ?_)
  | (with_reducible refine Ag.monoR (Oh G _ _) ?_)
  | (with_reducible refine Ag.monoR (Sy G _ _) ?_)
  | ((with_reducible show Ag _ _ 37 _ _ _);refine Ag.nz2 ?_;simp only[jN,jP,nz2,List.map_append,Lb,Ly,nz];refine Ag.monoR (D _) ?_)
  | ((with_reducible show Ag _ _ 33 _ _ _);refine Ag.nz2 ?_;simp only[jN,jP,nz2,List.map_append,Lc,Ly,nz];refine Ag.monoR (E _) ?_)
  | with_reducible refine And.intro ?_ ?_
  | ((with_reducible show Fz _ _ _ _ _);intro q hq;dsimp only at hq;(try simp only[Ba] at hq);(repeat (have C:=hq.1;have hq:=hq.2)))
  | simp(disch:=omega)only[go_sem, *,Pb,Hg,dE,Cn,List.take_append,List.drop_append,Im,Ju,Gn,Gx,Gp,Gy,jC,Ad,An,Au,Bo,Ej,Ek,List.all_append,List.all_cons,List.all_nil,jO,jH,jG,jA,jB,jE,jM,jJ,jR,jL,List.take_nil,jI]
 refine Ak (by kernel_rfl) (.take 0 (.take 1 (.take 2 (.take 3 (.take 4 (.take 5 (.take 6 (.take 7 (.go 8 [7] (.go 9 [7] (.go 10 [7] (.take 11 (.go 12 [] (.take 13 (.take 14 .done))))))))))))))) (by kernel_rfl) ?_
 repeat' first
  | (with_reducible refine Ag.monoR (W _) ?_)
  | (with_reducible refine Ag.monoR (X _) ?_)
  | (with_reducible refine Ag.monoR (Y _) ?_)
  | (with_reducible refine Ag.monoR (Z _) ?_)
  | (with_reducible refine Ag.monoR (tI _) ?_)
  | (with_reducible refine Ag.monoR (tD _) ?_)
  | (with_reducible refine Ag.monoR (tE _) ?_)
  | (with_reducible refine Ag.monoR (tP _) ?_)
  | (with_reducible refine Ag.monoR (V _) ?_)
  | (with_reducible refine Ag.monoR (I _) ?_)
  | (with_reducible refine Ag.monoR (J _) ?_)
  | (with_reducible refine Ag.monoR (L _) ?_)
  | (with_reducible refine Ag.monoR (M _) ?_)
  | (with_reducible refine Ag.monoR (Oh G _ _) ?_)
  | (with_reducible refine Ag.monoR (Sy G _ _) ?_)
  | ((with_reducible show Ag _ _ 37 _ _ _);refine Ag.nz2 ?_;simp only[jN,jP,nz2,List.map_append,Lb,Ly,nz];refine Ag.monoR (D _) ?_)
  | ((with_reducible show Ag _ _ 33 _ _ _);refine Ag.nz2 ?_;simp only[jN,jP,nz2,List.map_append,Lc,Ly,nz];refine Ag.monoR (E _) ?_)
  | with_reducible refine And.intro ?_ ?_
  | ((with_reducible show Fz _ _ _ _ _);intro q hq;dsimp only at hq;(try simp only[Ba] at hq);(repeat (have C:=hq.1;have hq:=hq.2)))
  | simp(disch:=omega)only[go_sem, *,Pb,Hg,dE,Cn,List.take_append,List.drop_append,Im,Ju,Gn,Gx,Gp,Gy,jC,Ad,An,Au,Bo,Ej,Ek,List.all_append,List.all_cons,List.all_nil,jO,jH,jG,jA,jB,jE,jM,jJ,jR,jL,List.take_nil,jI]
 refine Ak (by kernel_rfl) (.take 0 (.take 1 (.take 2 (.take 3 (.take 4 (.take 5 (.take 6 (.take 7 (.take 8 (.take 9 (.take 10 (.go 11 [10] (.go 12 [10] (.go 13 [10] (.take 14 (.go 15 [] (.take 16 (.take 17 .done)))))))))))))))))) (by kernel_rfl) ?_
 repeat' first
  | (with_reducible refine Ag.monoR (W _) ?_)
  | (with_reducible refine Ag.monoR (X _) ?_)
  | (with_reducible refine Ag.monoR (Y _) ?_)
  | (with_reducible refine Ag.monoR (Z _) ?_)
  | (with_reducible refine Ag.monoR (tI _) ?_)
  | (with_reducible refine Ag.monoR (tD _) ?_)
  | (with_reducible refine Ag.monoR (tE _) ?_)
  | (with_reducible refine Ag.monoR (tP _) ?_)
  | (with_reducible refine Ag.monoR (V _) ?_)
  | (with_reducible refine Ag.monoR (I _) ?_)
  | (with_reducible refine Ag.monoR (J _) ?_)
  | (with_reducible refine Ag.monoR (L _) ?_)
  | (with_reducible refine Ag.monoR (M _) ?_)
  | (with_reducible refine Ag.monoR (Oh G _ _) ?_)
  | (with_reducible refine Ag.monoR (Sy G _ _) ?_)
  | ((with_reducible show Ag _ _ 37 _ _ _);refine Ag.nz2 ?_;simp only[jN,jP,nz2,List.map_append,Lb,Ly,nz];refine Ag.monoR (D _) ?_)
  | ((with_reducible show Ag _ _ 33 _ _ _);refine Ag.nz2 ?_;simp only[jN,jP,nz2,List.map_append,Lc,Ly,nz];refine Ag.monoR (E _) ?_)
  | with_reducible refine And.intro ?_ ?_
  | ((with_reducible show Fz _ _ _ _ _);intro q hq;dsimp only at hq;(try simp only[Ba] at hq);(repeat (have C:=hq.1;have hq:=hq.2)))
  | simp(disch:=omega)only[go_sem, *,Pb,Hg,dE,Cn,List.take_append,List.drop_append,Im,Ju,Gn,Gx,Gp,Gy,jC,Ad,An,Au,Bo,Ej,Ek,List.all_append,List.all_cons,List.all_nil,jO,jH,jG,jA,jB,jE,jM,jJ,jR,jL,List.take_nil,jI]
 intro r6 hq;dsimp only at hq;have al:=hq
 (try simp only[Ba] at hq)
 (repeat (have C:=hq.1;have hq:=hq.2));have aa:=hq;simp(disch:=omega)only[go_sem,Cn,List.take_append,List.drop_append,Im,Ju,Gn,Gx,Gp,Gy,jC,Ad,An,Au,Bo,Ej,Ek,List.all_append,List.all_cons,List.all_nil,jO,jH,jG,jA,jB,jE,jM,jJ,jR,jL,List.take_nil,jI];refine Ag.monoR (Oh G _ _) ?_;simp(disch:=omega)only[go_sem,Cn,List.take_append,List.drop_append,Im,Ju,Gn,Gx,Gp,Gy,jC,Ad,An,Au,Bo,Ej,Ek,List.all_append,List.all_cons,List.all_nil,jO,jH,jG,jA,jB,jE,jM,jJ,jR,jL,List.take_nil,jI,dE];intro r7 hq;dsimp only at hq;have ab:=hq
 (try simp only[Ba] at hq)
 (repeat (have C:=hq.1;have hq:=hq.2));have ag:=hq;simp(disch:=omega)only[go_sem,Cn,List.take_append,List.drop_append,Im,Ju,Gn,Gx,Gp,Gy,jC,Ad,An,Au,Bo,Ej,Ek,List.all_append,List.all_cons,List.all_nil,jO,jH,jG,jA,jB,jE,jM,jJ,jR,jL,List.take_nil,jI];refine Ag.monoR (Oh G _ _) ?_;simp(disch:=omega)only[go_sem,Cn,List.take_append,List.drop_append,Im,Ju,Gn,Gx,Gp,Gy,jC,Ad,An,Au,Bo,Ej,Ek,List.all_append,List.all_cons,List.all_nil,jO,jH,jG,jA,jB,jE,jM,jJ,jR,jL,List.take_nil,jI,dE];refine Ag.monoR (Sy G _ _) ?_;simp(disch:=omega)only[go_sem,Cn,List.take_append,List.drop_append,Im,Ju,Gn,Gx,Gp,Gy,jC,Ad,An,Au,Bo,Ej,Ek,List.all_append,List.all_cons,List.all_nil,jO,jH,jG,jA,jB,jE,jM,jJ,jR,jL,List.take_nil,jI,dE];intro r8 hq;dsimp only at hq;have ac:=hq
 (try simp only[Ba] at hq)
 (repeat (have C:=hq.1;have hq:=hq.2));have ad:=hq;simp(disch:=omega)only[go_sem,Cn,List.take_append,List.drop_append,Im,Ju,Gn,Gx,Gp,Gy,jC,Ad,An,Au,Bo,Ej,Ek,List.all_append,List.all_cons,List.all_nil,jO,jH,jG,jA,jB,jE,jM,jJ,jR,jL,List.take_nil,jI,dE];have ah:r7≠r8:=Af ac (Aa _ _ _);have ae:r6≠r8:=Af ac (Ae (Aa _ _ _) (Af ab (Aa _ _ _)));have af:r6≠r7:=Af ab (Aa _ _ _);refine Ag.monoR (Lf.lent (args':= [Gm pp,Gm Db8]) (H:=H) (.cons (Mh.keep (by repeat (first | exact Sub.refl _ | refine Sub.up ?_ (by assumption) _)) _) (.cons ?_ .nil)) (sP h0) rfl) ?_
 ·refine Mh.cells (e:=136) (by repeat (first | exact Sub.refl _ | refine Sub.up ?_ (by assumption) _)) ad (Aa _ _ _) (by simp [Ad,Cd]) ?_;rw[show Db8.flatMap Gt=dW [[65]]:: .int .u8 3::(dEx (.mk 3 0 0 [84] [] [] 0 0 0)++(dEx ex0++(dI 0::dW [[66],[67]]:: .int .u8 1::(dEx (.mk 3 0 0 [84] [] [] 0 0 0)++(dEx (.mk 1 0 1 [] [] [] 0 0 0)++ [dI 0]))))) by simp [Db8,Gt,nm0,nr0],Qk];refine Lf.cons (Mh.block (e:=9) (by repeat (first | exact Sub.refl _ | refine Sub.up ?_ (by assumption) _)) aa (Ae (Ae (Aa _ _ _) af) ae) rfl) ?_
  repeat' first
   | exact Lf.nil
   | refine Lf.cons (Mh.keep (by repeat (first | exact Sub.refl _ | refine Sub.up ?_ (by assumption) _)) _) ?_
   | refine Lf.cons (Mh.nil (by repeat (first | exact Sub.refl _ | refine Sub.up ?_ (by assumption) _))) ?_
   | refine Lf.append (Lf.keep (by repeat (first | exact Sub.refl _ | refine Sub.up ?_ (by assumption) _)) _) ?_
   | refine Lf.cons (Mh.block (e:=9) (by repeat (first | exact Sub.refl _ | refine Sub.up ?_ (by assumption) _)) ag (Ae (Aa _ _ _) ah) rfl) ?_
   | fail
 simp(disch:=omega)only[go_sem,Cn,List.take_append,List.drop_append,Im,Ju,Gn,Gx,Gp,Gy,jC,Ad,An,Au,Bo,Ej,Ek,List.all_append,List.all_cons,List.all_nil,jO,jH,jG,jA,jB,jE,jM,jJ,jR,jL,List.take_nil,jI,dE];refine Lf.call (by repeat (first | exact Sub.refl _ | refine Sub.up ?_ (by assumption) _)) (.cons (Mh.part (e:=136) (cs:= .oslice 1 r6 0 1 1:: .int .u8 3::(dEx (.mk 3 0 0 [84] [] [] 0 0 0)++ [.int .u8 0, .int .u8 0, .int .i64 0, .str [], .nilSlice, .nilSlice, .int .i64 0, .int .i64 0, .int .i64 0, .int .i64 0])) ad (Aa _ _ _) (by simp [List.take_append,Ad,Im]) (by simp [Ad]) ?_) .nil) (Ag.monoR (wT H) ?_)
 ·rw[show [Wh].flatMap Gt=dW [[65]]:: .int .u8 3::(dEx (.mk 3 0 0 [84] [] [] 0 0 0)++(dEx ex0++ [dI 0])) by simp [Wh,Gt,nm0],Qk];refine Lf.cons (Mh.block (e:=9) (by repeat (first | exact Sub.refl _ | refine Sub.up ?_ (by assumption) _)) aa (Ae (Ae (Aa _ _ _) af) ae) rfl) ?_
  repeat' first
   | exact Lf.nil
   | refine Lf.cons (Mh.keep (by repeat (first | exact Sub.refl _ | refine Sub.up ?_ (by assumption) _)) _) ?_
   | refine Lf.cons (Mh.nil (by repeat (first | exact Sub.refl _ | refine Sub.up ?_ (by assumption) _))) ?_
   | refine Lf.append (Lf.keep (by repeat (first | exact Sub.refl _ | refine Sub.up ?_ (by assumption) _)) _) ?_
   | fail
 simp(disch:=omega)only[go_sem,Cn,List.take_append,List.drop_append,Im,Ju,Gn,Gx,Gp,Gy,jC,Ad,An,Au,Bo,Ej,Ek,List.all_append,List.all_cons,List.all_nil,jO,jH,jG,jA,jB,jE,jM,jJ,jR,jL,List.take_nil,jI,dE];refine Ag.monoR (Oh G _ _) ?_;simp(disch:=omega)only[go_sem,Cn,List.take_append,List.drop_append,Im,Ju,Gn,Gx,Gp,Gy,jC,Ad,An,Au,Bo,Ej,Ek,List.all_append,List.all_cons,List.all_nil,jO,jH,jG,jA,jB,jE,jM,jJ,jR,jL,List.take_nil,jI,dE];intro r9 hq;dsimp only at hq;have am:=hq
 (try simp only[Ba] at hq)
 (repeat (have C:=hq.1;have hq:=hq.2));have ai:=hq;simp(disch:=omega)only[go_sem,Cn,List.take_append,List.drop_append,Im,Ju,Gn,Gx,Gp,Gy,jC,Ad,An,Au,Bo,Ej,Ek,List.all_append,List.all_cons,List.all_nil,jO,jH,jG,jA,jB,jE,jM,jJ,jR,jL,List.take_nil,jI,dE];intro ra hq;dsimp only at hq;have aj:=hq
 (try simp only[Ba] at hq)
 (repeat (have C:=hq.1;have hq:=hq.2));have ao:=hq;have ak:r9≠ra:=Af aj (Aa _ _ _)
 repeat' first
  | (with_reducible refine Ag.monoR (V _) ?_)
  | (with_reducible refine Ag.monoR (sQ _) ?_)
  | (with_reducible refine Ag.monoR (Oh G _ _) ?_)
  | ((with_reducible show Ag _ _ 89 [.agg (dEx _)] _ _);refine Ag.monoR (m1 _) ?_)
  | ((with_reducible show Ag _ _ 28 _ _ _);refine Ag.nz2 ?_;refine Ag.monoR (m3 _) ?_)
  | ((with_reducible show Ag _ _ 89 [.agg (_::_)] _ _);refine Ag.monoR (Lf.lent (args':= [.agg (dEx En8)]) (H:=H) (.cons (Mh.agg (Mh.ex (l:= [nm0 [80]]) (a:= []) (by repeat (first | exact Sub.refl _ | refine Sub.up ?_ (by assumption) _)) (by rw[show dXs [nm0 [80]]= .vslice (dEx (nm0 [80])) 1 by rw[dXs,List.flatMap_singleton];rfl];exact Mh.block (e:=27) (by repeat (first | exact Sub.refl _ | refine Sub.up ?_ (by assumption) _)) ai (Ae (Aa _ _ _) ak) (by rw[Ad])) (Mh.as0 (by repeat (first | exact Sub.refl _ | refine Sub.up ?_ (by assumption) _))))) .nil) (m2 h0) rfl) ?_)
  | simp(disch:=omega)only[go_sem, *,Cn,List.take_append,List.drop_append,Im,Ju,Gn,Gx,Gp,Gy,jC,Ad,An,Au,Bo,Ej,Ek,List.all_append,List.all_cons,List.all_nil,jO,jH,jG,jA,jB,jE,jM,jJ,jR,jL,List.take_nil,jI,dE,nm0]
  | ((with_reducible show Fa _ _ _);exact Fa.sub (by repeat (first | exact Sub.refl _ | refine Sub.up ?_ (by assumption) _)) (.refl ⟨rfl,rfl⟩))
  | fail
end
section
variable {G:Nat->DVal}
set_option maxHeartbeats 4000000 in
theorem Ce2 (G:Nat->DVal) (H:Ac) (ls:List Lin) (hn:ls.length<=1000000) (hl:(Ig ls).length<=100000000):Ag Tryz.prog G 22 [Dp8 ls] H (Ax (Bl (Ig ls)) H):=by
 have X:=Aw Uh ls;refine Ab Tryz.func22 Tryz.call22 rfl (by kernel_rfl) ?_;simp(disch:=omega)only[go_sem,Dp8];obtain⟨I,L⟩: ∃I:Nat->(Nat->DVal)->Ac->Prop,∀j env heap,I j env heap↔(env 6=Dp8 ls/\env 7=dI ls.length/\env 8=dI j/\j<=ls.length/\Jw H 31 4 (Ig (ls.take j)).length ((Ig (ls.take j)).flatMap Cq) (env 3) heap):=⟨_,fun _ _ _=>Iff.rfl⟩;refine Dr7.run I (fun j=>ls.length-j) 0 ((L _ _ _).2 ?_) ?_
 ·simp(disch:=omega)only[go_sem,Dp8];(repeat' apply And.intro)<;>(try first | rfl | assumption | omega);exact Jw.nil _ _ (Sub.refl H)
 ·intro j env heap hi;obtain⟨C,D,E,hj,hv⟩:=(L _ _ _).1 hi;by_cases S:j<ls.length
  ·have M:(j:Int)<(ls.length:Int):=by omega
   have Y:IntKind.i64.wrap ((j:Int)+1)=((j+1:Nat):Int):=by rw[IntKind.wrap_i64];omega
   have U:=Co Uh ls j S;have J:Ig (ls.take (j+1))=Ig (ls.take j)++ls[j].l:=by rw[Ti S,Tk,Ra];simp [Ig]
   have hle:(Ig (ls.take (j+1))).length<=(Ig ls).length:=by
    conv=>rhs;rw[<-List.take_append_drop (j+1) ls,Tk,jC]
    omega
   obtain⟨x,hx⟩: ∃x,x=ls[j]:=⟨_,rfl⟩;rw[<-hx] at U J;rw[J,jC] at hle;obtain⟨ts,hts⟩: ∃ts,ts=x.l:=⟨_,rfl⟩;have V:=Aw Ao ts;have Z:(ts.flatMap Cq).take (ts.length*4)=ts.flatMap Cq:=List.take_of_length_le (by omega);obtain⟨v,O⟩: ∃v,v=env 3:=⟨_,rfl⟩;rw[<-O] at hv;have aa:(ts.flatMap Cq).all (fun d=>d.one)=true:=by
    rw[List.all_eq_true];intro d hd;obtain⟨t,_,hd⟩:=List.mem_flatMap.1 hd;exact List.all_eq_true.1 (Jh t) d hd
   rw[<-hts] at J hle;simp(disch:=omega)only[go_sem,C,D,E,<-O,M,Dp8,U,X,jD];intro q hq;dsimp only at hq;have W:=Jw.new hv hq (some (.cells (Xb x) 154));simp(disch:=omega)only[go_sem,C,D,E,<-O,Xb,<-hts,Bl,Z,aa,V];rw[show Xb x= [dI x.depth,Bl ts] by rw[Xb,hts]] at W;refine Jw.append (m:=ts.length) W V (by omega) fun v2 H2 ab=> ?_;simp(disch:=omega)only[go_sem,C,D,E];refine⟨j+1,_,Rz.refl _,(L _ _ _).2 ?_,by omega⟩;simp(disch:=omega)only[go_sem,C,D,E,Y];(repeat' apply And.intro)<;>(try first | rfl | assumption | omega);rw[J,jC,List.flatMap_append];exact ab
  ·have:j=ls.length:=by omega
   subst this;have M: ¬(ls.length:Int)<(ls.length:Int):=by omega
   rw[List.take_length] at hv;simp(disch:=omega)only[go_sem,C,D,E,M,Dp8];exact Jw.fin hv ⟨rfl,rfl⟩
theorem Um (G:Nat->DVal) (H:Ac) (n C e:Int) (he:(e=40/\0<=n/\n<=C)\/(e=3/\n=0)):Ag Tryz.prog G 23 [dI n,dI C,dI e] H (Ax (.bool true) H):=by
 refine Ab Tryz.func23 Tryz.call23 rfl (by kernel_rfl) ?_;rcases he with⟨rfl,h1,h2⟩ | ⟨rfl,rfl⟩
 ·simp(disch:=omega)only[go_sem,h1,h2];exact Fa.refl ⟨rfl,rfl⟩
 ·simp(disch:=omega)only[go_sem];exact Fa.refl ⟨rfl,rfl⟩
theorem AgainR.two {α:Type} {l:List Tok} {front:List Tok->α×Int×Int} {z:α} {fine:α->Bool} {toks:α->List Tok} {same:α->α->Bool} (h:AgainR l front z fine toks same):
  (∃n e,front l=(z,n,e)/\e≠0/\((e=40/\0<=n/\n<=(l.length:Int))\/(e=3/\n=0)))\/ ∃x y,∃k:Nat,front l=(x,(k:Int),0)/\k<=l.length/\fine x=true/\(toks x).length<=k/\front (toks x)=(y,((toks x).length:Int),0)/\same x y=true:=by
 cases h with
 | fail k h1 h2=>exact .inl ⟨_,_,h2,by decide, .inl ⟨rfl,by omega,by omega⟩⟩
 | long h=>exact .inl ⟨_,_,h,by decide, .inr ⟨rfl,rfl⟩⟩
 | ok x y k h1 h2 h3 h4 h5 h6=>exact .inr ⟨x,y,k,h1,h2,h3,h4,h5,h6⟩
end
section
variable {n:Nat}
theorem Dx9 {e:Ex} (C:Int) (h:Dp n e):fT (Ar e C):=Ck9 (Bx9 e h.2)
theorem Ah3 {a b:Ex} (ha:Dp n a) (hb:Dp n b):fT (Dj a b):=Br (Dx9 2 ha) (Bc (by decide) (Dx9 2 hb))
theorem Cm9 {s:Ind} (h:Be1 n s):fT (In s):=Br (Bx9 _ h.1.2) (Jc (Jc Eu (Bc (by decide) (Ah3 h.2.1 h.2.2.1))) (Bc (by decide) (Br (Bx9 _ h.2.2.2.2) (Bc (by decide) Eu))))
theorem Fk3 {d:Dis} (h:Ai2 n d):fT (Lp d):=Jc (Bx9 _ h.1.2) (Jc (Ah3 h.2.1 h.2.2) (Br (Bx9 _ h.1.2) (Bc (by decide) (Ah3 h.2.1 h.2.2))))
theorem Cn0 {β:Type} {s:List UInt8} (hs:(Ah s).text.length<=9223372036854775807) (g:β->List Tok) (l:List β) (h: ∀x∈l,fT (g x)):fT (Dm s (l.map g)):=Bs9 hs fun t ht=>by
 obtain⟨x,hx,rfl⟩:=List.mem_map.1 ht;exact h x hx
theorem Dy0 {β:Type} (g:β->List Tok) (l:List β) (h: ∀x∈l,fT (g x)):fT (l.flatMap g):=fun t ht=>by
 obtain⟨x,hx,C⟩:=List.mem_flatMap.1 ht;exact h x hx t C
theorem Bv6 {l:List (List UInt8)} (h:Be0 n l):fT (Cw l):=Cn0 (by decide) (fun s=> [Dw s]) l fun s hs=>Bc (h.2 s hs) Eu
theorem Fk4 {e:Ex} (h:Dp n e):fT (Ny e):=Jc Eu (Bc (by decide) (Bx9 e h.2))
theorem Gb0 (m:Int):fT (Qe m):=Jc (Bc (by decide) Eu) (Jc (Bc (by decide) (Bc (by decide) Eu)) Eu)
theorem Gp6 {p:Par} (h:Si n p):fT (Nf p):=Br (Bv6 h.1) (Bc (by decide) (Br (Gb0 _) (Br (Bx9 _ h.2.1.2) (Fk4 h.2.2))))
theorem Gb1 {l:List Par} (h:Ks Si n l):fT (Mo l):=Cn0 (by decide) _ l fun p hp=>Gp6 (h.2 p hp)
theorem Gp7 {c:Cmp} (h:Sj n c):fT (Uj c):=Br (Bv6 h.1) (Bc (by decide) (Br (Cm9 h.2.1) (Br (Fk4 h.2.2) (Bc (by decide) Eu))))
theorem Dy1 {l:List Cmp} (h:Ks Sj n l):fT (Hf l):=Jc (Bc (by decide) (Bc (by decide) Eu)) (Dy0 _ _ fun c hc=>Gp7 (h.2 c hc))
theorem Gp8 {a:Arm} (h:Be2 n a):fT (Sv a):=Bc (by decide) (Br (Cn0 (by decide) Cs _ fun c hc=>Gv2 c (Aq7 h.1.2 c hc)) (Bc (by decide) (Dy1 h.2)))
theorem Gb2 {v:List UInt8} {l:List Arm} (hv:v.length<=9223372036854775807) (h:Ks Be2 n l):fT (Pw v l):=Jc Eu (Bc (by decide) (Bc hv (Bc (by decide) (Br (Dy0 _ _ fun a ha=>Gp8 (h.2 a ha)) (Bc (by decide) (Bc (by decide) (Bc (by decide) Eu)))))))
theorem Gp9 {t:Typ} (h:Oy n t):fT (Bt6 t):=Bc (by decide) (Br (Jc Eu (Dy1 h.2.2.2.2.2.1)) (Br (Gb2 h.2.2.2.2.2.2.1.1 h.2.2.2.2.2.2.2) (Bc (by decide) (Bc (by decide) Eu))))
theorem Gq0 {t:Typ} (h:Oy n t):fT (Jz t):=
 Jc (Bc (by decide) (Br (Bv6 h.1) (Bc (by decide) Eu))) (Jc (Bc (by decide) (Ah3 h.2.1 h.2.2.1)) (Jc (Bc (by decide) (Cm9 h.2.2.2.1))
  (Jc (Bc (by decide) (Bc (by decide) (Br (Fk3 h.2.2.2.2.1) (Bc (by decide) (Bc (by decide) (Cm9 h.2.2.2.1)))))) (Jc (Bc (by decide) (Cm9 h.2.2.2.1))
  (Jc (Br (Jc (Bc (by decide) Eu) Eu) (Bc (by decide) Eu)) (Jc (Bc (by decide) (Bc (by decide) Eu)) (Gp9 h)))))))
end
theorem Eo0:Oy 1048576 Ed:=⟨Jt,Cj,Cj,Rb,Ln,Ep,⟨by decide,by decide,by decide⟩,Ep⟩
theorem Fk5:Du Ed=false:=by simp [Du,Ed]
theorem Fk6:Fh Rt=false:=by
 have h:Ci ex0=false:=Dn8 Ys;rw[Fh];simp [Rt,Ys,Ib,h]
section
variable {G:Nat->DVal}
theorem Fk7 {t:Typ} (h:Du t=true):(Ie t 0).length<=(Jz t).length:=by
 have key: ∀ls:List Lin,(∀x∈ls,x.l≠ [])->ls.length<=(Ig ls).length:=fun ls hl=>by
  induction ls with
  | nil=>simp
  | cons x ls ih=>
   have h1:=ih fun y C=>hl y (List.mem_cons_of_mem _ C);have h2:=List.length_pos_iff.2 (hl x (by simp));rw[Ra,jC,jA];omega
 rw[<-Bt7 h 0];refine key _ fun x hx=> ?_;have hc: ∀(cs:List Cmp) (d:Int),∀y∈Pr cs d,y.l≠ []:=fun cs d y C=>by
  rw[Pr] at C;split at C
  ·rw[List.mem_singleton.1 C];simp
  ·obtain⟨c,_,rfl⟩:=List.mem_map.1 C;simp [Uj]
 rw[Ie] at hx
 repeat' split at hx
 all_goals first | (rw[List.mem_singleton.1 hx];simp;done) | skip
 rw[Bs1] at hx;simp only[List.mem_cons,List.mem_append,List.not_mem_nil,or_false] at hx;rcases hx with rfl | hx | hx | rfl
 ·simp
 ·split at hx
  ·cases hx
  ·exact hc _ _ _ hx
 ·split at hx
  ·cases hx
  ·simp only[List.mem_cons,List.mem_append,List.not_mem_nil,or_false,List.mem_flatMap] at hx;rcases hx with rfl | ⟨a,_,ha⟩ | rfl
   ·simp
   ·rw[Ac9] at ha;rcases List.mem_cons.1 ha with rfl | ha
    ·simp
    ·exact hc _ _ _ ha
   ·simp
 ·simp
set_option maxHeartbeats 40000000 in
theorem Bv7 (hG:GX G) (H:Ac) (l:List Tok) (hT:Cg l):Ag Tryz.prog G 4 [Bl l] H (Ax (.bool true) H):=by
 have aw:=fun K=>Dc0 hG K;refine Ab Tryz.func4 Tryz.call4 rfl (by kernel_rfl) ?_;by_cases c4:l.length>400
 ·have ad:(400:Int)<(l.length:Int):=by omega
  simp(disch:=omega)only[go_sem,Bl,ad];refine Ag.monoR (aw _) ?_;simp(disch:=omega)only[go_sem];exact Fa.refl ⟨rfl,rfl⟩
 have ad: ¬(400:Int)<(l.length:Int):=by omega
 have ae:Cg []:=Bt0 Eu;apply Gn6 (q:=fun(T:DK) (V:DExit->DS->Prop)=>Hid (∀E X,Sub H X->E 0= .vslice (l.flatMap Cq) l.length->Ag Tryz.prog G 26 [.vslice (l.flatMap Cq) l.length] X (Av9 (some 92) T V E)))
 case a=>
  intro tail;have M:=fun K=>Yt hG K (by omega) hT;have A1:=(Fi2 (l:=l) (Js.typ (Nat.zero_le _))).two;have C:=Sub.refl H;rcases A1 with⟨n1,e1,g1,a6,ap⟩ | ⟨t,u,k1,g1,ay,aa,a0,af,aq⟩
  ·have D:=fun K=>Sf hG K Ed 0 Eo0;have I:=fun K=>Ce2 G K [] (by simp) (by simp [Ig]);have O:=fun K=>Yt hG K (l:= []) (by simp) ae;have S:=fun K=>Um G K n1 l.length e1 ap;have t6:=True.intro;simp only[Ce1,Fk5,↓reduceIte,Bool.false_eq_true] at D;rw[show Ig []= [] from rfl] at I;rw[g1] at M;clear ap g1;simp only[Bl,Kh,List.flatMap_nil,jB] at M D I O S;simp(disch:=omega)only[go_sem,Bl,ad]
   repeat' first
    | (apply tail.h;exact C.trans (by repeat (first | assumption | exact Sub.refl _ | refine Sub.new ?_ (by assumption) _));first | rfl | simp(disch:=omega)only[go_sem])
    | (with_reducible refine Ag.monoR (M _) ?_)
    | (with_reducible refine Ag.monoR (D _) ?_)
    | (with_reducible refine Ag.monoR (I _) ?_)
    | (with_reducible refine Ag.monoR (O _) ?_)
    | (with_reducible refine Ag.monoR (S _) ?_)
    | (with_reducible refine Ag.monoR (t6 _) ?_)
    | (with_reducible refine Ag.monoR (U _) ?_)
    | (with_reducible refine Ag.monoR (J _) ?_)
    | (with_reducible refine Ag.monoR (W _) ?_)
    | (with_reducible refine Ag.monoR (Y _) ?_)
    | (with_reducible refine Ag.monoR (p6 _) ?_)
    | (with_reducible refine Ag.monoR (Z _) ?_)
    | (with_reducible refine Ag.monoR (L _) ?_)
    | (with_reducible refine Ag.monoR (d4 _) ?_)
    | (with_reducible refine Ag.monoR (d5 _) ?_)
    | (with_reducible refine Ag.monoR (d6 _) ?_)
    | (with_reducible refine Ag.monoR (aw _) ?_)
    | ((with_reducible show Fz _ _ _ _ _);intro q hq;dsimp only at hq;have ab:=hq;(try simp only[Ba] at hq);(repeat (have ac:=hq.1;have hq:=hq.2)))
    | simp(disch:=omega)only[go_sem, *,Kh,Bl,List.flatMap_nil,jB,Bt,Au,Ht,Hg,jH,jL]
    | ((with_reducible show Fa _ _ _);exact Fa.sub (C.trans (by repeat (first | assumption | exact Sub.refl _ | refine Sub.new ?_ (by assumption) _))) (.refl ⟨rfl,rfl⟩))
    | fail
  ·have ft:Oy 1048576 t:=by obtain⟨k,hk⟩:=Yw g1;exact Bh7 hT (by omega) (Nat.zero_le _) t k hk
   have ag:=Bt0 (Gq0 ft);have fu:Oy 1048576 u:=by obtain⟨k,hk⟩:=Yw af;exact Bh7 ag (by omega) (Nat.zero_le _) u k hk
   have a1:=Fk7 aa;have D:=fun K=>Sf hG K t 0 ft;have I:=fun K=>Ce2 G K (Ie t 0) (by omega) (by rw[Bt7 aa];omega);have O:=fun K=>Yt hG K (l:=Jz t) (by omega) ag;have S:=fun K=>Ad1 hG K t ft;have t6:=fun K=>Cm8 G K t u ft fu;simp only[Ce1,aa,↓reduceIte] at D;rw[Bt7 aa] at I;rw[g1] at M;rw[af] at O;rw[aa] at S;rw[aq] at t6;have q1: ¬(k1:Int)<((Jz t).length:Int):=by omega
   have q2: ¬(l.length:Int)<(k1:Int):=by omega
   clear aa g1 af aq ft fu ag a1 a0 ay;simp only[Bl,Kh] at M D I O S t6;simp(disch:=omega)only[go_sem,Bl,ad]
   repeat' first
    | (apply tail.h;exact C.trans (by repeat (first | assumption | exact Sub.refl _ | refine Sub.new ?_ (by assumption) _));first | rfl | simp(disch:=omega)only[go_sem])
    | (with_reducible refine Ag.monoR (M _) ?_)
    | (with_reducible refine Ag.monoR (D _) ?_)
    | (with_reducible refine Ag.monoR (I _) ?_)
    | (with_reducible refine Ag.monoR (O _) ?_)
    | (with_reducible refine Ag.monoR (S _) ?_)
    | (with_reducible refine Ag.monoR (t6 _) ?_)
    | (with_reducible refine Ag.monoR (U _) ?_)
    | (with_reducible refine Ag.monoR (J _) ?_)
    | (with_reducible refine Ag.monoR (W _) ?_)
    | (with_reducible refine Ag.monoR (Y _) ?_)
    | (with_reducible refine Ag.monoR (p6 _) ?_)
    | (with_reducible refine Ag.monoR (Z _) ?_)
    | (with_reducible refine Ag.monoR (L _) ?_)
    | (with_reducible refine Ag.monoR (d4 _) ?_)
    | (with_reducible refine Ag.monoR (d5 _) ?_)
    | (with_reducible refine Ag.monoR (d6 _) ?_)
    | (with_reducible refine Ag.monoR (aw _) ?_)
    | ((with_reducible show Fz _ _ _ _ _);intro q hq;dsimp only at hq;have ab:=hq;(try simp only[Ba] at hq);(repeat (have ac:=hq.1;have hq:=hq.2)))
    | simp(disch:=omega)only[go_sem, *,Kh,Bl,List.flatMap_nil,jB,Bt,Au,Ht,Hg,jH,jL]
    | ((with_reducible show Fa _ _ _);exact Fa.sub (C.trans (by repeat (first | assumption | exact Sub.refl _ | refine Sub.new ?_ (by assumption) _))) (.refl ⟨rfl,rfl⟩))
    | fail
 case b=>
  refine⟨fun E X C z0=> ?_⟩;apply Gn6 (q:=fun(T:DK) (V:DExit->DS->Prop)=>Hid (∀E X,Sub H X->E 0= .vslice (l.flatMap Cq) l.length->Ag Tryz.prog G 30 [.vslice (l.flatMap Cq) l.length] X (Av9 (some 160) T V E)))
  case a=>
   intro tail;have U:=fun K=>Sw hG K (by omega) hT;have A2:=(En1 (l:=l) (Js.pars (Nat.zero_le _))).two;rcases A2 with⟨n2,e2,g2,a7,ar⟩ | ⟨p,y2,k2,g2,a2,ah,a3,ai,au⟩
   ·have J:=fun K=>Px hG K [] Ep;have W:=fun K=>Sw hG K (l:= []) (by simp) ae;have Y:=fun K=>Um G K n2 l.length e2 ar;have p6:=True.intro;rw[show Au9 []=([],0) from rfl] at J;rw[g2] at U;clear ar g2;simp only[Bl,Kh,List.flatMap_nil,jB] at U J W Y
    repeat' first
     | (apply tail.h;exact C.trans (by repeat (first | assumption | exact Sub.refl _ | refine Sub.new ?_ (by assumption) _));first | rfl | simp(disch:=omega)only[go_sem])
     | (with_reducible refine Ag.monoR (M _) ?_)
     | (with_reducible refine Ag.monoR (D _) ?_)
     | (with_reducible refine Ag.monoR (I _) ?_)
     | (with_reducible refine Ag.monoR (O _) ?_)
     | (with_reducible refine Ag.monoR (S _) ?_)
     | (with_reducible refine Ag.monoR (t6 _) ?_)
     | (with_reducible refine Ag.monoR (U _) ?_)
     | (with_reducible refine Ag.monoR (J _) ?_)
     | (with_reducible refine Ag.monoR (W _) ?_)
     | (with_reducible refine Ag.monoR (Y _) ?_)
     | (with_reducible refine Ag.monoR (p6 _) ?_)
     | (with_reducible refine Ag.monoR (Z _) ?_)
     | (with_reducible refine Ag.monoR (L _) ?_)
     | (with_reducible refine Ag.monoR (d4 _) ?_)
     | (with_reducible refine Ag.monoR (d5 _) ?_)
     | (with_reducible refine Ag.monoR (d6 _) ?_)
     | (with_reducible refine Ag.monoR (aw _) ?_)
     | ((with_reducible show Fz _ _ _ _ _);intro q hq;dsimp only at hq;have ab:=hq;(try simp only[Ba] at hq);(repeat (have ac:=hq.1;have hq:=hq.2)))
     | simp(disch:=omega)only[go_sem, *,Kh,Bl,List.flatMap_nil,jB,Bt,Au,Ht,Hg,jH,jL]
     | ((with_reducible show Fa _ _ _);exact Fa.sub (C.trans (by repeat (first | assumption | exact Sub.refl _ | refine Sub.new ?_ (by assumption) _))) (.refl ⟨rfl,rfl⟩))
     | fail
   ·have fp:Ks Si 1048576 p:=by obtain⟨k,hk⟩:=Yw g2;exact Au2 hT (by omega) (Nat.zero_le _) p k hk
    have aj:=Bt0 (Gb1 fp);have fy:Ks Si 1048576 y2:=by obtain⟨k,hk⟩:=Yw ai;exact Au2 aj (by omega) (Nat.zero_le _) y2 k hk
    have J:=fun K=>Px hG K p fp;have W:=fun K=>Sw hG K (l:=Mo p) (by omega) aj;have Y:=fun K=>Ps hG K p fp;have p6:=fun K=>Zh G K p y2 fp fy;simp only[Au9,ah,↓reduceIte] at J;rw[g2] at U;rw[ai] at W;rw[ah] at Y;rw[au] at p6;have q3: ¬(k2:Int)<((Mo p).length:Int):=by omega
    have q4: ¬(l.length:Int)<(k2:Int):=by omega
    clear ah g2 ai au fp fy aj a3 a2;simp only[Bl,Kh] at U J W Y p6
    repeat' first
     | (apply tail.h;exact C.trans (by repeat (first | assumption | exact Sub.refl _ | refine Sub.new ?_ (by assumption) _));first | rfl | simp(disch:=omega)only[go_sem])
     | (with_reducible refine Ag.monoR (M _) ?_)
     | (with_reducible refine Ag.monoR (D _) ?_)
     | (with_reducible refine Ag.monoR (I _) ?_)
     | (with_reducible refine Ag.monoR (O _) ?_)
     | (with_reducible refine Ag.monoR (S _) ?_)
     | (with_reducible refine Ag.monoR (t6 _) ?_)
     | (with_reducible refine Ag.monoR (U _) ?_)
     | (with_reducible refine Ag.monoR (J _) ?_)
     | (with_reducible refine Ag.monoR (W _) ?_)
     | (with_reducible refine Ag.monoR (Y _) ?_)
     | (with_reducible refine Ag.monoR (p6 _) ?_)
     | (with_reducible refine Ag.monoR (Z _) ?_)
     | (with_reducible refine Ag.monoR (L _) ?_)
     | (with_reducible refine Ag.monoR (d4 _) ?_)
     | (with_reducible refine Ag.monoR (d5 _) ?_)
     | (with_reducible refine Ag.monoR (d6 _) ?_)
     | (with_reducible refine Ag.monoR (aw _) ?_)
     | ((with_reducible show Fz _ _ _ _ _);intro q hq;dsimp only at hq;have ab:=hq;(try simp only[Ba] at hq);(repeat (have ac:=hq.1;have hq:=hq.2)))
     | simp(disch:=omega)only[go_sem, *,Kh,Bl,List.flatMap_nil,jB,Bt,Au,Ht,Hg,jH,jL]
     | ((with_reducible show Fa _ _ _);exact Fa.sub (C.trans (by repeat (first | assumption | exact Sub.refl _ | refine Sub.new ?_ (by assumption) _))) (.refl ⟨rfl,rfl⟩))
     | fail
  case b=>
   refine⟨fun E X C z0=> ?_⟩;have Z:=fun K=>Ul hG K (by omega) hT;have A3:=(Fi3 (l:=l) (Js.dis (Nat.zero_le _))).two;rcases A3 with⟨n3,e3,g3,a8,av⟩ | ⟨d,y3,k3,g3,a4,ak,a5,al,am⟩
   ·have L:=fun K=>Xf hG K Rt Ln;have d4:=fun K=>Ul hG K (l:= []) (by simp) ae;have d5:=fun K=>Um G K n3 l.length e3 av;have d6:=True.intro;simp only[Db7,Fk6,↓reduceIte,Bool.false_eq_true] at L;rw[g3] at Z;clear av g3;simp only[Bl,Kh,List.flatMap_nil,jB] at Z L d4 d5
    repeat' first
     | (apply tail.h;exact C.trans (by repeat (first | assumption | exact Sub.refl _ | refine Sub.new ?_ (by assumption) _));first | rfl | simp(disch:=omega)only[go_sem])
     | (with_reducible refine Ag.monoR (M _) ?_)
     | (with_reducible refine Ag.monoR (D _) ?_)
     | (with_reducible refine Ag.monoR (I _) ?_)
     | (with_reducible refine Ag.monoR (O _) ?_)
     | (with_reducible refine Ag.monoR (S _) ?_)
     | (with_reducible refine Ag.monoR (t6 _) ?_)
     | (with_reducible refine Ag.monoR (U _) ?_)
     | (with_reducible refine Ag.monoR (J _) ?_)
     | (with_reducible refine Ag.monoR (W _) ?_)
     | (with_reducible refine Ag.monoR (Y _) ?_)
     | (with_reducible refine Ag.monoR (p6 _) ?_)
     | (with_reducible refine Ag.monoR (Z _) ?_)
     | (with_reducible refine Ag.monoR (L _) ?_)
     | (with_reducible refine Ag.monoR (d4 _) ?_)
     | (with_reducible refine Ag.monoR (d5 _) ?_)
     | (with_reducible refine Ag.monoR (d6 _) ?_)
     | (with_reducible refine Ag.monoR (aw _) ?_)
     | ((with_reducible show Fz _ _ _ _ _);intro q hq;dsimp only at hq;have ab:=hq;(try simp only[Ba] at hq);(repeat (have ac:=hq.1;have hq:=hq.2)))
     | simp(disch:=omega)only[go_sem, *,Kh,Bl,List.flatMap_nil,jB,Bt,Au,Ht,Hg,jH,jL]
     | ((with_reducible show Fa _ _ _);exact Fa.sub (C.trans (by repeat (first | assumption | exact Sub.refl _ | refine Sub.new ?_ (by assumption) _))) (.refl ⟨rfl,rfl⟩))
     | fail
   ·have fd:Ai2 1048576 d:=by obtain⟨k,hk⟩:=Yw g3;exact Au1 hT (by omega) d k hk
    have ao:=Bt0 (Fk3 fd);have ax:Ai2 1048576 y3:=by obtain⟨k,hk⟩:=Yw al;exact Au1 ao (by omega) y3 k hk
    have L:=fun K=>Xf hG K d fd;have d4:=fun K=>Ul hG K (l:=Lp d) (by omega) ao;have d5:=fun K=>Vq hG K d fd;have d6:=fun K=>Yn G K y3 d ax;simp only[Db7,ak,↓reduceIte] at L;rw[g3] at Z;rw[al] at d4;rw[ak] at d5
    (try dsimp only at am)
    rw[am] at d6;have q5:((Lp d).length:Int)<=(k3:Int):=by omega
    have q6:(k3:Int)<=(l.length:Int):=by omega
    clear ak g3 al am fd ax ao a5 a4;simp only[Bl,Kh] at Z L d4 d5 d6
    repeat' first
     | (apply tail.h;exact C.trans (by repeat (first | assumption | exact Sub.refl _ | refine Sub.new ?_ (by assumption) _));first | rfl | simp(disch:=omega)only[go_sem])
     | (with_reducible refine Ag.monoR (M _) ?_)
     | (with_reducible refine Ag.monoR (D _) ?_)
     | (with_reducible refine Ag.monoR (I _) ?_)
     | (with_reducible refine Ag.monoR (O _) ?_)
     | (with_reducible refine Ag.monoR (S _) ?_)
     | (with_reducible refine Ag.monoR (t6 _) ?_)
     | (with_reducible refine Ag.monoR (U _) ?_)
     | (with_reducible refine Ag.monoR (J _) ?_)
     | (with_reducible refine Ag.monoR (W _) ?_)
     | (with_reducible refine Ag.monoR (Y _) ?_)
     | (with_reducible refine Ag.monoR (p6 _) ?_)
     | (with_reducible refine Ag.monoR (Z _) ?_)
     | (with_reducible refine Ag.monoR (L _) ?_)
     | (with_reducible refine Ag.monoR (d4 _) ?_)
     | (with_reducible refine Ag.monoR (d5 _) ?_)
     | (with_reducible refine Ag.monoR (d6 _) ?_)
     | (with_reducible refine Ag.monoR (aw _) ?_)
     | ((with_reducible show Fz _ _ _ _ _);intro q hq;dsimp only at hq;have ab:=hq;(try simp only[Ba] at hq);(repeat (have ac:=hq.1;have hq:=hq.2)))
     | simp(disch:=omega)only[go_sem, *,Kh,Bl,List.flatMap_nil,jB,Bt,Au,Ht,Hg,jH,jL]
     | ((with_reducible show Fa _ _ _);exact Fa.sub (C.trans (by repeat (first | assumption | exact Sub.refl _ | refine Sub.new ?_ (by assumption) _))) (.refl ⟨rfl,rfl⟩))
     | fail
end
end Go.Dl
-- R1
namespace Go.Dl
open Go
section
variable {H:Type} {enc:TypeId×Value->H} {P:Program} {w w':World}
def An0 (w w':World):Prop:= ∀b,b<w.heap.size->w'.heap[b]? =w.heap[b]?
theorem An0.cell (h:An0 w w') {a:Addr} {x:Value} (C:w.cell? a=some x):w'.cell? a=some x:=by
 have D:a.block<w.heap.size:=by
  unfold World.cell? at C;rcases Nat.lt_or_ge a.block w.heap.size with hl | hl
  ·exact hl
  ·simp [Array.getElem?_eq_none hl] at C
 unfold World.cell? at C⊢
 rw[h _ D];exact C
theorem Rf {α β:Type} {f g:α->Option β}: ∀ {l:List α} {r:List β},l.mapM f=some r->(∀x∈l,∀y,f x=some y->y∈r->g x=some y)->l.mapM g=some r
 | [],r,h,_=>by simpa using h
 | x::l,r,h,hg=>by
  rw[List.mapM_cons] at h⊢
  simp only[Option.bind_eq_bind,Option.bind_eq_some_iff,Option.pure_def,Option.some.injEq] at h⊢
  obtain⟨y,C,ys,hys,rfl⟩:=h;exact⟨y,hg x (by simp) y C (by simp),ys,Rf hys (fun z hz u hu hm=>hg z (by simp [hz]) u hu (by simp [hm])),rfl⟩
theorem An0.cells (h:An0 w w') {base:Nat} {a:Addr} {n:Nat} {cs:List Value} (C:w.cells? base a n=some cs):w'.cells? base a n=some cs:=by
 unfold World.cells? at C⊢
 split at C
 ·rename_i hb;rw[if_pos hb];exact Rf C fun i _ y D _=>h.cell D
 ·cases C
structure Closed (P:Program) (T:TypeId->Prop):Prop where
 ptr: ∀t e,T t->P.underlying t=some (.pointer e)->T e
 slice: ∀t e,T t->P.underlying t=some (.slice e)->0<P.cellsOf e/\T e
 struct: ∀t fs,T t->P.underlying t=some (.struct fs)-> ∀f∈fs.toList,T f.type
 array: ∀t n e,T t->P.underlying t=some (.array n e)->T e
 iface: ∀t m,T t->P.underlying t≠some (.interface m)
 map: ∀t k e,T t->P.underlying t=some (.map k e)->T e
def Dy2 (P:Program) (ts:List TypeId):Bool:=ts.all fun t=>match P.underlying t with
 | some (.pointer e)=>ts.contains e
 | some (.slice e)=>decide (0<P.cellsOf e)&&ts.contains e
 | some (.struct fs)=>fs.toList.all fun f=>ts.contains f.type
 | some (.array _ e)=>ts.contains e
 | some (.interface _)=>false
 | some (.map _ e)=>ts.contains e
 | _=>true
theorem Eo1 {P:Program} {ts:List TypeId} (h:Dy2 P ts=true):Closed P (· ∈ts):=by
 unfold Dy2 at h;rw[List.all_eq_true] at h;refine⟨fun t e ht hu=> ?_,fun t e ht hu=> ?_,fun t fs ht hu=> ?_,fun t n e ht hu=> ?_,fun t m ht hu=> ?_,fun t k e ht hu=> ?_⟩;all_goals have h1:=h t ht;rw[hu] at h1
 ·simpa using h1
 ·simpa using h1
 ·intro f hf;simpa using List.all_eq_true.1 h1 f hf
 ·simpa using h1
 ·cases h1
 ·simpa using h1
theorem Ce3 (h:An0 w w') {T:TypeId->Prop} (E:Closed P T) {base:Nat} {J:Nat->Bool} {held:Bool}:
  ∀(Dx:Nat) (t:TypeId) (cs:List Value) (d:DataW H) (L:List MemPlace),T t->DataW.trod enc P w base (fun _=>true) held Dx t cs=some (d,L)->(∀p∈L,J p.block=true)->
   DataW.trod enc P w' base J held Dx t cs=some (d,L)
 | 0,_,_,_,_,_,hh,_=>by simp [DataW.trod] at hh
 | Dx+1,t,cs,d,L,ht,hh,hp=>by
  have ih:= @Ce3 h T E base J held Dx;unfold DataW.trod at hh⊢
  split at hh<;>(try (first | exact hh | (simp at hh;done)))
  ·-- pointer
   rename_i e a hu
   simp only[Option.map_eq_some_iff,Option.bind_eq_some_iff,Prod.mk.injEq] at hh⊢
   obtain⟨x,⟨c,hc,hx⟩,rfl,rfl⟩:=hh;exact⟨x,⟨c,h.cells hc,ih _ _ x.1 x.2 (E.ptr _ _ ht hu) hx fun p D=>hp p (by simp [D])⟩,rfl,rfl⟩
  ·-- slice
   rename_i e a len cap hu
   dsimp only at hh⊢
   split at hh
   ·rename_i hc
    rw[if_pos hc];simp only[Option.bind_eq_some_iff,Option.map_eq_some_iff,if_true,Prod.mk.injEq] at hh⊢
    obtain⟨O,he,rest,hr,rfl,rfl⟩:=hh;have hp1: ∀y∈O,∀p∈y.2,J p.block=true:=fun y C p D=>hp p (by
     simp only[List.mem_append,List.mem_flatMap];exact .inr ⟨y, .inl C,D⟩)
    have hp2: ∀y∈rest,∀p∈y.2,J p.block=true:=fun y C p D=>hp p (by
     simp only[List.mem_append,List.mem_flatMap];exact .inr ⟨y, .inr C,D⟩)
    refine⟨O,Rf he (fun i _ y C I=> ?_),rest, ?_,rfl,rfl⟩
    ·simp only[Option.bind_eq_some_iff] at C⊢
     obtain⟨c,M,hc2⟩:=C;exact⟨c,h.cells M,ih _ _ y.1 y.2 (E.slice _ _ ht hu).2 hc2 (hp1 y I)⟩
    ·have S:(List.range (cap-len)).mapM (fun j=>(w'.cells? base (a.add ((len+j)*P.cellsOf e)) (P.cellsOf e)).bind (DataW.trod enc P w' base J held Dx e))=some rest:=by
      refine Rf hr (fun i _ y C I=> ?_);simp only[Option.bind_eq_some_iff] at C⊢
      obtain⟨c,M,hc2⟩:=C;exact⟨c,h.cells M,ih _ _ y.1 y.2 (E.slice _ _ ht hu).2 hc2 (hp2 y I)⟩
     by_cases hsp:J a.block=true
     ·rw[if_pos hsp];exact S
     ·rw[if_neg hsp];have U:=(E.slice t e ht hu).1;have V:rest.length=0:=by
       rcases Nat.eq_zero_or_pos rest.length with h0 | h0
       ·exact h0
       ·exfalso;refine hsp (hp (.cell a.block a.off) ?_);refine List.mem_append_left _ ?_;unfold MemPlace.row;refine List.mem_map.2 ⟨0,List.mem_range.2 (Nat.mul_pos (by omega) U),by simp⟩
      rw[List.eq_nil_of_length_eq_zero V]
   ·cases hh
  ·-- struct
   rename_i fs hu
   split at hh
   ·rename_i hl
    rw[if_pos hl];simp only[Option.map_eq_some_iff,Prod.mk.injEq] at hh⊢
    obtain⟨xs,hx,rfl,rfl⟩:=hh;exact⟨xs,Rf hx (fun f hf y C I=>ih _ _ y.1 y.2 (E.struct _ _ ht hu f hf) C fun p D=>hp p (List.mem_flatMap.2 ⟨y,I,D⟩)),rfl,rfl⟩
   ·cases hh
  ·-- array
   rename_i hu
   split at hh
   ·rename_i hl
    rw[if_pos hl];simp only[Option.map_eq_some_iff,Prod.mk.injEq] at hh⊢
    obtain⟨xs,hx,rfl,rfl⟩:=hh;exact⟨xs,Rf hx (fun f hf y C I=>ih _ _ y.1 y.2 (E.array _ _ _ ht hu) C fun p D=>hp p (List.mem_flatMap.2 ⟨y,I,D⟩)),rfl,rfl⟩
   ·cases hh
  ·-- interface
   rename_i hu
   exact(E.iface _ _ ht hu).elim
  ·-- map
   rename_i k e b hu
   split at hh
   ·rename_i es Z hb
    have W:b<w.heap.size:=(Array.getElem?_eq_some_iff.1 hb).1;rw[h b W,hb];dsimp only at hh⊢
    split at hh
    ·rename_i hc
     rw[if_pos hc];simp only[Option.bind_eq_some_iff] at hh⊢
     obtain⟨entries,he,hr⟩:=hh;split at hr
     ·rename_i X
      simp only[Option.some.injEq,Prod.mk.injEq] at hr;obtain⟨rfl,rfl⟩:=hr;refine⟨entries,Rf he (fun x _ y C I=> ?_),by rw[if_pos X]⟩;simp only[Option.bind_eq_some_iff] at C⊢
      obtain⟨key,hk,C⟩:=C;refine⟨key,hk, ?_⟩;split at C
      ·rename_i hf
       rw[if_pos hf];simp only[Option.map_eq_some_iff] at C⊢
       obtain⟨z,Y,rfl⟩:=C;exact⟨z,ih _ _ z.1 z.2 (E.map _ _ _ ht hu) Y fun p D=>hp p (by
        simp only[List.mem_cons,List.mem_flatMap];exact .inr ⟨_,I,D⟩),rfl⟩
      ·cases C
     ·cases hr
    ·cases hh
   ·cases hh
theorem Trod.keep (h:An0 w w') {T:TypeId->Prop} (E:Closed P T) {base:Nat} {D:Nat->Bool} {held:Bool} {t:TypeId} {v:Value} {d:DataW H} {C:List MemPlace}
  (I:T t) (hh:DataW.Trod enc P w base (fun _=>true) held t v d C) (hp: ∀p∈C,D p.block=true):DataW.Trod enc P w' base D held t v d C:=by
 obtain⟨Dx,hh⟩:=hh;exact⟨Dx,Ce3 h E Dx _ _ _ _ I hh hp⟩
theorem TrodAll.keep (h:An0 w w') {T:TypeId->Prop} (E:Closed P T) {base:Nat} {I:Nat->Bool} {held:Bool}:
  ∀ {ts:List TypeId} {vs:List Value} {C:List (DataW H)} {D:List MemPlace},(∀t∈ts,T t)->DataW.TrodAll enc P w base (fun _=>true) held ts vs C D->(∀p∈D,I p.block=true)->DataW.TrodAll enc P w' base I held ts vs C D
 | [],[],[],_,_,hh,_=>hh
 | [],[],_::_,_,_,hh,_=>hh.elim
 | [],_::_,_,_,_,hh,_=>hh.elim
 | _::_,[],_,_,_,hh,_=>hh.elim
 | _::_,_::_,[],_,_,hh,_=>hh.elim
 | t::ts,v::vs,d::C,_,ht,⟨p,q,h1,h2,rfl⟩,hp=>
  ⟨p,q,Trod.keep h E (ht t (by simp)) h1 (fun x hx=>hp x (by simp [hx])),TrodAll.keep h E (fun u hu=>ht u (by simp [hu])) h2 (fun x hx=>hp x (by simp [hx])),rfl⟩
end
end Go.Dl
-- R2
namespace Go.Dl
open Go Go.RowKit Go.Deep
def Ae3 (P:Program) (H:Type) (w:World) (t:TypeId) (α:Type) (f:α->List DVal) (g:α->DataW H->Prop):Prop:=
 ∀(enc:TypeId×Value->H) base sp held Dx cs d ps,DataW.trod enc P w base sp held Dx t cs=some (d,ps)-> ∃x,g x d/\Az w (fun _=>none) (f x) cs
section
variable {P:Program} {H:Type} {w:World}
theorem Ce4 {a:Addr} {x:Value} (h:w.cell? a=some x):a.spot=none:=by
 unfold World.cell? at h;split at h
 ·split at h
  ·cases h
  ·rename_i hs;simpa using hs
 ·cases h
theorem Ae4 {α β:Type} {f:α->Option β}: ∀ {l:List α} {r:List β},l.mapM f=some r->r.length=l.length/\ ∀(i:Nat) (x:α),l[i]? =some x-> ∃y,r[i]? =some y/\f x=some y
 | [],r,h=>by simp at h;subst h;simp
 | x::l,r,h=>by
  rw[List.mapM_cons] at h;simp only[Option.bind_eq_bind,Option.bind_eq_some_iff,Option.pure_def,Option.some.injEq] at h;obtain⟨y,C,ys,hys,rfl⟩:=h;obtain⟨h1,h2⟩:=Ae4 hys;refine⟨by simp [h1],fun i z hz=> ?_⟩;cases i with
  | zero=>simp at hz;subst hz;exact⟨y,rfl,C⟩
  | succ i=>simp at hz;obtain⟨u,hu,hf⟩:=h2 i z hz;exact⟨u,by simpa using hu,hf⟩
theorem Dc1 {base:Nat} {a:Addr} {n:Nat} {cs:List Value} (h:w.cells? base a n=some cs):cs.length=n/\Nr w a.block a.off cs:=by
 unfold World.cells? at h;split at h
 ·obtain⟨h1,h2⟩:=Ae4 h;rw[List.length_range] at h1;refine⟨h1,fun i x hx=> ?_⟩;have hi:i<n:=by
   have:=(List.getElem?_eq_some_iff.1 hx).1;omega
  obtain⟨y,C,hc⟩:=h2 i i (by simp [hi]);rw[hx] at C;cases C;by_cases h0:i=0
  ·subst h0;have:a.add 0=a:=rfl;rw[this] at hc;have hs:=Ce4 hc;have:(⟨a.block,a.off+0,none⟩:Addr)=a:=by cases a;simp at hs⊢;exact hs.symm
   rw[this];exact hc
  ·have:a.add i=⟨a.block,a.off+i,none⟩:=by simp [Addr.add,h0]
   rw[<-this];exact hc
 ·cases h
theorem Nr.append {b off:Nat} {xs C:List Value} (h:Nr w b off xs) (k:Nr w b (off+xs.length) C):Nr w b off (xs++C):=by
 intro i x hx;by_cases hi:i<xs.length
 ·rw[List.getElem?_append_left hi] at hx;exact h i x hx
 ·rw[List.getElem?_append_right (by omega)] at hx;have:=k (i-xs.length) x hx;rw[show off+xs.length+(i-xs.length)=off+i by omega] at this;exact this
theorem Bb0 {t:TypeId} {k:IntKind} (C:P.underlying t=some (.int k)):Ae3 P H w t Int (fun n=> [.int k n]) (fun n d=>(Lit.int k n).wf=true/\d= .lit (.int k n)):=by
 intro enc base D held Dx cs d ps h;cases Dx with
 | zero=>simp [DataW.trod] at h
 | succ Dx=>
  unfold DataW.trod at h;rw[C] at h;split at h<;>simp_all;obtain⟨⟨rfl,hw⟩,rfl,rfl⟩:=h;exact⟨_,⟨hw,rfl⟩,by simp [Az,Rel]⟩
theorem Cn1 {t:TypeId} (C:P.underlying t=some .string):Ae3 P H w t (List UInt8) (fun s=> [.str s]) (fun s d=>s.length<=maxLen/\d= .lit (.string s)):=by
 intro enc base D held Dx cs d ps h;cases Dx with
 | zero=>simp [DataW.trod] at h
 | succ Dx=>
  unfold DataW.trod at h;rw[C] at h;split at h<;>simp_all
  rename_i s
  obtain⟨hl,rfl,rfl⟩:=h;exact⟨s.data.toList,⟨by simpa using hl,rfl⟩,by simp [Az,Rel]⟩
def Cn2 {α:Type} (g:α->DataW H->Prop):List α->List (DataW H)->Prop
 | [],[]=>True
 | x::xs,d::ds=>g x d/\Cn2 g xs ds
 | _,_=>False
theorem Cn2.append {α:Type} {g:α->DataW H->Prop}: ∀ {xs C:List α} {D es:List (DataW H)},Cn2 g xs D->Cn2 g C es->Cn2 g (xs++C) (D++es)
 | [],_,[],_,_,k=>k
 | [],_,_::_,_,h,_=>h.elim
 | _::_,_,[],_,h,_=>h.elim
 | x::xs,C,d::D,es,h,k=>⟨h.1,Cn2.append h.2 k⟩
theorem Dc2 {t e:TypeId} {α:Type} {f:α->List DVal} {g:α->DataW H->Prop} (ht:P.underlying t=some (.slice e)) (he:Ae3 P H w e α f g):
  Ae3 P H w t (List α) (fun xs=> [.vslice (xs.flatMap f) xs.length]) (fun xs d=>(d= .nil/\xs= [])\/ ∃es sp,d= .slice es sp/\xs.length<=maxLen/\Cn2 g xs es):=by
 intro enc base sp held Dx cs d ps h;rcases open_slice ht h with⟨rfl,hx⟩ | ⟨a,len,cap,m,n,D,Pl,rfl,hb,hl,hm,hmm,hx,hall⟩
 ·cases hx;exact⟨[], .inl ⟨rfl,rfl⟩,by simp [Az,Rel]⟩
 ·have hlm:len<=m:=by rw[hmm];split<;>omega
  simp only[Prod.mk.injEq] at hx;obtain⟨rfl,rfl⟩:=hx;have key: ∀k,k<=len-> ∃(xs:List α) (ys:List Value),xs.length=k/\Cn2 g xs ((List.range k).map D)/\ys.length=k*P.cellsOf e/\Nr w a.block a.off ys/\Az w (fun _=>none) (xs.flatMap f) ys:=by
   intro k
   induction k with
   | zero=>intro _;exact⟨[],[],rfl,trivial,by simp,fun i x hx=>by simp at hx,by simp [Az]⟩
   | succ k ih=>
    intro hk;obtain⟨xs,ys,h1,h2,h3,h4,h5⟩:=ih (by omega);obtain⟨cs',g1,g2⟩:=hall k (by omega);obtain⟨x,hg,hr⟩:=he _ _ _ _ _ _ _ _ g2;obtain⟨c1,c2⟩:=Dc1 g1;refine⟨xs++ [x],ys++cs',by simp [h1], ?_,by simp only[jC,h3,c1,Nat.succ_mul],h4.append ?_, ?_⟩
    ·rw[List.range_succ,List.map_append];exact h2.append ⟨hg,trivial⟩
    ·rw[h3];have ha:(a.add (k*P.cellsOf e)).block=a.block/\(a.add (k*P.cellsOf e)).off=a.off+k*P.cellsOf e:=by
      unfold Addr.add;split
      ·rename_i h0;rw[h0];exact⟨rfl,rfl⟩
      ·exact⟨rfl,rfl⟩
     rw[ha.1,ha.2] at c2;exact c2
    ·rw[List.flatMap_append];simpa using h5.append hr
  obtain⟨xs,ys,h1,h2,h3,h4,h5⟩:=key len (Nat.le_refl _);refine⟨xs, .inr ⟨_,_,rfl,by omega,h2⟩, ?_⟩;have hrel:Rel w (fun _=>none) (.vslice (xs.flatMap f) xs.length) (.slice (some a) len cap):=by
   simp only[Rel];refine⟨some a,cap,by rw[h1],by omega, ?_⟩;cases hys:ys with
   | nil=>subst hys;left;exact List.eq_nil_of_length_eq_zero (by rw[h5.length];rfl)
   | cons y yr=>
    right;have h6:=h4 0 y (by rw[hys];rfl);have hpos:0<len/\0<P.cellsOf e:=by
     rw[hys] at h3;simp only[jA] at h3;constructor
     ·rcases Nat.eq_zero_or_pos len with h0 | h0
      ·subst h0;simp at h3
      ·exact h0
     ·rcases Nat.eq_zero_or_pos (P.cellsOf e) with h0 | h0
      ·rw[h0] at h3;simp at h3
      ·exact h0
    have hsp:a.spot=none:=by
     obtain⟨cs',g1,g2⟩:=hall 0 (by omega);unfold World.cells? at g1;split at g1
     ·obtain⟨_,m2⟩:=Ae4 g1;obtain⟨z,_,hz⟩:=m2 0 0 (by simp [hpos.2]);have:(a.add (0*P.cellsOf e)).add 0=a:=by simp [Addr.add]
      rw[this] at hz;exact Ce4 hz
     ·cases g1
    refine⟨a.block,a.off,ys,by cases a;simp at hsp⊢;exact hsp, .inr ⟨rfl,h4⟩,h5⟩
  simp only[Az];exact⟨_,_,rfl,hrel,rfl⟩
end
end Go.Dl
-- R3
namespace Go.Dl
open Go Go.RowKit
section
variable {P:Program} {w:World}
theorem Ext.stands {w':World} {H':Ac} (h:Ext (fun _=>none) w H' w'):An0 w w':=fun b hb=>h.block b hb rfl
def Fk8 (W w':World):Prop:=W.keptBut w' (fun _=>False)/\(∀a,a.block<W.heap.size->w'.frozen? a=W.frozen? a)/\W.heap.size<=w'.heap.size
theorem Fk8.frame {W w':World} (h:Fk8 W w') (C:MemPlace->Prop):W.keptBut w' C:=World.keptBut_mono (fun _ f=>f.elim) h.1
theorem Ext.grown {w':World} {H':Ac} (h:Ext (fun _=>none) w H' w'):Fk8 w w':=by
 refine⟨⟨h.os,h.output,fun i hi=> ?_⟩,fun a ha=>h.fz a ha rfl,h.size⟩;rw[h.block i hi rfl];cases ho:w.heap[i]? with
 | none=>simp
 | some o=>cases o<;>simp
theorem Cn3 (w:World):Bm w (fun _=>none):=fun r o h=>by cases h
theorem Ag.row {G:Nat->DVal} {f:FuncId} {args:List DVal} {vs:Array Value} (h:Ag P G f args (fun _=>none) (fun e _=>e= .ret (.bool true))) (hv:Az w (fun _=>none) args vs.toList) (hG:GOk G w (fun _=>none)):
  Calls P f vs w fun e W'=>e= .returned (.bool true)/\Fk8 w W'/\An0 w W':=by
 have:=h.2 vs.toList w hv (Cn3 w) hG;simp only[Array.toArray_toList] at this;refine this.mono fun e w' ⟨e',H',he,hr,_,hE⟩=> ?_;subst he;cases hr with
 | ret d v hv=>simp only[Rel] at hv;subst hv;exact⟨rfl,hE.grown,hE.stands⟩
theorem Az.cons {C:Ac} {d:DVal} {v:Value} {D:List DVal} {vs:List Value} (h:Rel w C d v) (k:Az w C D vs):Az w C (d::D) (v::vs):=by
 simp only[Az];exact⟨v,vs,rfl,h,k⟩
theorem Az.one {C:Ac} {d:DVal} {v:Value} (h:Az w C [d] [v]):Rel w C d v:=by
 simp only[Az] at h;obtain⟨y,ys,h1,h2,_⟩:=h;cases h1;exact h2
end
end Go.Dl
namespace Go.ChangeShapes
open Go.WideShapes
section
variable {H:Type} {enc:TypeId×Value->H} {P:Program}
theorem Dc3 {f:Func} {s:ChangeSpec} {U fresh ac Gc2:Bool} {W D:World} {args:Array Value} {v:Value} {I J:List (DataW H)} {C L M:List MemPlace}
  (S:DataW.Whole enc P f.params.toList s.vars U W args.toList I J C)
  (V: ∀(b:Nat) (E:Nat->Bool) (hd:Bool),DataW.TrodAll enc P D b E hd f.resultTypes.toList (v.resultList f.resultTypes.size) (s.fn H (I++J)).results [])
  (X: ∀E:Nat->Bool,(∀p∈C,E p.block=true)->DataW.TrodAll enc P D 0 E true f.params.toList args.toList (s.fn H (I++J)).args L)
  (Y: ∀E:Nat->Bool,(∀p∈C,E p.block=true)->DataW.TrodVars enc P D E s.vars (s.fn H (I++J)).vars M)
  (O:C=L++M) (hk:W.keptBut D (· ∈C)) (ad: ∀a,a.block<W.heap.size->D.frozen? a=W.frozen? a)
  (ae: ∀(j:Nat) (t:TypeId) (r:Value),f.resultTypes[j]? =some t->(v.resultList f.resultTypes.size)[j]? =some r->Value.okWide P D .any 0 t r):
  s.post enc P f U fresh ac Gc2 W args v D:=by
 have Z:=S.lt;have aa: ∀p∈C,(fun b=>decide (b<W.heap.size)) p.block=true:=fun p hp=>by simpa using Z p hp
 refine⟨I,J,C,[],L,M,S,V _ _ _,X _ aa,Y _ aa,World.keptBut_mono (fun p hp=>⟨hp, .inr (List.mem_append.1 (O▸hp))⟩) hk,fun _=> ?_⟩;obtain⟨_,_,_,_,_,hz,hn⟩:=S;refine⟨ae,_,_,([]++L)++M,⟨[]++L,M,trodAll_append (X _ (fun _ _=>rfl)) (V _ _ _),Y _ (fun _ _=>rfl),rfl, ?_, ?_⟩, ?_⟩
 ·intro b off hp;have ab:MemPlace.cell b off∈C:=by rw[O];simpa using hp
  exact(ad _ (Z _ ab)).trans (hz b off ab)
 ·intro ha;have:=hn ha;rw[O] at this;simpa using this
 ·intro p hp _;rw[O];simpa using hp
end
end Go.ChangeShapes
-- R4
namespace Go.Dl
open Go Go.RowKit
section
variable {P:Program} {H:Type} {w:World}
theorem Cn4 {r:Reach} {base:Nat} {t:TypeId} {v:Value} {d:TypeDesc} (C:P.underlying t=some d) (D:(∃e,d= .slice e)\/(∃k,d= .int k)\/d= .bool\/d= .string) (h:Value.okWide P w r base t v):v.cells= #[v]:=by
 unfold Value.okWide at h;rw[C] at h;cases v<;>first | rfl | skip
 rename_i xs
 rcases D with⟨e,rfl⟩ | ⟨k,rfl⟩ | rfl | rfl<;>(unfold Cell.okWide at h;rw[C] at h;simp [Cell.ok,C] at h)
theorem Cn5 {r:Reach} {base:Nat} {t e:TypeId} {v:Value} (C:P.underlying t=some (.slice e)) (h:Value.okWide P w r base t v):v.cells= #[v]:=Cn4 C (.inl ⟨_,rfl⟩) h
theorem Gq1 {t:TypeId} {α:Type} {f:α->DVal} {g:α->DataW H->Prop} (hr:Ae3 P H w t α (fun x=> [f x]) g) {enc:TypeId×Value->H} {base:Nat} {C:Nat->Bool} {held:Bool} {v:Value} {d:DataW H} {D:List MemPlace}
  (h:DataW.Trod enc P w base C held t v d D) (hv:v.cells= #[v]): ∃x,g x d/\Rel w (fun _=>none) (f x) v:=by
 obtain⟨Dx,h⟩:=h;rw[hv] at h;obtain⟨x,hg,hx⟩:=hr _ _ _ _ _ _ _ _ h;exact⟨x,hg,hx.one⟩
end
end Go.Dl
-- R5
namespace Go.Dl
open Go Go.RowKit Go.Proofs.YtddbdpcgikmiaaaGreatDoor
section
variable {H:Type}
theorem Fk9 (d:DataW H):1<=Rows.uptoBulk d:=by
 cases d
 case lit l=>cases l<;>simp only[Rows.uptoBulk]<;>omega
 all_goals simp only[Rows.uptoBulk]
 all_goals omega
theorem Dq1 {l:List (DataW H)} (h:Rows.uptoSmall H l=true):Rows.uptoBulkAll l<=1048576:=of_decide_eq_true h
theorem Dc4 {α:Type} {g:α->DataW H->Prop}: ∀ {xs:List α} {C:List (DataW H)},Cn2 g xs C->xs.length<=Rows.uptoBulkAll C
 | [],[],_=>by simp
 | [],_::_,h=>h.elim
 | _::_,[],h=>h.elim
 | x::xs,d::C,h=>by
  have:=Dc4 h.2;have:=Fk9 d;simp only[jA,Rows.uptoBulkAll];omega
def SlG {α:Type} (g:α->DataW H->Prop) (xs:List α) (d:DataW H):Prop:=(d= .nil/\xs= [])\/ ∃es sp,d= .slice es sp/\xs.length<=maxLen/\Cn2 g xs es
theorem Gb3 {α:Type} {g:α->DataW H->Prop} {xs:List α} {d:DataW H} (h:SlG g xs d):xs.length+1<=Rows.uptoBulk d:=by
 rcases h with⟨rfl,rfl⟩ | ⟨es,C,rfl,_,h⟩
 ·simp [Rows.uptoBulk]
 ·have:=Dc4 h;simp only[Rows.uptoBulk];omega
end
section
end
section
variable {P:Program} {H:Type} {w:World}
def Bi0 (P:Program) (H:Type) (w:World) (fs:List Field) (off total:Nat) (α:Type) (f:α->List DVal) (g:α->List (DataW H)->Prop):Prop:=
 ∀(enc:TypeId×Value->H) base sp held Dx (cs:List Value) xs,cs.length=total->(fs.mapM fun fl=>DataW.trod enc P w base sp held Dx fl.type ((cs.drop fl.offset).take (P.cellsOf fl.type)))=some xs-> ∃x,g x (xs.map (·.1))/\Az w (fun _=>none) (f x) (cs.drop off)
theorem Dc5 (n:Nat):Bi0 P H w [] n n Unit (fun _=> []) (fun _ ds=>ds= []):=by
 intro enc base C held Dx cs xs hl h;simp at h;subst h;exact⟨(),rfl,by rw[List.drop_of_length_le (by omega)];simp [Az]⟩
theorem Sz {C:Field} {fs:List Field} {off D n:Nat} {α β:Type} {f:α->List DVal} {g:α->DataW H->Prop} {E:β->List DVal} {I:β->List (DataW H)->Prop} (h1:Ae3 P H w C.type α f g) (M:C.offset=off) (O:P.cellsOf C.type=n)
  (h2:Bi0 P H w fs (off+n) D β E I):Bi0 P H w (C::fs) off D (α×β) (fun x=>f x.1++E x.2) (fun x ds=> ∃d ds',ds=d::ds'/\g x.1 d/\I x.2 ds'):=by
 intro enc base J held Dx cs xs hl h;rw[List.mapM_cons] at h;simp only[Option.bind_eq_bind,Option.bind_eq_some_iff,Option.pure_def,Option.some.injEq] at h;obtain⟨y,S,ys,hys,rfl⟩:=h;obtain⟨U,V,L⟩:=h1 enc base J held Dx _ y.1 y.2 S;obtain⟨W,X,Y⟩:=h2 enc base J held Dx cs ys hl hys;refine⟨(U,W),⟨y.1,ys.map (·.1),by simp,V,X⟩, ?_⟩;rw[M,O] at L;have:cs.drop off=(cs.drop off).take n++cs.drop (off+n):=by
  rw[<-List.drop_drop,List.take_append_drop]
 rw[this];exact L.append Y
theorem Cn6 {t:TypeId} {fs:List Field} {α:Type} {f:α->List DVal} {g:α->List (DataW H)->Prop} (C:P.underlying t=some (.struct fs.toArray)) (h:Bi0 P H w fs 0 (P.cellsOf t) α f g):
  Ae3 P H w t α f (fun x d=> ∃ds,d= .agg ds/\g x ds):=by
 intro enc base D held Dx cs d ps hh;cases Dx with
 | zero=>simp [DataW.trod] at hh
 | succ Dx=>
  unfold DataW.trod at hh;rw[C] at hh;dsimp only at hh;split at hh
  ·rename_i hl
   simp only[Option.map_eq_some_iff,Prod.mk.injEq] at hh;obtain⟨xs,hx,rfl,rfl⟩:=hh;obtain⟨x,E,I⟩:=h enc base D held Dx cs xs hl hx;exact⟨x,⟨_,rfl,E⟩,by simpa using I⟩
  ·cases hh
theorem Ae3.map {t:TypeId} {α β:Type} {f:α->List DVal} {g:α->DataW H->Prop} (h:Ae3 P H w t α f g) {C:β->List DVal} {D:β->DataW H->Prop} (c: ∀x d,g x d-> ∃y,C y=f x/\D y d):Ae3 P H w t β C D:=by
 intro enc base E held Dx cs d ps hh;obtain⟨x,I,J⟩:=h enc base E held Dx cs d ps hh;obtain⟨y,e,L⟩:=c x d I;exact⟨y,L,by rw[e];exact J⟩
end
end Go.Dl
-- Rg
namespace Go.Dl
open Go Go.RowKit
def Ai6:DataW Unit->Bool
 | .lit (.bool _)=>true
 | .lit (.int _ _)=>true
 | .lit (.string _)=>true
 | .agg ds=>litsBs ds
 | _=>false
where litsBs:List (DataW Unit)->Bool
 | []=>true
 | d::ds=>Ai6 d&&litsBs ds
def Gd:DataW Unit->List Value
 | .lit (.bool b)=> [.bool b]
 | .lit (.int k n)=> [.int k n]
 | .lit (.string s)=> [.string ⟨⟨s⟩⟩]
 | .agg ds=>litCellss ds
 | _=> []
where litCellss:List (DataW Unit)->List Value
 | []=> []
 | d::ds=>Gd d++litCellss ds
theorem Bv8 {C:List (DataW Unit)}:Ai6.litsBs C=true↔ ∀d∈C,Ai6 d=true:=by
 induction C with
 | nil=>simp [Ai6.litsBs]
 | cons d C ih=>simp [Ai6.litsBs,ih]
theorem Av1 (C:List (DataW Unit)):Gd.litCellss C=C.flatMap Gd:=by
 induction C with
 | nil=>rfl
 | cons d C ih=>simp [Gd.litCellss,ih]
theorem Dq2 {α:Type} (cs:List α) (off size:Nat->Nat): ∀(n:Nat),(∀j,j<n->off (j+1)=off j+size j)->off 0=0->off n<=cs.length->(List.range n).flatMap (fun j=>(cs.drop (off j)).take (size j))=cs.take (off n)
 | 0,_,h0,_=>by simp [h0]
 | n+1,h,h0,hn=>by
  have hs:=h n (by omega);rw[List.range_succ,List.flatMap_append,Dq2 cs off size n (fun j hj=>h j (by omega)) h0 (by omega),hs];simp only[List.flatMap_cons,List.flatMap_nil,jH];rw[List.take_add]
theorem Bv9 {α β:Type} (xs:List α) (g:α->List β) (f:Nat->List β) (n:Nat) (C:xs.length=n) (h: ∀(j:Nat) (x:α),xs[j]? =some x->f j=g x):(List.range n).flatMap f=xs.flatMap g:=by
 rw[List.flatMap_def,List.flatMap_def];congr 1;apply List.ext_getElem?;intro j;simp only[List.getElem?_map];by_cases hj:j<n
 ·rw[List.getElem?_eq_getElem (by omega:j<xs.length),List.getElem?_range hj];simp only[Option.map_some];rw[h j xs[j] (List.getElem?_eq_getElem (by omega))]
 ·rw[List.getElem?_eq_none (by omega:xs.length<=j),List.getElem?_eq_none (by simp;omega)];rfl
section
variable {P:Program} {w:World}
theorem Bb1 (hl:laidOutB P=true) {base:Nat} {U:Nat->Bool}: ∀(Dx:Nat) (t:TypeId) (cs:List Value) (d:DataW Unit) (V:List MemPlace),isVar P t=true->Ai6 d=true->
  DataW.trod (fun _=>()) P w base U false Dx t cs=some (d,V)->cs=Gd d
 | 0,_,_,_,_,_,_,h=>by simp [DataW.trod] at h
 | Dx+1,t,cs,d,V,hv,hd,h=>by
  have ih:= @Bb1 hl base U Dx;have X:t<P.types.size:=by simp only[isVar,jF,decide_eq_true_eq] at hv;exact hv.1
  have D:=rowFine_of_laidOut hl X;simp only[rowFine,hv,Bool.not_true,Bool.false_or] at D;unfold DataW.trod at h;split at h<;>(try (simp at h;done))
  ·simp only[Option.some.injEq,Prod.mk.injEq] at h;obtain⟨rfl,rfl⟩:=h;rfl
  ·split at h
   ·rename_i hk
    obtain⟨rfl,_⟩:=hk;simp only[Option.some.injEq,Prod.mk.injEq] at h;obtain⟨rfl,rfl⟩:=h;rfl
   ·cases h
  ·split at h
   ·simp only[Option.some.injEq,Prod.mk.injEq] at h;obtain⟨rfl,rfl⟩:=h;cases hd
   ·cases h
  ·split at h
   ·simp only[Option.some.injEq,Prod.mk.injEq] at h;obtain⟨rfl,rfl⟩:=h;simp [Gd]
   ·cases h
  ·simp only[Option.some.injEq,Prod.mk.injEq] at h;obtain⟨rfl,rfl⟩:=h;cases hd
  ·simp only[Option.map_eq_some_iff,Prod.mk.injEq] at h;obtain⟨_,_,rfl,_⟩:=h;cases hd
  ·simp only[Option.some.injEq,Prod.mk.injEq] at h;obtain⟨rfl,rfl⟩:=h;cases hd
  ·dsimp only at h;split at h
   ·simp only[Option.bind_eq_some_iff,Option.map_eq_some_iff,Prod.mk.injEq] at h;obtain⟨_,_,_,_,rfl,_⟩:=h;cases hd
   ·cases h
  ·rename_i cs _ _ fs hu
   rw[hu] at D;simp only[jF,beq_iff_eq,List.all_eq_true] at D;obtain⟨⟨hf,E⟩,Y⟩:=D;split at h
   ·rename_i I
    simp only[Option.map_eq_some_iff,Prod.mk.injEq] at h;obtain⟨xs,hx,rfl,rfl⟩:=h;obtain⟨L,O⟩:=Ae4 hx;simp only[Ai6,Bv8] at hd;have key: ∀(j:Nat) (f:Field) (x:DataW Unit×List MemPlace),fs.toList[j]? =some f->xs[j]? =some x->(cs.drop f.offset).take (P.cellsOf f.type)=Gd x.1:=by
     intro j f x W C;obtain⟨y,J,S⟩:=O j f W;rw[C] at J;cases J;exact ih _ _ x.1 x.2 (hf f (List.mem_of_getElem? W)) (hd _ (List.mem_map.2 ⟨x,List.mem_of_getElem? C,rfl⟩)) S
    have hp:=Dq2 cs (fun j=>((fs.toList.take j).map fun f=>P.cellsOf f.type).sum) (fun j=>(fs.toList[j]?).elim 0 fun f=>P.cellsOf f.type) fs.toList.length (fun j hj=>by
     rw[List.take_succ_eq_append_getElem hj];simp [List.getElem?_eq_getElem hj]) (by simp) (by rw[List.take_length,I,E];omega)
    simp only[List.take_length,<-E,<-I] at hp;rw[<-hp];simp only[Gd,Av1,List.flatMap_map];refine Bv9 xs _ _ _ L fun j x C=> ?_;have Z:j<xs.length:=(List.getElem?_eq_some_iff.1 C).1;have M:j<fs.toList.length:=by omega
    have h1:=Y j (List.mem_range.2 M);rw[List.getElem?_eq_getElem M] at h1;simp only[beq_iff_eq] at h1;have h2:=key j fs.toList[j] x (List.getElem?_eq_getElem M) C;rw[h1] at h2;simp only[List.getElem?_eq_getElem M,Option.elim_some];exact h2
   ·cases h
  ·rename_i cs _ _ n e hu
   rw[hu] at D;simp only[jF,beq_iff_eq] at D;obtain⟨hf,E⟩:=D;split at h
   ·rename_i I
    simp only[Option.map_eq_some_iff,Prod.mk.injEq] at h;obtain⟨xs,hx,rfl,rfl⟩:=h;obtain⟨L,O⟩:=Ae4 hx;rw[List.length_range] at L;simp only[Ai6,Bv8] at hd;have hp:=Dq2 cs (fun j=>j*P.cellsOf e) (fun _=>P.cellsOf e) n (fun j _=>Nat.succ_mul j _) (by simp) (by rw[I,E];exact Nat.le_refl _);rw[List.take_of_length_le (by rw[I,E];exact Nat.le_refl _)] at hp;rw[<-hp];simp only[Gd,Av1,List.flatMap_map];refine Bv9 xs _ _ _ L fun j x C=> ?_;have Z:j<xs.length:=(List.getElem?_eq_some_iff.1 C).1;obtain⟨y,J,S⟩:=O j j (by rw[List.getElem?_range (by omega)]);rw[C] at J;cases J;exact ih _ _ _ _ hf (hd _ (List.mem_map.2 ⟨x,List.mem_of_getElem? C,rfl⟩)) S
   ·cases h
  ·simp only[Option.some.injEq,Prod.mk.injEq] at h;obtain⟨rfl,rfl⟩:=h;cases hd
  ·split at h
   ·rename_i e;cases e
   ·simp only[Option.map_eq_some_iff,Prod.mk.injEq] at h;obtain⟨_,_,rfl,_⟩:=h;cases hd
   ·cases h
  ·simp only[Option.some.injEq,Prod.mk.injEq] at h;obtain⟨rfl,rfl⟩:=h;cases hd
  ·split at h
   ·dsimp only at h;split at h
    ·simp only[Option.bind_eq_some_iff] at h;obtain⟨_,_,h⟩:=h;split at h
     ·simp only[Option.some.injEq,Prod.mk.injEq] at h;obtain⟨rfl,rfl⟩:=h;cases hd
     ·cases h
    ·cases h
   ·cases h
  ·simp only[Option.some.injEq,Prod.mk.injEq] at h;obtain⟨rfl,rfl⟩:=h;cases hd
  ·simp only[Option.some.injEq,Prod.mk.injEq] at h;obtain⟨rfl,rfl⟩:=h;cases hd
  ·simp only[Option.some.injEq,Prod.mk.injEq] at h;obtain⟨rfl,rfl⟩:=h;cases hd
theorem Cn7: ∀ {laid:List (String×DataW Unit)} {n:String} {d:DataW Unit},laidMet P laid w->(n,d)∈laid->
  ∃g t cs Dx p,P.globalNamed n=some g/\(P.globals[g]?).map (·.type)=some t/\w.var? P n=some cs/\DataW.trod (fun _=>()) P w 0 (fun _=>true) false Dx t cs.toList=some (d,p)/\
   ∀u v,w.cell? ⟨g,0,none⟩=some (.iface u v)->0<cs.size->Value.okWide P w .any 0 u v
 | [],_,_,_,hm=>by cases hm
 | x::laid,n,d,h,hm=>by
  rcases List.mem_cons.1 hm with rfl | hm
  ·obtain⟨ps,⟨g,t,cs,Dx,p,q,h1,h2,h3,h4,h5,h6⟩,_,h8⟩:=h;refine⟨g,t,cs,Dx,p,h1,h2,h3,h4,fun u v hc hz=>(h8 g 0 ?_).2 u v hc⟩;rw[h6];refine List.mem_append_left _ (List.mem_append_left _ ?_);unfold MemPlace.row;exact List.mem_map.2 ⟨0,List.mem_range.2 hz,by simp⟩
  ·exact Cn7 h.tail hm
def Gw7 (v:Value):Prop:=(∃b,v= .bool b)\/(∃k n,v= .int k n)\/ ∃s:List UInt8,v= .string ⟨⟨s⟩⟩
mutual
theorem Dc6: ∀(d:DataW Unit),Ai6 d=true-> ∀v∈Gd d,Gw7 v
 | .lit (.bool b),_,v,hv=>by simp [Gd] at hv;exact .inl ⟨b,hv⟩
 | .lit (.int k n),_,v,hv=>by simp [Gd] at hv;exact .inr (.inl ⟨k,n,hv⟩)
 | .lit (.string s),_,v,hv=>by simp [Gd] at hv;exact .inr (.inr ⟨s,hv⟩)
 | .agg ds,h,v,hv=>Ce5 ds (by simpa [Ai6] using h) v (by simpa [Gd] using hv)
 | .lit (.float _ _),h,_,_=>by cases h
 | .nil,h,_,_=>by cases h
 | .ptr _,h,_,_=>by cases h
 | .slice _ _,h,_,_=>by cases h
 | .iface _ _,h,_,_=>by cases h
 | .map _,h,_,_=>by cases h
 | .held _,h,_,_=>by cases h
theorem Ce5: ∀(C:List (DataW Unit)),Ai6.litsBs C=true-> ∀v∈Gd.litCellss C,Gw7 v
 | [],_,v,hv=>by simp [Gd.litCellss] at hv
 | d::C,h,v,hv=>by
  simp only[Ai6.litsBs,jF] at h
  simp only[Gd.litCellss,List.mem_append] at hv
  rcases hv with hv | hv
  ·exact Dc6 d h.1 v hv
  ·exact Ce5 C h.2 v hv
end
theorem Fl0 {C:Ac}: ∀(d:DataW Unit),Ai6 d=true->Az w C (Jv (Gd d)) (Gd d):=by
 have all: ∀(vs:List Value),(∀v∈vs,(∃b,v= .bool b)\/(∃k n,v= .int k n)\/ ∃s:List UInt8,v= .string ⟨⟨s⟩⟩)->Az w C (Jv vs) vs:=by
  intro vs
  induction vs with
  | nil=>intro _;simp [Jv,Az]
  | cons v vs ih=>
   intro h;simp only[Jv,Az];refine⟨v,vs,rfl, ?_,ih fun x hx=>h x (by simp [hx])⟩;rcases h v (by simp) with⟨b,rfl⟩ | ⟨k,n,rfl⟩ | ⟨s,rfl⟩<;>simp [Fj,Rel]
 exact fun d h=>all _ (Dc6 d h)
theorem Fl1 {laid:List (String×DataW Unit)} {n:String} {d:DataW Unit} {g:Nat} (hl:laidOutB P=true) (h:laidMet P laid w) (hm:(n,d)∈laid) (C:Ai6 d=true) (D:P.globalNamed n=some g)
  (E:isVar P (((P.globals[g]?).map (·.type)).getD 0)=true):Rel w (fun _=>none) (.vptr (Jv (Gd d)) 0) (.pointer (some ⟨g,0,none⟩)):=by
 obtain⟨I,t,cs,Dx,p,h1,h2,h3,h4,_⟩:=Cn7 h hm;rw[D] at h1;cases h1;rw[h2] at E;have hc:=Bb1 hl Dx t cs.toList d p E C h4;simp only[Rel];refine⟨g,0,cs.toList,rfl, ?_,by rw[hc];exact Fl0 d C⟩;refine .inr ⟨rfl,fun i x hx=> ?_⟩;have:=World.var?_cell D h3 i;rw[Nat.zero_add,this];simpa using hx
end
def Xg:List MemPlace->Nat->Bool
 | [],_=>true
 | .cell b off::l,m=>decide (off<1024)&&!(m.testBit (b*1024+off))&&Xg l (m ||| 1<<<(b*1024+off))
 | .map _::_,_=>false
theorem Dy3 {m k n:Nat} (h:(m ||| 1<<<k).testBit n=false):m.testBit n=false/\n≠k:=by
 rw[Nat.testBit_or,Bool.or_eq_false_iff] at h;refine⟨h.1,fun e=> ?_⟩;subst e;have:=h.2;rw[Nat.testBit_shiftLeft] at this;simp at this
theorem Av2: ∀(l:List MemPlace) (m:Nat),Xg l m=true->l.Nodup/\ ∀p∈l,∃b off,p= .cell b off/\off<1024/\m.testBit (b*1024+off)=false
 | [],_,_=>⟨List.nodup_nil,fun p hp=>by cases hp⟩
 | .map _::_,_,h=>by simp [Xg] at h
 | .cell b off::l,m,h=>by
  simp only[Xg,jF,decide_eq_true_eq,Bool.not_eq_true'] at h;obtain⟨⟨h1,h2⟩,h3⟩:=h;obtain⟨k1,C⟩:=Av2 l _ h3;refine⟨List.nodup_cons.2 ⟨fun hm=> ?_,k1⟩,fun p hp=> ?_⟩
  ·obtain⟨b',D,e,_,h5⟩:=C _ hm;cases e;exact(Dy3 h5).2 rfl
  ·rcases List.mem_cons.1 hp with rfl | hp
   ·exact⟨b,off,rfl,h1,h2⟩
   ·obtain⟨b',D,e,h4,h5⟩:=C _ hp;exact⟨b',D,e,h4,(Dy3 h5).1⟩
theorem Cn8 {P:Program} {w:World} {l:List (String×DataW Unit)} (Dx:Nat) (h:(DataW.laidRun P w Dx (l.map (·.1))).map (·.1)=some l)
  (hr:(DataW.laidRun P w Dx (l.map (·.1))).map (fun x=>Xg x.2 0&&laidRowsB P w x.2)=some true):laidMet P l w:=by
 cases hx:DataW.laidRun P w Dx (l.map (·.1)) with
 | none=>simp [hx] at h
 | some x=>
  obtain⟨l',ps⟩:=x;simp only[hx,Option.map_some,Option.some.injEq] at h hr;subst h;simp only[jF] at hr;exact laidMet_of_run Dx hx (decide_eq_true (Av2 _ _ hr.1).1) hr.2
end Go.Dl
-- W2
namespace Go.Dl
open Go Go.RowKit Go.Proofs Go.Proofs.YtddbdpcgikmiaaaGreatDoor
set_option maxRecDepth 100000
theorem Dy4:laidOutB Tryz.prog=true:=by kernel_rfl
theorem Dq3 {P:Program} {w:World} {laid:List (String×DataW Unit)} {n:String} {d:DataW Unit} {g:Nat} (hl:laidOutB P=true) (h:laidMet P laid w) (hm:(n,d)∈laid) (E:Ai6 d=true) (C:P.globalNamed n=some g)
  (D:isVar P (((P.globals[g]?).map (·.type)).getD 0)=true):Qa w.heap[g]? =some (Gd d).length:=by
 obtain⟨I,t,cs,Dx,p,h1,h2,h3,h4,_⟩:=Cn7 h hm;rw[C] at h1;cases h1;rw[h2] at D;have hc:=Bb1 hl Dx t cs.toList d p D E h4;unfold World.var? at h3;rw[C] at h3;simp only[Option.bind_some] at h3;split at h3
 ·rename_i c t' fz ho
  cases h3;rw[ho];simp only[Qa,Option.some.injEq];rw[<-hc,Array.length_toList]
 ·cases h3
theorem Ai7: ∀l:List Value,(Jv l).length=l.length
 | []=>rfl
 | _::l=>by simp [Jv,Ai7 l]
theorem Gb4:Jv (Gd Rows.laid_strings_asciiSpace)=Lib.asciiSpaceTab.map fun z=>DVal.int .u8 z:=by kernel_rfl
section
variable {H:Type} {w:World}
theorem Dc7 {α:Type} {g:α->DataW H->Prop} {p:α->Prop} (hp: ∀x d,g x d->p x): ∀ {xs:List α} {C:List (DataW H)},Cn2 g xs C-> ∀x∈xs,p x
 | [],_,_,x,hx=>by cases hx
 | _::_,[],h,_,_=>h.elim
 | y::xs,d::C,h,x,hx=>by
  rcases List.mem_cons.1 hx with rfl | hx
  ·exact hp _ _ h.1
  ·exact Dc7 hp h.2 x hx
theorem Gb5 {α:Type} {g:α->DataW H->Prop} {p:α->Prop} (hp: ∀x d,g x d->p x) {xs:List α} {d:DataW H} (h:SlG g xs d): ∀x∈xs,p x:=by
 rcases h with⟨rfl,rfl⟩ | ⟨es,C,rfl,_,h⟩
 ·intro x hx;cases hx
 ·exact Dc7 hp h
end
noncomputable def Gw8 (h:Array Obj) (g:Nat) (cs:Array Value):Array Obj:=h.modify g fun
 | .cells _ t frozen=> .cells cs t frozen
 | o=>o
theorem Gw9 {laid:List (String×DataW Unit)} {W:World} (C:laidMetH Tryz.prog laid W) (hs:W.ShapedOpen Tryz.prog) (hh:(laid.filter fun x=>x.2.handleName?.isSome)= [])
  (D:("strings.asciiSpace",Rows.laid_strings_asciiSpace)∈laid): ∃G,GX G/\GOk G W (fun _=>none):=by
 have E:laidMet Tryz.prog laid W:=by
  unfold laidMetH at C;rw[hh] at C;exact C
 have I:=Fl1 Dy4 E D (by kernel_rfl) (show Tryz.prog.globalNamed "strings.asciiSpace" =some 1 by kernel_rfl) (by kernel_rfl);have J:=Dq3 Dy4 E D (by kernel_rfl) (show Tryz.prog.globalNamed "strings.asciiSpace" =some 1 by kernel_rfl) (by kernel_rfl);refine⟨fun g=>if g=1 then .vptr (Jv (Gd Rows.laid_strings_asciiSpace)) 0 else .optr g 0,⟨by simp [Gb4]⟩,⟨fun g=> ?_,fun g cs e=> ?_⟩⟩
 ·show Rel W _ (if g=_ then _ else _) _;split
  ·rename_i e;subst e;exact I
  ·simp [Rel]
 ·change (if g=_ then _ else _)=_ at e;split at e
  ·rename_i e';subst e';cases e;rw[J,Ai7]
  ·cases e
noncomputable def Cn9 (os:Os):World:=
 let N:=(World.settled Tryz.prog os).heap.size
 let w0:=World.holding Tryz.prog os ⟨#[.cells #[.slice (some ⟨N+1,0,none⟩) 7 7, .slice none 0 0, .int .i64 2] 344,
  .cells (#[9,13,1,32,133,101,160,5760,5600,8192,8202,1,8232,8233,1,8239,8287,48,12288,12288,1].map (Value.int .u16)) 347], #[],[]⟩
 let h9:=Gw8 w0.heap 1 (Gd Rows.laid_strings_asciiSpace).toArray
 let ha:=Gw8 h9 2 #[.pointer (some ⟨N,0,none⟩)]
 { w0 with heap:=ha }
section
variable {H:Type} {w:World}
theorem Eo2:Ae3 Tryz.prog H w 31 Tok Cq (fun x d=>x.text.length<=9223372036854775807):=by
 have h:=Cn6 (H:=H) (w:=w) Tryz.underlying31 (Sz (n:=1) (Bb0 Tryz.underlying29) rfl (by kernel_rfl) (Sz (n:=1) (Bb0 Tryz.underlying3) rfl (by kernel_rfl) (Sz (n:=1) (Cn1 Tryz.underlying9) rfl (by kernel_rfl) (Sz (n:=1) (Bb0 Tryz.underlying2) rfl (by kernel_rfl) (by
   rw[show Tryz.prog.cellsOf 31=0+1+1+1+1 by kernel_rfl];exact Dc5 _)))))
 refine h.map fun x d hg=>⟨⟨x.1,x.2.1,x.2.2.1,x.2.2.2.1⟩,rfl, ?_⟩;obtain⟨ds,rfl,D,E,rfl,I,J,L,rfl,M,O,S,rfl,C,_⟩:=hg;have:=C.1;unfold maxLen at this;exact this
theorem Dq4:Ae3 Tryz.prog H w 32 (List Tok) (fun l=> [Bl l]) (SlG fun x d=>x.text.length<=9223372036854775807):=Dc2 Tryz.underlying32 Eo2
theorem Gq2 {l:List Tok} {d:DataW H} (h:SlG (fun(x:Tok) (_:DataW H)=>x.text.length<=9223372036854775807) l d):Cg l:=fun k=>by
 have h2:=Gb5 (p:=fun x:Tok=>x.text.length<=9223372036854775807) (fun x d h=>h) h;rw[tk,List.getD];cases hk:l[k]? with
 | none=>decide
 | some t=>exact h2 t (List.mem_of_getElem? hk)
end
end Go.Dl
