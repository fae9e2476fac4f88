/- The data level and the contracts of the functions that are reached (part 5). -/
import Derived.RecoverIn
import Derived.Test.YtlahodmjhbpfiaaGreatDoorPud
set_option linter.unusedSimpArgs false
set_option linter.unusedVariables false
set_option linter.unusedSectionVars false
-- Chapter 3: Size, Level, Same, SameArgs, SameChoices (printed by gen_ua.py).
namespace Go.Dl
open Go Go.Proofs
set_option maxRecDepth 100000
def eqF {α:Type} (p:α->α->Bool):List α->List α->Bool
 | [],[]=>true
 | x::l,y::m=>p x y&&eqF p l m
 | _,_=>false
theorem Db7 {α:Type} {p:α->α->Bool}: ∀ {l m:List α},eqF p l m=true->l.length=m.length
 | [],[],_=>rfl
 | [],_::_,h=>by cases h
 | _::_,[],h=>by cases h
 | x::l,y::m,h=>by
  rw[eqF,jF] at h;rw[jA,jA,Db7 h.2]
theorem Aa4 {α:Type} {p:α->α->Bool} {l m:List α} (h:l.length≠m.length):eqF p l m=false:=by
 cases e:eqF p l m with
 | false=>rfl
 | true=>exact absurd (Db7 e) h
theorem Xg {α:Type} {p:α->α->Bool} {l m:List α} {k:Nat} (h1:k<l.length) (h2:k<m.length):eqF p (l.drop k) (m.drop k)=(p l[k] m[k]&&eqF p (l.drop (k+1)) (m.drop (k+1))):=by
 rw[List.drop_eq_getElem_cons h1,List.drop_eq_getElem_cons h2,eqF]
theorem Rh: ∀l m:List Ex,Kh l m=eqF Lf l m
 | [],[]=>by simp [Kh,eqF]
 | [],_::_=>by simp [Kh,eqF]
 | _::_,[]=>by simp [Kh,eqF]
 | x::l,y::m=>by rw[Kh,eqF,Rh l m]
theorem Aa5: ∀l m:List As,Ma l m=eqF Tv l m
 | [],[]=>by simp [Ma,eqF]
 | [],_::_=>by simp [Ma,eqF]
 | _::_,[]=>by simp [Ma,eqF]
 | x::l,y::m=>by rw[Ma,eqF,Aa5 l m]
theorem Aa6: ∀l m:List Ch,Lh l m=eqF Si l m
 | [],[]=>by simp [Lh,eqF]
 | [],_::_=>by simp [Lh,eqF]
 | _::_,[]=>by simp [Lh,eqF]
 | x::l,y::m=>by rw[Lh,eqF,Aa6 l m]
theorem Cg3 (x y:As):Tv x y=(Lh x.c y.c&&Lf x.e y.e):=by cases x;rw[Tv];rfl
theorem Cg4 (x y:Ch):Si x y=(decide (x.kind=y.kind)&&Kh x.l y.l):=by cases x;rw[Si];rfl
theorem Db8 (G:Nat->DVal) (H:Ab) (p:Ex->Ex->Bool) (l m:List Ex) (g:FuncId) (hl:l.length<=1099511627776)
  (hp: ∀x∈l,∀y∈m,∀H,Ae Tryz.prog G g ([]++ [.agg (dEx x), .agg (dEx y)]++ []) H (Ba (.bool (p x y)) H)):
  Ae Tryz.prog G 93 [.vslice (l.flatMap dEx) l.length, .vslice (m.flatMap dEx) m.length, .func (.func g) [] []] H (Ba (.bool (eqF p l m)) H):=by
 refine Aa Tryz.func93 Tryz.call93 rfl (by kernel_rfl) ?_;by_cases hlen:l.length=m.length
 ·have hlen':(l.length:Int)=(m.length:Int):=by omega
  simp(disch:=omega)only[go_sem,hlen'];obtain⟨I,hI⟩: ∃I:Nat->(Nat->DVal)->Ab->Prop,∀k env heap,I k env heap↔(env 0= .vslice (l.flatMap dEx) l.length/\env 1= .vslice (m.flatMap dEx) m.length/\env 2= .func (.func g) [] []/\env 15= .vslice (l.flatMap dEx) l.length/\env 16=dI m.length/\env 17=dI k/\k<=l.length/\eqF p l m=eqF p (l.drop k) (m.drop k)/\Sub H heap):=⟨_,fun _ _ _=>Iff.rfl⟩;refine Dt1.run I (fun k=>l.length-k) 0 ((hI _ _ _).2 ?_) ?_
  ·simp(disch:=omega)only[go_sem];(repeat' apply And.intro)<;>(try first | rfl | assumption | omega);exact Sub.refl _
  ·intro k env heap hi;obtain⟨e0,e1,e2,e15,e16,e17,hk,hsm,hsub⟩:=(hI _ _ _).1 hi;have hfl:=Al Ad l;have hfm:=Al Ad m;by_cases hlt:k<l.length
   ·have hlt':(k:Int)<(m.length:Int):=by omega
    have hlt2:(k:Int)<(l.length:Int):=by omega
    have hkm:k<m.length:=by omega
    have Aw:=Bu Ad l k hlt;have hgetm:=Bu Ad m k hkm;have hwd:IntKind.i64.wrap ((k:Int)+1)=((k+1:Nat):Int):=by rw[IntKind.wrap_i64];omega
    simp(disch:=omega)only[go_sem,e0,e1,e2,e15,e16,e17,hlt',hlt2,Aw,hgetm,hfl,hfm,jD];intro r8 hr8;dsimp only at hr8;simp(disch:=omega)only[go_sem,e0,e1,e2,e15,e16,e17,hlt',hlt2,Aw,hgetm,hfl,hfm,jD];intro r9 hr9;dsimp only at hr9;obtain⟨m2,m1,hr9'⟩:=Ex8.1 hr9;simp(disch:=omega)only[go_sem,e0,e1,e2,e15,e16,e17,m1,m2,Aw,hgetm,hfl,hfm,jD];refine(hp l[k] (List.getElem_mem hlt) m[k] (List.getElem_mem hkm) _).mono ?_;rintro _ H1 ⟨rfl,rfl⟩;rw[Xg hlt hkm] at hsm;have hs1:=(hsub.new hr8 (some (DObj.cells (dEx l[k]) 27))).new hr9 (some (DObj.cells (dEx m[k]) 27));cases hb:p l[k] m[k] with
    | true=>
     rw[hb,jS] at hsm;simp(disch:=omega)only[go_sem,e0,e1,e2,e15,e16,e17];refine⟨k+1,_,Ws.refl _,(hI _ _ _).2 ?_,by omega⟩;simp(disch:=omega)only[go_sem,e0,e1,e2,e15,e16,e17,hwd];(repeat' apply And.intro)<;>(try first | rfl | assumption | omega)
    | false=>
     rw[hb,jT] at hsm;simp(disch:=omega)only[go_sem,e0,e1,e2,e15,e16,e17];exact Wj.sub hs1 (Wj.refl ⟨by rw[hsm],rfl⟩)
   ·have:k=l.length:=by omega
    subst this;have hlt': ¬(l.length:Int)<(m.length:Int):=by omega
    simp(disch:=omega)only[go_sem,e0,e1,e2,e15,e16,e17,hlt'];refine Wj.sub hsub (Wj.refl ⟨?_,rfl⟩);rw[hsm,List.drop_length,hlen,List.drop_length];rfl
 ·have hlen': ¬(l.length:Int)=(m.length:Int):=by omega
  simp(disch:=omega)only[go_sem,hlen'];exact Wj.refl ⟨by rw[Aa4 hlen],rfl⟩
theorem Es8 (G:Nat->DVal) (H:Ab) (p:As->As->Bool) (l m:List As) (g:FuncId) (hl:l.length<=1099511627776)
  (hp: ∀x∈l,∀y∈m,∀H,Ae Tryz.prog G g ([]++ [.agg (dAs x), .agg (dAs y)]++ []) H (Ba (.bool (p x y)) H)):
  Ae Tryz.prog G 222 [.vslice (l.flatMap dAs) l.length, .vslice (m.flatMap dAs) m.length, .func (.func g) [] []] H (Ba (.bool (eqF p l m)) H):=by
 refine Aa Tryz.func222 Tryz.call222 rfl (by kernel_rfl) ?_;by_cases hlen:l.length=m.length
 ·have hlen':(l.length:Int)=(m.length:Int):=by omega
  simp(disch:=omega)only[go_sem,hlen'];obtain⟨I,hI⟩: ∃I:Nat->(Nat->DVal)->Ab->Prop,∀k env heap,I k env heap↔(env 0= .vslice (l.flatMap dAs) l.length/\env 1= .vslice (m.flatMap dAs) m.length/\env 2= .func (.func g) [] []/\env 15= .vslice (l.flatMap dAs) l.length/\env 16=dI m.length/\env 17=dI k/\k<=l.length/\eqF p l m=eqF p (l.drop k) (m.drop k)/\Sub H heap):=⟨_,fun _ _ _=>Iff.rfl⟩;refine Dt1.run I (fun k=>l.length-k) 0 ((hI _ _ _).2 ?_) ?_
  ·simp(disch:=omega)only[go_sem];(repeat' apply And.intro)<;>(try first | rfl | assumption | omega);exact Sub.refl _
  ·intro k env heap hi;obtain⟨e0,e1,e2,e15,e16,e17,hk,hsm,hsub⟩:=(hI _ _ _).1 hi;have hfl:=Al Cr l;have hfm:=Al Cr m;by_cases hlt:k<l.length
   ·have hlt':(k:Int)<(m.length:Int):=by omega
    have hlt2:(k:Int)<(l.length:Int):=by omega
    have hkm:k<m.length:=by omega
    have Aw:=Bu Cr l k hlt;have hgetm:=Bu Cr m k hkm;have hwd:IntKind.i64.wrap ((k:Int)+1)=((k+1:Nat):Int):=by rw[IntKind.wrap_i64];omega
    simp(disch:=omega)only[go_sem,e0,e1,e2,e15,e16,e17,hlt',hlt2,Aw,hgetm,hfl,hfm,jD];intro r8 hr8;dsimp only at hr8;simp(disch:=omega)only[go_sem,e0,e1,e2,e15,e16,e17,hlt',hlt2,Aw,hgetm,hfl,hfm,jD];intro r9 hr9;dsimp only at hr9;obtain⟨m2,m1,hr9'⟩:=Ex8.1 hr9;simp(disch:=omega)only[go_sem,e0,e1,e2,e15,e16,e17,m1,m2,Aw,hgetm,hfl,hfm,jD];refine(hp l[k] (List.getElem_mem hlt) m[k] (List.getElem_mem hkm) _).mono ?_;rintro _ H1 ⟨rfl,rfl⟩;rw[Xg hlt hkm] at hsm;have hs1:=(hsub.new hr8 (some (DObj.cells (dAs l[k]) 44))).new hr9 (some (DObj.cells (dAs m[k]) 44));cases hb:p l[k] m[k] with
    | true=>
     rw[hb,jS] at hsm;simp(disch:=omega)only[go_sem,e0,e1,e2,e15,e16,e17];refine⟨k+1,_,Ws.refl _,(hI _ _ _).2 ?_,by omega⟩;simp(disch:=omega)only[go_sem,e0,e1,e2,e15,e16,e17,hwd];(repeat' apply And.intro)<;>(try first | rfl | assumption | omega)
    | false=>
     rw[hb,jT] at hsm;simp(disch:=omega)only[go_sem,e0,e1,e2,e15,e16,e17];exact Wj.sub hs1 (Wj.refl ⟨by rw[hsm],rfl⟩)
   ·have:k=l.length:=by omega
    subst this;have hlt': ¬(l.length:Int)<(m.length:Int):=by omega
    simp(disch:=omega)only[go_sem,e0,e1,e2,e15,e16,e17,hlt'];refine Wj.sub hsub (Wj.refl ⟨?_,rfl⟩);rw[hsm,List.drop_length,hlen,List.drop_length];rfl
 ·have hlen': ¬(l.length:Int)=(m.length:Int):=by omega
  simp(disch:=omega)only[go_sem,hlen'];exact Wj.refl ⟨by rw[Aa4 hlen],rfl⟩
theorem Es9 (G:Nat->DVal) (H:Ab) (p:Ch->Ch->Bool) (l m:List Ch) (g:FuncId) (hl:l.length<=1099511627776)
  (hp: ∀x∈l,∀y∈m,∀H,Ae Tryz.prog G g ([]++ [.agg (dCh x), .agg (dCh y)]++ []) H (Ba (.bool (p x y)) H)):
  Ae Tryz.prog G 253 [.vslice (l.flatMap dCh) l.length, .vslice (m.flatMap dCh) m.length, .func (.func g) [] []] H (Ba (.bool (eqF p l m)) H):=by
 refine Aa Tryz.func253 Tryz.call253 rfl (by kernel_rfl) ?_;by_cases hlen:l.length=m.length
 ·have hlen':(l.length:Int)=(m.length:Int):=by omega
  simp(disch:=omega)only[go_sem,hlen'];obtain⟨I,hI⟩: ∃I:Nat->(Nat->DVal)->Ab->Prop,∀k env heap,I k env heap↔(env 0= .vslice (l.flatMap dCh) l.length/\env 1= .vslice (m.flatMap dCh) m.length/\env 2= .func (.func g) [] []/\env 15= .vslice (l.flatMap dCh) l.length/\env 16=dI m.length/\env 17=dI k/\k<=l.length/\eqF p l m=eqF p (l.drop k) (m.drop k)/\Sub H heap):=⟨_,fun _ _ _=>Iff.rfl⟩;refine Dt1.run I (fun k=>l.length-k) 0 ((hI _ _ _).2 ?_) ?_
  ·simp(disch:=omega)only[go_sem];(repeat' apply And.intro)<;>(try first | rfl | assumption | omega);exact Sub.refl _
  ·intro k env heap hi;obtain⟨e0,e1,e2,e15,e16,e17,hk,hsm,hsub⟩:=(hI _ _ _).1 hi;have hfl:=Al Cu l;have hfm:=Al Cu m;by_cases hlt:k<l.length
   ·have hlt':(k:Int)<(m.length:Int):=by omega
    have hlt2:(k:Int)<(l.length:Int):=by omega
    have hkm:k<m.length:=by omega
    have Aw:=Bu Cu l k hlt;have hgetm:=Bu Cu m k hkm;have hwd:IntKind.i64.wrap ((k:Int)+1)=((k+1:Nat):Int):=by rw[IntKind.wrap_i64];omega
    simp(disch:=omega)only[go_sem,e0,e1,e2,e15,e16,e17,hlt',hlt2,Aw,hgetm,hfl,hfm,jD];intro r8 hr8;dsimp only at hr8;simp(disch:=omega)only[go_sem,e0,e1,e2,e15,e16,e17,hlt',hlt2,Aw,hgetm,hfl,hfm,jD];intro r9 hr9;dsimp only at hr9;obtain⟨m2,m1,hr9'⟩:=Ex8.1 hr9;simp(disch:=omega)only[go_sem,e0,e1,e2,e15,e16,e17,m1,m2,Aw,hgetm,hfl,hfm,jD];refine(hp l[k] (List.getElem_mem hlt) m[k] (List.getElem_mem hkm) _).mono ?_;rintro _ H1 ⟨rfl,rfl⟩;rw[Xg hlt hkm] at hsm;have hs1:=(hsub.new hr8 (some (DObj.cells (dCh l[k]) 47))).new hr9 (some (DObj.cells (dCh m[k]) 47));cases hb:p l[k] m[k] with
    | true=>
     rw[hb,jS] at hsm;simp(disch:=omega)only[go_sem,e0,e1,e2,e15,e16,e17];refine⟨k+1,_,Ws.refl _,(hI _ _ _).2 ?_,by omega⟩;simp(disch:=omega)only[go_sem,e0,e1,e2,e15,e16,e17,hwd];(repeat' apply And.intro)<;>(try first | rfl | assumption | omega)
    | false=>
     rw[hb,jT] at hsm;simp(disch:=omega)only[go_sem,e0,e1,e2,e15,e16,e17];exact Wj.sub hs1 (Wj.refl ⟨by rw[hsm],rfl⟩)
   ·have:k=l.length:=by omega
    subst this;have hlt': ¬(l.length:Int)<(m.length:Int):=by omega
    simp(disch:=omega)only[go_sem,e0,e1,e2,e15,e16,e17,hlt'];refine Wj.sub hsub (Wj.refl ⟨?_,rfl⟩);rw[hsm,List.drop_length,hlen,List.drop_length];rfl
 ·have hlen': ¬(l.length:Int)=(m.length:Int):=by omega
  simp(disch:=omega)only[go_sem,hlen'];exact Wj.refl ⟨by rw[Aa4 hlen],rfl⟩
def Al3 (P:Program) (G:Nat->DVal) (f:FuncId) (x:Ex):Prop:= ∀y H,Ae P G f ([]++ [.agg (dEx x), .agg (dEx y)]++ []) H (Ba (.bool (Lf x y)) H)
theorem Cs7 (G:Nat->DVal) (H:Ab) (x y:Ch) (hl:x.l.length<=1099511627776) (hS: ∀e∈x.l,Al3 Tryz.prog G 15 e):Ae Tryz.prog G 254 ([]++ [.agg (dCh x), .agg (dCh y)]++ []) H (Ba (.bool (Si x y)) H):=by
 rw[Cg4,Rh];refine Aa Tryz.func254 Tryz.call254 rfl (by kernel_rfl) ?_;simp(disch:=omega)only[go_sem,DVal.cells,jG,jH];intro r2 hr2;dsimp only at hr2;simp(disch:=omega)only[go_sem,DVal.cells];intro r3 hr3;dsimp only at hr3;obtain⟨m2,m1,hr3'⟩:=Ex8.1 hr3;by_cases h1:x.kind=y.kind
 ·simp(disch:=omega)only[go_sem,m1,m2,h1];refine(Db8 G _ Lf x.l y.l 15 hl fun e he f _ K=>hS e he f K).mono ?_;rintro _ H1 ⟨rfl,rfl⟩;simp(disch:=omega)only[go_sem];exact Wj.sub (show Sub H _ from(by repeat (first | exact Sub.refl _ | assumption | refine Sub.up ?_ (by assumption) _))) (Wj.refl ⟨by simp,rfl⟩)
 ·simp(disch:=omega)only[go_sem,m1,m2,h1];exact Wj.sub (show Sub H _ from(by repeat (first | exact Sub.refl _ | assumption | refine Sub.up ?_ (by assumption) _))) (Wj.refl ⟨by simp,rfl⟩)
theorem Do0 (G:Nat->DVal) (H:Ab) (l m:List Ch) (hl:Lg l<=1099511627776) (hS: ∀e∈l.flatMap Ch.l,Al3 Tryz.prog G 15 e):Ae Tryz.prog G 138 [dCl l,dCl m] H (Ba (.bool (Lh l m)) H):=by
 have hll:=La l;refine Aa Tryz.func138 Tryz.call138 rfl (by kernel_rfl) ?_;simp(disch:=omega)only[go_sem,dCl];refine(Es9 G _ Si l m 254 (by omega) fun c hc d _ K=>Cs7 G K c d (by have:=Mq hc;have:=Kk c.l;rw[Sl] at*;omega) fun e he=>hS e (List.mem_flatMap.2 ⟨c,hc,he⟩)).mono ?_;rintro _ H1 ⟨rfl,rfl⟩;simp(disch:=omega)only[go_sem];exact Wj.refl ⟨by rw[Aa6],rfl⟩
theorem Cs8 (G:Nat->DVal) (H:Ab) (x y:As) (hl:Ae5 x<=1099511627776) (hS: ∀e∈Dj x,Al3 Tryz.prog G 15 e):Ae Tryz.prog G 223 ([]++ [.agg (dAs x), .agg (dAs y)]++ []) H (Ba (.bool (Tv x y)) H):=by
 have hb:=Sk x;have dx:=Az2 x;have dy:=Az2 y;rw[Cg3];refine Aa Tryz.func223 Tryz.call223 rfl (by kernel_rfl) ?_;simp(disch:=omega)only[go_sem,DVal.cells,jG,jH];intro r2 hr2;dsimp only at hr2;simp(disch:=omega)only[go_sem,DVal.cells];intro r3 hr3;dsimp only at hr3;obtain⟨m2,m1,hr3'⟩:=Ex8.1 hr3;simp(disch:=omega)only[go_sem,m1,m2];refine(Do0 G _ x.c y.c (by omega) fun e he=>hS e (List.mem_append_left _ he)).mono ?_;rintro _ H1 ⟨rfl,rfl⟩;cases h:Lh x.c y.c with
 | false=>
  simp(disch:=omega)only[go_sem,m1,m2];exact Wj.sub (show Sub H _ from(by repeat (first | exact Sub.refl _ | assumption | refine Sub.up ?_ (by assumption) _))) (Wj.refl ⟨by simp,rfl⟩)
 | true=>
  simp(disch:=omega)only[go_sem,m1,m2,dx,dy];refine(hS x.e (Ky x) y.e _).mono ?_;rintro _ H1 ⟨rfl,rfl⟩;simp(disch:=omega)only[go_sem];exact Wj.sub (show Sub H _ from(by repeat (first | exact Sub.refl _ | assumption | refine Sub.up ?_ (by assumption) _))) (Wj.refl ⟨by simp,rfl⟩)
theorem Cg5 (G:Nat->DVal) (H:Ab) (l m:List As) (hl:Pg l<=1099511627776) (hS: ∀e∈l.flatMap Dj,Al3 Tryz.prog G 15 e):Ae Tryz.prog G 94 [dAl l,dAl m] H (Ba (.bool (Ma l m)) H):=by
 have hll:=Yp l;refine Aa Tryz.func94 Tryz.call94 rfl (by kernel_rfl) ?_;simp(disch:=omega)only[go_sem,dAl];refine(Es8 G _ Tv l m 223 (by omega) fun a ha b _ K=>Cs8 G K a b (by have:=Yo ha;omega) fun e he=>hS e (List.mem_flatMap.2 ⟨a,ha,he⟩)).mono ?_;rintro _ H1 ⟨rfl,rfl⟩;simp(disch:=omega)only[go_sem];exact Wj.refl ⟨by rw[Aa5],rfl⟩
theorem Et0 (G:Nat->DVal): ∀x:Ex,Kj x<=1099511627776->Al3 Tryz.prog G 15 x:=by
 intro x
 induction x using Ex.ind with
 | h x ih=>
  intro hb y H;have hbe:=Vf x;have hbl:=Kk x.l;have ih': ∀e∈parts x,Al3 Tryz.prog G 15 e:=fun e he=>ih e he (by have:=Vh he;omega);rw[Cf1,Rh];refine Aa Tryz.func15 Tryz.call15 rfl (by kernel_rfl) ?_;simp(disch:=omega)only[go_sem,DVal.cells,jG,jH];intro r2 hr2;dsimp only at hr2;simp(disch:=omega)only[go_sem,DVal.cells];intro r3 hr3;dsimp only at hr3;obtain⟨m2,m1,hr3'⟩:=Ex8.1 hr3;by_cases h1:x.kind=y.kind
  ·by_cases h2:x.oper=y.oper
   ·by_cases h3:x.n=y.n
    ·by_cases h4:x.s=y.s
     ·simp(disch:=omega)only[go_sem,m1,m2,h1,h2,h3,h4];refine(Db8 G _ Lf x.l y.l 15 (by omega) fun e he f _ K=>ih' e (Bd he) f K).mono ?_;rintro _ H1 ⟨rfl,rfl⟩;cases h5:eqF Lf x.l y.l with
      | true=>
       simp(disch:=omega)only[go_sem,m1,m2];refine(Cg5 G _ x.a y.a (by omega) fun e he=>ih' e (List.mem_append_right _ he)).mono ?_;rintro _ H1 ⟨rfl,rfl⟩;simp(disch:=omega)only[go_sem];exact Wj.sub (show Sub H _ from(by repeat (first | exact Sub.refl _ | assumption | refine Sub.up ?_ (by assumption) _))) (Wj.refl ⟨by simp,rfl⟩)
      | false=>
       simp(disch:=omega)only[go_sem,m1,m2];exact Wj.sub (show Sub H _ from(by repeat (first | exact Sub.refl _ | assumption | refine Sub.up ?_ (by assumption) _))) (Wj.refl ⟨by simp,rfl⟩)
     ·simp(disch:=omega)only[go_sem,m1,m2,h1,h2,h3,h4];exact Wj.sub (show Sub H _ from(by repeat (first | exact Sub.refl _ | assumption | refine Sub.up ?_ (by assumption) _))) (Wj.refl ⟨by simp,rfl⟩)
    ·simp(disch:=omega)only[go_sem,m1,m2,h1,h2,h3];exact Wj.sub (show Sub H _ from(by repeat (first | exact Sub.refl _ | assumption | refine Sub.up ?_ (by assumption) _))) (Wj.refl ⟨by simp,rfl⟩)
   ·simp(disch:=omega)only[go_sem,m1,m2,h1,h2];exact Wj.sub (show Sub H _ from(by repeat (first | exact Sub.refl _ | assumption | refine Sub.up ?_ (by assumption) _))) (Wj.refl ⟨by simp,rfl⟩)
  ·simp(disch:=omega)only[go_sem,m1,m2,h1];exact Wj.sub (show Sub H _ from(by repeat (first | exact Sub.refl _ | assumption | refine Sub.up ?_ (by assumption) _))) (Wj.refl ⟨by simp,rfl⟩)
theorem Do1 (G:Nat->DVal) (H:Ab) (x y:Ex) (hx:Kj x<=1099511627776):Ae Tryz.prog G 15 [.agg (dEx x), .agg (dEx y)] H (Ba (.bool (Lf x y)) H):=Et0 G x hx y H
end Go.Dl

-- Chapter 3: the reference's Same, SameArgs, SameChoices; Level (printed by gen_ub.py).
namespace Go.Dl
open Go Go.Proofs
set_option maxRecDepth 100000
theorem Sn {α:Type} {p:α->α->Bool} {l m:List α} {k:Nat} (h1:k<l.length) (h2:k<m.length) {b:Bool} (hb:p l[k] m[k]=b) (h:eqF p l m=eqF p (l.drop k) (m.drop k)):eqF p l m=(b&&eqF p (l.drop (k+1)) (m.drop (k+1))):=by
 rw[h,Xg h1 h2,hb]
section
variable {G:Nat->DVal} {H:Ab}
def Ae9 (P:Program) (G:Nat->DVal) (f:FuncId) (x:Ex):Prop:= ∀y H,Ae P G f [.agg (dEx x), .agg (dEx y)] H (Ba (.bool (Lf x y)) H)
theorem Ap5 (G:Nat->DVal) (H:Ab) (l m:List Ex) (hl:l.length<=1099511627776) (hS: ∀e∈l,Ae9 Tryz.prog G 170 e):Ae Tryz.prog G 288 [.vslice (l.flatMap dEx) l.length, .vslice (m.flatMap dEx) m.length] H (Ba (.bool (eqF Lf l m)) H):=by
 refine Aa Tryz.func288 Tryz.call288 rfl (by kernel_rfl) ?_;by_cases hlen:l.length=m.length
 ·have hlen':(l.length:Int)=(m.length:Int):=by omega
  simp(disch:=omega)only[go_sem,hlen'];obtain⟨I,hI⟩: ∃I:Nat->(Nat->DVal)->Ab->Prop,∀k env heap,I k env heap↔(env 0= .vslice (l.flatMap dEx) l.length/\env 1= .vslice (m.flatMap dEx) m.length/\env 5=dI k/\k<=l.length/\eqF Lf l m=eqF Lf (l.drop k) (m.drop k)/\heap=H):=⟨_,fun _ _ _=>Iff.rfl⟩;refine Dt1.run I (fun k=>l.length-k) 0 ((hI _ _ _).2 ?_) ?_
  ·simp(disch:=omega)only[go_sem];(repeat' apply And.intro)<;>(try first | rfl | assumption | omega)
  ·intro k env heap hi;obtain⟨e0,e1,e5,hk,hsm,rfl⟩:=(hI _ _ _).1 hi;have hfl:=Al Ad l;have hfm:=Al Ad m;by_cases hlt:k<l.length
   ·have hlt':(k:Int)<(m.length:Int):=by omega
    have hlt2:(k:Int)<(l.length:Int):=by omega
    have hkm:k<m.length:=by omega
    have Aw:=Bu Ad l k hlt;have hgetm:=Bu Ad m k hkm;have hwd:IntKind.i64.wrap ((k:Int)+1)=((k+1:Nat):Int):=by rw[IntKind.wrap_i64];omega
    have hml:=List.getElem_mem hlt;simp(disch:=omega)only[go_sem,e0,e1,e5,hlt',hlt2,Aw,hgetm,hfl,hfm,jD];refine Ak (by kernel_rfl) pL56 (by kernel_rfl) ?_;simp(disch:=omega)only[go_sem,e0,e1,e5,hlt',hlt2,Aw,hgetm,hfl,hfm,jD];refine(hS l[k] hml m[k] _).mono ?_;rintro _ H1 ⟨rfl,rfl⟩;cases hb:Lf l[k] m[k] with
    | true=>
     simp(disch:=omega)only[go_sem,e0,e1,e5];refine⟨k+1,_,Ws.refl _,(hI _ _ _).2 ?_,by omega⟩;simp(disch:=omega)only[go_sem,e0,e1,e5,hwd];(repeat' apply And.intro)<;>(try first | rfl | assumption | omega);all_goals rw [Sn hlt hkm hb hsm,jS]
    | false=>
     simp(disch:=omega)only[go_sem,e0,e1,e5];exact Wj.refl ⟨by rw[Sn hlt hkm hb hsm,jT],rfl⟩
   ·have:k=l.length:=by omega
    subst this;have hlt': ¬(l.length:Int)<(m.length:Int):=by omega
    simp(disch:=omega)only[go_sem,e0,e1,e5,hlt'];refine Wj.refl ⟨?_,rfl⟩;rw[hsm,List.drop_length,hlen,List.drop_length];rfl
 ·have hlen': ¬(l.length:Int)=(m.length:Int):=by omega
  simp(disch:=omega)only[go_sem,hlen'];exact Wj.refl ⟨by rw[Aa4 hlen],rfl⟩
theorem Cs9 (G:Nat->DVal) (H:Ab) (l m:List Ch) (hl:Lg l<=1099511627776) (hS: ∀e∈l.flatMap Ch.l,Ae9 Tryz.prog G 170 e):Ae Tryz.prog G 172 [.vslice (l.flatMap dCh) l.length, .vslice (m.flatMap dCh) m.length] H (Ba (.bool (eqF Si l m)) H):=by
 have hll:=La l;refine Aa Tryz.func172 Tryz.call172 rfl (by kernel_rfl) ?_;by_cases hlen:l.length=m.length
 ·have hlen':(l.length:Int)=(m.length:Int):=by omega
  simp(disch:=omega)only[go_sem,hlen'];obtain⟨I,hI⟩: ∃I:Nat->(Nat->DVal)->Ab->Prop,∀k env heap,I k env heap↔(env 0= .vslice (l.flatMap dCh) l.length/\env 1= .vslice (m.flatMap dCh) m.length/\env 5=dI k/\k<=l.length/\eqF Si l m=eqF Si (l.drop k) (m.drop k)/\heap=H):=⟨_,fun _ _ _=>Iff.rfl⟩;refine Dt1.run I (fun k=>l.length-k) 0 ((hI _ _ _).2 ?_) ?_
  ·simp(disch:=omega)only[go_sem];(repeat' apply And.intro)<;>(try first | rfl | assumption | omega)
  ·intro k env heap hi;obtain⟨e0,e1,e5,hk,hsm,rfl⟩:=(hI _ _ _).1 hi;have hfl:=Al Cu l;have hfm:=Al Cu m;by_cases hlt:k<l.length
   ·have hlt':(k:Int)<(m.length:Int):=by omega
    have hlt2:(k:Int)<(l.length:Int):=by omega
    have hkm:k<m.length:=by omega
    have Aw:=Bu Cu l k hlt;have hgetm:=Bu Cu m k hkm;have hwd:IntKind.i64.wrap ((k:Int)+1)=((k+1:Nat):Int):=by rw[IntKind.wrap_i64];omega
    have hml:=List.getElem_mem hlt;have gk:=Ck Cu l k hlt 0 (by decide);have gl:=Ck Cu l k hlt 1 (by decide);have mk:=Ck Cu m k hkm 0 (by decide);have ml:=Ck Cu m k hkm 1 (by decide);rw[Db1,Nat.add_zero] at gk mk;rw[Bk5] at gl ml;have hbl:=Kk l[k].l;have hbc:=Mq hml;rw[Sl] at hbc;have hpe:=Cg4 l[k] m[k];rw[Rh] at hpe;simp(disch:=omega)only[go_sem,e0,e1,e5,hlt',hlt2,hfl,hfm,jD];refine Ak (by kernel_rfl) pL11 (by kernel_rfl) ?_;by_cases hkk:l[k].kind=m[k].kind
    ·simp(disch:=omega)only[go_sem,e0,e1,e5,hlt',hlt2,gk,mk,gl,ml,hkk,hfl,hfm,jD];refine(Ap5 G _ l[k].l m[k].l (by omega) fun e he=>hS e (List.mem_flatMap.2 ⟨l[k],hml,he⟩)).mono ?_;rintro _ H1 ⟨rfl,rfl⟩;rw[decide_eq_true hkk,jS] at hpe;rw[<-hpe];cases hb:Si l[k] m[k] with
     | true=>
      simp(disch:=omega)only[go_sem,e0,e1,e5];refine⟨k+1,_,Ws.refl _,(hI _ _ _).2 ?_,by omega⟩;simp(disch:=omega)only[go_sem,e0,e1,e5,hwd];(repeat' apply And.intro)<;>(try first | rfl | assumption | omega);all_goals rw [Sn hlt hkm hb hsm,jS]
     | false=>
      simp(disch:=omega)only[go_sem,e0,e1,e5];exact Wj.refl ⟨by rw[Sn hlt hkm hb hsm,jT],rfl⟩
    ·have hb:Si l[k] m[k]=false:=by rw[hpe,decide_eq_false hkk,jT]
     simp(disch:=omega)only[go_sem,e0,e1,e5,hlt',hlt2,gk,mk,gl,ml,hkk,hfl,hfm,jD];exact Wj.refl ⟨by rw[Sn hlt hkm hb hsm,jT],rfl⟩
   ·have:k=l.length:=by omega
    subst this;have hlt': ¬(l.length:Int)<(m.length:Int):=by omega
    simp(disch:=omega)only[go_sem,e0,e1,e5,hlt'];refine Wj.refl ⟨?_,rfl⟩;rw[hsm,List.drop_length,hlen,List.drop_length];rfl
 ·have hlen': ¬(l.length:Int)=(m.length:Int):=by omega
  simp(disch:=omega)only[go_sem,hlen'];exact Wj.refl ⟨by rw[Aa4 hlen],rfl⟩
theorem Bt1 (G:Nat->DVal) (H:Ab) (l m:List As) (hl:Pg l<=1099511627776) (hS: ∀e∈l.flatMap Dj,Ae9 Tryz.prog G 170 e):Ae Tryz.prog G 289 [.vslice (l.flatMap dAs) l.length, .vslice (m.flatMap dAs) m.length] H (Ba (.bool (eqF Tv l m)) H):=by
 have hll:=Yp l;refine Aa Tryz.func289 Tryz.call289 rfl (by kernel_rfl) ?_;by_cases hlen:l.length=m.length
 ·have hlen':(l.length:Int)=(m.length:Int):=by omega
  simp(disch:=omega)only[go_sem,hlen'];obtain⟨I,hI⟩: ∃I:Nat->(Nat->DVal)->Ab->Prop,∀k env heap,I k env heap↔(env 0= .vslice (l.flatMap dAs) l.length/\env 1= .vslice (m.flatMap dAs) m.length/\env 5=dI k/\k<=l.length/\eqF Tv l m=eqF Tv (l.drop k) (m.drop k)/\heap=H):=⟨_,fun _ _ _=>Iff.rfl⟩;refine Dt1.run I (fun k=>l.length-k) 0 ((hI _ _ _).2 ?_) ?_
  ·simp(disch:=omega)only[go_sem];(repeat' apply And.intro)<;>(try first | rfl | assumption | omega)
  ·intro k env heap hi;obtain⟨e0,e1,e5,hk,hsm,rfl⟩:=(hI _ _ _).1 hi;have hfl:=Al Cr l;have hfm:=Al Cr m;by_cases hlt:k<l.length
   ·have hlt':(k:Int)<(m.length:Int):=by omega
    have hlt2:(k:Int)<(l.length:Int):=by omega
    have hkm:k<m.length:=by omega
    have Aw:=Bu Cr l k hlt;have hgetm:=Bu Cr m k hkm;have hwd:IntKind.i64.wrap ((k:Int)+1)=((k+1:Nat):Int):=by rw[IntKind.wrap_i64];omega
    have hml:=List.getElem_mem hlt;have gk:=Ck Cr l k hlt 0 (by decide);have mk:=Ck Cr m k hkm 0 (by decide);rw[Ap1,Nat.add_zero] at gk mk;have gl:((l.flatMap dAs).drop (k*10+1)).take 9=dEx l[k].e:=by
     rw[<-Az2,<-Aw,List.drop_take,List.take_take,List.drop_drop];rfl
    have ml:((m.flatMap dAs).drop (k*10+1)).take 9=dEx m[k].e:=by
     rw[<-Az2,<-hgetm,List.drop_take,List.take_take,List.drop_drop];rfl
    have hba:=Yo hml;rw[Sk] at hba;have hpe:=Cg3 l[k] m[k];rw[Aa6] at hpe;simp(disch:=omega)only[go_sem,e0,e1,e5,hlt',hlt2,hfl,hfm,jD];refine Ak (by kernel_rfl) pL25 (by kernel_rfl) ?_;simp(disch:=omega)only[go_sem,e0,e1,e5,hlt',hlt2,gk,mk,gl,ml,hfl,hfm,jD];refine(Cs9 G _ l[k].c m[k].c (by omega) fun e he=>hS e (List.mem_flatMap.2 ⟨l[k],hml,List.mem_append_left _ he⟩)).mono ?_;rintro _ H1 ⟨rfl,rfl⟩;cases hc:eqF Si l[k].c m[k].c with
    | true=>
     rw[hc,jS] at hpe;simp(disch:=omega)only[go_sem,e0,e1,e5,hlt',hlt2,gk,mk,gl,ml,hfl,hfm,jD];refine(hS l[k].e (List.mem_flatMap.2 ⟨l[k],hml,Ky _⟩) m[k].e _).mono ?_;rintro _ H1 ⟨rfl,rfl⟩;rw[<-hpe];cases hb:Tv l[k] m[k] with
     | true=>
      simp(disch:=omega)only[go_sem,e0,e1,e5];refine⟨k+1,_,Ws.refl _,(hI _ _ _).2 ?_,by omega⟩;simp(disch:=omega)only[go_sem,e0,e1,e5,hwd];(repeat' apply And.intro)<;>(try first | rfl | assumption | omega);all_goals rw [Sn hlt hkm hb hsm,jS]
     | false=>
      simp(disch:=omega)only[go_sem,e0,e1,e5];exact Wj.refl ⟨by rw[Sn hlt hkm hb hsm,jT],rfl⟩
    | false=>
     have hb:Tv l[k] m[k]=false:=by rw[hpe,hc,jT]
     simp(disch:=omega)only[go_sem,e0,e1,e5,hlt',hlt2,gk,mk,gl,ml,hfl,hfm,jD];exact Wj.refl ⟨by rw[Sn hlt hkm hb hsm,jT],rfl⟩
   ·have:k=l.length:=by omega
    subst this;have hlt': ¬(l.length:Int)<(m.length:Int):=by omega
    simp(disch:=omega)only[go_sem,e0,e1,e5,hlt'];refine Wj.refl ⟨?_,rfl⟩;rw[hsm,List.drop_length,hlen,List.drop_length];rfl
 ·have hlen': ¬(l.length:Int)=(m.length:Int):=by omega
  simp(disch:=omega)only[go_sem,hlen'];exact Wj.refl ⟨by rw[Aa4 hlen],rfl⟩
theorem Ec3 (G:Nat->DVal): ∀x:Ex,Kj x<=1099511627776->Ae9 Tryz.prog G 170 x:=by
 intro x
 induction x using Ex.ind with
 | h x ih=>
  intro hb y H;have hbe:=Vf x;have hbl:=Kk x.l;have ih': ∀e∈parts x,Ae9 Tryz.prog G 170 e:=fun e he=>ih e he (by have:=Vh he;omega);rw[Cf1,Rh,Aa5];refine Aa Tryz.func170 Tryz.call170 rfl (by kernel_rfl) ?_;simp(disch:=omega)only[go_sem,DVal.cells];intro r2 hr2;dsimp only at hr2;simp(disch:=omega)only[go_sem,DVal.cells];intro r3 hr3;dsimp only at hr3;obtain⟨m2,m1,hr3'⟩:=Ex8.1 hr3;by_cases h1:x.kind=y.kind
  ·by_cases h2:x.oper=y.oper
   ·by_cases h3:x.n=y.n
    ·by_cases h4:x.s=y.s
     ·simp(disch:=omega)only[go_sem,m1,m2,h1,h2,h3,h4];refine(Ap5 G _ x.l y.l (by omega) fun e he=>ih' e (Bd he)).mono ?_;rintro _ H1 ⟨rfl,rfl⟩;cases h5:eqF Lf x.l y.l with
      | true=>
       simp(disch:=omega)only[go_sem,m1,m2];refine(Bt1 G _ x.a y.a (by omega) fun e he=>ih' e (List.mem_append_right _ he)).mono ?_;rintro _ H1 ⟨rfl,rfl⟩;simp(disch:=omega)only[go_sem];exact Wj.sub (show Sub H _ from(by repeat (first | exact Sub.refl _ | assumption | refine Sub.up ?_ (by assumption) _))) (Wj.refl ⟨by simp,rfl⟩)
      | false=>
       simp(disch:=omega)only[go_sem,m1,m2];exact Wj.sub (show Sub H _ from(by repeat (first | exact Sub.refl _ | assumption | refine Sub.up ?_ (by assumption) _))) (Wj.refl ⟨by simp,rfl⟩)
     ·simp(disch:=omega)only[go_sem,m1,m2,h1,h2,h3,h4];exact Wj.sub (show Sub H _ from(by repeat (first | exact Sub.refl _ | assumption | refine Sub.up ?_ (by assumption) _))) (Wj.refl ⟨by simp,rfl⟩)
    ·simp(disch:=omega)only[go_sem,m1,m2,h1,h2,h3];exact Wj.sub (show Sub H _ from(by repeat (first | exact Sub.refl _ | assumption | refine Sub.up ?_ (by assumption) _))) (Wj.refl ⟨by simp,rfl⟩)
   ·simp(disch:=omega)only[go_sem,m1,m2,h1,h2];exact Wj.sub (show Sub H _ from(by repeat (first | exact Sub.refl _ | assumption | refine Sub.up ?_ (by assumption) _))) (Wj.refl ⟨by simp,rfl⟩)
  ·simp(disch:=omega)only[go_sem,m1,m2,h1];exact Wj.sub (show Sub H _ from(by repeat (first | exact Sub.refl _ | assumption | refine Sub.up ?_ (by assumption) _))) (Wj.refl ⟨by simp,rfl⟩)
theorem Ct0 (G:Nat->DVal) (H:Ab) (x y:Ex) (hx:Kj x<=1099511627776):Ae Tryz.prog G 170 [.agg (dEx x), .agg (dEx y)] H (Ba (.bool (Lf x y)) H):=Ec3 G x hx y H
theorem Vi (G:Nat->DVal) (H:Ab) (e:Ex):Ae Tryz.prog G 106 [.agg (dEx e)] H (Ba (dI (Bo e)) H):=by
 refine Aa Tryz.func106 Tryz.call106 rfl (by kernel_rfl) ?_;simp(disch:=omega)only[go_sem,DVal.cells];intro r hr;dsimp only at hr;by_cases k13:e.kind=13
 ·skip
  simp(disch:=omega)only[go_sem,k13];exact Wj.dropA r hr (Wj.refl ⟨by simp [Bo,k13],rfl⟩)
 by_cases k14:e.kind=14
 ·skip
  simp(disch:=omega)only[go_sem,k13,k14];exact Wj.dropA r hr (Wj.refl ⟨by simp [Bo,k13,k14],rfl⟩)
 by_cases k11:e.kind=11
 ·by_cases o18:e.oper=18
  ·skip
   simp(disch:=omega)only[go_sem,k11,o18];exact Wj.dropA r hr (Wj.refl ⟨by simp [Bo,k11,o18],rfl⟩)
  by_cases o19:e.oper=19
  ·skip
   simp(disch:=omega)only[go_sem,k11,o18,o19];exact Wj.dropA r hr (Wj.refl ⟨by simp [Bo,k11,o18,o19],rfl⟩)
  by_cases o20:e.oper=20
  ·skip
   simp(disch:=omega)only[go_sem,k11,o18,o19,o20];exact Wj.dropA r hr (Wj.refl ⟨by simp [Bo,k11,o18,o19,o20],rfl⟩)
  by_cases o21:e.oper=21
  ·skip
   simp(disch:=omega)only[go_sem,k11,o18,o19,o20,o21];exact Wj.dropA r hr (Wj.refl ⟨by simp [Bo,k11,o18,o19,o20,o21],rfl⟩)
  simp(disch:=omega)only[go_sem,k11,o18,o19,o20,o21];exact Wj.dropA r hr (Wj.refl ⟨by simp [Bo,k11,o18,o19,o20,o21],rfl⟩)
 by_cases k12:e.kind=12
 ·by_cases a1:13<=e.oper
  ·by_cases a2:e.oper<=17
   ·skip
    simp(disch:=omega)only[go_sem,k12,k11,a1,a2];refine Wj.dropA r hr (Wj.refl ⟨?_,rfl⟩);congr 2;rw[Bo,if_neg (by omega),if_neg (by omega),if_pos (by omega)];(repeat (first | rfl | rw[if_pos (by omega)] | rw[if_neg (by omega)]))
   ·have b1:7<=e.oper:=by omega
    have b2: ¬e.oper<=12:=by omega
    have c1:3<=e.oper:=by omega
    have c2: ¬e.oper<=6:=by omega
    have x1: ¬e.oper=1:=by omega
    have x2: ¬e.oper=2:=by omega
    simp(disch:=omega)only[go_sem,k12,k11,a1,a2,b1,b2,x1,x2,c1,c2];refine Wj.dropA r hr (Wj.refl ⟨?_,rfl⟩);congr 2;rw[Bo,if_neg (by omega),if_neg (by omega),if_pos (by omega)];(repeat (first | rfl | rw[if_pos (by omega)] | rw[if_neg (by omega)]))
  ·by_cases b1:7<=e.oper
   ·have b2:e.oper<=12:=by omega
    simp(disch:=omega)only[go_sem,k12,k11,a1,b1,b2];refine Wj.dropA r hr (Wj.refl ⟨?_,rfl⟩);congr 2;rw[Bo,if_neg (by omega),if_neg (by omega),if_pos (by omega)];(repeat (first | rfl | rw[if_pos (by omega)] | rw[if_neg (by omega)]))
   ·by_cases x1:e.oper=1
    ·skip
     simp(disch:=omega)only[go_sem,k12,k11,x1];refine Wj.dropA r hr (Wj.refl ⟨?_,rfl⟩);congr 2;rw[Bo,if_neg (by omega),if_neg (by omega),if_pos (by omega)];(repeat (first | rfl | rw[if_pos (by omega)] | rw[if_neg (by omega)]))
    by_cases x2:e.oper=2
    ·skip
     simp(disch:=omega)only[go_sem,k12,k11,x2];refine Wj.dropA r hr (Wj.refl ⟨?_,rfl⟩);congr 2;rw[Bo,if_neg (by omega),if_neg (by omega),if_pos (by omega)];(repeat (first | rfl | rw[if_pos (by omega)] | rw[if_neg (by omega)]))
    by_cases c1:3<=e.oper
    ·have c2:e.oper<=6:=by omega
     simp(disch:=omega)only[go_sem,k12,k11,a1,b1,x1,x2,c1,c2];refine Wj.dropA r hr (Wj.refl ⟨?_,rfl⟩);congr 2;rw[Bo,if_neg (by omega),if_neg (by omega),if_pos (by omega)];(repeat (first | rfl | rw[if_pos (by omega)] | rw[if_neg (by omega)]))
    ·skip
     simp(disch:=omega)only[go_sem,k12,k11,a1,b1,x1,x2,c1];refine Wj.dropA r hr (Wj.refl ⟨?_,rfl⟩);congr 2;rw[Bo,if_neg (by omega),if_neg (by omega),if_pos (by omega)];(repeat (first | rfl | rw[if_pos (by omega)] | rw[if_neg (by omega)]))
 simp(disch:=omega)only[go_sem,k11,k12,k13,k14];exact Wj.dropA r hr (Wj.refl ⟨by simp [Bo,k11,k12,k13,k14],rfl⟩)
theorem Xh (G:Nat->DVal) (H:Ab) (e:Ex):Ae Tryz.prog G 394 [.agg (dEx e)] H (Ba (dI (Bo e)) H):=by
 refine Aa Tryz.func394 Tryz.call394 rfl (by kernel_rfl) ?_;simp(disch:=omega)only[go_sem,DVal.cells];intro r hr;dsimp only at hr;by_cases k13:e.kind=13
 ·skip
  simp(disch:=omega)only[go_sem,k13];exact Wj.dropA r hr (Wj.refl ⟨by simp [Bo,k13],rfl⟩)
 by_cases k14:e.kind=14
 ·skip
  simp(disch:=omega)only[go_sem,k13,k14];exact Wj.dropA r hr (Wj.refl ⟨by simp [Bo,k13,k14],rfl⟩)
 by_cases k11:e.kind=11
 ·by_cases o18:e.oper=18
  ·skip
   simp(disch:=omega)only[go_sem,k11,o18];exact Wj.dropA r hr (Wj.refl ⟨by simp [Bo,k11,o18],rfl⟩)
  by_cases o19:e.oper=19
  ·skip
   simp(disch:=omega)only[go_sem,k11,o18,o19];exact Wj.dropA r hr (Wj.refl ⟨by simp [Bo,k11,o18,o19],rfl⟩)
  by_cases o20:e.oper=20
  ·skip
   simp(disch:=omega)only[go_sem,k11,o18,o19,o20];exact Wj.dropA r hr (Wj.refl ⟨by simp [Bo,k11,o18,o19,o20],rfl⟩)
  by_cases o21:e.oper=21
  ·skip
   simp(disch:=omega)only[go_sem,k11,o18,o19,o20,o21];exact Wj.dropA r hr (Wj.refl ⟨by simp [Bo,k11,o18,o19,o20,o21],rfl⟩)
  simp(disch:=omega)only[go_sem,k11,o18,o19,o20,o21];exact Wj.dropA r hr (Wj.refl ⟨by simp [Bo,k11,o18,o19,o20,o21],rfl⟩)
 by_cases k12:e.kind=12
 ·by_cases a1:13<=e.oper
  ·by_cases a2:e.oper<=17
   ·skip
    simp(disch:=omega)only[go_sem,k12,k11,a1,a2];refine Wj.dropA r hr (Wj.refl ⟨?_,rfl⟩);congr 2;rw[Bo,if_neg (by omega),if_neg (by omega),if_pos (by omega)];(repeat (first | rfl | rw[if_pos (by omega)] | rw[if_neg (by omega)]))
   ·have b1:7<=e.oper:=by omega
    have b2: ¬e.oper<=12:=by omega
    have c1:3<=e.oper:=by omega
    have c2: ¬e.oper<=6:=by omega
    have x1: ¬e.oper=1:=by omega
    have x2: ¬e.oper=2:=by omega
    simp(disch:=omega)only[go_sem,k12,k11,a1,a2,b1,b2,x1,x2,c1,c2];refine Wj.dropA r hr (Wj.refl ⟨?_,rfl⟩);congr 2;rw[Bo,if_neg (by omega),if_neg (by omega),if_pos (by omega)];(repeat (first | rfl | rw[if_pos (by omega)] | rw[if_neg (by omega)]))
  ·by_cases b1:7<=e.oper
   ·have b2:e.oper<=12:=by omega
    simp(disch:=omega)only[go_sem,k12,k11,a1,b1,b2];refine Wj.dropA r hr (Wj.refl ⟨?_,rfl⟩);congr 2;rw[Bo,if_neg (by omega),if_neg (by omega),if_pos (by omega)];(repeat (first | rfl | rw[if_pos (by omega)] | rw[if_neg (by omega)]))
   ·by_cases x1:e.oper=1
    ·skip
     simp(disch:=omega)only[go_sem,k12,k11,x1];refine Wj.dropA r hr (Wj.refl ⟨?_,rfl⟩);congr 2;rw[Bo,if_neg (by omega),if_neg (by omega),if_pos (by omega)];(repeat (first | rfl | rw[if_pos (by omega)] | rw[if_neg (by omega)]))
    by_cases x2:e.oper=2
    ·skip
     simp(disch:=omega)only[go_sem,k12,k11,x2];refine Wj.dropA r hr (Wj.refl ⟨?_,rfl⟩);congr 2;rw[Bo,if_neg (by omega),if_neg (by omega),if_pos (by omega)];(repeat (first | rfl | rw[if_pos (by omega)] | rw[if_neg (by omega)]))
    by_cases c1:3<=e.oper
    ·have c2:e.oper<=6:=by omega
     simp(disch:=omega)only[go_sem,k12,k11,a1,b1,x1,x2,c1,c2];refine Wj.dropA r hr (Wj.refl ⟨?_,rfl⟩);congr 2;rw[Bo,if_neg (by omega),if_neg (by omega),if_pos (by omega)];(repeat (first | rfl | rw[if_pos (by omega)] | rw[if_neg (by omega)]))
    ·skip
     simp(disch:=omega)only[go_sem,k12,k11,a1,b1,x1,x2,c1];refine Wj.dropA r hr (Wj.refl ⟨?_,rfl⟩);congr 2;rw[Bo,if_neg (by omega),if_neg (by omega),if_pos (by omega)];(repeat (first | rfl | rw[if_pos (by omega)] | rw[if_neg (by omega)]))
 simp(disch:=omega)only[go_sem,k11,k12,k13,k14];exact Wj.dropA r hr (Wj.refl ⟨by simp [Bo,k11,k12,k13,k14],rfl⟩)
end
end Go.Dl

-- Chapter 3: the reference: what is valid: arguments, choices, associations.
namespace Go.Dl
open Go Go.Proofs
set_option maxRecDepth 100000
def Ei (e:Ex) (o n s a:Bool):Bool:=(o || zO e)&&(n || zN e)&&(s || zS e)&&(a || zA e)
section
variable {G:Nat->DVal} {H:Ab}
theorem Bh1 (G:Nat->DVal) (H:Ab) (o:Int):Ae Tryz.prog G 399 [.int .u8 o] H (Ba (.bool (decide (18<=o)&&decide (o<=21))) H):=by
 refine Aa Tryz.func399 Tryz.call399 rfl (by kernel_rfl) ?_;by_cases h:18<=o
 ·simp(disch:=omega)only[go_sem,h];exact Wj.refl ⟨by simp,rfl⟩
 ·simp(disch:=omega)only[go_sem,h];exact Wj.refl ⟨by simp,rfl⟩
theorem Bt2 (G:Nat->DVal) (H:Ab) (o:Int):Ae Tryz.prog G 400 [.int .u8 o] H (Ba (.bool (decide (1<=o)&&decide (o<=17))) H):=by
 refine Aa Tryz.func400 Tryz.call400 rfl (by kernel_rfl) ?_;by_cases h:1<=o
 ·simp(disch:=omega)only[go_sem,h];exact Wj.refl ⟨by simp,rfl⟩
 ·simp(disch:=omega)only[go_sem,h];exact Wj.refl ⟨by simp,rfl⟩
theorem Cg6 (G:Nat->DVal) (H:Ab) (e:Ex) (o n s a:Bool):Ae Tryz.prog G 396 [.agg (dEx e), .bool o, .bool n, .bool s, .bool a] H (Ba (.bool (Ei e o n s a)) H):=by
 refine Aa Tryz.func396 Tryz.call396 rfl (by kernel_rfl) ?_;simp(disch:=omega)only[go_sem,DVal.cells];intro r hr;dsimp only at hr;have fin: ∀b,b=Ei e o n s a->Wj (Ba (.bool (Ei e o n s a)) H) (.bool b) (upd H r (some (.cells (dEx e) 27))):=fun b hb=>Wj.dropA r hr (Wj.refl ⟨by rw[hb],rfl⟩);cases o with
 | true=>
  cases n with
  | true=>
   cases s with
   | true=>
    cases a with
    | true=>
     simp(disch:=omega)only[go_sem];exact fin _ (by simp [Ei,zO,zN,zS,zA,Ao])
    | false=>
     by_cases h4:e.a.length=0
     ·have h4':(e.a.length:Int)=0:=by omega
      have y4:e.a= []:=List.length_eq_zero_iff.1 h4;simp(disch:=omega)only[go_sem,h4'];exact fin _ (by simp [Ei,zO,zN,zS,zA,Ao,y4])
     ·have h4': ¬((e.a.length:Int)=0):=by omega
      have y4: ¬e.a= []:=fun e4=>h4 (by rw[e4];rfl);simp(disch:=omega)only[go_sem,h4'];exact fin _ (by simp [Ei,zO,zN,zS,zA,Ao,y4])
   | false=>
    by_cases h3:e.s= []
    ·skip
     cases a with
     | true=>
      simp(disch:=omega)only[go_sem,h3];exact fin _ (by simp [Ei,zO,zN,zS,zA,Ao,h3])
     | false=>
      by_cases h4:e.a.length=0
      ·have h4':(e.a.length:Int)=0:=by omega
       have y4:e.a= []:=List.length_eq_zero_iff.1 h4;simp(disch:=omega)only[go_sem,h3,h4'];exact fin _ (by simp [Ei,zO,zN,zS,zA,Ao,h3,y4])
      ·have h4': ¬((e.a.length:Int)=0):=by omega
       have y4: ¬e.a= []:=fun e4=>h4 (by rw[e4];rfl);simp(disch:=omega)only[go_sem,h3,h4'];exact fin _ (by simp [Ei,zO,zN,zS,zA,Ao,h3,y4])
    ·skip
     simp(disch:=omega)only[go_sem,h3];exact fin _ (by simp [Ei,zO,zN,zS,zA,Ao,h3])
  | false=>
   by_cases h2:e.n=0
   ·skip
    cases s with
    | true=>
     cases a with
     | true=>
      simp(disch:=omega)only[go_sem,h2];exact fin _ (by simp [Ei,zO,zN,zS,zA,Ao,h2])
     | false=>
      by_cases h4:e.a.length=0
      ·have h4':(e.a.length:Int)=0:=by omega
       have y4:e.a= []:=List.length_eq_zero_iff.1 h4;simp(disch:=omega)only[go_sem,h2,h4'];exact fin _ (by simp [Ei,zO,zN,zS,zA,Ao,h2,y4])
      ·have h4': ¬((e.a.length:Int)=0):=by omega
       have y4: ¬e.a= []:=fun e4=>h4 (by rw[e4];rfl);simp(disch:=omega)only[go_sem,h2,h4'];exact fin _ (by simp [Ei,zO,zN,zS,zA,Ao,h2,y4])
    | false=>
     by_cases h3:e.s= []
     ·skip
      cases a with
      | true=>
       simp(disch:=omega)only[go_sem,h2,h3];exact fin _ (by simp [Ei,zO,zN,zS,zA,Ao,h2,h3])
      | false=>
       by_cases h4:e.a.length=0
       ·have h4':(e.a.length:Int)=0:=by omega
        have y4:e.a= []:=List.length_eq_zero_iff.1 h4;simp(disch:=omega)only[go_sem,h2,h3,h4'];exact fin _ (by simp [Ei,zO,zN,zS,zA,Ao,h2,h3,y4])
       ·have h4': ¬((e.a.length:Int)=0):=by omega
        have y4: ¬e.a= []:=fun e4=>h4 (by rw[e4];rfl);simp(disch:=omega)only[go_sem,h2,h3,h4'];exact fin _ (by simp [Ei,zO,zN,zS,zA,Ao,h2,h3,y4])
     ·skip
      simp(disch:=omega)only[go_sem,h2,h3];exact fin _ (by simp [Ei,zO,zN,zS,zA,Ao,h2,h3])
   ·skip
    simp(disch:=omega)only[go_sem,h2];exact fin _ (by simp [Ei,zO,zN,zS,zA,Ao,h2])
 | false=>
  by_cases h1:e.oper=0
  ·skip
   cases n with
   | true=>
    cases s with
    | true=>
     cases a with
     | true=>
      simp(disch:=omega)only[go_sem,h1];exact fin _ (by simp [Ei,zO,zN,zS,zA,Ao,h1])
     | false=>
      by_cases h4:e.a.length=0
      ·have h4':(e.a.length:Int)=0:=by omega
       have y4:e.a= []:=List.length_eq_zero_iff.1 h4;simp(disch:=omega)only[go_sem,h1,h4'];exact fin _ (by simp [Ei,zO,zN,zS,zA,Ao,h1,y4])
      ·have h4': ¬((e.a.length:Int)=0):=by omega
       have y4: ¬e.a= []:=fun e4=>h4 (by rw[e4];rfl);simp(disch:=omega)only[go_sem,h1,h4'];exact fin _ (by simp [Ei,zO,zN,zS,zA,Ao,h1,y4])
    | false=>
     by_cases h3:e.s= []
     ·skip
      cases a with
      | true=>
       simp(disch:=omega)only[go_sem,h1,h3];exact fin _ (by simp [Ei,zO,zN,zS,zA,Ao,h1,h3])
      | false=>
       by_cases h4:e.a.length=0
       ·have h4':(e.a.length:Int)=0:=by omega
        have y4:e.a= []:=List.length_eq_zero_iff.1 h4;simp(disch:=omega)only[go_sem,h1,h3,h4'];exact fin _ (by simp [Ei,zO,zN,zS,zA,Ao,h1,h3,y4])
       ·have h4': ¬((e.a.length:Int)=0):=by omega
        have y4: ¬e.a= []:=fun e4=>h4 (by rw[e4];rfl);simp(disch:=omega)only[go_sem,h1,h3,h4'];exact fin _ (by simp [Ei,zO,zN,zS,zA,Ao,h1,h3,y4])
     ·skip
      simp(disch:=omega)only[go_sem,h1,h3];exact fin _ (by simp [Ei,zO,zN,zS,zA,Ao,h1,h3])
   | false=>
    by_cases h2:e.n=0
    ·skip
     cases s with
     | true=>
      cases a with
      | true=>
       simp(disch:=omega)only[go_sem,h1,h2];exact fin _ (by simp [Ei,zO,zN,zS,zA,Ao,h1,h2])
      | false=>
       by_cases h4:e.a.length=0
       ·have h4':(e.a.length:Int)=0:=by omega
        have y4:e.a= []:=List.length_eq_zero_iff.1 h4;simp(disch:=omega)only[go_sem,h1,h2,h4'];exact fin _ (by simp [Ei,zO,zN,zS,zA,Ao,h1,h2,y4])
       ·have h4': ¬((e.a.length:Int)=0):=by omega
        have y4: ¬e.a= []:=fun e4=>h4 (by rw[e4];rfl);simp(disch:=omega)only[go_sem,h1,h2,h4'];exact fin _ (by simp [Ei,zO,zN,zS,zA,Ao,h1,h2,y4])
     | false=>
      by_cases h3:e.s= []
      ·skip
       cases a with
       | true=>
        simp(disch:=omega)only[go_sem,h1,h2,h3];exact fin _ (by simp [Ei,zO,zN,zS,zA,Ao,h1,h2,h3])
       | false=>
        by_cases h4:e.a.length=0
        ·have h4':(e.a.length:Int)=0:=by omega
         have y4:e.a= []:=List.length_eq_zero_iff.1 h4;simp(disch:=omega)only[go_sem,h1,h2,h3,h4'];exact fin _ (by simp [Ei,zO,zN,zS,zA,Ao,h1,h2,h3,y4])
        ·have h4': ¬((e.a.length:Int)=0):=by omega
         have y4: ¬e.a= []:=fun e4=>h4 (by rw[e4];rfl);simp(disch:=omega)only[go_sem,h1,h2,h3,h4'];exact fin _ (by simp [Ei,zO,zN,zS,zA,Ao,h1,h2,h3,y4])
      ·skip
       simp(disch:=omega)only[go_sem,h1,h2,h3];exact fin _ (by simp [Ei,zO,zN,zS,zA,Ao,h1,h2,h3])
    ·skip
     simp(disch:=omega)only[go_sem,h1,h2];exact fin _ (by simp [Ei,zO,zN,zS,zA,Ao,h1,h2])
  ·skip
   simp(disch:=omega)only[go_sem,h1];exact fin _ (by simp [Ei,zO,zN,zS,zA,Ao,h1])
theorem Bk8 {l:List As} {k:Nat} (h: ∀i (_:i+1<k) (hi:i+1<l.length),(l[i].c.isEmpty || !l[i+1].c.isEmpty)=true) (hk:k<l.length) (hx: ∀(h0:0<k),((l[k-1]'(by omega)).c.isEmpty || !l[k].c.isEmpty)=true):
  ∀i (_:i+1<k+1) (hi:i+1<l.length),(l[i].c.isEmpty || !l[i+1].c.isEmpty)=true:=fun i hi hil=>by
 by_cases e:i+1<k
 ·exact h i e hil
 ·have:i+1=k:=by omega
  subst this;exact hx (by omega)
theorem Ap6 (G:Nat->DVal) (H:Ab) (l:List As) (hl:l.length<=1099511627776):Ae Tryz.prog G 422 [.vslice (l.flatMap dAs) l.length] H (Ba (.bool (Pf l)) H):=by
 refine Aa Tryz.func422 Tryz.call422 rfl (by kernel_rfl) ?_;simp(disch:=omega)only[go_sem];obtain⟨I,hI⟩: ∃I:Nat->(Nat->DVal)->Ab->Prop,∀k env heap,I k env heap↔(env 0= .vslice (l.flatMap dAs) l.length/\env 3=dI k/\1<=k/\(k<=l.length\/k=1)/\(∀i (_:i+1<k) (hi:i+1<l.length),(l[i].c.isEmpty || !l[i+1].c.isEmpty)=true)/\heap=H):=⟨_,fun _ _ _=>Iff.rfl⟩;refine Dt1.run I (fun k=>l.length-k) 1 ((hI _ _ _).2 ?_) ?_
 ·simp(disch:=omega)only[go_sem];(repeat' apply And.intro)<;>(try first | rfl | assumption | omega);all_goals first | exact .inr trivial | (intro i h1 h2;omega)
 ·intro k env heap hi;obtain⟨e0,e3,hk1,hk,hn,rfl⟩:=(hI _ _ _).1 hi;have hfl:=Al Cr l;by_cases hlt:k<l.length
  ·have hlt':(k:Int)<(l.length:Int):=by omega
   have gk:=Ck Cr l k hlt 0 (by decide);have gp:=Ck Cr l (k-1) (by omega) 0 (by decide);rw[Ap1,Nat.add_zero] at gk gp;have hwd:IntKind.i64.wrap ((k:Int)+1)=((k+1:Nat):Int):=by rw[IntKind.wrap_i64];omega
   have hwk:IntKind.i64.wrap ((k:Int)-1)=((k-1:Nat):Int):=by rw[IntKind.wrap_i64];omega
   have hkp:((k-1:Nat):Int)<(l.length:Int):=by omega
   by_cases q1:l[k].c.length=0
   ·have q1':(l[k].c.length:Int)=0:=by omega
    have y1:l[k].c.isEmpty=true:=by rw[Ao];exact decide_eq_true q1
    by_cases q2:0<l[k-1].c.length
    ·have q2':(0:Int)<(l[k-1].c.length:Int):=by omega
     have y2:l[k-1].c.isEmpty=false:=by rw[Ao];exact decide_eq_false (by omega)
     simp(disch:=omega)only[go_sem,e0,e3,hlt',hfl,gk,gp,hwk,hkp,q1',q2',jD];refine Wj.refl ⟨?_,rfl⟩;have:Pf l=false:=by
      rw[<-Bool.not_eq_true,Al1];intro h;have:=h (k-1) (by omega);rw[y2] at this;have e:k-1+1=k:=by omega
      simp only[e] at this;rw[y1] at this;cases this
     rw[this]
    ·have q2': ¬(0:Int)<(l[k-1].c.length:Int):=by omega
     have y2:l[k-1].c.isEmpty=true:=by rw[Ao];exact decide_eq_true (by omega)
     simp(disch:=omega)only[go_sem,e0,e3,hlt',hfl,gk,gp,hwk,hkp,q1',q2',jD];refine⟨k+1,_,Ws.refl _,(hI _ _ _).2 ?_,by omega⟩;simp(disch:=omega)only[go_sem,e0,e3,hwd];(repeat' apply And.intro)<;>(try first | rfl | assumption | omega);exact Bk8 hn hlt fun _=>by rw[y2];rfl
   ·have q1': ¬(l[k].c.length:Int)=0:=by omega
    have y1:l[k].c.isEmpty=false:=by rw[Ao];exact decide_eq_false q1
    simp(disch:=omega)only[go_sem,e0,e3,hlt',hfl,gk,q1',jD];refine⟨k+1,_,Ws.refl _,(hI _ _ _).2 ?_,by omega⟩;simp(disch:=omega)only[go_sem,e0,e3,hwd];(repeat' apply And.intro)<;>(try first | rfl | assumption | omega);exact Bk8 hn hlt fun _=>by rw[y1];simp
  ·have hlt': ¬(k:Int)<(l.length:Int):=by omega
   simp(disch:=omega)only[go_sem,e0,e3,hlt'];exact Wj.refl ⟨by rw[Al1.2 fun i h=>hn i (by omega) h],rfl⟩
theorem As6 (G:Nat->DVal) (H:Ab) (l:List As) (hl:l.length<=1099511627776):Ae Tryz.prog G 397 [.vslice (l.flatMap dAs) l.length] H (Ba (.bool (Kf l)) H):=by
 have hfl:=Al Cr l;refine Aa Tryz.func397 Tryz.call397 rfl (by kernel_rfl) ?_;by_cases h1:l.length<1
 ·have h1':(l.length:Int)<1:=by omega
  simp(disch:=omega)only[go_sem,h1'];exact Wj.refl ⟨by rw[Kf,decide_eq_false (show¬0<l.length by omega),jT,jT,jT],rfl⟩
 have h1': ¬(l.length:Int)<1:=by omega
 by_cases h2:8<l.length
 ·have h2':(8:Int)<(l.length:Int):=by omega
  simp(disch:=omega)only[go_sem,h1',h2'];exact Wj.refl ⟨by rw[Kf,decide_eq_false (show¬l.length<=8 by omega),Bool.and_false,jT,jT],rfl⟩
 have h2': ¬(8:Int)<(l.length:Int):=by omega
 simp(disch:=omega)only[go_sem,h1',h2'];refine(Ap6 G _ l hl).mono ?_;rintro _ H1 ⟨rfl,rfl⟩;have hd:Kf l=(Pf l&&l.all fun a=>a.c.isEmpty || Cy a.c):=by
  rw[Kf,decide_eq_true (show 0<l.length by omega),decide_eq_true (show l.length<=8 by omega),jS,jS]
 rw[hd];cases h3:Pf l with
 | false=>
  simp(disch:=omega)only[go_sem];exact Wj.refl ⟨rfl,rfl⟩
 | true=>
  simp(disch:=omega)only[go_sem];obtain⟨I,hI⟩: ∃I:Nat->(Nat->DVal)->Ab->Prop,∀k env heap,I k env heap↔(env 0= .vslice (l.flatMap dAs) l.length/\env 3=dI k/\k<=l.length/\(∀a∈l.take k,(a.c.isEmpty || Cy a.c)=true)/\heap=H1):=⟨_,fun _ _ _=>Iff.rfl⟩;refine Dt1.run I (fun k=>l.length-k) 0 ((hI _ _ _).2 ?_) ?_
  ·simp(disch:=omega)only[go_sem];(repeat' apply And.intro)<;>(try first | rfl | assumption | omega);intro a ha;simp at ha
  ·intro k env heap hi;obtain⟨e0,e3,hk,hn,rfl⟩:=(hI _ _ _).1 hi;by_cases hlt:k<l.length
   ·have hlt':(k:Int)<(l.length:Int):=by omega
    have gk:=Ck Cr l k hlt 0 (by decide);rw[Ap1,Nat.add_zero] at gk;have hwd:IntKind.i64.wrap ((k:Int)+1)=((k+1:Nat):Int):=by rw[IntKind.wrap_i64];omega
    obtain⟨a,ha⟩: ∃a,a=l[k]:=⟨_,rfl⟩;rw[<-ha] at gk;have no:(a.c.isEmpty || Cy a.c)=false->(l.all fun a=>a.c.isEmpty || Cy a.c)=false:=fun h=>by
     rw[List.all_eq_false];exact⟨l[k],List.getElem_mem hlt,by rw[<-ha,h];simp⟩
    have yes:(a.c.isEmpty || Cy a.c)=true-> ∀x∈l.take (k+1),(x.c.isEmpty || Cy x.c)=true:=fun h=>Kv (p:=fun x=>(x.c.isEmpty || Cy x.c)=true) hlt hn (by rw[<-ha];exact h);have hfc:=Al Cu a.c;by_cases q1:1<a.c.length
    ·have q1':(1:Int)<(a.c.length:Int):=by omega
     have hs:(a.c.isEmpty || Cy a.c)=false:=by
      rw[Ao,decide_eq_false (by omega),Bool.false_or];unfold Cy;split
      ·rename_i h;rw[h] at q1;simp at q1
      ·rfl
     simp(disch:=omega)only[go_sem,e0,e3,hlt',hfl,gk,q1',jD];exact Wj.refl ⟨by rw[no hs],rfl⟩
    have q1': ¬(1:Int)<(a.c.length:Int):=by omega
    by_cases q2:a.c.length=1
    ·have q2':(a.c.length:Int)=1:=by omega
     obtain⟨g0,g1⟩:=ch0 (l:=a.c) (by omega);obtain⟨c,hc⟩:=List.length_eq_one_iff.1 q2;have ec:a.c[0]=c:=by simp [hc]
     rw[ec] at g0 g1;have he:a.c.isEmpty=false:=by rw[hc];rfl
     by_cases q3:c.kind=1
     ·by_cases q4:c.l.length=1
      ·have q4':(c.l.length:Int)=1:=by omega
       have g2:=Fp0 (l:=c.l) (by omega);have hfe:=Al Ad c.l;obtain⟨x,hx⟩:=List.length_eq_one_iff.1 q4;have e:c.l[0]=x:=by simp [hx]
       rw[e] at g2;have hs:Cy a.c=decide (x.kind=3):=by rw[hc];simp [Cy,q3,hx]
       by_cases q5:x.kind=3
       ·simp(disch:=omega)only[go_sem,e0,e3,hlt',hfl,gk,q1',q2',g0,g1,q3,q4',g2,hfe,hfc,q5,jD];refine⟨k+1,_,Ws.refl _,(hI _ _ _).2 ?_,by omega⟩;simp(disch:=omega)only[go_sem,e0,e3,hwd];(repeat' apply And.intro)<;>(try first | rfl | assumption | omega);exact yes (by rw[hs,decide_eq_true q5,Bool.or_true])
       ·simp(disch:=omega)only[go_sem,e0,e3,hlt',hfl,gk,q1',q2',g0,g1,q3,q4',g2,hfe,hfc,q5,jD];exact Wj.refl ⟨by rw[no (by rw[he,hs,decide_eq_false q5];rfl)],rfl⟩
      ·have q4': ¬(c.l.length:Int)=1:=by omega
       have hs:Cy a.c=false:=by
        rw[hc,Cy];split
        ·rename_i hx;rw[hx] at q4;simp at q4
        ·simp
       simp(disch:=omega)only[go_sem,e0,e3,hlt',hfl,gk,q1',q2',g0,g1,q3,q4',hfc,jD];exact Wj.refl ⟨by rw[no (by rw[he,hs];rfl)],rfl⟩
     ·simp(disch:=omega)only[go_sem,e0,e3,hlt',hfl,gk,q1',q2',g0,g1,q3,hfc,jD];exact Wj.refl ⟨by rw[no (by rw[he,hc];simp [Cy,q3])],rfl⟩
    ·have q2': ¬(a.c.length:Int)=1:=by omega
     simp(disch:=omega)only[go_sem,e0,e3,hlt',hfl,gk,q1',q2',jD];refine⟨k+1,_,Ws.refl _,(hI _ _ _).2 ?_,by omega⟩;simp(disch:=omega)only[go_sem,e0,e3,hwd];(repeat' apply And.intro)<;>(try first | rfl | assumption | omega);exact yes (by rw[Ao,decide_eq_true (by omega),Bool.true_or])
   ·have:k=l.length:=by omega
    subst this;rw[List.take_length] at hn;simp(disch:=omega)only[go_sem,e0,e3];exact Wj.refl ⟨by simp [List.all_eq_true.2 hn],rfl⟩
theorem Td (G:Nat->DVal) (H:Ab) (l:List Ch) (hl:l.length<=1099511627776):Ae Tryz.prog G 366 [.vslice (l.flatMap dCh) l.length] H (Ba (.bool (Ct l)) H):=by
 have hfl:=Al Cu l;refine Aa Tryz.func366 Tryz.call366 rfl (by kernel_rfl) ?_;by_cases h1:l.length<1
 ·have h1':(l.length:Int)<1:=by omega
  simp(disch:=omega)only[go_sem,h1'];exact Wj.refl ⟨by rw[Ct,decide_eq_false (show¬0<l.length by omega),jT,jT],rfl⟩
 have h1': ¬(l.length:Int)<1:=by omega
 by_cases h2:16<l.length
 ·have h2':(16:Int)<(l.length:Int):=by omega
  simp(disch:=omega)only[go_sem,h1',h2'];exact Wj.refl ⟨by rw[Ct,decide_eq_false (show¬l.length<=16 by omega),Bool.and_false,jT],rfl⟩
 have h2': ¬(16:Int)<(l.length:Int):=by omega
 have hd:Ct l=l.all (Cs l.length):=by
  rw[Ct,decide_eq_true (show 0<l.length by omega),decide_eq_true (show l.length<=16 by omega),jS,jS]
 rw[hd];simp(disch:=omega)only[go_sem,h1',h2'];obtain⟨I,hI⟩: ∃I:Nat->(Nat->DVal)->Ab->Prop,∀k env heap,I k env heap↔(env 0= .vslice (l.flatMap dCh) l.length/\env 3=dI k/\k<=l.length/\(∀a∈l.take k,Cs l.length a=true)/\heap=H):=⟨_,fun _ _ _=>Iff.rfl⟩;refine Dt1.run I (fun k=>l.length-k) 0 ((hI _ _ _).2 ?_) ?_
 ·simp(disch:=omega)only[go_sem];(repeat' apply And.intro)<;>(try first | rfl | assumption | omega);intro a ha;simp at ha
 ·intro k env heap hi;obtain⟨e0,e3,hk,hn,rfl⟩:=(hI _ _ _).1 hi;by_cases hlt:k<l.length
  ·have hlt':(k:Int)<(l.length:Int):=by omega
   have gk:=Ck Cu l k hlt 0 (by decide);have gl:=Ck Cu l k hlt 1 (by decide);rw[Db1,Nat.add_zero] at gk;rw[Bk5] at gl;have hwd:IntKind.i64.wrap ((k:Int)+1)=((k+1:Nat):Int):=by rw[IntKind.wrap_i64];omega
   have no:Cs l.length l[k]=false->l.all (Cs l.length)=false:=fun h=>by
    rw[List.all_eq_false];exact⟨l[k],List.getElem_mem hlt,by rw[h];simp⟩
   have yes:Cs l.length l[k]=true-> ∀x∈l.take (k+1),Cs l.length x=true:=fun h=>Kv (p:=fun x=>Cs l.length x=true) hlt hn h;obtain⟨c,hc⟩: ∃c,c=l[k]:=⟨_,rfl⟩;rw[<-hc] at gk gl no yes;by_cases k1:c.kind=1
   ·by_cases q:c.l.length=1
    ·have q':(c.l.length:Int)=1:=by omega
     simp(disch:=omega)only[go_sem,e0,e3,hlt',hfl,gk,gl,k1,q',jD];refine⟨k+1,_,Ws.refl _,(hI _ _ _).2 ?_,by omega⟩;simp(disch:=omega)only[go_sem,e0,e3,hwd];(repeat' apply And.intro)<;>(try first | rfl | assumption | omega);exact yes (by simp [Cs,k1,q])
    ·have q': ¬(c.l.length:Int)=1:=by omega
     simp(disch:=omega)only[go_sem,e0,e3,hlt',hfl,gk,gl,k1,q',jD];exact Wj.refl ⟨by rw[no (by simp [Cs,k1,q])],rfl⟩
   by_cases k2:c.kind=2
   ·by_cases q:c.l.length=2
    ·have q':(c.l.length:Int)=2:=by omega
     simp(disch:=omega)only[go_sem,e0,e3,hlt',hfl,gk,gl,k2,q',jD];refine⟨k+1,_,Ws.refl _,(hI _ _ _).2 ?_,by omega⟩;simp(disch:=omega)only[go_sem,e0,e3,hwd];(repeat' apply And.intro)<;>(try first | rfl | assumption | omega);exact yes (by simp [Cs,k2,q])
    ·have q': ¬(c.l.length:Int)=2:=by omega
     simp(disch:=omega)only[go_sem,e0,e3,hlt',hfl,gk,gl,k2,q',jD];exact Wj.refl ⟨by rw[no (by simp [Cs,k2,q])],rfl⟩
   by_cases k3:c.kind=3
   ·by_cases q:c.l.length=0
    ·have q':(c.l.length:Int)=0:=by omega
     by_cases q2:1<l.length
     ·have q2':(1:Int)<(l.length:Int):=by omega
      simp(disch:=omega)only[go_sem,e0,e3,hlt',hfl,gk,gl,k3,q',q2',jD];exact Wj.refl ⟨by rw[no (by simp [Cs,k3,q];omega)],rfl⟩
     ·have q2': ¬(1:Int)<(l.length:Int):=by omega
      simp(disch:=omega)only[go_sem,e0,e3,hlt',hfl,gk,gl,k3,q',q2',jD];refine⟨k+1,_,Ws.refl _,(hI _ _ _).2 ?_,by omega⟩;simp(disch:=omega)only[go_sem,e0,e3,hwd];(repeat' apply And.intro)<;>(try first | rfl | assumption | omega);exact yes (by simp [Cs,k3,q];omega)
    ·have q': ¬(c.l.length:Int)=0:=by omega
     simp(disch:=omega)only[go_sem,e0,e3,hlt',hfl,gk,gl,k3,q',jD];exact Wj.refl ⟨by rw[no (by simp [Cs,k3,q])],rfl⟩
   ·have q': ¬(c.l.length:Int)= -1:=by omega
    simp(disch:=omega)only[go_sem,e0,e3,hlt',hfl,gk,gl,k1,k2,k3,q',jD];exact Wj.refl ⟨by rw[no (by simp [Cs,k1,k2,k3])],rfl⟩
  ·have:k=l.length:=by omega
   subst this;rw[List.take_length] at hn;simp(disch:=omega)only[go_sem,e0,e3];exact Wj.refl ⟨by rw[List.all_eq_true.2 hn],rfl⟩
end
end Go.Dl

-- Chapter 3: the reference: associations, fields (printed by gen_ud.py).
namespace Go.Dl
open Go Go.Proofs
set_option maxRecDepth 100000
section
variable {G:Nat->DVal} {H:Ab}
theorem Aa7 (G:Nat->DVal) (H:Ab) (l:List As) (hl:l.length<=1099511627776) (hb: ∀a∈l,a.c.length<=1099511627776):Ae Tryz.prog G 398 [.vslice (l.flatMap dAs) l.length] H (Ba (.bool (Gs l)) H):=by
 refine Aa Tryz.func398 Tryz.call398 rfl (by kernel_rfl) ?_;by_cases h1:l.length=0
 ·have h1':(l.length:Int)<1:=by omega
  simp(disch:=omega)only[go_sem,h1'];exact Wj.refl ⟨by rw[Gs,decide_eq_false (show¬0<l.length by omega),jT,jT,jT,jT],rfl⟩
 have h1': ¬(l.length:Int)<1:=by omega
 have hpos:0<l.length:=by omega
 by_cases h2:32<l.length
 ·have h2':(32:Int)<(l.length:Int):=by omega
  simp(disch:=omega)only[go_sem,h1',h2'];exact Wj.refl ⟨by rw[Gs,decide_eq_false (show¬l.length<=32 by omega),Bool.and_false,jT,jT,jT],rfl⟩
 have h2': ¬(32:Int)<(l.length:Int):=by omega
 simp(disch:=omega)only[go_sem,h1',h2'];refine(Ap6 G _ l hl).mono ?_;rintro _ H1 ⟨rfl,rfl⟩;have hd:Gs l=(Pf l&&(!(decide (l.length=1)&&(l.getD 0 default).c.isEmpty)&&Gd l)):=by
  rw[Gs,decide_eq_true hpos,decide_eq_true (show l.length<=32 by omega),jS,jS,Ap3,Bool.and_assoc]
 rw[hd];cases h3:Pf l with
 | false=>
  simp(disch:=omega)only[go_sem];exact Wj.refl ⟨rfl,rfl⟩
 | true=>
  have hg0:=as0 hpos;have hgd:l.getD 0 default=l[0]:=by rw[List.getD,List.getElem?_eq_getElem hpos];rfl
  have hfl:=Al Cr l;rw[hgd];by_cases h4:l.length=1/\l[0].c.length=0
  ·have h4a:(l.length:Int)=1:=by omega
   have h4b:(l[0].c.length:Int)=0:=by omega
   have e4:l[0].c.isEmpty=true:=by rw[Ao];exact decide_eq_true h4.2
   simp(disch:=omega)only[go_sem,h4a,h4b,hg0,hfl];exact Wj.refl ⟨by simp [e4],rfl⟩
  ·have e4:(decide (l.length=1)&&l[0].c.isEmpty)=false:=by
    rw[Ao,<-Bool.decide_and];exact decide_eq_false h4
   rw[e4];by_cases h5:l.length=1
   ·have h5':((l.length:Int)=1)=True:=eq_true (by omega);have h6': ¬(l[0].c.length:Int)=0:=by omega
    simp(disch:=omega)only[go_sem,h5',h6',hg0,hfl];obtain⟨I,hI⟩: ∃I:Nat->(Nat->DVal)->Ab->Prop,∀k env heap,I k env heap↔(env 0= .vslice (l.flatMap dAs) l.length/\env 3=dI k/\k<=l.length/\Gd l=Gd (l.drop k)/\heap=H1):=⟨_,fun _ _ _=>Iff.rfl⟩;refine Dt1.run I (fun k=>l.length-k) 0 ((hI _ _ _).2 ?_) ?_
    ·simp(disch:=omega)only[go_sem];(repeat' apply And.intro)<;>(try first | rfl | assumption | omega)
    ·intro k env heap hi;obtain⟨e0,e3,hk,hall,rfl⟩:=(hI _ _ _).1 hi;by_cases hlt:k<l.length
     ·have hlt':(k:Int)<(l.length:Int):=by omega
      have gk:=Ck Cr l k hlt 0 (by decide);rw[Ap1,Nat.add_zero] at gk;have hwd:IntKind.i64.wrap ((k:Int)+1)=((k+1:Nat):Int):=by rw[IntKind.wrap_i64];omega
      have hwl:IntKind.i64.wrap ((l.length:Int)-1)=(l.length:Int)-1:=by rw[IntKind.wrap_i64];omega
      have hba:=hb l[k] (List.getElem_mem hlt);rw[Vg hlt] at hall;by_cases q1:0<l[k].c.length
      ·have q1':(0:Int)<(l[k].c.length:Int):=by omega
       have e1:l[k].c.isEmpty=false:=by rw[Ao];exact decide_eq_false (by omega)
       rw[e1,Bool.false_or] at hall;simp(disch:=omega)only[go_sem,e0,e3,hlt',hfl,gk,q1',jD];refine(Td G _ l[k].c hba).mono ?_;rintro _ H2 ⟨rfl,rfl⟩;cases q2:Ct l[k].c with
       | false=>
        rw[q2,jT,jT] at hall;simp(disch:=omega)only[go_sem,e0,e3];exact Wj.refl ⟨by rw[hall],rfl⟩
       | true=>
        obtain⟨g0,_⟩:=ch0 q1;have hfc:=Al Cu l[k].c;rw[q2,jS,Nn q1] at hall;by_cases q3:l[k].c[0].kind=3
        ·rw[decide_eq_true q3,Bool.not_true,Bool.false_or] at hall;by_cases q4:k+1=l.length
         ·have q4': ¬(k:Int)<(l.length:Int)-1:=by omega
          rw[decide_eq_true q4,jS] at hall;simp(disch:=omega)only[go_sem,e0,e3,g0,hfc,q1',q3,q4',hwl];refine⟨k+1,_,Ws.refl _,(hI _ _ _).2 ?_,by omega⟩;simp(disch:=omega)only[go_sem,e0,e3,hwd];(repeat' apply And.intro)<;>(try first | rfl | assumption | omega)
         ·have q4':(k:Int)<(l.length:Int)-1:=by omega
          rw[decide_eq_false q4,jT] at hall;simp(disch:=omega)only[go_sem,e0,e3,g0,hfc,q1',q3,q4',hwl];exact Wj.refl ⟨by rw[hall],rfl⟩
        ·rw[decide_eq_false q3,Bool.not_false,Bool.true_or,jS] at hall;simp(disch:=omega)only[go_sem,e0,e3,g0,hfc,q1',q3];refine⟨k+1,_,Ws.refl _,(hI _ _ _).2 ?_,by omega⟩;simp(disch:=omega)only[go_sem,e0,e3,hwd];(repeat' apply And.intro)<;>(try first | rfl | assumption | omega)
      ·have q1': ¬(0:Int)<(l[k].c.length:Int):=by omega
       have e1:l[k].c.isEmpty=true:=by rw[Ao];exact decide_eq_true (by omega)
       rw[e1,Bool.true_or,jS] at hall;simp(disch:=omega)only[go_sem,e0,e3,hlt',hfl,gk,q1',jD];refine⟨k+1,_,Ws.refl _,(hI _ _ _).2 ?_,by omega⟩;simp(disch:=omega)only[go_sem,e0,e3,hwd];(repeat' apply And.intro)<;>(try first | rfl | assumption | omega)
     ·have:k=l.length:=by omega
      subst this;rw[List.drop_length] at hall;simp(disch:=omega)only[go_sem,e0,e3];exact Wj.refl ⟨by rw[hall];rfl,rfl⟩
   ·have h5': ¬(l.length:Int)=1:=by omega
    simp(disch:=omega)only[go_sem,h5'];obtain⟨I,hI⟩: ∃I:Nat->(Nat->DVal)->Ab->Prop,∀k env heap,I k env heap↔(env 0= .vslice (l.flatMap dAs) l.length/\env 3=dI k/\k<=l.length/\Gd l=Gd (l.drop k)/\heap=H1):=⟨_,fun _ _ _=>Iff.rfl⟩;refine Dt1.run I (fun k=>l.length-k) 0 ((hI _ _ _).2 ?_) ?_
    ·simp(disch:=omega)only[go_sem];(repeat' apply And.intro)<;>(try first | rfl | assumption | omega)
    ·intro k env heap hi;obtain⟨e0,e3,hk,hall,rfl⟩:=(hI _ _ _).1 hi;by_cases hlt:k<l.length
     ·have hlt':(k:Int)<(l.length:Int):=by omega
      have gk:=Ck Cr l k hlt 0 (by decide);rw[Ap1,Nat.add_zero] at gk;have hwd:IntKind.i64.wrap ((k:Int)+1)=((k+1:Nat):Int):=by rw[IntKind.wrap_i64];omega
      have hwl:IntKind.i64.wrap ((l.length:Int)-1)=(l.length:Int)-1:=by rw[IntKind.wrap_i64];omega
      have hba:=hb l[k] (List.getElem_mem hlt);rw[Vg hlt] at hall;by_cases q1:0<l[k].c.length
      ·have q1':(0:Int)<(l[k].c.length:Int):=by omega
       have e1:l[k].c.isEmpty=false:=by rw[Ao];exact decide_eq_false (by omega)
       rw[e1,Bool.false_or] at hall;simp(disch:=omega)only[go_sem,e0,e3,hlt',hfl,gk,q1',jD];refine(Td G _ l[k].c hba).mono ?_;rintro _ H2 ⟨rfl,rfl⟩;cases q2:Ct l[k].c with
       | false=>
        rw[q2,jT,jT] at hall;simp(disch:=omega)only[go_sem,e0,e3];exact Wj.refl ⟨by rw[hall],rfl⟩
       | true=>
        obtain⟨g0,_⟩:=ch0 q1;have hfc:=Al Cu l[k].c;rw[q2,jS,Nn q1] at hall;by_cases q3:l[k].c[0].kind=3
        ·rw[decide_eq_true q3,Bool.not_true,Bool.false_or] at hall;by_cases q4:k+1=l.length
         ·have q4': ¬(k:Int)<(l.length:Int)-1:=by omega
          rw[decide_eq_true q4,jS] at hall;simp(disch:=omega)only[go_sem,e0,e3,g0,hfc,q1',q3,q4',hwl];refine⟨k+1,_,Ws.refl _,(hI _ _ _).2 ?_,by omega⟩;simp(disch:=omega)only[go_sem,e0,e3,hwd];(repeat' apply And.intro)<;>(try first | rfl | assumption | omega)
         ·have q4':(k:Int)<(l.length:Int)-1:=by omega
          rw[decide_eq_false q4,jT] at hall;simp(disch:=omega)only[go_sem,e0,e3,g0,hfc,q1',q3,q4',hwl];exact Wj.refl ⟨by rw[hall],rfl⟩
        ·rw[decide_eq_false q3,Bool.not_false,Bool.true_or,jS] at hall;simp(disch:=omega)only[go_sem,e0,e3,g0,hfc,q1',q3];refine⟨k+1,_,Ws.refl _,(hI _ _ _).2 ?_,by omega⟩;simp(disch:=omega)only[go_sem,e0,e3,hwd];(repeat' apply And.intro)<;>(try first | rfl | assumption | omega)
      ·have q1': ¬(0:Int)<(l[k].c.length:Int):=by omega
       have e1:l[k].c.isEmpty=true:=by rw[Ao];exact decide_eq_true (by omega)
       rw[e1,Bool.true_or,jS] at hall;simp(disch:=omega)only[go_sem,e0,e3,hlt',hfl,gk,q1',jD];refine⟨k+1,_,Ws.refl _,(hI _ _ _).2 ?_,by omega⟩;simp(disch:=omega)only[go_sem,e0,e3,hwd];(repeat' apply And.intro)<;>(try first | rfl | assumption | omega)
     ·have:k=l.length:=by omega
      subst this;rw[List.drop_length] at hall;simp(disch:=omega)only[go_sem,e0,e3];exact Wj.refl ⟨by rw[hall];rfl,rfl⟩
theorem Fw6 (n:Nat):((0:Int)<(n:Int))= ¬n=0:=by rw[eq_iff_iff];omega
set_option maxHeartbeats 4000000 in
theorem Bt3 (G:Nat->DVal) (H:Ab) (e:Ex) (hb:Kj e<=1099511627776):Ae Tryz.prog G 362 [.agg (dEx e)] H (Ba (.bool (Ca e)) H):=by
 have hal:= @Db3 e;have hll:= @Db2 e;have hfl:=Al Ad e.l;have hac: ∀a∈e.a,a.c.length<=1099511627776:=fun a ha=>by
  have h1:=Az3 ha;have h2:=La a.c;rw[Sk] at h1;omega
 obtain⟨y,hyd,hy⟩: ∃x,e.l.getD 0 ex0=x/\(0<e.l.length->(e.l.flatMap dEx).take 9=dEx x):=⟨_,rfl,fun h=>by rw[List.getD,List.getElem?_eq_getElem h];exact Bu Ad e.l 0 h⟩;obtain⟨x,hgd,hg⟩: ∃x,e.l.getD 1 ex0=x/\(1<e.l.length->((e.l.flatMap dEx).drop 9).take 9=dEx x):=⟨_,rfl,fun h=>by rw[List.getD,List.getElem?_eq_getElem h];exact Bu Ad e.l 1 h⟩;have nn: ∀k,Ke e k=(decide (e.l.length=k)&&Cq y):=fun k=>by rw[<-hyd];rfl
 obtain⟨zo,ho⟩: ∃b,zO e=b:=⟨_,rfl⟩;obtain⟨zn,hn⟩: ∃b,zN e=b:=⟨_,rfl⟩;obtain⟨zs,hs⟩: ∃b,zS e=b:=⟨_,rfl⟩;obtain⟨za,ha⟩: ∃b,zA e=b:=⟨_,rfl⟩;refine Aa Tryz.func362 Tryz.call362 rfl (by kernel_rfl) ?_;simp(disch:=omega)only[go_sem,DVal.cells];intro r1 hr1;dsimp only at hr1
 repeat' first
  | (with_reducible refine(Ap2 G _ y).mono ?_;rintro _ H1 ⟨rfl,rfl⟩)
  | (with_reducible refine(Ap2 G _ x).mono ?_;rintro _ H1 ⟨rfl,rfl⟩)
  | (with_reducible refine(Bh1 G _ e.oper).mono ?_;rintro _ H1 ⟨rfl,rfl⟩)
  | (with_reducible refine(Bt2 G _ e.oper).mono ?_;rintro _ H1 ⟨rfl,rfl⟩)
  | (with_reducible refine(Ve G _ e.s).mono ?_;rintro _ H1 ⟨rfl,rfl⟩)
  | (with_reducible refine(As6 G _ e.a (by omega)).mono ?_;rintro _ H1 ⟨rfl,rfl⟩)
  | (with_reducible refine(Aa7 G _ e.a (by omega) hac).mono ?_;rintro _ H1 ⟨rfl,rfl⟩)
  | (with_reducible refine(Cg6 G _ e _ _ _ _).mono ?_;rintro _ H1 ⟨rfl,rfl⟩)
  | simp(disch:=omega)only[go_sem,hfl, *,Ei,Bool.false_or,Bool.true_or,jS,Bool.and_true]
  | (with_reducible refine Qd ?_ ?_<;>intro hc<;>try simp only[decide_eq_true_eq,decide_eq_false_iff_not] at hc)
  | (with_reducible refine Sb ?_ ?_<;>intro hc<;>try simp only[decide_eq_true_eq,decide_eq_false_iff_not] at hc)
  | (refine Wj.dropA r1 hr1 (Wj.refl ⟨?_,rfl⟩);clear hal hll hfl hac hb hg hy hr1;(try simp only[Es7,Fp2,Fp3,Fp4,Fw6,Decidable.not_not] at*);simp only[Ca,hgd,ho,hn,hs,ha,nn,Ao];first | (exfalso;omega) | (simp [*];done) | (cases zo<;>cases zn<;>cases zs<;>cases za<;>simp_all;done))
end
end Go.Dl

-- Chapter 3: the reference: Parts, room, May, Size, Lines.
namespace Go.Dl
open Go Go.Proofs
set_option maxRecDepth 100000
theorem So (l m:List Ex):Nx (l++m)=Nx l+Nx m:=by
 induction l with
 | nil=>simp [Nx]
 | cons x l ih=>rw[jI,Nx,Nx,ih];omega
theorem Cg7 (a:As):Nx (Dj a)<=Ae5 a:=by
 rw[Dj,So,Sk];have h: ∀l:List Ch,Nx (l.flatMap Ch.l)<=Lg l:=by
  intro l
  induction l with
  | nil=>simp [Nx]
  | cons c l ih=>rw[List.flatMap_cons,So,Lg,Sl];omega
 have:=h a.c;simp only[Nx];omega
theorem Ct1 (e:Ex):Nx (parts e)<=Kj e:=by
 rw[parts,So,Vf];have h: ∀l:List As,Nx (l.flatMap Dj)<=Pg l:=by
  intro l
  induction l with
  | nil=>simp [Nx]
  | cons c l ih=>have:=Cg7 c;rw[List.flatMap_cons,So,Pg];omega
 have:=h e.a;omega
theorem Bk9 (e:Ex):(parts e).length<=Kj e:=by
 have:=Kk (parts e);have:=Ct1 e;omega
section
variable {G:Nat->DVal} {H:Ab}
def Ec4 (H:Ab) (l:List Ex) (v:DVal) (H':Ab):Prop:=Df H 27 9 l.length (l.flatMap dEx) v H'
set_option maxHeartbeats 4000000 in
theorem Ct2 (G:Nat->DVal) (H:Ab) (e:Ex) (hb:Kj e<=100000000000):Ae Tryz.prog G 363 [.agg (dEx e)] H (Ba (dXs (parts e)) H):=by
 have hal:= @Db3 e;have hll:= @Db2 e;have hfl:=Al Ad e.l;have hfa:=Al Cr e.a;have hpl:=Bk9 e;refine Aa Tryz.func363 Tryz.call363 rfl (by kernel_rfl) ?_;simp(disch:=omega)only[go_sem,DVal.cells];intro r1 hr1;dsimp only at hr1;simp(disch:=omega)only[go_sem];intro r6 hr6;dsimp only at hr6;obtain⟨m1,m2,hr6'⟩:=Ex8.1 hr6;have ht:(e.l.flatMap dEx).take (e.l.length*9)=e.l.flatMap dEx:=List.take_of_length_le (by omega);have ho:((e.l.flatMap dEx).all (fun d=>d.one))=true:=by
  rw[List.all_eq_true];intro d hd;obtain⟨x,_,hd⟩:=List.mem_flatMap.1 hd;exact List.all_eq_true.1 (Lt x) d hd
 simp(disch:=omega)only[go_sem,m1,m2,hfl,ht,ho];have hv0:Df (upd H r1 (some (.cells (dEx e) 27))) 27 9 0 [] (.oslice 9 r6 0 0 0) (upd (upd H r1 (some (.cells (dEx e) 27))) r6 (some (.cells [] 27))):= .inr ⟨r6,hr6,rfl,rfl,Ac _ _ _,(Sub.refl _).new hr6 _⟩;refine Df.appendO hv0 hfl (by omega) fun v1 H1 hv1=> ?_;change Df _ _ _ (0+e.l.length) ([]++e.l.flatMap dEx) v1 H1 at hv1;rw[jG,Nat.zero_add] at hv1;obtain⟨H0,hH0⟩: ∃H0,H0=upd H r1 (some (.cells (dEx e) 27)):=⟨_,rfl⟩;have h01:H0 r1=some (.cells (dEx e) 27):=by rw[hH0];exact Ac _ _ _
 have hs0:Sub H H0:=by rw[hH0];exact(Sub.refl H).new hr1 _
 rw[<-hH0] at hv1;have htk: ∀j (hj:j<e.a.length),(e.a.take (j+1)).flatMap Dj=(e.a.take j).flatMap Dj++Dj e.a[j]:=fun j hj=>by
  rw[List.take_add_one,List.getElem?_eq_getElem hj,List.flatMap_append];simp
 have hple: ∀(l:List Ex) (t:List Ex),l++t=parts e->l.length<=100000000000:=fun l t h=>by
  have:=congrArg List.length h;rw[jC] at this;omega
 simp(disch:=omega)only[go_sem];obtain⟨I,hI⟩: ∃I:Nat->(Nat->DVal)->Ab->Prop,∀j env heap,I j env heap↔(env 1= .optr r1 0/\env 4=dI j/\j<=e.a.length/\Ec4 H0 (e.l++(e.a.take j).flatMap Dj) (env 3) heap):=⟨_,fun _ _ _=>Iff.rfl⟩;refine Dt1.run I (fun j=>e.a.length-j) 0 ((hI _ _ _).2 ?_) ?_
 ·simp(disch:=omega)only[go_sem];(repeat' apply And.intro)<;>(try first | rfl | assumption | omega);unfold Ec4;rw[List.flatMap_nil,jH];exact hv1
 ·intro j env heap hi;obtain⟨e1,e4,hj,hv⟩:=(hI _ _ _).1 hi;obtain⟨v,e3⟩: ∃v,env 3=v:=⟨_,rfl⟩;rw[e3] at hv;have g1:heap r1=some (.cells (dEx e) 27):=Df.keep hv h01;by_cases hjl:j<e.a.length
  ·have hjl':(j:Int)<(e.a.length:Int):=by omega
   have Aw:=Bu Cr e.a j hjl;have gc:=Ck Cr e.a j hjl 0 (by decide);rw[Ap1,Nat.add_zero] at gc;have hwj:IntKind.i64.wrap ((j:Int)+1)=((j+1:Nat):Int):=by rw[IntKind.wrap_i64];omega
   have hba:=Az3 (List.getElem_mem hjl);have htj:=htk j hjl;have hpre:e.l++(e.a.take (j+1)).flatMap Dj++(e.a.drop (j+1)).flatMap Dj=parts e:=by
    rw[jO,<-List.flatMap_append,List.take_append_drop];rfl
   have gE:((e.a.flatMap dAs).drop (j*10+1)).take 9=dEx e.a[j].e:=by
    rw[<-Az2,<-Aw,List.drop_take,List.take_take,List.drop_drop];rfl
   obtain⟨a,ha⟩: ∃a,a=e.a[j]:=⟨_,rfl⟩;rw[<-ha] at gc hba htj gE;have hbc:=La a.c;have hfc:=Al Cu a.c;rw[Sk] at hba;obtain⟨L,hL⟩: ∃L,L=e.l++(e.a.take j).flatMap Dj:=⟨_,rfl⟩;rw[<-hL] at hv;rw[htj,<-jO,<-hL] at hpre;simp(disch:=omega)only[go_sem,e1,e3,e4,g1,hjl'];obtain⟨J,hJ⟩: ∃J:Nat->(Nat->DVal)->Ab->Prop,∀m env heap,J m env heap↔(env 1= .optr r1 0/\env 4=dI j/\env 5=dI m/\m<=a.c.length/\Ec4 H0 (L++(a.c.take m).flatMap Ch.l) (env 3) heap):=⟨_,fun _ _ _=>Iff.rfl⟩;refine Dt1.run J (fun m=>a.c.length-m) 0 ((hJ _ _ _).2 ?_) ?_
   ·simp(disch:=omega)only[go_sem,e1,e3,e4];(repeat' apply And.intro)<;>(try first | rfl | assumption | omega);rw[List.flatMap_nil,jH];exact hv
   ·intro m env heap hi;obtain⟨e1,e4,e5,hm,hv⟩:=(hJ _ _ _).1 hi;obtain⟨v,e3⟩: ∃v,env 3=v:=⟨_,rfl⟩;rw[e3] at hv;have g1:heap r1=some (.cells (dEx e) 27):=Df.keep hv h01;by_cases hml:m<a.c.length
    ·have hml':(m:Int)<(a.c.length:Int):=by omega
     have hwm:IntKind.i64.wrap ((m:Int)+1)=((m+1:Nat):Int):=by rw[IntKind.wrap_i64];omega
     have gl:=Ck Cu a.c m hml 1 (by decide);rw[Bk5] at gl;have hbm:=Mq (List.getElem_mem hml);obtain⟨c,hc⟩: ∃c,c=a.c[m]:=⟨_,rfl⟩;rw[<-hc] at gl hbm;have hbl:=Kk c.l;have hfx:=Al Ad c.l;rw[Sl] at hbm;have htm:(a.c.take (m+1)).flatMap Ch.l=(a.c.take m).flatMap Ch.l++c.l:=by
      rw[List.take_add_one,List.getElem?_eq_getElem hml,List.flatMap_append,hc];simp
     have htx:(c.l.flatMap dEx).take (c.l.length*9)=c.l.flatMap dEx:=List.take_of_length_le (by omega);have hox:((c.l.flatMap dEx).all (fun d=>d.one))=true:=by
      rw[List.all_eq_true];intro d hd;obtain⟨x,_,hd⟩:=List.mem_flatMap.1 hd;exact List.all_eq_true.1 (Lt x) d hd
     have hll2:(L++(a.c.take m).flatMap Ch.l).length<=100000000000:=by
      refine hple _ ((a.c.drop m).flatMap Ch.l++([a.e]++(e.a.drop (j+1)).flatMap Dj)) ?_;rw[<-hpre,Dj];simp only[jO];rw[<-jO ((a.c.take m).flatMap Ch.l),<-List.flatMap_append,List.take_append_drop]
     simp(disch:=omega)only[go_sem,e1,e3,e4,e5,g1,hjl',hfa,gc,hml',hfc,gl,hfx,htx,hox,jD];refine Df.append (m:=c.l.length) hv hfx (by omega) fun v2 H2 hv2=> ?_;simp(disch:=omega)only[go_sem,e1,e3,e4,e5];refine⟨m+1,_,Ws.refl _,(hJ _ _ _).2 ?_,by omega⟩;simp(disch:=omega)only[go_sem,e1,e3,e4,e5,hwm];(repeat' apply And.intro)<;>(try first | rfl | assumption | omega);unfold Ec4;rw[htm,<-jO,jC,List.flatMap_append];exact hv2
    ·have:m=a.c.length:=by omega
     subst this;rw[List.take_length] at hv;have hll2:(L++a.c.flatMap Ch.l).length<=100000000000:=by
      refine hple _ ([a.e]++(e.a.drop (j+1)).flatMap Dj) ?_;rw[<-hpre,Dj];simp only[jO]
     have hlt': ¬(a.c.length:Int)<(a.c.length:Int):=by omega
     have hrep:repl 1 [DVal.int .u8 0,DVal.int .u8 0,DVal.int .i64 0,DVal.str [],DVal.nilSlice,DVal.nilSlice,DVal.int .i64 0,DVal.int .i64 0,DVal.int .i64 0]= [DVal.int .u8 0,DVal.int .u8 0,DVal.int .i64 0,DVal.str [],DVal.nilSlice,DVal.nilSlice,DVal.int .i64 0,DVal.int .i64 0,DVal.int .i64 0]:=rfl;simp(disch:=omega)only[go_sem,e1,e3,e4,e5,g1,hjl',hfa,gc,gE,jD,hrep,jA,jB,jE,jJ];intro ns hns;dsimp only at hns;simp(disch:=omega)only[go_sem,e1,e3,e4,e5];refine Df.append (m:=1) (Df.new hv hns _) (by rw[Ad]) (by omega) fun v2 H2 hv2=> ?_;simp(disch:=omega)only[go_sem,e1,e3,e4,e5];refine⟨j+1,_,Ws.refl _,(hI _ _ _).2 ?_,by omega⟩;simp(disch:=omega)only[go_sem,e1,e3,e4,hwj];(repeat' apply And.intro)<;>(try first | rfl | assumption | omega);unfold Ec4;rw[htj,<-jO,<-hL,Dj,<-jO,List.length_append (bs:= [a.e]),jQ,List.flatMap_append (ys:= [a.e]),List.flatMap_singleton];exact hv2
  ·have:j=e.a.length:=by omega
   subst this;rw[List.take_length] at hv;have hlt': ¬(e.a.length:Int)<(e.a.length:Int):=by omega
   simp(disch:=omega)only[go_sem,e1,e3,e4,g1,hlt'];exact Df.fin (hv.less hs0) ⟨rfl,rfl⟩
def Ri (e:Ex) (d:Nat) (n:Int):Int:=if En d e=true/\(Ez e:Int)<=n then n-Ez e else-1
def Ba2 (l:List Ex) (d:Nat) (n:Int):Int:=if l.all (En d)=true/\(Kx l:Int)<=n then n-Kx l else-1
theorem Ct3 {l:List Ex} {d k:Nat} {n:Int} (hk:k<l.length) (h0:0<=n):(if 0<=Ri l[k] d n then Ba2 (l.drop (k+1)) d (Ri l[k] d n) else-1)=Ba2 (l.drop k) d n:=by
 rw[List.drop_eq_getElem_cons hk];have hs:Kx (l[k]::l.drop (k+1))=Ez l[k]+Kx (l.drop (k+1)):=by rw[Kx,jN,List.sum_cons];rfl
 unfold Ri Ba2;rw[List.all_cons,hs];by_cases h1:En d l[k]=true/\(Ez l[k]:Int)<=n
 ·rw[if_pos h1,if_pos (by omega)];by_cases h2:(l.drop (k+1)).all (En d)=true/\(Kx (l.drop (k+1)):Int)<=n-Ez l[k]
  ·rw[if_pos h2,if_pos ⟨by rw[h1.1,h2.1];rfl,by omega⟩];omega
  ·rw[if_neg h2,if_neg];rintro⟨h3,h4⟩;rw[jF] at h3;exact h2 ⟨h3.2,by omega⟩
 ·rw[if_neg h1,if_neg (by omega),if_neg];rintro⟨h3,h4⟩;rw[jF] at h3;exact h1 ⟨h3.1,by omega⟩
theorem Do2 (G:Nat->DVal): ∀(e:Ex) (H:Ab) (d:Nat) (n:Int),Kj e<=100000000000->d<=1000000->0<=n->n<=256->Ae Tryz.prog G 300 [.agg (dEx e), .int .i64 d, .int .i64 n] H (Ba (dI (Ri e d n)) H):=by
 intro e
 induction e using Ex.ind with
 | h e ih=>
  intro H d n hb hd h0 h1;have hpl:=Bk9 e;have hsz:=Qs e;have hve:=Tu d e;refine Aa Tryz.func300 Tryz.call300 rfl (by kernel_rfl) ?_;simp(disch:=omega)only[go_sem,DVal.cells];intro r3 hr3;dsimp only at hr3;by_cases c1:32<d
  ·have c1':(32:Int)<(d:Int):=by omega
   simp(disch:=omega)only[go_sem,c1'];refine Wj.dropA r3 hr3 (Wj.refl ⟨?_,rfl⟩);rw[Ri,if_neg];rintro⟨hv,_⟩;rw[hve,decide_eq_false (by omega),jT,jT] at hv;cases hv
  have c1': ¬(32:Int)<(d:Int):=by omega
  simp(disch:=omega)only[go_sem,c1'];refine(Bt3 G _ e (by omega)).mono ?_;rintro _ H1 ⟨rfl,rfl⟩;cases hf:Ca e with
  | false=>
   simp(disch:=omega)only[go_sem];refine Wj.dropA r3 hr3 (Wj.refl ⟨?_,rfl⟩);rw[Ri,if_neg];rintro⟨hv,_⟩;rw[hve,hf,Bool.and_false,jT] at hv;cases hv
  | true=>
   have hwn:IntKind.i64.wrap (n-1)=n-1:=by rw[IntKind.wrap_i64];omega
   have hwd:IntKind.i64.wrap ((d:Int)+1)=((d+1:Nat):Int):=by rw[IntKind.wrap_i64];omega
   rw[hf,decide_eq_true (show d<=32 by omega),jS,jS] at hve;have hroom:Ri e d n=if 0<=n-1 then Ba2 (parts e) (d+1) (n-1) else-1:=by
    unfold Ri Ba2;rw[hve,hsz];by_cases h2:0<=n-1
    ·rw[if_pos h2];by_cases h3:(parts e).all (En (d+1))=true/\(Kx (parts e):Int)<=n-1
     ·rw[if_pos h3,if_pos ⟨h3.1,by omega⟩];omega
     ·rw[if_neg h3,if_neg (fun h4=>h3 ⟨h4.1,by omega⟩)]
    ·rw[if_neg h2,if_neg (fun h4=>by omega)]
   simp(disch:=omega)only[go_sem,hwn];refine(Ct2 G _ e hb).mono ?_;rintro _ H1 ⟨rfl,rfl⟩;have hfp:=Al Ad (parts e);simp(disch:=omega)only[go_sem,dXs];obtain⟨I,hI⟩: ∃I:Nat×Int->(Nat->DVal)->Ab->Prop,∀kn env heap,I kn env heap↔(env 1= .int .i64 d/\env 2= .int .i64 kn.2/\env 7= .vslice ((parts e).flatMap dEx) (parts e).length/\env 8=dI kn.1/\kn.1<=(parts e).length/\ -1<=kn.2/\kn.2<=256/\Ri e d n=(if 0<=kn.2 then Ba2 ((parts e).drop kn.1) (d+1) kn.2 else-1)/\heap=upd H r3 (some (.cells (dEx e) 27))):=⟨_,fun _ _ _=>Iff.rfl⟩;refine Dt1.run I (fun kn=>(parts e).length-kn.1) (0,n-1) ((hI _ _ _).2 ?_) ?_
   ·simp(disch:=omega)only[go_sem];(repeat' apply And.intro)<;>(try first | rfl | assumption | omega)
   ·rintro⟨k,m⟩ env heap hi;obtain⟨e1,e2,e7,e8,hk,hm0,hm1,hr,rfl⟩:=(hI _ _ _).1 hi;dsimp only at e2 e8 hk hm0 hm1 hr;by_cases hlt:k<(parts e).length
    ·have hlt':(k:Int)<((parts e).length:Int):=by omega
     have Aw:=Bu Ad (parts e) k hlt;have hwk:IntKind.i64.wrap ((k:Int)+1)=((k+1:Nat):Int):=by rw[IntKind.wrap_i64];omega
     have hmem:=List.getElem_mem hlt;by_cases hm:0<=m
     ·rw[if_pos hm,<-Ct3 hlt hm] at hr;have hrr: -1<=Ri (parts e)[k] (d+1) m/\Ri (parts e)[k] (d+1) m<=256:=by unfold Ri;split<;>omega
      simp(disch:=omega)only[go_sem,e1,e2,e7,e8,hlt',hm,Aw,hfp,hwd,jD];refine(ih _ hmem _ (d+1) m (by have:=Vh hmem;omega) (by omega) hm (by omega)).mono ?_;rintro _ H2 ⟨rfl,rfl⟩;simp(disch:=omega)only[go_sem,e1,e2,e7,e8];refine⟨(k+1,Ri (parts e)[k] (d+1) m),_,Ws.refl _,(hI _ _ _).2 ?_,by dsimp only;omega⟩;simp(disch:=omega)only[go_sem,e1,e2,e7,e8,hwk];(repeat' apply And.intro)<;>(try first | rfl | assumption | omega)
     ·rw[if_neg hm] at hr;have hm2:m= -1:=by omega
      simp(disch:=omega)only[go_sem,e1,e2,e7,e8,hlt',hm];refine Wj.dropA r3 hr3 (Wj.refl ⟨?_,rfl⟩);rw[hr,hm2]
    ·have:k=(parts e).length:=by omega
     subst this;have hlt': ¬((parts e).length:Int)<((parts e).length:Int):=by omega
     simp(disch:=omega)only[go_sem,e1,e2,e7,e8,hlt'];refine Wj.dropA r3 hr3 (Wj.refl ⟨?_,rfl⟩);rw[hr,List.drop_length];split
     ·simp [Ba2,Kx];omega
     ·congr 2;omega
theorem Mr (G:Nat->DVal) (H:Ab) (e:Ex) (hb:Kj e<=100000000000):Ae Tryz.prog G 185 [.agg (dEx e)] H (Ba (.bool (Cl e)) H):=by
 refine Aa Tryz.func185 Tryz.call185 rfl (by kernel_rfl) ?_;simp(disch:=omega)only[go_sem,DVal.cells];intro r hr;dsimp only at hr;simp(disch:=omega)only[go_sem];refine(Do2 G e _ 1 256 hb (by decide) (by decide) (by decide)).mono ?_;rintro _ H1 ⟨rfl,rfl⟩;simp(disch:=omega)only[go_sem];refine Wj.dropA r hr (Wj.refl ⟨?_,rfl⟩);have:(0<=Ri e 1 256)↔(En 1 e=true/\Ez e<=256):=by
  unfold Ri;split
  ·constructor
   ·intro _;exact⟨by simp_all,by omega⟩
   ·intro _;omega
  ·rename_i h
   constructor
   ·intro h2;omega
   ·rintro⟨h2,h3⟩;exact absurd ⟨h2,by omega⟩ h
 rw[Cl];cases hv:En 1 e with
 | true=>
  rw[hv] at this;simp [this]
 | false=>
  rw[hv] at this;simp [this]
end
end Go.Dl

-- Chapter 3: the reference: MayArgs, MayChoices, Size, Lines.
namespace Go.Dl
open Go Go.Proofs
set_option maxRecDepth 100000
section
variable {G:Nat->DVal} {H:Ab}
theorem Om (G:Nat->DVal) (H:Ab) (l:List Ch) (hb:Lg l<=90000000000):Ae Tryz.prog G 304 [dCl l] H (Ba (.bool (Kg l)) H):=by
 have hll:=La l;have hfl:=Al Cu l;refine Aa Tryz.func304 Tryz.call304 rfl (by kernel_rfl) ?_;simp(disch:=omega)only[go_sem,dCl];refine(Td G _ l (by omega)).mono ?_;rintro _ H1 ⟨rfl,rfl⟩;cases h:Ct l with
 | false=>
  simp(disch:=omega)only[go_sem];exact Wj.refl ⟨by rw[Kg,h,jT],rfl⟩
 | true=>
  simp(disch:=omega)only[go_sem];obtain⟨I,hI⟩: ∃I:Nat->(Nat->DVal)->Ab->Prop,∀k env heap,I k env heap↔(env 0= .vslice (l.flatMap dCh) l.length/\env 3=dI k/\k<=l.length/\Kg l=(l.drop k).all (fun c=>c.l.all Cl)/\heap=H1):=⟨_,fun _ _ _=>Iff.rfl⟩;refine Dt1.run I (fun k=>l.length-k) 0 ((hI _ _ _).2 ?_) ?_
  ·simp(disch:=omega)only[go_sem];(repeat' apply And.intro)<;>(try first | rfl | assumption | omega);rw[Kg,h,jS]
  ·intro k env heap hi;obtain⟨e0,e3,hk,hm,rfl⟩:=(hI _ _ _).1 hi;obtain⟨H2,hH2⟩: ∃H2,H2=heap:=⟨_,rfl⟩;subst hH2;by_cases hlt:k<l.length
   ·have hlt':(k:Int)<(l.length:Int):=by omega
    have hwk:IntKind.i64.wrap ((k:Int)+1)=((k+1:Nat):Int):=by rw[IntKind.wrap_i64];omega
    have gl:=Ck Cu l k hlt 1 (by decide);rw[Bk5] at gl;have hbm:=Mq (List.getElem_mem hlt);rw[List.drop_eq_getElem_cons hlt,List.all_cons] at hm;obtain⟨c,hc⟩: ∃c,c=l[k]:=⟨_,rfl⟩;rw[<-hc] at gl hbm hm;have hbl:=Kk c.l;have hfx:=Al Ad c.l;rw[Sl] at hbm;simp(disch:=omega)only[go_sem,e0,e3,hlt'];obtain⟨J,hJ⟩: ∃J:Nat->(Nat->DVal)->Ab->Prop,∀m env heap,J m env heap↔(env 0= .vslice (l.flatMap dCh) l.length/\env 3=dI k/\env 4=dI m/\m<=c.l.length/\Kg l=((c.l.drop m).all Cl&&(l.drop (k+1)).all (fun c=>c.l.all Cl))/\heap=H2):=⟨_,fun _ _ _=>Iff.rfl⟩;refine Dt1.run J (fun m=>c.l.length-m) 0 ((hJ _ _ _).2 ?_) ?_
    ·simp(disch:=omega)only[go_sem,e0,e3];(repeat' apply And.intro)<;>(try first | rfl | assumption | omega)
    ·intro m env heap hi;obtain⟨e0,e3,e4,hmm,hma,rfl⟩:=(hJ _ _ _).1 hi;by_cases hml:m<c.l.length
     ·have hml':(m:Int)<(c.l.length:Int):=by omega
      have hwm:IntKind.i64.wrap ((m:Int)+1)=((m+1:Nat):Int):=by rw[IntKind.wrap_i64];omega
      have Aw:=Bu Ad c.l m hml;have hbx:=Xf (List.getElem_mem hml);rw[List.drop_eq_getElem_cons hml,List.all_cons] at hma;simp(disch:=omega)only[go_sem,e0,e3,e4,hlt',hfl,gl,hml',hfx,Aw,jD];refine(Mr G _ c.l[m] (by omega)).mono ?_;rintro _ H2 ⟨rfl,rfl⟩;cases hb1:Cl c.l[m] with
      | false=>
       simp(disch:=omega)only[go_sem,e0,e3,e4];exact Wj.refl ⟨by rw[hma,hb1];rfl,rfl⟩
      | true=>
       rw[hb1,jS] at hma;simp(disch:=omega)only[go_sem,e0,e3,e4];refine⟨m+1,_,Ws.refl _,(hJ _ _ _).2 ?_,by omega⟩;simp(disch:=omega)only[go_sem,e0,e3,e4,hwm];(repeat' apply And.intro)<;>(try first | rfl | assumption | omega)
     ·have:m=c.l.length:=by omega
      subst this;rw[List.drop_length,List.all_nil,jS] at hma;have hml': ¬(c.l.length:Int)<(c.l.length:Int):=by omega
      simp(disch:=omega)only[go_sem,e0,e3,e4,hlt',hfl,gl,hml',jD];refine⟨k+1,_,Ws.refl _,(hI _ _ _).2 ?_,by omega⟩;simp(disch:=omega)only[go_sem,e0,e3,e4,hwk];(repeat' apply And.intro)<;>(try first | rfl | assumption | omega)
   ·have:k=l.length:=by omega
    subst this;have hlt': ¬(l.length:Int)<(l.length:Int):=by omega
    simp(disch:=omega)only[go_sem,e0,e3,hlt'];exact Wj.refl ⟨by rw[hm,List.drop_length];rfl,rfl⟩
end
end Go.Dl

-- THE DATA LEVEL, PART N: a call that is put off to the end, and takes up a panic there.
namespace Go.Dl
open Go
set_option maxRecDepth 10000
section
variable {P:Program} {G:Nat->DVal}
theorem Bl0 {fn:Func} {args:List DVal} {H:Ab} {vs:List Value} {w:World} {T:List Deferred} {st:Bool} (hA:args.length<=fn.ntmps) (hv:Be w H args vs) (hH:Br w H) (hG:GOk G w H):
  Sim G ⟨fn.ntmps,⟨w.heap.size,T,st⟩⟩ ⟨Mo args 0,H⟩ { tmps:=vs.toArray++Array.replicate (fn.ntmps-vs.toArray.size) undef,defers:=T } w:=by
 have hl:=hv.length;refine⟨by simp;omega,⟨[],rfl,List.nodup_nil,by simp⟩,fun i hi=> ?_,hH,hG,Nat.le_refl _⟩;have h0:=Ak2 args 0 i;rw[Nat.zero_add] at h0;show Rel w H (Mo args 0 i) _;rw[h0];by_cases hlt:i<args.length
 ·have h1:args[i]? =some (args.getD i El):=by simp [List.getD,List.getElem?_eq_getElem hlt]
  obtain⟨x,hx,hr⟩:=hv.get h1;have:(vs.toArray++Array.replicate (fn.ntmps-vs.toArray.size) undef).getD i undef=x:=by
   have hlt':i<vs.length:=by omega
   rw[Array.getD_eq_getD_getElem?,Array.getElem?_append_left (by simpa using hlt')];simp [hx]
  rw[this];exact hr
 ·have h1:args.getD i El=El:=by simp [List.getD,List.getElem?_eq_none (Nat.le_of_not_lt hlt)]
  have:(vs.toArray++Array.replicate (fn.ntmps-vs.toArray.size) undef).getD i undef=undef:=by
   rw[Array.getD_eq_getD_getElem?,Array.getElem?_append_right (by simp;omega)];simp only[Array.getElem?_replicate];split<;>rfl
  rw[h1,this];exact Ur w H
def Al4 (R:Ab->Prop):DExit->DS->Prop
 | .normal,s=>R s.heap
 | .ret,s=>R s.heap
 | _,_=>False
def Xi (t ty:Nat) (ps:String) (af:Array Edge):Oper:= { dst:=some t,op:= .call { callee:= .builtin .recover,args:= #[],argTypes:= #[] },type:=ty,pos:=ps,after:=af,guard:=none }
def Af0 (t t' ty:Nat) (ps:String) (af:Array Edge):Oper:= { dst:=some t',op:= .assign (.tmp t),type:=ty,pos:=ps,after:=af,guard:=none }
theorem Vj {N:Fr} {s:DS} {a:Act} {w:World} (hS:Sim G N s a w) (h:N.base.still=true):a.defers=N.base.late:=by
 obtain⟨Ds,h1,_,h3⟩:=hS.defers;cases Ds with
 | nil=>exact h1
 | cons D Ds=>have:=(h3 D (by simp)).1.2;rw[h] at this;cases this
theorem Do3 {n:Nat} {ops:Array Oper} {Q:Exit->Act->List Frame->World->Prop} {i:Nat} {rest:List Nat} {a:Act} {cs:List Frame} {w:World} {o:Oper} (ho:ops[i]? =some o) (hg:o.guard=none) (hr:(execOp a.eval o).run P w= .ok .recover w) (hc:recoverD cs=none)
  (h:wpOpsSIn Fence.wide n P ops Q rest (a.put o.dst .nilIface) cs w):wpOpsSIn Fence.wide n P ops Q (i::rest) a cs w:=by
 unfold wpOpsSIn;rw[ho];refine⟨fun _ _=>trivial, ?_⟩;rw[if_pos (by simp [Region.wanted,hg]),hr,hc];exact h
theorem Ec5 {n:Nat} {ops:Array Oper} {Q:Exit->Act->List Frame->World->Prop} {i:Nat} {rest:List Nat} {a:Act} {cs cs':List Frame} {w:World} {o:Oper} {v:Value} (ho:ops[i]? =some o) (hg:o.guard=none) (hr:(execOp a.eval o).run P w= .ok .recover w) (hc:recoverD cs=some (v,cs'))
  (h:wpOpsSIn Fence.wide n P ops Q rest (a.put o.dst v) cs' w):wpOpsSIn Fence.wide n P ops Q (i::rest) a cs w:=by
 unfold wpOpsSIn;rw[ho];refine⟨fun _ _=>trivial, ?_⟩;rw[if_pos (by simp [Region.wanted,hg]),hr,hc];exact h
theorem Cg8 {n:Nat} {ops:Array Oper} {Q:Exit->Act->List Frame->World->Prop} {i:Nat} {rest:List Nat} {a:Act} {cs:List Frame} {w:World} {o:Oper} {v:Value} (ho:ops[i]? =some o) (hg:o.guard=none) (hr:(execOp a.eval o).run P w= .ok (.value v) w)
  (h:wpOpsSIn Fence.wide n P ops Q rest (a.put o.dst v) cs w):wpOpsSIn Fence.wide n P ops Q (i::rest) a cs w:=by
 unfold wpOpsSIn;rw[ho];refine⟨fun _ _=>trivial, ?_⟩;rw[if_pos (by simp [Region.wanted,hg]),hr];exact h
theorem Cg9 {f:FuncId} {fn:Func} {id:Nat} {t1 t2 y1 y2:Nat} {p1 p2:String} {af1 af2:Array Edge} {c:Code} {caps:List DVal} {H:Ab} {R:Ab->Prop} {n:Nat} {vs:List Value} {w:World} {u:FrameMode} {x:DVal}
  (hf:P.funcs[f]? =some fn) (hb:fn.body=some (.seq (.region id #[Xi t1 y1 p1 af1,Af0 t1 t2 y2 p2 af2] false) c))
  (hk:(decide (caps.length<=fn.ntmps)&&Gb fn.ntmps c&&Rq c&&decide (t1<fn.ntmps)&&decide (t2<fn.ntmps))=true) (hres:fn.results= #[])
  (hv:Be w H caps vs) (hH:Br w H) (hG:GOk G w H)
  (hu:(u= .returning/\x= .nilIface)\/ ∃v,u= .panicking [{ v,recovered:=false }]/\Rel w H x v)
  (h:dwp P G fn.ntmps c (Al4 R) ⟨upd (upd (Mo caps 0) t1 x) t2 x,H⟩):
  CallsDIn Fence.wide n P f vs.toArray u w fun e u' w'=> ∃v H',e= .returned v/\settle u'= .returning/\R H'/\Br w' H'/\Ext H w H' w':=by
 simp only[jF,decide_eq_true_eq] at hk;obtain⟨⟨⟨⟨hA,hok⟩,hfl⟩,ht1⟩,ht2⟩:=hk;refine callsDIn_of_wpSIn hf hb trivial fun c₀ cs hm=>wpSIn_seq (wpSIn_region ?_);have hS:=Bl0 (G:=G) (T:= []) (st:=true) hA hv hH hG;have key: ∀(v:Value) (u':FrameMode),settle u'= .returning->Rel w H x v->
   c.wpSIn Fence.wide n P (bodyPostS P fn c₀ cs fun e u' w'=> ∃v H',e= .returned v/\settle u'= .returning/\R H'/\Br w' H'/\Ext H w H' w')
    (({ tmps:=vs.toArray++Array.replicate (fn.ntmps-vs.toArray.size) undef,defers:= [] }:Act).put (some t1) v |>.put (some t2) v) ({ c₀ with mode:=u' }::cs) w:=by
  intro v u' hs hx;refine wpSIn_of_wpIn rfl ?_;have hS1:=(hS.put (dst:=some t1) (by simpa [Db] using ht1) hx).put (dst:=some t2) (by simpa [Db] using ht2) hx;refine wpIn_mono (Gn (.inl rfl) c hok (.inr hfl) _ _ h _ w hS1) ?_;rintro e a' w1 ⟨e',s',hQ,hX,hS',hE⟩;have hd:=Vj hS' rfl;have hr:(results fn a'.tmps).run P w1= .ok (.tuple #[]) w1:=by
   unfold results;rw[hres];simp [Sem.run_pure]
  cases hX with
  | normal=>exact⟨hd,u',rfl,_,hr,_,s'.heap,rfl,hs,hQ,hS'.heap,hE⟩
  | ret=>exact⟨hd,u',rfl,_,hr,_,s'.heap,rfl,hs,hQ,hS'.heap,hE⟩
  | exit id=>exact hQ.elim
  | goto l=>exact hQ.elim
  | panic d v hv=>exact hQ.elim
 have hrange:List.range (#[Xi t1 y1 p1 af1,Af0 t1 t2 y2 p2 af2]:Array Oper).size= [0,1]:=rfl;have e0:(#[Xi t1 y1 p1 af1,Af0 t1 t2 y2 p2 af2]:Array Oper)[0]? =some (Xi t1 y1 p1 af1):=rfl;have e1:(#[Xi t1 y1 p1 af1,Af0 t1 t2 y2 p2 af2]:Array Oper)[1]? =some (Af0 t1 t2 y2 p2 af2):=rfl;have r0: ∀ρ w,(execOp ρ (Xi t1 y1 p1 af1)).run P w= .ok .recover w:=fun ρ w=>by
  simp [execOp,Xi,resolve,invoke,builtin,Sem.run_pure]
 have r1: ∀ρ w,(execOp ρ (Af0 t1 t2 y2 p2 af2)).run P w= .ok (.value (ρ (.tmp t1))) w:=fun ρ w=>by
  simp [execOp,Af0,Sem.run_pure]
 have Aw: ∀v,(({ tmps:=vs.toArray++Array.replicate (fn.ntmps-vs.toArray.size) undef,defers:= [] }:Act).put (some t1) v).eval (.tmp t1)=v:=fun v=>by
  have hsz:=hS.size;dsimp only at hsz;simp [Act.eval,Act.put,Array.getD,hsz,ht1];intro hle;simp at hsz;omega
 rw[hrange];rcases hu with⟨rfl,rfl⟩ | ⟨v,rfl,hx⟩
 ·have hr:recoverD (c₀::cs)=none:=by simp [recoverD,hm]
  have hc: { c₀ with mode:= .returning }=c₀:=by cases c₀;simp at hm;simp [hm]
  refine Do3 e0 rfl (r0 _ _) hr (Cg8 e1 rfl (r1 _ _) ?_);rw[show(Xi t1 y1 p1 af1).dst=some t1 from rfl,Aw];have:=key .nilIface .returning rfl (by simp [Rel]);rw[hc] at this;exact this
 ·have hr:recoverD (c₀::cs)=some (v,{ c₀ with mode:= .panicking [{ v,recovered:=true }] }::cs):=by simp [recoverD,hm]
  refine Ec5 e0 rfl (r0 _ _) hr (Cg8 e1 rfl (r1 _ _) ?_);rw[show(Xi t1 y1 p1 af1).dst=some t1 from rfl,Aw];exact key v _ rfl hx
theorem Ch0 (env:Nat->DVal): ∀l:List Operand,(Fy G env l).length=l.length
 | []=>rfl
 | x::l=>by rw[Fy,jA,Ch0 env l,jA]
def Ch1 (d:Nat) (g:FuncId) (caps:Array Operand) (ty:Nat) (ps:String) (af:Array Edge):Oper:= { dst:=some d,op:= .makeFunc (.func g) #[] caps,type:=ty,pos:=ps,after:=af,guard:=none }
def Do4 (d ty:Nat) (ps:String) (af:Array Edge):Oper:= { dst:=none,op:= .defer { callee:= .value (.tmp d),args:= #[],argTypes:= #[] },type:=ty,pos:=ps,after:=af,guard:=none }
def Ec6 (P:Program) (G:Nat->DVal) (rs:List ResultVar) (R:DEnd->Ab->Prop) (m t1 t2:Nat) (cc:Code) (caps:List DVal):DExit->DS->Prop
 | .normal,s=>dwp P G m cc (Al4 fun H'=>Ao1 R H' (Ih (Lm P ⟨s.env,H'⟩ rs))) ⟨upd (upd (Mo caps 0) t1 .nilIface) t2 .nilIface,s.heap⟩
 | .ret,s=>dwp P G m cc (Al4 fun H'=>Ao1 R H' (Ih (Lm P ⟨s.env,H'⟩ rs))) ⟨upd (upd (Mo caps 0) t1 .nilIface) t2 .nilIface,s.heap⟩
 | .panic v,s=>dwp P G m cc (Al4 fun H'=>Ao1 R H' (Ih (Lm P ⟨s.env,H'⟩ rs))) ⟨upd (upd (Mo caps 0) t1 v) t2 v,s.heap⟩
 | _,_=>False
theorem Ch2 {f g:FuncId} {fn fg:Func} {A1 A2 C cc:Code} {id id2 d t1 t2 y1 y2 y3 y4:Nat} {p1 p2 p3 p4:String} {af1 af2 af3 af4:Array Edge} {caps:Array Operand} {args:List DVal} {H:Ab} {R:DEnd->Ab->Prop}
  (hf:P.funcs[f]? =some fn) (hg:P.funcs[g]? =some fg) (hcall: ∀vs w,(callFunc f vs).run P w= .ok (.enter f vs) w) (hcallg: ∀vs w,(callFunc g vs).run P w= .ok (.enter g vs) w)
  (hb:fn.body=some (.seq A1 (.seq A2 (.seq (.region id #[Ch1 d g caps y1 p1 af1,Do4 d y2 p2 af2] false) C))))
  (hbg:fg.body=some (.seq (.region id2 #[Xi t1 y3 p3 af3,Af0 t1 t2 y4 p4 af4] false) cc))
  (hk:(decide (args.length<=fn.ntmps)&&(Gb fn.ntmps A1&&Rq A1)&&(Gb fn.ntmps A2&&Rq A2)&&(Gb fn.ntmps C&&Rq C)&&decide (d<fn.ntmps)&&caps.toList.all (Cd fn.ntmps)&&fn.results.toList.all (Ao2 fn.ntmps))=true)
  (hkg:(decide (caps.toList.length<=fg.ntmps)&&Gb fg.ntmps cc&&Rq cc&&decide (t1<fg.ntmps)&&decide (t2<fg.ntmps))=true) (hrg:fg.results= #[])
  (h:dwp P G fn.ntmps A1 (Hb (fun s=>dwp P G fn.ntmps A2 (Hb (fun s1=>dwp P G fn.ntmps C (Ec6 P G fn.results.toList R fg.ntmps t1 t2 cc (Fy G s1.env caps.toList)) ⟨upd s1.env d (.func (.func g) [] (Fy G s1.env caps.toList)),s1.heap⟩) fun _ _=>False) s) fun _ _=>False) ⟨Mo args 0,H⟩):Ae P G f args H R:=by
 simp only[jF,decide_eq_true_eq] at hk;obtain⟨⟨⟨⟨⟨⟨hA,hok1,hfl1⟩,hok2,hfl2⟩,hok3,hfl3⟩,hd⟩,hcp⟩,hres⟩:=hk;refine⟨hcall,fun vs w hv hH hG=> ?_⟩;refine(callsIn_wide (n:=0)).1 (callsIn_of_wp_marks hf hb trivial ?_);have hS:=Bl0 (G:=G) (T:= []) (st:=true) hA hv hH hG;refine wpIn_seq (wpIn_mono (Gn (.inl rfl) A1 hok1 (.inr hfl1) _ _ h _ w hS) ?_);rintro e a0 w0 ⟨e',s0,hQ,hX,hS0,hE0⟩;cases hX<;>first | exact hQ.elim | skip
 refine wpIn_seq (wpIn_mono (Gn (.inl rfl) A2 hok2 (.inr hfl2) _ _ hQ _ w0 hS0) ?_);rintro e a1 w1 ⟨e',s1,hQ1,hX,hS1,hE1⟩;cases hX<;>first | exact hQ1.elim | skip
 have hE1:=hE0.trans hE1;have hd1:a1.defers= []:=Vj hS1 rfl;have hrc:=Ra hS1 hcp;obtain⟨cv,hcv⟩: ∃cv:List Value,cv=caps.toList.map a1.eval:=⟨_,rfl⟩;have hcv2:caps.map a1.eval=cv.toArray:=by rw[hcv,<-Array.toList_map]
 rw[<-hcv] at hrc;have hfv:Rel w1 s1.heap (.func (.func g) [] (Fy G s1.env caps.toList)) (.func (.func g) #[] cv.toArray):=by
  simp only[Rel];refine⟨#[],cv.toArray,rfl, ?_, ?_⟩
  ·simp [Be]
  ·simpa using hrc
 obtain⟨D,hD⟩: ∃D:Deferred,D= { target:= .fn (.func g) cv.toArray,args:= #[] }:=⟨_,rfl⟩;have hS2:Sim G ⟨fn.ntmps,⟨w.heap.size,[D],true⟩⟩ ⟨upd s1.env d (.func (.func g) [] (Fy G s1.env caps.toList)),s1.heap⟩ ({ (a1.put (some d) (.func (.func g) #[] cv.toArray)) with defers:= [D] }) w1:=by
  have:=hS1.put (dst:=some d) (by simpa [Db] using hd) hfv;exact⟨this.size,⟨[],rfl,List.nodup_nil,by simp⟩,this.tmps,this.heap,this.glob,this.base⟩
 refine wpIn_seq ?_;have hreg: #[Ch1 d g caps y1 p1 af1,Do4 d y2 p2 af2]= [Ch1 d g caps y1 p1 af1,Do4 d y2 p2 af2].toArray:=rfl;rw[hreg];refine wpIn_region_lit (wpListIn_plain rfl fun K hK=> ?_);have rm:(execOp a1.eval (Ch1 d g caps y1 p1 af1)).run P w1= .ok (.value (.func (.func g) #[] cv.toArray)) w1:=by
  simp [execOp,Ch1,Instr.makeFunc,Sem.run_pure,hcv2]
 have hsz:=hS1.size;have Aw:(a1.put (some d) (.func (.func g) #[] cv.toArray)).eval (.tmp d)= .func (.func g) #[] cv.toArray:=by
  simp [Act.eval,Act.put,Array.getD,hsz,hd]
 have rd:(execOp (a1.put (some d) (.func (.func g) #[] cv.toArray)).eval (Do4 d y2 p2 af2)).run P w1= .ok (.defer D) w1:=by
  simp [execOp,Do4,resolve,Aw,Deferred.ofValue,Sem.run_pure,hD]
 unfold Oper.wpIn;refine⟨fun _ _=>trivial, ?_⟩;rw[Oper.semAt_eq _ _ _ (by intro c;simp [Ch1]),rm];refine hK _ _ (wpListIn_plain rfl fun K2 hK2=> ?_);unfold Oper.wpIn;refine⟨fun _ _=>trivial, ?_⟩;rw[show Fence.wide.round=none from rfl,Oper.semAt_none,show(Ch1 d g caps y1 p1 af1).dst=some d from rfl,rd];refine hK2 _ _ (wpListIn_nil ?_);have hdp:(a1.put (some d) (.func (.func g) #[] cv.toArray)).defers= []:=hd1;rw[hdp];show C.wpIn _ _ _ _ _ _;refine wpIn_mono (Gn (.inl rfl) C hok3 (.inr hfl3) _ _ hQ1 _ w1 hS2) ?_;rintro e a3 w3 ⟨e',s3,hQ3,hX3,hS3,hE3⟩;have hE3':=hE1.trans hE3;have hd3:a3.defers= [D]:=Vj hS3 rfl;have hrc3:Be w3 s3.heap (Fy G s1.env caps.toList) cv:=hrc.lasts hE3.lasts;have hinv:(invoke D.target D.args).run P w3= .ok (.enter g cv.toArray) w3:=by
  rw[hD];simp [invoke,hcallg]
 have key: ∀(u:FrameMode) (x:DVal),u≠ .run->((u= .returning/\x= .nilIface)\/ ∃v,u= .panicking [{ v,recovered:=false }]/\Rel w3 s3.heap x v)->
   dwp P G fg.ntmps cc (Al4 fun H'=>Ao1 R H' (Ih (Lm P ⟨s3.env,H'⟩ fn.results.toList))) ⟨upd (upd (Mo (Fy G s1.env caps.toList) 0) t1 x) t2 x,s3.heap⟩->
   LeavesInM Fence.wide 0 P fn a3.tmps (fun e w'=> ∃e' H',R e' H'/\RelE w' H' e' e/\Br w' H'/\Ext H w H' w') a3.defers u w3:=by
  intro u x hu0 hu hc;rw[hd3];refine⟨hu0, .inr ⟨(fun h=>by cases h), .func g,cv.toArray,g,cv.toArray,(by rw[hD]),hinv,fun _ _=>trivial, ?_⟩⟩;refine(Cg9 hg hbg (by rw[Ch0];exact(by simp only[jF,decide_eq_true_eq] at hkg⊢;exact hkg)) hrg hrc3 hS3.heap hS3.glob hu hc).mono ?_;rintro e4 u4 w4 ⟨v4,H4,rfl,hset,hfin,hH4,hE4⟩;dsimp only;rw[hset];have hS4:=hS3.ext hE4 hH4;cases hdt:Ih (Lm P ⟨s3.env,H4⟩ fn.results.toList) with
  | none=>rw[hdt] at hfin;exact hfin.elim
  | some v=>
   rw[hdt] at hfin;obtain⟨x,hx,hr⟩:=Ao3 (P:=P) hS4 hres hdt;obtain⟨v',H',hgg,hR⟩:=hfin;obtain⟨g1,g2,g3⟩:=hgg w4 hS4.heap;exact⟨x,hx, .ret v',H',hR, .ret v' x (g3 x hr),g1,(hE3'.trans hE4).trans ⟨rfl,rfl,rfl,Nat.le_refl _,fun _ _ _=>rfl,fun b hb=> .inl (g2 b hb),fun _ _=>rfl,fun _ _ _=>rfl⟩⟩
 cases hX3 with
 | normal=>exact key .returning .nilIface (by simp) (.inl ⟨rfl,rfl⟩) hQ3
 | ret=>exact key .returning .nilIface (by simp) (.inl ⟨rfl,rfl⟩) hQ3
 | exit id=>exact hQ3.elim
 | goto l=>exact hQ3.elim
 | panic d v hv=>exact key _ d (by simp) (.inr ⟨v,rfl,hv⟩) hQ3
end
attribute [go_sem] Al4.eq_1 Al4.eq_2 Ec6.eq_1 Ec6.eq_2 Ec6.eq_3
end Go.Dl

-- Chapter 3: the package's reader: tokens, words.
namespace Go.Dl
open Go Go.Proofs
set_option maxRecDepth 100000
section
variable {G:Nat->DVal} {H0 H:Ab} {r k:Nat} {l:List Tok}
theorem Et1 {H:Ab} {r:Nat} {x:Option DObj} (h:H r=x):upd H r x=H:=by
 funext b;simp only[upd];split
 ·rename_i e;rw[e,h]
 ·rfl
def dW (ws:List (List UInt8)):DVal:= .vslice (ws.map .str) ws.length
end
end Go.Dl

-- Chapter 3: the operators' words; operators (printed by gen_uh.py).
namespace Go.Dl
open Go Go.Proofs
set_option maxRecDepth 100000
section
variable {G:Nat->DVal} {H0 H:Ab} {r k:Nat} {l:List Tok}
def Xj:DVal:= .vslice (Eb8.map dW) 22
theorem Av {x y:List DVal} (hx:x.length=9) (hy:y.length=9):
  (if 9<=(repl 2 [DVal.int .u8 0,DVal.int .u8 0,DVal.int .i64 0,DVal.str [],DVal.nilSlice,DVal.nilSlice,DVal.int .i64 0,DVal.int .i64 0,DVal.int .i64 0]).length then
   if 18<=(x++List.drop 9 (repl 2 [DVal.int .u8 0,DVal.int .u8 0,DVal.int .i64 0,DVal.str [],DVal.nilSlice,DVal.nilSlice,DVal.int .i64 0,DVal.int .i64 0,DVal.int .i64 0])).length then
    some (List.take 9 (x++List.drop 9 (repl 2 [DVal.int .u8 0,DVal.int .u8 0,DVal.int .i64 0,DVal.str [],DVal.nilSlice,DVal.nilSlice,DVal.int .i64 0,DVal.int .i64 0,DVal.int .i64 0]))++y++
     List.drop 18 (x++List.drop 9 (repl 2 [DVal.int .u8 0,DVal.int .u8 0,DVal.int .i64 0,DVal.str [],DVal.nilSlice,DVal.nilSlice,DVal.int .i64 0,DVal.int .i64 0,DVal.int .i64 0])))
   else none
  else none)=some (x++y):=by
 have e: ∀u:List DVal,repl 2 u=u++u:=fun u=>by simp [repl]
 rw[e];rw[if_pos (by simp),if_pos (by simp [hx]),List.take_left' hx,List.drop_eq_nil_of_le (by simp [hx]),jH]
set_option maxHeartbeats 4000000 in
theorem Mc (G:Nat->DVal) (H:Ab):Ae Tryz.prog G 314 [] H (Ba Xj H):=by
 refine Aa Tryz.func314 Tryz.call314 rfl (by kernel_rfl) ?_;simp(disch:=omega)only[go_sem];intro b1 hb1;dsimp only at hb1;obtain⟨K1,hK1⟩: ∃K,K=upd H b1 (some (.cells [.str [43]] 9)):=⟨_,rfl⟩;rw[<-hK1];simp(disch:=omega)only[go_sem];intro b2 hb2;dsimp only at hb2;obtain⟨K2,hK2⟩: ∃K,K=upd K1 b2 (some (.cells [.str [45]] 9)):=⟨_,rfl⟩;rw[<-hK2];simp(disch:=omega)only[go_sem];intro b3 hb3;dsimp only at hb3;obtain⟨K3,hK3⟩: ∃K,K=upd K2 b3 (some (.cells [.str [42]] 9)):=⟨_,rfl⟩;rw[<-hK3];simp(disch:=omega)only[go_sem];intro b4 hb4;dsimp only at hb4;obtain⟨K4,hK4⟩: ∃K,K=upd K3 b4 (some (.cells [.str [47]] 9)):=⟨_,rfl⟩;rw[<-hK4];simp(disch:=omega)only[go_sem];intro b5 hb5;dsimp only at hb5;obtain⟨K5,hK5⟩: ∃K,K=upd K4 b5 (some (.cells [.str [109,111,100]] 9)):=⟨_,rfl⟩;rw[<-hK5];simp(disch:=omega)only[go_sem];intro b6 hb6;dsimp only at hb6;obtain⟨K6,hK6⟩: ∃K,K=upd K5 b6 (some (.cells [.str [114,101,109]] 9)):=⟨_,rfl⟩;rw[<-hK6];simp(disch:=omega)only[go_sem];intro b7 hb7;dsimp only at hb7;obtain⟨K7,hK7⟩: ∃K,K=upd K6 b7 (some (.cells [.str [61]] 9)):=⟨_,rfl⟩;rw[<-hK7];simp(disch:=omega)only[go_sem];intro b8 hb8;dsimp only at hb8;obtain⟨K8,hK8⟩: ∃K,K=upd K7 b8 (some (.cells [.str [47,61]] 9)):=⟨_,rfl⟩;rw[<-hK8];simp(disch:=omega)only[go_sem];intro b9 hb9;dsimp only at hb9;obtain⟨K9,hK9⟩: ∃K,K=upd K8 b9 (some (.cells [.str [60]] 9)):=⟨_,rfl⟩;rw[<-hK9];simp(disch:=omega)only[go_sem];intro b10 hb10;dsimp only at hb10;obtain⟨K10,hK10⟩: ∃K,K=upd K9 b10 (some (.cells [.str [60,61]] 9)):=⟨_,rfl⟩;rw[<-hK10];simp(disch:=omega)only[go_sem];intro b11 hb11;dsimp only at hb11;obtain⟨K11,hK11⟩: ∃K,K=upd K10 b11 (some (.cells [.str [62]] 9)):=⟨_,rfl⟩;rw[<-hK11];simp(disch:=omega)only[go_sem];intro b12 hb12;dsimp only at hb12;obtain⟨K12,hK12⟩: ∃K,K=upd K11 b12 (some (.cells [.str [62,61]] 9)):=⟨_,rfl⟩;rw[<-hK12];simp(disch:=omega)only[go_sem];intro b13 hb13;dsimp only at hb13;obtain⟨K13,hK13⟩: ∃K,K=upd K12 b13 (some (.cells [.str [97,110,100]] 9)):=⟨_,rfl⟩;rw[<-hK13];simp(disch:=omega)only[go_sem];intro b14 hb14;dsimp only at hb14;obtain⟨K14,hK14⟩: ∃K,K=upd K13 b14 (some (.cells [.str [111,114]] 9)):=⟨_,rfl⟩;rw[<-hK14];simp(disch:=omega)only[go_sem];intro b15 hb15;dsimp only at hb15;obtain⟨K15,hK15⟩: ∃K,K=upd K14 b15 (some (.cells [.str [120,111,114]] 9)):=⟨_,rfl⟩;rw[<-hK15];simp(disch:=omega)only[go_sem];intro b16 hb16;dsimp only at hb16;obtain⟨K16,hK16⟩: ∃K,K=upd K15 b16 (some (.cells [.str [97,110,100], .str [116,104,101,110]] 9)):=⟨_,rfl⟩;rw[<-hK16];simp(disch:=omega)only[go_sem];intro b17 hb17;dsimp only at hb17;obtain⟨K17,hK17⟩: ∃K,K=upd K16 b17 (some (.cells [.str [111,114], .str [101,108,115,101]] 9)):=⟨_,rfl⟩;rw[<-hK17];simp(disch:=omega)only[go_sem];intro b18 hb18;dsimp only at hb18;obtain⟨K18,hK18⟩: ∃K,K=upd K17 b18 (some (.cells [.str [43]] 9)):=⟨_,rfl⟩;rw[<-hK18];simp(disch:=omega)only[go_sem];intro b19 hb19;dsimp only at hb19;obtain⟨K19,hK19⟩: ∃K,K=upd K18 b19 (some (.cells [.str [45]] 9)):=⟨_,rfl⟩;rw[<-hK19];simp(disch:=omega)only[go_sem];intro b20 hb20;dsimp only at hb20;obtain⟨K20,hK20⟩: ∃K,K=upd K19 b20 (some (.cells [.str [97,98,115]] 9)):=⟨_,rfl⟩;rw[<-hK20];simp(disch:=omega)only[go_sem];intro b21 hb21;dsimp only at hb21;obtain⟨K21,hK21⟩: ∃K,K=upd K20 b21 (some (.cells [.str [110,111,116]] 9)):=⟨_,rfl⟩;rw[<-hK21];simp(disch:=omega)only[go_sem];intro b22 hb22;dsimp only at hb22;obtain⟨K22,hK22⟩: ∃K,K=upd K21 b22 (some (.cells [.nilSlice, .oslice 1 b1 0 1 1, .oslice 1 b2 0 1 1, .oslice 1 b3 0 1 1, .oslice 1 b4 0 1 1, .oslice 1 b5 0 1 1, .oslice 1 b6 0 1 1, .oslice 1 b7 0 1 1, .oslice 1 b8 0 1 1, .oslice 1 b9 0 1 1, .oslice 1 b10 0 1 1, .oslice 1 b11 0 1 1, .oslice 1 b12 0 1 1, .oslice 1 b13 0 1 1, .oslice 1 b14 0 1 1, .oslice 1 b15 0 1 1, .oslice 1 b16 0 2 2, .oslice 1 b17 0 2 2, .oslice 1 b18 0 1 1, .oslice 1 b19 0 1 1, .oslice 1 b20 0 1 1, .oslice 1 b21 0 1 1] 54)):=⟨_,rfl⟩;rw[<-hK22];have s1:Sub H K1:=by rw[hK1];exact(Sub.refl _).new hb1 _
 have s2:Sub K1 K2:=by rw[hK2];exact(Sub.refl _).new hb2 _
 have s3:Sub K2 K3:=by rw[hK3];exact(Sub.refl _).new hb3 _
 have s4:Sub K3 K4:=by rw[hK4];exact(Sub.refl _).new hb4 _
 have s5:Sub K4 K5:=by rw[hK5];exact(Sub.refl _).new hb5 _
 have s6:Sub K5 K6:=by rw[hK6];exact(Sub.refl _).new hb6 _
 have s7:Sub K6 K7:=by rw[hK7];exact(Sub.refl _).new hb7 _
 have s8:Sub K7 K8:=by rw[hK8];exact(Sub.refl _).new hb8 _
 have s9:Sub K8 K9:=by rw[hK9];exact(Sub.refl _).new hb9 _
 have s10:Sub K9 K10:=by rw[hK10];exact(Sub.refl _).new hb10 _
 have s11:Sub K10 K11:=by rw[hK11];exact(Sub.refl _).new hb11 _
 have s12:Sub K11 K12:=by rw[hK12];exact(Sub.refl _).new hb12 _
 have s13:Sub K12 K13:=by rw[hK13];exact(Sub.refl _).new hb13 _
 have s14:Sub K13 K14:=by rw[hK14];exact(Sub.refl _).new hb14 _
 have s15:Sub K14 K15:=by rw[hK15];exact(Sub.refl _).new hb15 _
 have s16:Sub K15 K16:=by rw[hK16];exact(Sub.refl _).new hb16 _
 have s17:Sub K16 K17:=by rw[hK17];exact(Sub.refl _).new hb17 _
 have s18:Sub K17 K18:=by rw[hK18];exact(Sub.refl _).new hb18 _
 have s19:Sub K18 K19:=by rw[hK19];exact(Sub.refl _).new hb19 _
 have s20:Sub K19 K20:=by rw[hK20];exact(Sub.refl _).new hb20 _
 have s21:Sub K20 K21:=by rw[hK21];exact(Sub.refl _).new hb21 _
 have s22:Sub K21 K22:=by rw[hK22];exact(Sub.refl _).new hb22 _
 have t22:Sub K22 K22:=Sub.refl _;have t21:Sub K21 K22:=s22.trans t22;have t20:Sub K20 K22:=s21.trans t21;have t19:Sub K19 K22:=s20.trans t20;have t18:Sub K18 K22:=s19.trans t19;have t17:Sub K17 K22:=s18.trans t18;have t16:Sub K16 K22:=s17.trans t17;have t15:Sub K15 K22:=s16.trans t16;have t14:Sub K14 K22:=s15.trans t15;have t13:Sub K13 K22:=s14.trans t14;have t12:Sub K12 K22:=s13.trans t13;have t11:Sub K11 K22:=s12.trans t12;have t10:Sub K10 K22:=s11.trans t11;have t9:Sub K9 K22:=s10.trans t10;have t8:Sub K8 K22:=s9.trans t9;have t7:Sub K7 K22:=s8.trans t8;have t6:Sub K6 K22:=s7.trans t7;have t5:Sub K5 K22:=s6.trans t6;have t4:Sub K4 K22:=s5.trans t5;have t3:Sub K3 K22:=s4.trans t4;have t2:Sub K2 K22:=s3.trans t3;have t1:Sub K1 K22:=s2.trans t2;have t0:Sub H K22:=s1.trans t1;have u1:Sub H H:=Sub.refl H;have u2:Sub H K1:=u1.trans s1;have u3:Sub H K2:=u2.trans s2;have u4:Sub H K3:=u3.trans s3;have u5:Sub H K4:=u4.trans s4;have u6:Sub H K5:=u5.trans s5;have u7:Sub H K6:=u6.trans s6;have u8:Sub H K7:=u7.trans s7;have u9:Sub H K8:=u8.trans s8;have u10:Sub H K9:=u9.trans s9;have u11:Sub H K10:=u10.trans s10;have u12:Sub H K11:=u11.trans s11;have u13:Sub H K12:=u12.trans s12;have u14:Sub H K13:=u13.trans s13;have u15:Sub H K14:=u14.trans s14;have u16:Sub H K15:=u15.trans s15;have u17:Sub H K16:=u16.trans s16;have u18:Sub H K17:=u17.trans s17;have u19:Sub H K18:=u18.trans s18;have u20:Sub H K19:=u19.trans s19;have u21:Sub H K20:=u20.trans s20;have u22:Sub H K21:=u21.trans s21;have hsT:Sub H K22:=u22.trans s22;have c1:K22 b1=some (.cells [.str [43]] 9):=t1 _ _ (by rw[hK1];exact Ac _ _ _);have c2:K22 b2=some (.cells [.str [45]] 9):=t2 _ _ (by rw[hK2];exact Ac _ _ _);have c3:K22 b3=some (.cells [.str [42]] 9):=t3 _ _ (by rw[hK3];exact Ac _ _ _);have c4:K22 b4=some (.cells [.str [47]] 9):=t4 _ _ (by rw[hK4];exact Ac _ _ _);have c5:K22 b5=some (.cells [.str [109,111,100]] 9):=t5 _ _ (by rw[hK5];exact Ac _ _ _);have c6:K22 b6=some (.cells [.str [114,101,109]] 9):=t6 _ _ (by rw[hK6];exact Ac _ _ _);have c7:K22 b7=some (.cells [.str [61]] 9):=t7 _ _ (by rw[hK7];exact Ac _ _ _);have c8:K22 b8=some (.cells [.str [47,61]] 9):=t8 _ _ (by rw[hK8];exact Ac _ _ _);have c9:K22 b9=some (.cells [.str [60]] 9):=t9 _ _ (by rw[hK9];exact Ac _ _ _);have c10:K22 b10=some (.cells [.str [60,61]] 9):=t10 _ _ (by rw[hK10];exact Ac _ _ _);have c11:K22 b11=some (.cells [.str [62]] 9):=t11 _ _ (by rw[hK11];exact Ac _ _ _);have c12:K22 b12=some (.cells [.str [62,61]] 9):=t12 _ _ (by rw[hK12];exact Ac _ _ _);have c13:K22 b13=some (.cells [.str [97,110,100]] 9):=t13 _ _ (by rw[hK13];exact Ac _ _ _);have c14:K22 b14=some (.cells [.str [111,114]] 9):=t14 _ _ (by rw[hK14];exact Ac _ _ _);have c15:K22 b15=some (.cells [.str [120,111,114]] 9):=t15 _ _ (by rw[hK15];exact Ac _ _ _);have c16:K22 b16=some (.cells [.str [97,110,100], .str [116,104,101,110]] 9):=t16 _ _ (by rw[hK16];exact Ac _ _ _);have c17:K22 b17=some (.cells [.str [111,114], .str [101,108,115,101]] 9):=t17 _ _ (by rw[hK17];exact Ac _ _ _);have c18:K22 b18=some (.cells [.str [43]] 9):=t18 _ _ (by rw[hK18];exact Ac _ _ _);have c19:K22 b19=some (.cells [.str [45]] 9):=t19 _ _ (by rw[hK19];exact Ac _ _ _);have c20:K22 b20=some (.cells [.str [97,98,115]] 9):=t20 _ _ (by rw[hK20];exact Ac _ _ _);have c21:K22 b21=some (.cells [.str [110,111,116]] 9):=t21 _ _ (by rw[hK21];exact Ac _ _ _);have c22:K22 b22=some (.cells [.nilSlice, .oslice 1 b1 0 1 1, .oslice 1 b2 0 1 1, .oslice 1 b3 0 1 1, .oslice 1 b4 0 1 1, .oslice 1 b5 0 1 1, .oslice 1 b6 0 1 1, .oslice 1 b7 0 1 1, .oslice 1 b8 0 1 1, .oslice 1 b9 0 1 1, .oslice 1 b10 0 1 1, .oslice 1 b11 0 1 1, .oslice 1 b12 0 1 1, .oslice 1 b13 0 1 1, .oslice 1 b14 0 1 1, .oslice 1 b15 0 1 1, .oslice 1 b16 0 2 2, .oslice 1 b17 0 2 2, .oslice 1 b18 0 1 1, .oslice 1 b19 0 1 1, .oslice 1 b20 0 1 1, .oslice 1 b21 0 1 1] 54):=t22 _ _ (by rw[hK22];exact Ac _ _ _);have seenT:Qg K22 (.oslice 1 b22 0 22 22) H (.vslice (Eb8.map dW) 22):=Qg.cells (cs':=Eb8.map dW) hsT (u22.lo hb22) c22 rfl (.cons (.nil hsT) (.cons (Qg.block hsT (u1.lo hb1) c1 rfl) (.cons (Qg.block hsT (u2.lo hb2) c2 rfl) (.cons (Qg.block hsT (u3.lo hb3) c3 rfl) (.cons (Qg.block hsT (u4.lo hb4) c4 rfl) (.cons (Qg.block hsT (u5.lo hb5) c5 rfl) (.cons (Qg.block hsT (u6.lo hb6) c6 rfl) (.cons (Qg.block hsT (u7.lo hb7) c7 rfl) (.cons (Qg.block hsT (u8.lo hb8) c8 rfl) (.cons (Qg.block hsT (u9.lo hb9) c9 rfl) (.cons (Qg.block hsT (u10.lo hb10) c10 rfl) (.cons (Qg.block hsT (u11.lo hb11) c11 rfl) (.cons (Qg.block hsT (u12.lo hb12) c12 rfl) (.cons (Qg.block hsT (u13.lo hb13) c13 rfl) (.cons (Qg.block hsT (u14.lo hb14) c14 rfl) (.cons (Qg.block hsT (u15.lo hb15) c15 rfl) (.cons (Qg.block hsT (u16.lo hb16) c16 rfl) (.cons (Qg.block hsT (u17.lo hb17) c17 rfl) (.cons (Qg.block hsT (u18.lo hb18) c18 rfl) (.cons (Qg.block hsT (u19.lo hb19) c19 rfl) (.cons (Qg.block hsT (u20.lo hb20) c20 rfl) (.cons (Qg.block hsT (u21.lo hb21) c21 rfl) (.nil)))))))))))))))))))))));simp(disch:=omega)only[go_sem];exact Qg.fin hsT seenT ⟨rfl,rfl⟩
end
end Go.Dl

-- Chapter 3: the package's reader: operators.
namespace Go.Dl
open Go Go.Proofs
set_option maxRecDepth 100000
theorem Ba3 {o:Nat} (h:o<22):(Eb8.map dW)[o]? =some (dW (Eh o)):=by
 rw[List.getElem?_map,Eh,List.getD,List.getElem?_eq_getElem (by exact h)];rfl
theorem Ct4 (o:Nat):(Eh o).length<=2:=by
 rw[Eh,List.getD];by_cases h:o<22
 ·have: ∀i:Fin 22,((Eb8[i.1]?).getD []).length<=2:=by decide
  exact this ⟨o,h⟩
 ·rw[List.getElem?_eq_none (by have:Eb8.length=22:=rfl;omega)];decide
section
end
end Go.Dl

-- Chapter 3: the package's reader: factors, terms, simples.
namespace Go.Dl
open Go Go.Proofs
set_option maxRecDepth 100000
section
variable {G:Nat->DVal} {H0 H:Ab} {r k:Nat} {l:List Tok}
theorem Ah {x:List DVal} (hx:x.length=9):
  (if 9<=(repl 1 [DVal.int .u8 0,DVal.int .u8 0,DVal.int .i64 0,DVal.str [],DVal.nilSlice,DVal.nilSlice,DVal.int .i64 0,DVal.int .i64 0,DVal.int .i64 0]).length then
   some (x++List.drop 9 (repl 1 [DVal.int .u8 0,DVal.int .u8 0,DVal.int .i64 0,DVal.str [],DVal.nilSlice,DVal.nilSlice,DVal.int .i64 0,DVal.int .i64 0,DVal.int .i64 0]))
  else none)=some x:=by
 have e: ∀u:List DVal,repl 1 u=u:=fun u=>by simp [repl]
 rw[e,if_pos (by simp),List.drop_eq_nil_of_le (by simp),jH]
theorem Ph {H:Ab} {r x:Nat} {y:Option DObj} {o:DObj} (h:H x=some o) (hn:x≠r):upd H r y x=some o:=by rw[Em _ _ _ _ hn];exact h
end
end Go.Dl

-- Chapter 3: the package's reader: several (printed by gen_uq.py).
namespace Go.Dl
open Go Go.Proofs
set_option maxRecDepth 100000
section
variable {G:Nat->DVal} {H0 H H':Ab} {r k:Nat} {l:List Tok}
theorem Df.move {H H':Ab} {e:TypeId} {size n:Nat} {cs:List DVal} {v:DVal} {r:Nat} {o:DObj} (h:Df (upd H r (some o)) e size n cs v H') (y:Option DObj):Df (upd H r y) e size n cs v (upd H' r y):=by
 have mv: ∀ {K:Ab},Sub (upd H r (some o)) K->Sub (upd H r y) (upd K r y):=fun s b ob hb=>by
  simp only[upd] at hb⊢
  by_cases c:b=r
  ·rw[if_pos c] at hb⊢;exact hb
  ·rw[if_neg c] at hb⊢
   exact s b ob (by simp only[upd];rw[if_neg c];exact hb)
 rcases h with⟨a,b,c,d⟩ | ⟨q,h1,h2,h3,h4,h5⟩
 ·exact .inl ⟨a,b,c,mv d⟩
 ·have hq:q≠r:=fun e=>by rw[e,Ac] at h1;cases h1
  exact .inr ⟨q,by rw[Em _ _ _ _ hq] at h1⊢;exact h1,h2,h3,by rw[Em _ _ _ _ hq];exact h4,mv h5⟩
end
end Go.Dl

-- Chapter 3: the package's reader: associations.
namespace Go.Dl
open Go Go.Proofs
set_option maxRecDepth 100000
section
variable {G:Nat->DVal} {H0 H H':Ab} {r k:Nat} {l:List Tok}
theorem Df.at {B H':Ab} {e:TypeId} {size n:Nat} {cs:List DVal} {v:DVal} {r:Nat} {o:DObj} (h:Df B e size n cs v H') (hr:B r=some o) (y:Option DObj):Df (upd B r y) e size n cs v (upd H' r y):=by
 have h2:Df (upd B r (some o)) e size n cs v H':=by rw[Et1 hr];exact h
 exact h2.move y
end
end Go.Dl

-- Chapter 3: the package's reader: names.
namespace Go.Dl
open Go Go.Proofs
set_option maxRecDepth 100000
section
variable {G:Nat->DVal} {H0 H H' K T B:Ab} {r k:Nat} {l:List Tok}
theorem Bt4 (hd: ∀b,K b=none->T b=none) (w:World):Lasts K w T w:=⟨fun b i x hb hc=>⟨hd b hb,hc⟩,Nat.le_refl _,fun _ _=>rfl⟩
theorem Px.keepD (hd: ∀b,K b=none->T b=none) (vs:List DVal):Px K vs T vs:=fun w _ x hx=>Be.lasts (Bt4 hd w) _ _ hx
theorem Qg.cellsD {e:TypeId} {size q n:Nat} {cs cs':List DVal} (hr:T q=none) (hc:K q=some (.cells cs e)) (hl:cs.length=n*size) (hs:Px K cs T cs'):Qg K (.oslice size q 0 n n) T (.vslice cs' n):=fun w hw x hx=>by
 simp only[Rel] at hx⊢
 obtain⟨o,cap,rfl,h1,h2,h3,h4⟩:=hx;refine⟨_,cap,rfl,h2, ?_⟩;by_cases h0:cs= []
 ·subst h0;have:=hs w hw [] (by simp [Be]);cases cs' with
  | nil=>exact .inl rfl
  | cons c cs'=>simp [Be] at this
 ·obtain⟨zs,hl1,hh⟩:=hw.holds hc;have ho:o=0:=by
   rcases h3 with h3 | h3
   ·exfalso;have:n=0:=by omega
    subst this;rw[Nat.zero_mul] at hl;exact h0 (List.length_eq_zero_iff.1 hl)
   ·exact h3
  subst ho;exact .inr ⟨q,0,zs,rfl, .inr ⟨hr,fun i y hy=>by simpa using hh i y hy⟩,hs w hw zs hl1⟩
theorem Qg.ownD {e:TypeId} {size n:Nat} {cs:List DVal} {v:DVal} (hd: ∀b,K b=none->T b=none) (hT: ∀b,B b=none->T b=none) (hv:Df B e size n cs v K):Qg K v T (.vslice cs n):=by
 rcases hv with⟨rfl,rfl,rfl,_⟩ | ⟨q,h1,h2,rfl,h4,_⟩
 ·exact fun w _ x hx=>Rel.lasts (Bt4 hd w) _ _ (DLe.nil w K x hx)
 ·exact Qg.cellsD (hT q h1) h4 h2 (Px.keepD hd _)
end
section
end
end Go.Dl

-- Chapter 3: expressions: the plain laws, part 4: with enough fuel reading comes to an answer; then it needs no fuel.
namespace Go.Dl
open Go
set_option maxRecDepth 10000
section
variable {l:List Tok}
def Dk (l:List Tok):Nat:=8*l.length+20
def Q (l:List Tok):PS:=P l (Dk l)
end
end Go.Dl

-- Chapter 3: expressions: the plain laws, part 5: the tokens of an expression.
namespace Go.Dl
open Go
set_option maxRecDepth 10000
def Aj (s:List UInt8):Tok:=⟨Dz s,0,s,0⟩
def Dq (s:List UInt8):Tok:=⟨1,0,s,0⟩
def Bl1 (n:Int):Tok:=⟨3,0,[],n⟩
def Ty (b:Bool) (t:List Tok):List Tok:=if b then Aj By::(t++ [Aj Cb]) else t
def Et (s:List UInt8):List (List Tok)->List Tok
 | []=> []
 | [x]=>x
 | x::r=>x++Aj s::Et s r
def Jp (e:Ex):Int:=if Bo e=2 then 3 else 5
def Ge (e:Ex):Int:=if Bo e=1 then 2 else if Bo e=0/\((e.l.getD 0 ex0).kind≠12\/(e.l.getD 0 ex0).oper≠e.oper) then 1 else Bo e
def Hk (e:Ex):Int:=if Bo e=1 then 2 else Bo e+1
def Tz (k:Int):Bool:=decide (k=9) || decide (k=10)
def Py (e:Ex) (tl ta:List (List Tok)):List Tok:=
 let p:=fun(i:Nat) (lv:Int)=>Ty (decide (Bo (e.l.getD i ex0)<lv)) (tl.getD i [])
 if e.kind=1 then [Bl1 e.n] else if e.kind=2 then [Aj Hu] else if e.kind=3 then [Dq e.s]
 else if e.kind=4 then tl.getD 0 []++ [Aj Qf,Dq e.s]
 else if e.kind=5 then tl.getD 0 []++ [Aj Qf,Aj Ak9]
 else if e.kind=6 then tl.getD 0 []++ [Aj Fu,Dq e.s]
 else if e.kind=7 then tl.getD 0 []++Aj By::(Et Cx ta++ [Aj Cb])
 else if e.kind=8 then tl.getD 0 []++Aj Fu::Ty (!Tz (e.l.getD 1 ex0).kind) (tl.getD 1 [])
 else if e.kind=9 then Aj By::(Et Cx ta++ [Aj Cb])
 else if e.kind=10 then Aj By::Aj wIf::(tl.getD 0 []++Aj Rg::(tl.getD 1 []++Aj Sj::(tl.getD 2 []++ [Aj Cb])))
 else if e.kind=11 then(Eh e.oper.toNat).map Aj++p 0 (Jp e)
 else if e.kind=12 then p 0 (Ge e)++((Eh e.oper.toNat).map Aj++p 1 (Hk e))
 else if e.kind=13 then p 0 2++Aj wIn::(if e.l.length=3 then p 1 2++Aj Ep::p 2 2 else tl.getD 1 [])
 else p 0 2++Aj Tw::Aj wIn::(if e.l.length=3 then p 1 2++Aj Ep::p 2 2 else tl.getD 1 [])
def Fp5 (k:Int) (l:List Ex) (tl:List (List Tok)):List Tok:=
 let p:=fun(i:Nat) (lv:Int)=>Ty (decide (Bo (l.getD i ex0)<lv)) (tl.getD i [])
 if k=1 then tl.getD 0 [] else if k=2 then p 0 2++Aj Ep::p 1 2 else [Aj Kz]
def Ey2 (tc:List (List Tok)) (te:List Tok):List Tok:=if tc.isEmpty then te else Et Mb tc++Aj Cc::te
mutual
def Ai:Ex->List Tok
 | .mk k o n s l a li en t=>Py (.mk k o n s l a li en t) (Ba4 l) (Bt5 a)
def Ba4:List Ex->List (List Tok)
 | []=> []
 | x::l=>Ai x::Ba4 l
def Gt:As->List Tok
 | .mk c e=>Ey2 (Bt6 c) (Ai e)
def Bt5:List As->List (List Tok)
 | []=> []
 | x::l=>Gt x::Bt5 l
def Es:Ch->List Tok
 | .mk k l=>Fp5 k l (Ba4 l)
def Bt6:List Ch->List (List Tok)
 | []=> []
 | x::l=>Es x::Bt6 l
end
theorem Aa8: ∀l:List Ex,Ba4 l=l.map Ai
 | []=>rfl
 | x::l=>by rw[Ba4,Aa8 l,jN]
theorem Ba5: ∀l:List As,Bt5 l=l.map Gt
 | []=>rfl
 | x::l=>by rw[Bt5,Ba5 l,jN]
theorem Ba6: ∀l:List Ch,Bt6 l=l.map Es
 | []=>rfl
 | x::l=>by rw[Bt6,Ba6 l,jN]
theorem Hv (e:Ex):Ai e=Py e (e.l.map Ai) (e.a.map Gt):=by
 cases e;rw[Ai,Aa8,Ba5];rfl
theorem Pj (x:As):Gt x=if x.c.isEmpty then Ai x.e else Et Mb (x.c.map Es)++Aj Cc::Ai x.e:=by
 cases x with
 | mk c e=>rw[Gt,Ba6,Ey2];cases c<;>rfl
def Ay (e:Ex) (lv:Int):List Tok:=Ty (decide (Bo e<lv)) (Ai e)
theorem Ec7 {α β:Type} (f:α->β) (l:List α) (i:Nat) (d:α) (e:β) (h:i<l.length):(l.map f).getD i e=f (l.getD i d):=by
 simp [List.getD,List.getElem?_map,List.getElem?_eq_getElem h]
theorem Jv (c:Ch):Es c=if c.kind=1 then(c.l.map Ai).getD 0 [] else if c.kind=2 then Ty (decide (Bo (c.l.getD 0 ex0)<2)) ((c.l.map Ai).getD 0 [])++Aj Ep::Ty (decide (Bo (c.l.getD 1 ex0)<2)) ((c.l.map Ai).getD 1 []) else [Aj Kz]:=by
 cases c;rw[Es,Aa8];rfl
def tE (e:Ex) (i:Nat):List Tok:=(e.l.map Ai).getD i []
def pE (e:Ex) (i:Nat) (lv:Int):List Tok:=Ty (decide (Bo (e.l.getD i ex0)<lv)) (tE e i)
def Nz (e:Ex):List Tok:=if e.l.length=3 then pE e 1 2++Aj Ep::pE e 2 2 else tE e 1
def taE (e:Ex):List Tok:=Et Cx (e.a.map Gt)
section
variable {e:Ex}
theorem Ec8 (h:e.kind=1):Ai e= [Bl1 e.n]:=by rw[Hv];unfold Py;rw[h];rfl
theorem Ec9 (h:e.kind=2):Ai e= [Aj Hu]:=by rw[Hv];unfold Py;rw[h];rfl
theorem Ed0 (h:e.kind=3):Ai e= [Dq e.s]:=by rw[Hv];unfold Py;rw[h];rfl
theorem Ed1 (h:e.kind=4):Ai e=tE e 0++ [Aj Qf,Dq e.s]:=by rw[Hv];unfold Py;rw[h];rfl
theorem Ed2 (h:e.kind=5):Ai e=tE e 0++ [Aj Qf,Aj Ak9]:=by rw[Hv];unfold Py;rw[h];rfl
theorem Ed3 (h:e.kind=6):Ai e=tE e 0++ [Aj Fu,Dq e.s]:=by rw[Hv];unfold Py;rw[h];rfl
theorem Ed4 (h:e.kind=7):Ai e=tE e 0++Aj By::(taE e++ [Aj Cb]):=by rw[Hv];unfold Py;rw[h];rfl
theorem Db9 (h:e.kind=8):Ai e=tE e 0++Aj Fu::Ty (!Tz (e.l.getD 1 ex0).kind) (tE e 1):=by rw[Hv];unfold Py;rw[h];rfl
theorem Ed5 (h:e.kind=9):Ai e=Aj By::(taE e++ [Aj Cb]):=by rw[Hv];unfold Py;rw[h];rfl
theorem Ct5 (h:e.kind=10):Ai e=Aj By::Aj wIf::(tE e 0++Aj Rg::(tE e 1++Aj Sj::(tE e 2++ [Aj Cb]))):=by rw[Hv];unfold Py;rw[h];rfl
theorem Ct6 (h:e.kind=11):Ai e=(Eh e.oper.toNat).map Aj++pE e 0 (Jp e):=by rw[Hv];unfold Py;rw[h];rfl
theorem Ct7 (h:e.kind=12):Ai e=pE e 0 (Ge e)++((Eh e.oper.toNat).map Aj++pE e 1 (Hk e)):=by rw[Hv];unfold Py;rw[h];rfl
theorem Bt7 (h:e.kind=13):Ai e=pE e 0 2++Aj wIn::Nz e:=by rw[Hv];unfold Py;rw[h];rfl
theorem Bt8 (h:e.kind=14):Ai e=pE e 0 2++Aj Tw::Aj wIn::Nz e:=by rw[Hv];unfold Py;rw[h];rfl
theorem Fp6 {i:Nat} (h:i<e.l.length):tE e i=Ai (e.l.getD i ex0):=Ec7 Ai e.l i ex0 [] h
theorem Fp7 {i:Nat} (h:i<e.l.length) (lv:Int):pE e i lv=Ay (e.l.getD i ex0) lv:=by rw[pE,Fp6 h];rfl
end
theorem Al5 (s:List UInt8) (x:List Tok) (r:List (List Tok)) (h:r≠ []):Et s (x::r)=x++Aj s::Et s r:=by
 cases r with
 | nil=>exact absurd rfl h
 | cons y r=>rfl
theorem Ua (s:List UInt8): ∀(l:List (List Tok)) (x:List Tok),l≠ []->Et s (l++ [x])=Et s l++Aj s::x
 | [],_,h=>absurd rfl h
 | [y],x,_=>rfl
 | y::z::r,x,_=>by
  rw[jI,Al5 s y _ (by simp),Ua s (z::r) x (by simp),Al5 s y (z::r) (by simp)];simp
end Go.Dl

-- Chapter 3: expressions: the plain laws, part 8: what was read is not shorter than its tokens.
namespace Go.Dl
open Go
set_option maxRecDepth 10000
section
variable {l:List Tok}
theorem Xk (b:Bool) (t:List Tok):(Ty b t).length=t.length+if b then 2 else 0:=by
 cases b<;>simp [Ty]
theorem Af1 (e:Ex):0<=Bo e/\Bo e<=5:=by
 unfold Bo;repeat' split
 all_goals omega
def Ed6 (ta:List (List Tok)):Nat:=(ta.map fun t=>t.length+1).sum-1
theorem Ba7 (s:List UInt8): ∀l:List (List Tok),(Et s l).length=Ed6 l
 | []=>rfl
 | [x]=>by simp [Et,Ed6]
 | x::y::r=>by
  have ih:=Ba7 s (y::r);rw[Al5 s x _ (by simp),jC,jA,ih];simp only[Ed6,jN,List.sum_cons];omega
def Bt9 (ta:List (List Tok)):Nat:=(ta.map fun t=>t.length+1).sum
theorem Ed7 (s:List UInt8) (ta:List (List Tok)) (h:ta≠ []):(Et s ta).length+1=Bt9 ta:=by
 rw[Ba7,Ed6,Bt9];cases ta with
 | nil=>exact absurd rfl h
 | cons t r=>simp only[jN,List.sum_cons];omega
end
end Go.Dl

-- Chapter 3: the package's writer: words, names.
namespace Go.Dl
open Go Go.Proofs
set_option maxRecDepth 100000
def WAt (B:Ab) (r:Nat) (ts:List Tok) (H:Ab):Prop:= ∃v,Df (upd B r (some (.cells [v] 257))) 31 4 ts.length (ts.flatMap Af) v H
def WrC (P:Program) (G:Nat->DVal) (f:FuncId) (args:List DVal) (t:List Tok):Prop:=
 ∀B r ts H,B r=none->ts.length+t.length<=1000000000->WAt B r ts H->Ae P G f (.optr r 0::args) H (fun e H'=>e= .ret (.tuple [])/\WAt B r (ts++t) H')
section
variable {B B1 H H':Ab} {r x:Nat} {ts:List Tok}
theorem WAt.keep (h:WAt B r ts H) {o:DObj} (hx:B x=some o) (n:x≠r):H x=some o:=by
 obtain⟨v,h⟩:=h;exact h.keep (by rw[Em _ _ _ _ n];exact hx)
theorem WAt.lo (h:WAt B r ts H) (hx:H x=none):B x=none/\x≠r:=by
 obtain⟨v,h⟩:=h;have:=h.sub.lo hx;simp only[upd] at this;split at this
 ·cases this
 ·exact⟨this,‹_›⟩
theorem WAt.frame (h:WAt B r ts H) (hx:H x=none) (o:DObj):WAt (upd B x (some o)) r ts (upd H x (some o)):=by
 have n:=(h.lo hx).2;obtain⟨v,h⟩:=h;refine⟨v, ?_⟩;rw[Ay6 n.symm];exact h.frame hx o
theorem WAt.less (h:WAt B r ts H) (s:Sub B1 B):WAt B1 r ts H:=by
 obtain⟨v,h⟩:=h;exact⟨v,h.less (s.both r _)⟩
theorem WAt.drop {o:DObj} (h:WAt (upd B x (some o)) r ts H) (hx:B x=none):WAt B r ts H:=h.less ((Sub.refl B).new hx _)
end
section
variable {G:Nat->DVal} {H:Ab}
theorem Ea (ts:List Tok) (t:Tok):(ts++ [t]).flatMap Af=ts.flatMap Af++Af t:=by simp
set_option maxHeartbeats 4000000 in
theorem Kl (hG:GX G) (ws:List (List UInt8)):WrC Tryz.prog G 324 [dW ws] (ws.map Aj):=by
 intro B r ts H hB hlen hw;rw[jK] at hlen;refine Aa Tryz.func324 Tryz.call324 rfl (by kernel_rfl) ?_;simp(disch:=omega)only[go_sem,dW];obtain⟨I,hI⟩: ∃I:Nat->(Nat->DVal)->Ab->Prop,∀j env heap,I j env heap↔(env 0= .optr r 0/\env 7=dW ws/\env 8=dI ws.length/\env 9=dI j/\j<=ws.length/\WAt B r (ts++(ws.take j).map Aj) heap):=⟨_,fun _ _ _=>Iff.rfl⟩;refine Dt1.run I (fun j=>ws.length-j) 0 ((hI _ _ _).2 ?_) ?_
 ·simp(disch:=omega)only[go_sem];(repeat' apply And.intro)<;>(try first | rfl | assumption | omega);simpa using hw
 ·intro j env heap hi;obtain⟨e0,e7,e8,e9,hj,hwj⟩:=(hI _ _ _).1 hi;by_cases hlt:j<ws.length
  ·have hlt':(j:Int)<(ws.length:Int):=by omega
   have hw1:IntKind.i64.wrap ((j:Int)+1)=((j+1:Nat):Int):=by rw[IntKind.wrap_i64];omega
   have Aw:(ws.map DVal.str)[j]? =some (.str ws[j]):=by rw[List.getElem?_map,List.getElem?_eq_getElem hlt];rfl
   have hml:(ws.map DVal.str).length=ws.length:=jK _;have htk:(ws.take (j+1)).map Aj=(ws.take j).map Aj++ [Aj ws[j]]:=by rw[List.take_add_one,List.getElem?_eq_getElem hlt,Option.toList_some,List.map_append,List.map_singleton]
   obtain⟨s,hse⟩: ∃s,s=ws[j]:=⟨_,rfl⟩;rw[<-hse] at Aw htk;simp(disch:=omega)only[go_sem,e0,e7,e8,e9,hlt',dW,Aw,hml,jD];intro r6 hr6;dsimp only at hr6;simp(disch:=omega)only[go_sem,e0,e7,e8,e9];obtain⟨v,hv⟩:=hwj;have gr:=hv.keep (Ac _ _ _);have n6:r≠r6:=Am hr6 gr;have m6:=n6.symm;have hl2:(ts++(ws.take j).map Aj).length<=1000000000:=by rw[jC,jK,List.length_take];omega
   refine(Ae3 hG _ s).mono ?_;rintro _ H2 ⟨rfl,rfl⟩;cases hkb:As4 s with
   | true=>
    have hk:Aj s=⟨2,0,s,0⟩:=by rw[Aj,Dz,hkb];rfl
    simp(disch:=omega)only[go_sem,e0,e7,e8,e9];refine Ak (by kernel_rfl) pL8 (by kernel_rfl) ?_;simp(disch:=omega)only[go_sem,e0,e7,e8,e9,gr,n6,m6];intro r24 hr24;dsimp only at hr24;have n24:r≠r24:=Am hr24 (Ph gr n6);have m24:=n24.symm;have hv6:=(hv.new hr6 _).new hr24 (some (.cells (Af (Aj s)) 31));simp(disch:=omega)only[go_sem,e0,e7,e8,e9,gr,n6,m6,n24,m24];rw[hk] at hv6;refine Df.append (m:=1) hv6 rfl (by omega) fun v2 H6 hv2=> ?_;have g6:=hv2.keep (Ac _ _ _);obtain⟨j1,j2⟩:=hv2.cell1;simp(disch:=omega)only[go_sem,e0,e7,e8,e9,g6,j1,j2];refine⟨j+1,_,Ws.refl _,(hI _ _ _).2 ?_,by omega⟩;simp(disch:=omega)only[go_sem,e0,e7,e8,e9,hw1];(repeat' apply And.intro)<;>(try first | rfl | assumption | omega);refine⟨v2, ?_⟩;have hv3:=hv2.at (Ac _ _ _) (some (.cells [v2] 257));rw[Ht] at hv3;rw[htk,<-jO,Ea,hk,jC,jQ];exact hv3
   | false=>
    have hk:Aj s=⟨4,0,s,0⟩:=by rw[Aj,Dz,hkb];rfl
    simp(disch:=omega)only[go_sem,e0,e7,e8,e9];refine Ak (by kernel_rfl) pL8 (by kernel_rfl) ?_;simp(disch:=omega)only[go_sem,e0,e7,e8,e9,gr,n6,m6];intro r24 hr24;dsimp only at hr24;have n24:r≠r24:=Am hr24 (Ph gr n6);have m24:=n24.symm;have hv6:=(hv.new hr6 _).new hr24 (some (.cells (Af (Aj s)) 31));simp(disch:=omega)only[go_sem,e0,e7,e8,e9,gr,n6,m6,n24,m24];rw[hk] at hv6;refine Df.append (m:=1) hv6 rfl (by omega) fun v2 H6 hv2=> ?_;have g6:=hv2.keep (Ac _ _ _);obtain⟨j1,j2⟩:=hv2.cell1;simp(disch:=omega)only[go_sem,e0,e7,e8,e9,g6,j1,j2];refine⟨j+1,_,Ws.refl _,(hI _ _ _).2 ?_,by omega⟩;simp(disch:=omega)only[go_sem,e0,e7,e8,e9,hw1];(repeat' apply And.intro)<;>(try first | rfl | assumption | omega);refine⟨v2, ?_⟩;have hv3:=hv2.at (Ac _ _ _) (some (.cells [v2] 257));rw[Ht] at hv3;rw[htk,<-jO,Ea,hk,jC,jQ];exact hv3
  ·have:j=ws.length:=by omega
   subst this;have hlt': ¬(ws.length:Int)<(ws.length:Int):=by omega
   rw[List.take_length] at hwj;simp(disch:=omega)only[go_sem,e0,e7,e8,e9,hlt'];exact Wj.refl ⟨rfl,hwj⟩
end
end Go.Dl
