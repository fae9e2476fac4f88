/- The data level and the contracts of the functions that are reached (part 4). -/
import Derived.RecoverIn
import Derived.Test.YtpkdkhoeaibpaaaGreatDoorPsc
set_option linter.unusedSimpArgs false
set_option linter.unusedVariables false
set_option linter.unusedSectionVars false
-- Chapter 3: the reference's Same, SameArgs, SameChoices; Level (printed by gen_ub.py).
namespace Go.Dl
open Go Go.Proofs
set_option maxRecDepth 100000
theorem Ka {α:Type} {p:α->α->Bool} {l m:List α} {k:Nat} (h1:k<l.length) (h2:k<m.length) {b:Bool} (hb:p l[k] m[k]=b) (h:eqF p l m=eqF p (l.drop k) (m.drop k)):eqF p l m=(b&&eqF p (l.drop (k+1)) (m.drop (k+1))):=by
 rw[h,El h1 h2,hb]
section
variable {G:Nat->DVal} {H:Aa}
def Rd (P:Program) (G:Nat->DVal) (f:FuncId) (x:Ex):Prop:= ∀y H,Ar P G f [.agg (dEx x), .agg (dEx y)] H (Cq (.bool (Bb x y)) H)
theorem Ue (G:Nat->DVal) (H:Aa) (l m:List Ex) (hl:l.length<=1099511627776) (hS: ∀e∈l,Rd Tryz.prog G 98 e):Ar Tryz.prog G 167 [.vslice (l.flatMap dEx) l.length, .vslice (m.flatMap dEx) m.length] H (Cq (.bool (eqF Bb l m)) H):=by
 refine Ak Tryz.func167 Tryz.call167 rfl (by kernel_rfl) ?_;by_cases hlen:l.length=m.length
 ·have hlen':(l.length:Int)=(m.length:Int):=by omega
  simp(disch:=omega) only[go_sem,↓reduceIte,hlen'];obtain⟨I,hI⟩: ∃I:Nat->(Nat->DVal)->Aa->Prop,∀k env heap,I k env heap↔(env 0= .vslice (l.flatMap dEx) l.length/\env 1= .vslice (m.flatMap dEx) m.length/\env 5=dI k/\k<=l.length/\eqF Bb l m=eqF Bb (l.drop k) (m.drop k)/\heap=H):=⟨_,fun _ _ _=>Iff.rfl⟩;refine Bq8.run I (fun k=>l.length-k) 0 ((hI _ _ _).2 ?_) ?_
  ·simp(disch:=omega) only[go_sem,↓reduceIte];(repeat' apply And.intro)<;>(try first | rfl | assumption | omega)
  ·intro k env heap hi;obtain⟨e0,e1,e5,hk,hsm,rfl⟩:=(hI _ _ _).1 hi;have hfl:=Bf Bt l;have hfm:=Bf Bt m;by_cases hlt:k<l.length
   ·have hlt':(k:Int)<(m.length:Int):=by omega
    have hlt2:(k:Int)<(l.length:Int):=by omega
    have hkm:k<m.length:=by omega
    have Bc:=Ci Bt l k hlt;have hgetm:=Ci Bt m k hkm;have hwd:IntKind.i64.wrap ((k:Int)+1)=((k+1:Nat):Int):=by rw[IntKind.wrap_i64];omega
    have hml:=List.getElem_mem hlt;simp(disch:=omega) only[go_sem,↓reduceIte,e0,e1,e5,hlt',hlt2,Bc,hgetm,hfl,hfm,Int.toNat_natCast];refine Dc (by kernel_rfl) (.take 0 (.take 1 (.take 2 (.take 3 (.take 4 (.take 5 (.take 6 (.take 7 (.go 8 [] (.take 9 .done)))))))))) (by kernel_rfl) ?_;simp(disch:=omega) only[go_sem,↓reduceIte,e0,e1,e5,hlt',hlt2,Bc,hgetm,hfl,hfm,Int.toNat_natCast];refine(hS l[k] hml m[k] _).mono ?_;rintro _ H1 ⟨rfl,rfl⟩;cases hb:Bb l[k] m[k] with
    | true=>
     simp(disch:=omega) only[go_sem,↓reduceIte,e0,e1,e5];refine⟨k+1,_,Pn.refl _,(hI _ _ _).2 ?_,by omega⟩;simp(disch:=omega) only[go_sem,↓reduceIte,e0,e1,e5,hwd];(repeat' apply And.intro)<;>(try first | rfl | assumption | omega);all_goals rw[Ka hlt hkm hb hsm,Bool.true_and]
    | false=>
     simp(disch:=omega) only[go_sem,↓reduceIte,e0,e1,e5];exact Ax1.refl ⟨by rw[Ka hlt hkm hb hsm,Bool.false_and],rfl⟩
   ·have:k=l.length:=by omega
    subst this;have hlt': ¬(l.length:Int)<(m.length:Int):=by omega
    simp(disch:=omega) only[go_sem,↓reduceIte,e0,e1,e5,hlt'];refine Ax1.refl ⟨?_,rfl⟩;rw[hsm,List.drop_length,hlen,List.drop_length];rfl
 ·have hlen': ¬(l.length:Int)=(m.length:Int):=by omega
  simp(disch:=omega) only[go_sem,↓reduceIte,hlen'];exact Ax1.refl ⟨by rw[Gr hlen],rfl⟩
theorem Wr (G:Nat->DVal) (H:Aa) (l m:List Ch) (hl:Hx l<=1099511627776) (hS: ∀e∈l.flatMap Ch.l,Rd Tryz.prog G 98 e):Ar Tryz.prog G 107 [.vslice (l.flatMap dCh) l.length, .vslice (m.flatMap dCh) m.length] H (Cq (.bool (eqF Jy l m)) H):=by
 have hll:=Ta l;refine Ak Tryz.func107 Tryz.call107 rfl (by kernel_rfl) ?_;by_cases hlen:l.length=m.length
 ·have hlen':(l.length:Int)=(m.length:Int):=by omega
  simp(disch:=omega) only[go_sem,↓reduceIte,hlen'];obtain⟨I,hI⟩: ∃I:Nat->(Nat->DVal)->Aa->Prop,∀k env heap,I k env heap↔(env 0= .vslice (l.flatMap dCh) l.length/\env 1= .vslice (m.flatMap dCh) m.length/\env 5=dI k/\k<=l.length/\eqF Jy l m=eqF Jy (l.drop k) (m.drop k)/\heap=H):=⟨_,fun _ _ _=>Iff.rfl⟩;refine Bq8.run I (fun k=>l.length-k) 0 ((hI _ _ _).2 ?_) ?_
  ·simp(disch:=omega) only[go_sem,↓reduceIte];(repeat' apply And.intro)<;>(try first | rfl | assumption | omega)
  ·intro k env heap hi;obtain⟨e0,e1,e5,hk,hsm,rfl⟩:=(hI _ _ _).1 hi;have hfl:=Bf Er l;have hfm:=Bf Er m;by_cases hlt:k<l.length
   ·have hlt':(k:Int)<(m.length:Int):=by omega
    have hlt2:(k:Int)<(l.length:Int):=by omega
    have hkm:k<m.length:=by omega
    have Bc:=Ci Er l k hlt;have hgetm:=Ci Er m k hkm;have hwd:IntKind.i64.wrap ((k:Int)+1)=((k+1:Nat):Int):=by rw[IntKind.wrap_i64];omega
    have hml:=List.getElem_mem hlt;have gk:=Ce Er l k hlt 0 (by decide);have gl:=Ce Er l k hlt 1 (by decide);have mk:=Ce Er m k hkm 0 (by decide);have ml:=Ce Er m k hkm 1 (by decide);rw[Cn2,Nat.add_zero] at gk mk;rw[Cn3] at gl ml;have hbl:=Nk l[k].l;have hbc:=Iw hml;rw[Rc] at hbc;have hpe:=Ao6 l[k] m[k];rw[Jf] at hpe;simp(disch:=omega) only[go_sem,↓reduceIte,e0,e1,e5,hlt',hlt2,hfl,hfm,Int.toNat_natCast];refine Dc (by kernel_rfl) (.take 0 (.take 1 (.take 2 (.take 3 (.take 4 (.take 5 (.take 6 (.take 7 (.take 8 (.take 9 (.take 10 (.take 11 (.take 12 (.take 13 (.take 14 (.take 15 (.take 16 (.take 17 (.take 18 (.take 19 (.take 20 (.take 21 (.go 22 [] (.take 23 (.take 24 .done))))))))))))))))))))))))) (by kernel_rfl) ?_;by_cases hkk:l[k].kind=m[k].kind
    ·simp(disch:=omega) only[go_sem,↓reduceIte,e0,e1,e5,hlt',hlt2,gk,mk,gl,ml,hkk,hfl,hfm,Int.toNat_natCast];refine(Ue G _ l[k].l m[k].l (by omega) fun e he=>hS e (List.mem_flatMap.2 ⟨l[k],hml,he⟩)).mono ?_;rintro _ H1 ⟨rfl,rfl⟩;rw[decide_eq_true hkk,Bool.true_and] at hpe;rw[<-hpe];cases hb:Jy l[k] m[k] with
     | true=>
      simp(disch:=omega) only[go_sem,↓reduceIte,e0,e1,e5];refine⟨k+1,_,Pn.refl _,(hI _ _ _).2 ?_,by omega⟩;simp(disch:=omega) only[go_sem,↓reduceIte,e0,e1,e5,hwd];(repeat' apply And.intro)<;>(try first | rfl | assumption | omega);all_goals rw[Ka hlt hkm hb hsm,Bool.true_and]
     | false=>
      simp(disch:=omega) only[go_sem,↓reduceIte,e0,e1,e5];exact Ax1.refl ⟨by rw[Ka hlt hkm hb hsm,Bool.false_and],rfl⟩
    ·have hb:Jy l[k] m[k]=false:=by rw[hpe,decide_eq_false hkk,Bool.false_and]
     simp(disch:=omega) only[go_sem,↓reduceIte,e0,e1,e5,hlt',hlt2,gk,mk,gl,ml,hkk,hfl,hfm,Int.toNat_natCast];exact Ax1.refl ⟨by rw[Ka hlt hkm hb hsm,Bool.false_and],rfl⟩
   ·have:k=l.length:=by omega
    subst this;have hlt': ¬(l.length:Int)<(m.length:Int):=by omega
    simp(disch:=omega) only[go_sem,↓reduceIte,e0,e1,e5,hlt'];refine Ax1.refl ⟨?_,rfl⟩;rw[hsm,List.drop_length,hlen,List.drop_length];rfl
 ·have hlen': ¬(l.length:Int)=(m.length:Int):=by omega
  simp(disch:=omega) only[go_sem,↓reduceIte,hlen'];exact Ax1.refl ⟨by rw[Gr hlen],rfl⟩
theorem Af3 (G:Nat->DVal) (H:Aa) (l m:List As) (hl:La l<=1099511627776) (hS: ∀e∈l.flatMap Lw,Rd Tryz.prog G 98 e):Ar Tryz.prog G 168 [.vslice (l.flatMap dAs) l.length, .vslice (m.flatMap dAs) m.length] H (Cq (.bool (eqF Kz l m)) H):=by
 have hll:=Sz l;refine Ak Tryz.func168 Tryz.call168 rfl (by kernel_rfl) ?_;by_cases hlen:l.length=m.length
 ·have hlen':(l.length:Int)=(m.length:Int):=by omega
  simp(disch:=omega) only[go_sem,↓reduceIte,hlen'];obtain⟨I,hI⟩: ∃I:Nat->(Nat->DVal)->Aa->Prop,∀k env heap,I k env heap↔(env 0= .vslice (l.flatMap dAs) l.length/\env 1= .vslice (m.flatMap dAs) m.length/\env 5=dI k/\k<=l.length/\eqF Kz l m=eqF Kz (l.drop k) (m.drop k)/\heap=H):=⟨_,fun _ _ _=>Iff.rfl⟩;refine Bq8.run I (fun k=>l.length-k) 0 ((hI _ _ _).2 ?_) ?_
  ·simp(disch:=omega) only[go_sem,↓reduceIte];(repeat' apply And.intro)<;>(try first | rfl | assumption | omega)
  ·intro k env heap hi;obtain⟨e0,e1,e5,hk,hsm,rfl⟩:=(hI _ _ _).1 hi;have hfl:=Bf Fo l;have hfm:=Bf Fo m;by_cases hlt:k<l.length
   ·have hlt':(k:Int)<(m.length:Int):=by omega
    have hlt2:(k:Int)<(l.length:Int):=by omega
    have hkm:k<m.length:=by omega
    have Bc:=Ci Fo l k hlt;have hgetm:=Ci Fo m k hkm;have hwd:IntKind.i64.wrap ((k:Int)+1)=((k+1:Nat):Int):=by rw[IntKind.wrap_i64];omega
    have hml:=List.getElem_mem hlt;have gk:=Ce Fo l k hlt 0 (by decide);have mk:=Ce Fo m k hkm 0 (by decide);rw[Cn1,Nat.add_zero] at gk mk;have gl:((l.flatMap dAs).drop (k*10+1)).take 9=dEx l[k].e:=by
     rw[<-Ao2,<-Bc,List.drop_take,List.take_take,List.drop_drop];rfl
    have ml:((m.flatMap dAs).drop (k*10+1)).take 9=dEx m[k].e:=by
     rw[<-Ao2,<-hgetm,List.drop_take,List.take_take,List.drop_drop];rfl
    have hba:=Ok hml;rw[Af2] at hba;have hpe:=Ao5 l[k] m[k];rw[Lx] at hpe;simp(disch:=omega) only[go_sem,↓reduceIte,e0,e1,e5,hlt',hlt2,hfl,hfm,Int.toNat_natCast];refine Dc (by kernel_rfl) (.take 0 (.take 1 (.take 2 (.take 3 (.take 4 (.take 5 (.take 6 (.take 7 (.take 8 (.take 9 (.go 10 [] (.take 11 (.take 12 (.take 13 (.take 14 (.take 15 (.take 16 (.take 17 (.take 18 (.take 19 (.take 20 (.take 21 (.take 22 (.go 23 [] (.take 24 (.take 25 .done)))))))))))))))))))))))))) (by kernel_rfl) ?_;simp(disch:=omega) only[go_sem,↓reduceIte,e0,e1,e5,hlt',hlt2,gk,mk,gl,ml,hfl,hfm,Int.toNat_natCast];refine(Wr G _ l[k].c m[k].c (by omega) fun e he=>hS e (List.mem_flatMap.2 ⟨l[k],hml,List.mem_append_left _ he⟩)).mono ?_;rintro _ H1 ⟨rfl,rfl⟩;cases hc:eqF Jy l[k].c m[k].c with
    | true=>
     rw[hc,Bool.true_and] at hpe;simp(disch:=omega) only[go_sem,↓reduceIte,e0,e1,e5,hlt',hlt2,gk,mk,gl,ml,hfl,hfm,Int.toNat_natCast];refine(hS l[k].e (List.mem_flatMap.2 ⟨l[k],hml,Rb _⟩) m[k].e _).mono ?_;rintro _ H1 ⟨rfl,rfl⟩;rw[<-hpe];cases hb:Kz l[k] m[k] with
     | true=>
      simp(disch:=omega) only[go_sem,↓reduceIte,e0,e1,e5];refine⟨k+1,_,Pn.refl _,(hI _ _ _).2 ?_,by omega⟩;simp(disch:=omega) only[go_sem,↓reduceIte,e0,e1,e5,hwd];(repeat' apply And.intro)<;>(try first | rfl | assumption | omega);all_goals rw[Ka hlt hkm hb hsm,Bool.true_and]
     | false=>
      simp(disch:=omega) only[go_sem,↓reduceIte,e0,e1,e5];exact Ax1.refl ⟨by rw[Ka hlt hkm hb hsm,Bool.false_and],rfl⟩
    | false=>
     have hb:Kz l[k] m[k]=false:=by rw[hpe,hc,Bool.false_and]
     simp(disch:=omega) only[go_sem,↓reduceIte,e0,e1,e5,hlt',hlt2,gk,mk,gl,ml,hfl,hfm,Int.toNat_natCast];exact Ax1.refl ⟨by rw[Ka hlt hkm hb hsm,Bool.false_and],rfl⟩
   ·have:k=l.length:=by omega
    subst this;have hlt': ¬(l.length:Int)<(m.length:Int):=by omega
    simp(disch:=omega) only[go_sem,↓reduceIte,e0,e1,e5,hlt'];refine Ax1.refl ⟨?_,rfl⟩;rw[hsm,List.drop_length,hlen,List.drop_length];rfl
 ·have hlen': ¬(l.length:Int)=(m.length:Int):=by omega
  simp(disch:=omega) only[go_sem,↓reduceIte,hlen'];exact Ax1.refl ⟨by rw[Gr hlen],rfl⟩
theorem Ao8 (G:Nat->DVal): ∀x:Ex,Jm x<=1099511627776->Rd Tryz.prog G 98 x:=by
 intro x
 induction x using Ex.ind with
 | h x ih=>
  intro hb y H;have hbe:=Ux x;have hbl:=Nk x.l;have ih': ∀e∈Bu x,Rd Tryz.prog G 98 e:=fun e he=>ih e he (by have:=Wq he;omega);rw[An9,Jf,Px];refine Ak Tryz.func98 Tryz.call98 rfl (by kernel_rfl) ?_;simp(disch:=omega) only[go_sem,↓reduceIte,DVal.cells];intro r2 hr2;dsimp only at hr2;simp(disch:=omega) only[go_sem,↓reduceIte,DVal.cells];intro r3 hr3;dsimp only at hr3;obtain⟨m2,m1,hr3'⟩:=Cm6.1 hr3;by_cases h1:x.kind=y.kind
  ·by_cases h2:x.oper=y.oper
   ·by_cases h3:x.n=y.n
    ·by_cases h4:x.s=y.s
     ·simp(disch:=omega) only[go_sem,↓reduceIte,m1,m2,h1,h2,h3,h4];refine(Ue G _ x.l y.l (by omega) fun e he=>ih' e (Ud he)).mono ?_;rintro _ H1 ⟨rfl,rfl⟩;cases h5:eqF Bb x.l y.l with
      | true=>
       simp(disch:=omega) only[go_sem,↓reduceIte,m1,m2];refine(Af3 G _ x.a y.a (by omega) fun e he=>ih' e (List.mem_append_right _ he)).mono ?_;rintro _ H1 ⟨rfl,rfl⟩;simp(disch:=omega) only[go_sem,↓reduceIte];exact Ax1.sub (show Sub H _ from(by repeat (first | exact Sub.refl _ | assumption | refine Sub.up ?_ (by assumption) _))) (Ax1.refl ⟨by simp,rfl⟩)
      | false=>
       simp(disch:=omega) only[go_sem,↓reduceIte,m1,m2];exact Ax1.sub (show Sub H _ from(by repeat (first | exact Sub.refl _ | assumption | refine Sub.up ?_ (by assumption) _))) (Ax1.refl ⟨by simp,rfl⟩)
     ·simp(disch:=omega) only[go_sem,↓reduceIte,m1,m2,h1,h2,h3,h4];exact Ax1.sub (show Sub H _ from(by repeat (first | exact Sub.refl _ | assumption | refine Sub.up ?_ (by assumption) _))) (Ax1.refl ⟨by simp,rfl⟩)
    ·simp(disch:=omega) only[go_sem,↓reduceIte,m1,m2,h1,h2,h3];exact Ax1.sub (show Sub H _ from(by repeat (first | exact Sub.refl _ | assumption | refine Sub.up ?_ (by assumption) _))) (Ax1.refl ⟨by simp,rfl⟩)
   ·simp(disch:=omega) only[go_sem,↓reduceIte,m1,m2,h1,h2];exact Ax1.sub (show Sub H _ from(by repeat (first | exact Sub.refl _ | assumption | refine Sub.up ?_ (by assumption) _))) (Ax1.refl ⟨by simp,rfl⟩)
  ·simp(disch:=omega) only[go_sem,↓reduceIte,m1,m2,h1];exact Ax1.sub (show Sub H _ from(by repeat (first | exact Sub.refl _ | assumption | refine Sub.up ?_ (by assumption) _))) (Ax1.refl ⟨by simp,rfl⟩)
theorem Cf (G:Nat->DVal) (H:Aa) (x y:Ex) (hx:Jm x<=1099511627776):Ar Tryz.prog G 98 [.agg (dEx x), .agg (dEx y)] H (Cq (.bool (Bb x y)) H):=Ao8 G x hx y H
theorem Re (G:Nat->DVal) (H:Aa) (l m:List Ch) (hl:Hx l<=1099511627776):Ar Tryz.prog G 107 [dCl l,dCl m] H (Cq (.bool (Dy l m)) H):=by
 rw[Lx];exact Wr G H l m hl fun e he=>Ao8 G e (by
  obtain⟨a,ha,he⟩:=List.mem_flatMap.1 he;have:=Nj he;have:=Iw ha;rw[Rc] at*
  omega)
end
end Go.Dl

-- THE DATA LEVEL, PART N: a call that is put off to the end, and takes up a panic there.
namespace Go.Dl
open Go
set_option maxRecDepth 10000
section
variable {P:Program} {G:Nat->DVal}
theorem Zp {fn:Func} {args:List DVal} {H:Aa} {vs:List Value} {w:World} {T:List Deferred} {st:Bool} (hA:args.length<=fn.ntmps) (hv:Ap w H args vs) (hH:Aw w H) (hG:GOk G w H):
  Sim G ⟨fn.ntmps,⟨w.heap.size,T,st⟩⟩ ⟨Gd args 0,H⟩ { tmps:=vs.toArray++Array.replicate (fn.ntmps-vs.toArray.size) undef,defers:=T } w:=by
 have hl:=hv.length;refine⟨by simp;omega,⟨[],rfl,List.nodup_nil,by simp⟩,fun i hi=> ?_,hH,hG,Nat.le_refl _⟩;have h0:=Sq args 0 i;rw[Nat.zero_add] at h0;show Rel w H (Gd args 0 i) _;rw[h0];by_cases hlt:i<args.length
 ·have h1:args[i]? =some (args.getD i Bp):=by simp [List.getD,List.getElem?_eq_getElem hlt]
  obtain⟨x,hx,hr⟩:=hv.get h1;have:(vs.toArray++Array.replicate (fn.ntmps-vs.toArray.size) undef).getD i undef=x:=by
   have hlt':i<vs.length:=by omega
   rw[Array.getD_eq_getD_getElem?,Array.getElem?_append_left (by simpa using hlt')];simp [hx]
  rw[this];exact hr
 ·have h1:args.getD i Bp=Bp:=by simp [List.getD,List.getElem?_eq_none (Nat.le_of_not_lt hlt)]
  have:(vs.toArray++Array.replicate (fn.ntmps-vs.toArray.size) undef).getD i undef=undef:=by
   rw[Array.getD_eq_getD_getElem?,Array.getElem?_append_right (by simp;omega)];simp only[Array.getElem?_replicate];split<;>rfl
  rw[h1,this];exact Lm w H
def Td (R:Aa->Prop):DExit->DS->Prop
 | .normal,s=>R s.heap
 | .ret,s=>R s.heap
 | _,_=>False
def Nl (t ty:Nat) (ps:String) (af:Array Edge):Oper:= { dst:=some t,op:= .call { callee:= .builtin .recover,args:= #[],argTypes:= #[] },type:=ty,pos:=ps,after:=af,guard:=none }
def Rf (t t' ty:Nat) (ps:String) (af:Array Edge):Oper:= { dst:=some t',op:= .assign (.tmp t),type:=ty,pos:=ps,after:=af,guard:=none }
theorem Ly {N:Fr} {s:DS} {a:Act} {w:World} (hS:Sim G N s a w) (h:N.base.still=true):a.defers=N.base.late:=by
 obtain⟨Ds,h1,_,h3⟩:=hS.defers;cases Ds with
 | nil=>exact h1
 | cons D Ds=>have:=(h3 D (by simp)).1.2;rw[h] at this;cases this
theorem Bn1 {n:Nat} {ops:Array Oper} {Q:Exit->Act->List Frame->World->Prop} {i:Nat} {rest:List Nat} {a:Act} {cs:List Frame} {w:World} {o:Oper} (ho:ops[i]? =some o) (hg:o.guard=none) (hr:(execOp a.eval o).run P w= .ok .recover w) (hc:recoverD cs=none)
  (h:wpOpsSIn Fence.wide n P ops Q rest (a.put o.dst .nilIface) cs w):wpOpsSIn Fence.wide n P ops Q (i::rest) a cs w:=by
 unfold wpOpsSIn;rw[ho];refine⟨fun _ _=>trivial, ?_⟩;rw[if_pos (by simp [Region.wanted,hg]),hr,hc];exact h
theorem By4 {n:Nat} {ops:Array Oper} {Q:Exit->Act->List Frame->World->Prop} {i:Nat} {rest:List Nat} {a:Act} {cs cs':List Frame} {w:World} {o:Oper} {v:Value} (ho:ops[i]? =some o) (hg:o.guard=none) (hr:(execOp a.eval o).run P w= .ok .recover w) (hc:recoverD cs=some (v,cs'))
  (h:wpOpsSIn Fence.wide n P ops Q rest (a.put o.dst v) cs' w):wpOpsSIn Fence.wide n P ops Q (i::rest) a cs w:=by
 unfold wpOpsSIn;rw[ho];refine⟨fun _ _=>trivial, ?_⟩;rw[if_pos (by simp [Region.wanted,hg]),hr,hc];exact h
theorem Ao9 {n:Nat} {ops:Array Oper} {Q:Exit->Act->List Frame->World->Prop} {i:Nat} {rest:List Nat} {a:Act} {cs:List Frame} {w:World} {o:Oper} {v:Value} (ho:ops[i]? =some o) (hg:o.guard=none) (hr:(execOp a.eval o).run P w= .ok (.value v) w)
  (h:wpOpsSIn Fence.wide n P ops Q rest (a.put o.dst v) cs w):wpOpsSIn Fence.wide n P ops Q (i::rest) a cs w:=by
 unfold wpOpsSIn;rw[ho];refine⟨fun _ _=>trivial, ?_⟩;rw[if_pos (by simp [Region.wanted,hg]),hr];exact h
theorem Ap0 {f:FuncId} {fn:Func} {id:Nat} {t1 t2 y1 y2:Nat} {p1 p2:String} {af1 af2:Array Edge} {c:Code} {caps:List DVal} {H:Aa} {R:Aa->Prop} {n:Nat} {vs:List Value} {w:World} {u:FrameMode} {x:DVal}
  (hf:P.funcs[f]? =some fn) (hb:fn.body=some (.seq (.region id #[Nl t1 y1 p1 af1,Rf t1 t2 y2 p2 af2] false) c))
  (hk:(decide (caps.length<=fn.ntmps)&&Cm fn.ntmps c&&Jk c&&decide (t1<fn.ntmps)&&decide (t2<fn.ntmps))=true) (hres:fn.results= #[])
  (hv:Ap w H caps vs) (hH:Aw w H) (hG:GOk G w H)
  (hu:(u= .returning/\x= .nilIface)\/ ∃v,u= .panicking [{ v,recovered:=false }]/\Rel w H x v)
  (h:dwp P G fn.ntmps c (Td R) ⟨upd (upd (Gd caps 0) t1 x) t2 x,H⟩):
  CallsDIn Fence.wide n P f vs.toArray u w fun e u' w'=> ∃v H',e= .returned v/\settle u'= .returning/\R H'/\Aw w' H'/\Ext H w H' w':=by
 simp only[Bool.and_eq_true,decide_eq_true_eq] at hk;obtain⟨⟨⟨⟨hA,hok⟩,hfl⟩,ht1⟩,ht2⟩:=hk;refine callsDIn_of_wpSIn hf hb trivial fun c₀ cs hm=>wpSIn_seq (wpSIn_region ?_);have hS:=Zp (G:=G) (T:= []) (st:=true) hA hv hH hG;have key: ∀(v:Value) (u':FrameMode),settle u'= .returning->Rel w H x v->
   c.wpSIn Fence.wide n P (bodyPostS P fn c₀ cs fun e u' w'=> ∃v H',e= .returned v/\settle u'= .returning/\R H'/\Aw w' H'/\Ext H w H' w')
    (({ tmps:=vs.toArray++Array.replicate (fn.ntmps-vs.toArray.size) undef,defers:= [] }:Act).put (some t1) v |>.put (some t2) v) ({ c₀ with mode:=u' }::cs) w:=by
  intro v u' hs hx;refine wpSIn_of_wpIn rfl ?_;have hS1:=(hS.put (dst:=some t1) (by simpa [Be] using ht1) hx).put (dst:=some t2) (by simpa [Be] using ht2) hx;refine wpIn_mono (Cx (.inl rfl) c hok (.inr hfl) _ _ h _ w hS1) ?_;rintro e a' w1 ⟨e',s',hQ,hX,hS',hE⟩;have hd:=Ly hS' rfl;have hr:(results fn a'.tmps).run P w1= .ok (.tuple #[]) w1:=by
   unfold results;rw[hres];simp [Sem.run_pure]
  cases hX with
  | normal=>exact⟨hd,u',rfl,_,hr,_,s'.heap,rfl,hs,hQ,hS'.heap,hE⟩
  | ret=>exact⟨hd,u',rfl,_,hr,_,s'.heap,rfl,hs,hQ,hS'.heap,hE⟩
  | exit id=>exact hQ.elim
  | goto l=>exact hQ.elim
  | panic d v hv=>exact hQ.elim
 have hrange:List.range (#[Nl t1 y1 p1 af1,Rf t1 t2 y2 p2 af2]:Array Oper).size= [0,1]:=rfl;have e0:(#[Nl t1 y1 p1 af1,Rf t1 t2 y2 p2 af2]:Array Oper)[0]? =some (Nl t1 y1 p1 af1):=rfl;have e1:(#[Nl t1 y1 p1 af1,Rf t1 t2 y2 p2 af2]:Array Oper)[1]? =some (Rf t1 t2 y2 p2 af2):=rfl;have r0: ∀ρ w,(execOp ρ (Nl t1 y1 p1 af1)).run P w= .ok .recover w:=fun ρ w=>by
  simp [execOp,Nl,resolve,invoke,builtin,Sem.run_pure]
 have r1: ∀ρ w,(execOp ρ (Rf t1 t2 y2 p2 af2)).run P w= .ok (.value (ρ (.tmp t1))) w:=fun ρ w=>by
  simp [execOp,Rf,Sem.run_pure]
 have Bc: ∀v,(({ tmps:=vs.toArray++Array.replicate (fn.ntmps-vs.toArray.size) undef,defers:= [] }:Act).put (some t1) v).eval (.tmp t1)=v:=fun v=>by
  have hsz:=hS.size;dsimp only at hsz;simp [Act.eval,Act.put,Array.getD,hsz,ht1];intro hle;simp at hsz;omega
 rw[hrange];rcases hu with⟨rfl,rfl⟩ | ⟨v,rfl,hx⟩
 ·have hr:recoverD (c₀::cs)=none:=by simp [recoverD,hm]
  have hc: { c₀ with mode:= .returning }=c₀:=by cases c₀;simp at hm;simp [hm]
  refine Bn1 e0 rfl (r0 _ _) hr (Ao9 e1 rfl (r1 _ _) ?_);rw[show(Nl t1 y1 p1 af1).dst=some t1 from rfl,Bc];have:=key .nilIface .returning rfl (by simp [Rel]);rw[hc] at this;exact this
 ·have hr:recoverD (c₀::cs)=some (v,{ c₀ with mode:= .panicking [{ v,recovered:=true }] }::cs):=by simp [recoverD,hm]
  refine By4 e0 rfl (r0 _ _) hr (Ao9 e1 rfl (r1 _ _) ?_);rw[show(Nl t1 y1 p1 af1).dst=some t1 from rfl,Bc];exact key v _ rfl hx
theorem Ap1 (env:Nat->DVal): ∀l:List Operand,(Cj G env l).length=l.length
 | []=>rfl
 | x::l=>by rw[Cj,List.length_cons,Ap1 env l,List.length_cons]
def Ap2 (d:Nat) (g:FuncId) (caps:Array Operand) (ty:Nat) (ps:String) (af:Array Edge):Oper:= { dst:=some d,op:= .makeFunc (.func g) #[] caps,type:=ty,pos:=ps,after:=af,guard:=none }
def Bn2 (d ty:Nat) (ps:String) (af:Array Edge):Oper:= { dst:=none,op:= .defer { callee:= .value (.tmp d),args:= #[],argTypes:= #[] },type:=ty,pos:=ps,after:=af,guard:=none }
def By5 (P:Program) (G:Nat->DVal) (rs:List ResultVar) (R:DEnd->Aa->Prop) (m t1 t2:Nat) (cc:Code) (caps:List DVal):DExit->DS->Prop
 | .normal,s=>dwp P G m cc (Td fun H'=>Ty R H' (Dw (Fi P ⟨s.env,H'⟩ rs))) ⟨upd (upd (Gd caps 0) t1 .nilIface) t2 .nilIface,s.heap⟩
 | .ret,s=>dwp P G m cc (Td fun H'=>Ty R H' (Dw (Fi P ⟨s.env,H'⟩ rs))) ⟨upd (upd (Gd caps 0) t1 .nilIface) t2 .nilIface,s.heap⟩
 | .panic v,s=>dwp P G m cc (Td fun H'=>Ty R H' (Dw (Fi P ⟨s.env,H'⟩ rs))) ⟨upd (upd (Gd caps 0) t1 v) t2 v,s.heap⟩
 | _,_=>False
theorem Ap3 {f g:FuncId} {fn fg:Func} {A1 A2 C cc:Code} {id id2 d t1 t2 y1 y2 y3 y4:Nat} {p1 p2 p3 p4:String} {af1 af2 af3 af4:Array Edge} {caps:Array Operand} {args:List DVal} {H:Aa} {R:DEnd->Aa->Prop}
  (hf:P.funcs[f]? =some fn) (hg:P.funcs[g]? =some fg) (hcall: ∀vs w,(callFunc f vs).run P w= .ok (.enter f vs) w) (hcallg: ∀vs w,(callFunc g vs).run P w= .ok (.enter g vs) w)
  (hb:fn.body=some (.seq A1 (.seq A2 (.seq (.region id #[Ap2 d g caps y1 p1 af1,Bn2 d y2 p2 af2] false) C))))
  (hbg:fg.body=some (.seq (.region id2 #[Nl t1 y3 p3 af3,Rf t1 t2 y4 p4 af4] false) cc))
  (hk:(decide (args.length<=fn.ntmps)&&(Cm fn.ntmps A1&&Jk A1)&&(Cm fn.ntmps A2&&Jk A2)&&(Cm fn.ntmps C&&Jk C)&&decide (d<fn.ntmps)&&caps.toList.all (Ay fn.ntmps)&&fn.results.toList.all (Tz fn.ntmps))=true)
  (hkg:(decide (caps.toList.length<=fg.ntmps)&&Cm fg.ntmps cc&&Jk cc&&decide (t1<fg.ntmps)&&decide (t2<fg.ntmps))=true) (hrg:fg.results= #[])
  (h:dwp P G fn.ntmps A1 (Db (fun s=>dwp P G fn.ntmps A2 (Db (fun s1=>dwp P G fn.ntmps C (By5 P G fn.results.toList R fg.ntmps t1 t2 cc (Cj G s1.env caps.toList)) ⟨upd s1.env d (.func (.func g) [] (Cj G s1.env caps.toList)),s1.heap⟩) fun _ _=>False) s) fun _ _=>False) ⟨Gd args 0,H⟩):Ar P G f args H R:=by
 simp only[Bool.and_eq_true,decide_eq_true_eq] at hk;obtain⟨⟨⟨⟨⟨⟨hA,hok1,hfl1⟩,hok2,hfl2⟩,hok3,hfl3⟩,hd⟩,hcp⟩,hres⟩:=hk;refine⟨hcall,fun vs w hv hH hG=> ?_⟩;refine(callsIn_wide (n:=0)).1 (callsIn_of_wp_marks hf hb trivial ?_);have hS:=Zp (G:=G) (T:= []) (st:=true) hA hv hH hG;refine wpIn_seq (wpIn_mono (Cx (.inl rfl) A1 hok1 (.inr hfl1) _ _ h _ w hS) ?_);rintro e a0 w0 ⟨e',s0,hQ,hX,hS0,hE0⟩;cases hX<;>first | exact hQ.elim | skip
 refine wpIn_seq (wpIn_mono (Cx (.inl rfl) A2 hok2 (.inr hfl2) _ _ hQ _ w0 hS0) ?_);rintro e a1 w1 ⟨e',s1,hQ1,hX,hS1,hE1⟩;cases hX<;>first | exact hQ1.elim | skip
 have hE1:=hE0.trans hE1;have hd1:a1.defers= []:=Ly hS1 rfl;have hrc:=Jc hS1 hcp;obtain⟨cv,hcv⟩: ∃cv:List Value,cv=caps.toList.map a1.eval:=⟨_,rfl⟩;have hcv2:caps.map a1.eval=cv.toArray:=by rw[hcv,<-Array.toList_map]
 rw[<-hcv] at hrc;have hfv:Rel w1 s1.heap (.func (.func g) [] (Cj G s1.env caps.toList)) (.func (.func g) #[] cv.toArray):=by
  simp only[Rel];refine⟨#[],cv.toArray,rfl, ?_, ?_⟩
  ·simp [Ap]
  ·simpa using hrc
 obtain⟨D,hD⟩: ∃D:Deferred,D= { target:= .fn (.func g) cv.toArray,args:= #[] }:=⟨_,rfl⟩;have hS2:Sim G ⟨fn.ntmps,⟨w.heap.size,[D],true⟩⟩ ⟨upd s1.env d (.func (.func g) [] (Cj G s1.env caps.toList)),s1.heap⟩ ({ (a1.put (some d) (.func (.func g) #[] cv.toArray)) with defers:= [D] }) w1:=by
  have:=hS1.put (dst:=some d) (by simpa [Be] using hd) hfv;exact⟨this.size,⟨[],rfl,List.nodup_nil,by simp⟩,this.tmps,this.heap,this.glob,this.base⟩
 refine wpIn_seq ?_;have hreg: #[Ap2 d g caps y1 p1 af1,Bn2 d y2 p2 af2]= [Ap2 d g caps y1 p1 af1,Bn2 d y2 p2 af2].toArray:=rfl;rw[hreg];refine wpIn_region_lit (wpListIn_plain rfl fun K hK=> ?_);have rm:(execOp a1.eval (Ap2 d g caps y1 p1 af1)).run P w1= .ok (.value (.func (.func g) #[] cv.toArray)) w1:=by
  simp [execOp,Ap2,Instr.makeFunc,Sem.run_pure,hcv2]
 have hsz:=hS1.size;have Bc:(a1.put (some d) (.func (.func g) #[] cv.toArray)).eval (.tmp d)= .func (.func g) #[] cv.toArray:=by
  simp [Act.eval,Act.put,Array.getD,hsz,hd]
 have rd:(execOp (a1.put (some d) (.func (.func g) #[] cv.toArray)).eval (Bn2 d y2 p2 af2)).run P w1= .ok (.defer D) w1:=by
  simp [execOp,Bn2,resolve,Bc,Deferred.ofValue,Sem.run_pure,hD]
 unfold Oper.wpIn;refine⟨fun _ _=>trivial, ?_⟩;rw[Oper.semAt_eq _ _ _ (by intro c;simp [Ap2]),rm];refine hK _ _ (wpListIn_plain rfl fun K2 hK2=> ?_);unfold Oper.wpIn;refine⟨fun _ _=>trivial, ?_⟩;rw[show Fence.wide.round=none from rfl,Oper.semAt_none,show(Ap2 d g caps y1 p1 af1).dst=some d from rfl,rd];refine hK2 _ _ (wpListIn_nil ?_);have hdp:(a1.put (some d) (.func (.func g) #[] cv.toArray)).defers= []:=hd1;rw[hdp];show C.wpIn _ _ _ _ _ _;refine wpIn_mono (Cx (.inl rfl) C hok3 (.inr hfl3) _ _ hQ1 _ w1 hS2) ?_;rintro e a3 w3 ⟨e',s3,hQ3,hX3,hS3,hE3⟩;have hE3':=hE1.trans hE3;have hd3:a3.defers= [D]:=Ly hS3 rfl;have hrc3:Ap w3 s3.heap (Cj G s1.env caps.toList) cv:=hrc.lasts hE3.lasts;have hinv:(invoke D.target D.args).run P w3= .ok (.enter g cv.toArray) w3:=by
  rw[hD];simp [invoke,hcallg]
 have key: ∀(u:FrameMode) (x:DVal),u≠ .run->((u= .returning/\x= .nilIface)\/ ∃v,u= .panicking [{ v,recovered:=false }]/\Rel w3 s3.heap x v)->
   dwp P G fg.ntmps cc (Td fun H'=>Ty R H' (Dw (Fi P ⟨s3.env,H'⟩ fn.results.toList))) ⟨upd (upd (Gd (Cj G s1.env caps.toList) 0) t1 x) t2 x,s3.heap⟩->
   LeavesInM Fence.wide 0 P fn a3.tmps (fun e w'=> ∃e' H',R e' H'/\RelE w' H' e' e/\Aw w' H'/\Ext H w H' w') a3.defers u w3:=by
  intro u x hu0 hu hc;rw[hd3];refine⟨hu0, .inr ⟨(fun h=>by cases h), .func g,cv.toArray,g,cv.toArray,(by rw[hD]),hinv,fun _ _=>trivial, ?_⟩⟩;refine(Ap0 hg hbg (by rw[Ap1];exact(by simp only[Bool.and_eq_true,decide_eq_true_eq] at hkg⊢;exact hkg)) hrg hrc3 hS3.heap hS3.glob hu hc).mono ?_;rintro e4 u4 w4 ⟨v4,H4,rfl,hset,hfin,hH4,hE4⟩;dsimp only;rw[hset];have hS4:=hS3.ext hE4 hH4;cases hdt:Dw (Fi P ⟨s3.env,H4⟩ fn.results.toList) with
  | none=>rw[hdt] at hfin;exact hfin.elim
  | some v=>
   rw[hdt] at hfin;obtain⟨x,hx,hr⟩:=Ua (P:=P) hS4 hres hdt;obtain⟨v',H',hgg,hR⟩:=hfin;obtain⟨g1,g2,g3⟩:=hgg w4 hS4.heap;exact⟨x,hx, .ret v',H',hR, .ret v' x (g3 x hr),g1,(hE3'.trans hE4).trans ⟨rfl,rfl,rfl,Nat.le_refl _,fun _ _ _=>rfl,fun b hb=> .inl (g2 b hb),fun _ _=>rfl,fun _ _ _=>rfl⟩⟩
 cases hX3 with
 | normal=>exact key .returning .nilIface (by simp) (.inl ⟨rfl,rfl⟩) hQ3
 | ret=>exact key .returning .nilIface (by simp) (.inl ⟨rfl,rfl⟩) hQ3
 | exit id=>exact hQ3.elim
 | goto l=>exact hQ3.elim
 | panic d v hv=>exact key _ d (by simp) (.inr ⟨v,rfl,hv⟩) hQ3
end
attribute [go_sem] Td.eq_1 Td.eq_2 By5.eq_1 By5.eq_2 By5.eq_3
end Go.Dl

-- Chapter 3: the package's reader: tokens, words.
namespace Go.Dl
open Go Go.Proofs
set_option maxRecDepth 100000
section
variable {G:Nat->DVal} {H0 H:Aa} {r k:Nat} {l:List Tok}
def dW (ws:List (List UInt8)):DVal:= .vslice (ws.map .str) ws.length
end
end Go.Dl

-- Chapter 3: expressions: the plain laws, part 4: with enough fuel reading comes to an answer; then it needs no fuel.
namespace Go.Dl
open Go
set_option maxRecDepth 10000
section
variable {l:List Tok}
def Bh (l:List Tok):Nat:=8*l.length+20
def Q (l:List Tok):PS:=P l (Bh l)
end
end Go.Dl

-- Chapter 3: expressions: the plain laws, part 9: reading without the lines.
namespace Go.Dl
open Go
set_option maxRecDepth 10000
mutual
/-- Without lines, entities, types. -/
def stE:Ex->Ex
 | .mk k o n s l a _ _ _=> .mk k o n s (stL l) (Af4 a) 0 0 0
def stL:List Ex->List Ex
 | []=> []
 | x::l=>stE x::stL l
def stA:As->As
 | .mk c e=> .mk (Af5 c) (stE e)
def Af4:List As->List As
 | []=> []
 | x::l=>stA x::Af4 l
def stC:Ch->Ch
 | .mk k l=> .mk k (stL l)
def Af5:List Ch->List Ch
 | []=> []
 | x::l=>stC x::Af5 l
end
mutual
theorem Ws: ∀e f:Ex,Bb e f=true↔stE e=stE f
 | .mk k o n s l a li en t, .mk k' o' n' s' l' a' li' en' t'=>by
  rw[Bb,stE,stE]
  show(decide (k=k')&&decide (o=o')&&decide (n=n')&&decide (s=s')&&Ew l l'&&Ft a a')=true↔_
  simp only[Bool.and_eq_true,decide_eq_true_eq,Wt l l',Zq a a',Ex.mk.injEq,and_true,and_assoc]
theorem Wt: ∀l m:List Ex,Ew l m=true↔stL l=stL m
 | [],[]=>by simp [Ew,stL]
 | [],y::m=>by simp [Ew,stL]
 | x::l,[]=>by simp [Ew,stL]
 | x::l,y::m=>by rw[Ew,stL,stL,Bool.and_eq_true,Ws x y,Wt l m,List.cons.injEq]
theorem By6: ∀x y:As,Kz x y=true↔stA x=stA y
 | .mk c e, .mk c' e'=>by
  rw[Kz,stA,stA]
  show(Dy c c'&&Bb e e')=true↔_
  simp only[Bool.and_eq_true,Te c c',Ws e e',As.mk.injEq]
theorem Zq: ∀l m:List As,Ft l m=true↔Af4 l=Af4 m
 | [],[]=>by simp [Ft,Af4]
 | [],y::m=>by simp [Ft,Af4]
 | x::l,[]=>by simp [Ft,Af4]
 | x::l,y::m=>by rw[Ft,Af4,Af4,Bool.and_eq_true,By6 x y,Zq l m,List.cons.injEq]
theorem By7: ∀x y:Ch,Jy x y=true↔stC x=stC y
 | .mk k l, .mk k' l'=>by
  rw[Jy,stC,stC]
  show(decide (k=k')&&Ew l l')=true↔_
  simp only[Bool.and_eq_true,decide_eq_true_eq,Wt l l',Ch.mk.injEq]
theorem Te: ∀l m:List Ch,Dy l m=true↔Af5 l=Af5 m
 | [],[]=>by simp [Dy,Af5]
 | [],y::m=>by simp [Dy,Af5]
 | x::l,[]=>by simp [Dy,Af5]
 | x::l,y::m=>by rw[Dy,Af5,Af5,Bool.and_eq_true,By7 x y,Te l m,List.cons.injEq]
end
section
end
end Go.Dl

-- Chapter 3: expressions: the plain laws, part 10: what reading asks of the first token, and of the one behind.
namespace Go.Dl
open Go
set_option maxRecDepth 10000
def w5:List (List UInt8):= [Ct7,Ao0,Bx4]
def w3:List (List UInt8):=w5++ [[42],[47],Cz7,Cz8]
def w2:List (List UInt8):=w3++ [[43],[45]]
def w2d:List (List UInt8):=w2++ [Bx3]
def w1:List (List UInt8):=w2d++ [[61],[47,61],[60],[60,61],[62],[62,61],wIn,Ct5]
def w0:List (List UInt8):=w1++ [Ct6,wOr,Cz6]
def nof (ws:List (List UInt8)) (t:Tok):Prop:= ∀s∈ws,¬(t.kind=Bx6 s/\t.text=s)
instance (ws:List (List UInt8)) (t:Tok):Decidable (nof ws t):=inferInstanceAs (Decidable (∀s∈ws,¬(t.kind=Bx6 s/\t.text=s)))
section
end
end Go.Dl

-- Chapter 3: expressions: the plain laws, part 11: reading the tokens of an expression.
namespace Go.Dl
open Go
set_option maxRecDepth 10000
def At (l:List Tok) (k:Nat) (ts:List Tok):Prop:=k<=l.length/\ts<+:l.drop k
section
section
end
end
end Go.Dl

-- Chapter 3: the law's helpers.
namespace Go.Dl
open Go Go.Proofs
set_option maxRecDepth 100000
theorem Ar.monoR {P:Program} {G:Nat->DVal} {f:FuncId} {args:List DVal} {H H2:Aa} {v:DVal} {R:DEnd->Aa->Prop} (h:Ar P G f args H (Cq v H2)) (k:R (.ret v) H2):Ar P G f args H R:=h.mono (by rintro _ _ ⟨rfl,rfl⟩;exact k)
section
end
end Go.Dl

-- Chapter 3: awake (printed by gen_v8.py).
namespace Go.Dl
open Go Go.Proofs
set_option maxRecDepth 100000
theorem Cj7 (c:List Ch) (e:Ex):dAs (.mk c e)= .vslice (c.flatMap dCh) c.length::dEx e:=Wn _
section
end
end Go.Dl

-- Chapter 3: ExprMays.
namespace Go.Dl
open Go Go.Proofs
set_option maxRecDepth 100000
theorem Hg (e:Ex):Bb e e=true:=(Ws e e).2 rfl
section
end
end Go.Dl

-- Chapter 4: forms: the plain laws, part 1: what is valid, what is the same, tokens and lines.
namespace Go.Dl
open Go
set_option maxRecDepth 10000
structure Ind where
 name:Ex
 lo:Ex
 hi:Ex
 value:Ex
structure Dis where
 name:Ex
 lo:Ex
 hi:Ex
structure Par where
 names:List (List UInt8)
 mode:Int
 type:Ex
 e:Ex
 line:Int
structure Asp where
 name:List UInt8
 e:Ex
structure Cmp where
 names:List (List UInt8)
 sub:Ind
 e:Ex
 line:Int
structure Arm where
 c:List Ch
 comps:List Cmp
structure Typ where
 kind:Int
 names:List (List UInt8)
 lo:Ex
 hi:Ex
 sub:Ind
 disc:Dis
 comps:List Cmp
 var:List UInt8
 arms:List Arm
 limited:Bool
def Ct (a b:Ind):Bool:=Bb a.name b.name&&Bb a.lo b.lo&&Bb a.hi b.hi&&Bb a.value b.value
def Cu (a b:Dis):Bool:=Bb a.name b.name&&Bb a.lo b.lo&&Bb a.hi b.hi
def Ey {α:Type} (f:α->α->Bool):List α->List α->Bool
 | [],[]=>true
 | x::l,y::m=>f x y&&Ey f l m
 | _,_=>false
def Da (a b:Par):Bool:=decide (a.names=b.names)&&decide (a.mode=b.mode)&&Bb a.type b.type&&Bb a.e b.e
def Ei (a b:Asp):Bool:=decide (a.name=b.name)&&Bb a.e b.e
def Bj (a b:Cmp):Bool:=decide (a.names=b.names)&&Ct a.sub b.sub&&Bb a.e b.e
def Cv (a b:Arm):Bool:=Dy a.c b.c&&Ey Bj a.comps b.comps
def Al (a b:Typ):Bool:=
 decide (a.kind=b.kind)&&decide (a.names=b.names)&&Bb a.lo b.lo&&Bb a.hi b.hi&&Ct a.sub b.sub&&Cu a.disc b.disc&&Ey Bj a.comps b.comps&&decide (a.var=b.var)&&decide (a.limited=b.limited)&&Ey Cv a.arms b.arms
end Go.Dl

-- Chapter 4: forms as data of the program.
namespace Go.Dl
open Go Go.Proofs
set_option maxRecDepth 100000
def Ep (s:Ind):List DVal:=dEx s.name++(dEx s.lo++(dEx s.hi++dEx s.value))
def Ff (d:Dis):List DVal:=dEx d.name++(dEx d.lo++dEx d.hi)
def Fg (p:Par):List DVal:=dW p.names:: .int .u8 p.mode::(dEx p.type++(dEx p.e++ [dI p.line]))
def Gj (a:Asp):List DVal:= .str a.name::dEx a.e
def Fl (c:Cmp):List DVal:=dW c.names::(Ep c.sub++(dEx c.e++ [dI c.line]))
def Kb (l:List Par):DVal:= .vslice (l.flatMap Fg) l.length
def Kc (l:List Asp):DVal:= .vslice (l.flatMap Gj) l.length
def Gf (l:List Cmp):DVal:= .vslice (l.flatMap Fl) l.length
def Hy (a:Arm):List DVal:= [dCl a.c,Gf a.comps]
def Ij (l:List Arm):DVal:= .vslice (l.flatMap Hy) l.length
def Ec (t:Typ):List DVal:= .int .u8 t.kind::dW t.names::(dEx t.lo++(dEx t.hi++(Ep t.sub++(Ff t.disc++ [Gf t.comps, .str t.var,Ij t.arms, .bool t.limited]))))
structure Fms where
 e:Ex
 s:Ind
 d:Dis
 p:List Par
 a:List Asp
 c:List Cmp
 t:Typ
def Io (x:Fms):List DVal:=dEx x.e++(Ep x.s++(Ff x.d++(Kb x.p::Kc x.a::Gf x.c::Ec x.t)))
theorem Ba (s:Ind):(Ep s).length=36:=by simp [Ep,Bt]
theorem Bm (s:Dis):(Ff s).length=27:=by simp [Ff,Bt]
theorem Bi (s:Par):(Fg s).length=21:=by simp [Fg,Bt]
theorem Cn (s:Asp):(Gj s).length=10:=by simp [Gj,Bt]
theorem Bv (s:Cmp):(Fl s).length=47:=by simp [Fl,Bt,Ba]
theorem Co (s:Arm):(Hy s).length=2:=rfl
theorem Ab (s:Typ):(Ec s).length=87:=by simp [Ec,Bt,Ba,Bm]
theorem Bs (s:Fms):(Io s).length=162:=by simp [Io,Bt,Ba,Bm,Ab]
theorem Nm (s:Ind):((Ep s).all fun x=>x.one)=true:=by simp [Ep,List.all_append,Jz]
theorem Nn (s:Dis):((Ff s).all fun x=>x.one)=true:=by simp [Ff,List.all_append,Jz]
theorem By8 (s:Par):((Fg s).all fun x=>x.one)=true:=by simp only[Fg,List.all_cons,List.all_append,Jz,Nm,Nn,List.all_nil,Bool.and_true,Bool.true_and];rfl
theorem By9 (s:Asp):((Gj s).all fun x=>x.one)=true:=by simp only[Gj,List.all_cons,List.all_append,Jz,Nm,Nn,List.all_nil,Bool.and_true,Bool.true_and];rfl
theorem Bz0 (s:Cmp):((Fl s).all fun x=>x.one)=true:=by simp only[Fl,List.all_cons,List.all_append,Jz,Nm,Nn,List.all_nil,Bool.and_true,Bool.true_and];rfl
theorem Bz1 (s:Arm):((Hy s).all fun x=>x.one)=true:=by simp only[Hy,List.all_cons,List.all_append,Jz,Nm,Nn,List.all_nil,Bool.and_true,Bool.true_and];rfl
theorem Cu4 (s:Par):(Fg s).take 21=Fg s:=by rw[<-Bi s,List.take_length]
theorem Cu5 (s:Asp):(Gj s).take 10=Gj s:=by rw[<-Cn s,List.take_length]
theorem Cu6 (s:Cmp):(Fl s).take 47=Fl s:=by rw[<-Bv s,List.take_length]
theorem Cu7 (s:Arm):(Hy s).take 2=Hy s:=by rw[<-Co s,List.take_length]
attribute [go_sem] Cu4 Cu5 Cu6 Cu7 Ba Bm Bi Cn Bv Co Ab Nm Nn By8 By9 Bz0 Bz1
def Gv (n:Nat) (e:Ex):Prop:=Jm e<=n/\okE e
def Wu (n:Nat) (l:List (List UInt8)):Prop:=l.length<=n/\ ∀s∈l,s.length<=9223372036854775807
def Uf (n:Nat) (s:Ind):Prop:=Gv n s.name/\Gv n s.lo/\Gv n s.hi/\Gv n s.value
def Wv (n:Nat) (s:Dis):Prop:=Gv n s.name/\Gv n s.lo/\Gv n s.hi
def Np (n:Nat) (p:Par):Prop:=Wu n p.names/\Gv n p.type/\Gv n p.e
def Rg (n:Nat) (a:Asp):Prop:=a.name.length<=9223372036854775807/\Gv n a.e
def Lb (n:Nat) (c:Cmp):Prop:=Wu n c.names/\Uf n c.sub/\Gv n c.e
def Em {α:Type} (f:Nat->α->Prop) (n:Nat) (l:List α):Prop:=l.length<=n/\ ∀x∈l,f n x
def Af6 (n:Nat) (l:List Ch):Prop:=Hx l<=n/\Bn0 l
def Ww (n:Nat) (a:Arm):Prop:=Af6 n a.c/\Em Lb n a.comps
def Ug (n:Nat) (t:Typ):Prop:=Wu n t.names/\Gv n t.lo/\Gv n t.hi/\Uf n t.sub/\Wv n t.disc/\Em Lb n t.comps/\(t.var.length<=9223372036854775807/\0<=t.kind/\t.kind<=255)/\Em Ww n t.arms
def Ap4 (n:Nat) (x:Fms):Prop:=Gv n x.e/\Uf n x.s/\Wv n x.d/\Em Np n x.p/\Em Rg n x.a/\Em Lb n x.c/\Ug n x.t
section
variable {n m:Nat}
theorem Gv.up {e:Ex} (h:Gv n e) (hm:n<=m):Gv m e:=⟨Nat.le_trans h.1 hm,h.2⟩
theorem Wu.up {l:List (List UInt8)} (h:Wu n l) (hm:n<=m):Wu m l:=⟨Nat.le_trans h.1 hm,h.2⟩
theorem Uf.up {s:Ind} (h:Uf n s) (hm:n<=m):Uf m s:=⟨h.1.up hm,h.2.1.up hm,h.2.2.1.up hm,h.2.2.2.up hm⟩
theorem Wv.up {s:Dis} (h:Wv n s) (hm:n<=m):Wv m s:=⟨h.1.up hm,h.2.1.up hm,h.2.2.up hm⟩
theorem Np.up {s:Par} (h:Np n s) (hm:n<=m):Np m s:=⟨h.1.up hm,h.2.1.up hm,h.2.2.up hm⟩
theorem Rg.up {s:Asp} (h:Rg n s) (hm:n<=m):Rg m s:=⟨h.1,h.2.up hm⟩
theorem Lb.up {s:Cmp} (h:Lb n s) (hm:n<=m):Lb m s:=⟨h.1.up hm,h.2.1.up hm,h.2.2.up hm⟩
theorem Em.up {α:Type} {f:Nat->α->Prop} {l:List α} (h:Em f n l) (hf: ∀(n m:Nat) (x:α),f n x->n<=m->f m x) (hm:n<=m):Em f m l:=⟨Nat.le_trans h.1 hm,fun x hx=>hf _ _ _ (h.2 x hx) hm⟩
theorem Af6.up {l:List Ch} (h:Af6 n l) (hm:n<=m):Af6 m l:=⟨Nat.le_trans h.1 hm,h.2⟩
theorem Ww.up {s:Arm} (h:Ww n s) (hm:n<=m):Ww m s:=⟨h.1.up hm,h.2.up (fun _ _ _=>Lb.up) hm⟩
theorem Ug.up {t:Typ} (h:Ug n t) (hm:n<=m):Ug m t:=
 ⟨h.1.up hm,h.2.1.up hm,h.2.2.1.up hm,h.2.2.2.1.up hm,h.2.2.2.2.1.up hm,h.2.2.2.2.2.1.up (fun _ _ _=>Lb.up) hm,h.2.2.2.2.2.2.1,h.2.2.2.2.2.2.2.up (fun _ _ _=>Ww.up) hm⟩
theorem Ap4.up {x:Fms} (h:Ap4 n x) (hm:n<=m):Ap4 m x:=
 ⟨h.1.up hm,h.2.1.up hm,h.2.2.1.up hm,h.2.2.2.1.up (fun _ _ _=>Np.up) hm,h.2.2.2.2.1.up (fun _ _ _=>Rg.up) hm,h.2.2.2.2.2.1.up (fun _ _ _=>Lb.up) hm,h.2.2.2.2.2.2.up hm⟩
end
end Go.Dl

-- Chapter 4: what is the same: indications, discrete ranges, names.
namespace Go.Dl
open Go Go.Proofs
set_option maxRecDepth 100000
theorem Ow (e:Ex) (l:List DVal):(dEx e++l).take 9=dEx e:=List.take_left' (Bt e)
theorem Hz (e:Ex) (l:List DVal) (k:Nat):(dEx e++l).drop (9+k)=l.drop k:=by
 rw[<-List.drop_drop,List.drop_left' (Bt e)]
theorem Cu8 (e:Ex):(dEx e).take 9=dEx e:=by rw[<-Bt e,List.take_length]
section
variable (s:Ind) (d:Dis) (p:Par) (a:Asp) (c:Cmp) (m:Arm) (t:Typ)
theorem Gw:(Ep s).take 9=dEx s.name:=by rw[Ep,Ow]
theorem Gx:((Ep s).drop 9).take 9=dEx s.lo:=by rw[Ep,Hz _ _ 0,List.drop_zero,Ow]
theorem Gy:((Ep s).drop 18).take 9=dEx s.hi:=by rw[Ep,Hz _ _ 9,Hz _ _ 0,List.drop_zero,Ow]
theorem Gz:((Ep s).drop 27).take 9=dEx s.value:=by rw[Ep,Hz _ _ 18,Hz _ _ 9,Hz _ _ 0,List.drop_zero,Cu8]
theorem Kd:(Ff d).take 9=dEx d.name:=by rw[Ff,Ow]
theorem Ke:((Ff d).drop 9).take 9=dEx d.lo:=by rw[Ff,Hz _ _ 0,List.drop_zero,Ow]
theorem Kf:((Ff d).drop 18).take 9=dEx d.hi:=by rw[Ff,Hz _ _ 9,Hz _ _ 0,List.drop_zero,Cu8]
theorem Nq:(Fg p)[0]? =some (dW p.names):=rfl
theorem Nr:(Fg p)[1]? =some (.int .u8 p.mode):=rfl
theorem Ns:((Fg p).drop 2).take 9=dEx p.type:=by rw[Fg,List.drop_succ_cons,List.drop_succ_cons,List.drop_zero,Ow]
theorem Jg:((Fg p).drop 11).take 9=dEx p.e:=by rw[Fg,List.drop_succ_cons,List.drop_succ_cons,Hz _ _ 0,List.drop_zero,Ow]
theorem Wx:(Gj a)[0]? =some (.str a.name):=rfl
theorem Wy:((Gj a).drop 1).take 9=dEx a.e:=by rw[Gj,List.drop_succ_cons,List.drop_zero,Cu8]
theorem Rh:(Fl c)[0]? =some (dW c.names):=rfl
theorem Ri:((Fl c).drop 1).take 36=Ep c.sub:=by rw[Fl,List.drop_succ_cons,List.drop_zero,List.take_left' (Ba _)]
theorem Lz:((Fl c).drop 37).take 9=dEx c.e:=by
 rw[Fl,List.drop_succ_cons,List.drop_left' (Ba _),Ow]
theorem Wz:(Hy m)[0]? =some (dCl m.c):=rfl
theorem Xa:(Hy m)[1]? =some (Gf m.comps):=rfl
theorem Am:(Ec t)[0]? =some (.int .u8 t.kind):=rfl
theorem An:(Ec t)[1]? =some (dW t.names):=rfl
theorem Ao:((Ec t).drop 2).take 9=dEx t.lo:=by rw[Ec,List.drop_succ_cons,List.drop_succ_cons,List.drop_zero,Ow]
theorem Ac:((Ec t).drop 11).take 9=dEx t.hi:=by rw[Ec,List.drop_succ_cons,List.drop_succ_cons,Hz _ _ 0,List.drop_zero,Ow]
theorem Ad:((Ec t).drop 20).take 36=Ep t.sub:=by rw[Ec,List.drop_succ_cons,List.drop_succ_cons,Hz _ _ 9,Hz _ _ 0,List.drop_zero,List.take_left' (Ba _)]
theorem Ae:((Ec t).drop 56).take 27=Ff t.disc:=by
 rw[Ec,List.drop_succ_cons,List.drop_succ_cons,Hz _ _ 45,Hz _ _ 36,List.drop_left' (Ba _),List.take_left' (Bm _)]
theorem Rj (k:Nat):(Ec t)[83+k]? = [Gf t.comps, .str t.var,Ij t.arms, .bool t.limited][k]? :=by
 have h1:Ec t=(.int .u8 t.kind::dW t.names::(dEx t.lo++(dEx t.hi++(Ep t.sub++Ff t.disc))))++ [Gf t.comps, .str t.var,Ij t.arms, .bool t.limited]:=by simp [Ec]
 rw[h1,List.getElem?_append_right (by simp [Bt,Ba,Bm])];congr 1;simp [Bt,Ba,Bm]
theorem Af:(Ec t)[83]? =some (Gf t.comps):=Rj t 0
theorem Ag:(Ec t)[84]? =some (.str t.var):=Rj t 1
theorem Ah:(Ec t)[85]? =some (Ij t.arms):=Rj t 2
theorem Ai:(Ec t)[86]? =some (.bool t.limited):=Rj t 3
end
theorem En {α:Type} {f:α->List DVal} {n:Nat} (hf: ∀x,(f x).length=n) (l:List α) (k:Nat) (hk:k<l.length) (off m:Nat) (h:off+m<=n):((l.flatMap f).drop (k*n+off)).take m=((f l[k]).drop off).take m:=by
 induction l generalizing k with
 | nil=>simp at hk
 | cons x l ih=>
  cases k with
  | zero=>
   rw[Nat.zero_mul,Nat.zero_add,List.flatMap_cons,List.getElem_cons_zero,List.drop_append_of_le_length (by rw[hf];omega),List.take_append_of_le_length (by rw[List.length_drop,hf];omega)]
  | succ k=>
   have hk':k<l.length:=by simpa using hk
   rw[List.flatMap_cons,List.getElem_cons_succ,show(k+1)*n+off=n+(k*n+off) by rw[Nat.succ_mul];omega,<-List.drop_drop,List.drop_left' (hf x),ih k hk']
section
variable (G:Nat->DVal) (H:Aa)
theorem Ed {e:Ex} {n:Nat} (h:Gv n e) (hn:n<=1048576):Jm e<=1099511627776:=by have:=h.1;omega
theorem Ip (a b:Ind) (ha:Uf 1048576 a):Ar Tryz.prog G 28 [.agg (Ep a), .agg (Ep b)] H (Cq (.bool (Ct a b)) H):=by
 obtain⟨f0,f1,f2,f3⟩:=ha;refine Ak Tryz.func28 Tryz.call28 rfl (by kernel_rfl) ?_;simp(disch:=omega) only[go_sem,↓reduceIte,DVal.cells,List.nil_append,List.append_nil];intro r2 hr2;dsimp only at hr2;obtain⟨K2,hK2⟩: ∃K',K'=upd H r2 (some (.cells (Ep a) 45)):=⟨_,rfl⟩;rw[<-hK2];have gr2:K2 r2=some (.cells (Ep a) 45):=by rw[hK2];exact Bo _ _ _
 have sK2:Sub H K2:=by rw[hK2];exact(Sub.refl _).new hr2 _
 simp(disch:=omega) only[go_sem,↓reduceIte,DVal.cells,List.nil_append,List.append_nil];intro r3 hr3;dsimp only at hr3;obtain⟨K,hK⟩: ∃K',K'=upd K2 r3 (some (.cells (Ep b) 45)):=⟨_,rfl⟩;rw[<-hK];have gr3:K r3=some (.cells (Ep b) 45):=by rw[hK];exact Bo _ _ _
 have sK:Sub K2 K:=by rw[hK];exact(Sub.refl _).new hr3 _
 have g2:K r2=some (.cells (Ep a) 45):=sK _ _ gr2;have g3:=gr3;have t:Sub H K:=sK2.trans sK;clear sK sK2 gr3 gr2 hK hK2;simp(disch:=omega) only[go_sem,↓reduceIte,g2,g3,Ba,Gw,Gx,Gy,Gz];refine Ar.monoR (Dd G K a.name b.name (Ed f0 (by omega))) ?_;cases h1:Bb a.name b.name
 ·simp(disch:=omega) only[go_sem,↓reduceIte,g2,g3,Ba,Gw,Gx,Gy,Gz];exact Ax1.sub t (.refl ⟨by simp [Ct, *],rfl⟩)
 simp(disch:=omega) only[go_sem,↓reduceIte,g2,g3,Ba,Gw,Gx,Gy,Gz];refine Ar.monoR (Dd G K a.lo b.lo (Ed f1 (by omega))) ?_;cases h2:Bb a.lo b.lo
 ·simp(disch:=omega) only[go_sem,↓reduceIte,g2,g3,Ba,Gw,Gx,Gy,Gz];exact Ax1.sub t (.refl ⟨by simp [Ct, *],rfl⟩)
 simp(disch:=omega) only[go_sem,↓reduceIte,g2,g3,Ba,Gw,Gx,Gy,Gz];refine Ar.monoR (Dd G K a.hi b.hi (Ed f2 (by omega))) ?_;cases h3:Bb a.hi b.hi
 ·simp(disch:=omega) only[go_sem,↓reduceIte,g2,g3,Ba,Gw,Gx,Gy,Gz];exact Ax1.sub t (.refl ⟨by simp [Ct, *],rfl⟩)
 simp(disch:=omega) only[go_sem,↓reduceIte,g2,g3,Ba,Gw,Gx,Gy,Gz];refine Ar.monoR (Dd G K a.value b.value (Ed f3 (by omega))) ?_;cases h4:Bb a.value b.value
 ·simp(disch:=omega) only[go_sem,↓reduceIte,g2,g3,Ba,Gw,Gx,Gy,Gz];exact Ax1.sub t (.refl ⟨by simp [Ct, *],rfl⟩)
 simp(disch:=omega) only[go_sem,↓reduceIte,g2,g3,Ba,Gw,Gx,Gy,Gz];exact Ax1.sub t (.refl ⟨by simp [Ct, *],rfl⟩)
theorem Kk (a b:Ind) (ha:Uf 1048576 a):Ar Tryz.prog G 29 [.agg (Ep a), .agg (Ep b)] H (Cq (.bool (Ct a b)) H):=by
 obtain⟨f0,f1,f2,f3⟩:=ha;refine Ak Tryz.func29 Tryz.call29 rfl (by kernel_rfl) ?_;simp(disch:=omega) only[go_sem,↓reduceIte,DVal.cells,List.nil_append,List.append_nil];intro r2 hr2;dsimp only at hr2;obtain⟨K2,hK2⟩: ∃K',K'=upd H r2 (some (.cells (Ep a) 45)):=⟨_,rfl⟩;rw[<-hK2];have gr2:K2 r2=some (.cells (Ep a) 45):=by rw[hK2];exact Bo _ _ _
 have sK2:Sub H K2:=by rw[hK2];exact(Sub.refl _).new hr2 _
 simp(disch:=omega) only[go_sem,↓reduceIte,DVal.cells,List.nil_append,List.append_nil];intro r3 hr3;dsimp only at hr3;obtain⟨K,hK⟩: ∃K',K'=upd K2 r3 (some (.cells (Ep b) 45)):=⟨_,rfl⟩;rw[<-hK];have gr3:K r3=some (.cells (Ep b) 45):=by rw[hK];exact Bo _ _ _
 have sK:Sub K2 K:=by rw[hK];exact(Sub.refl _).new hr3 _
 have g2:K r2=some (.cells (Ep a) 45):=sK _ _ gr2;have g3:=gr3;have t:Sub H K:=sK2.trans sK;clear sK sK2 gr3 gr2 hK hK2;simp(disch:=omega) only[go_sem,↓reduceIte,g2,g3,Ba,Gw,Gx,Gy,Gz];refine Ar.monoR (Cf G K a.name b.name (Ed f0 (by omega))) ?_;cases h1:Bb a.name b.name
 ·simp(disch:=omega) only[go_sem,↓reduceIte,g2,g3,Ba,Gw,Gx,Gy,Gz];exact Ax1.sub t (.refl ⟨by simp [Ct, *],rfl⟩)
 simp(disch:=omega) only[go_sem,↓reduceIte,g2,g3,Ba,Gw,Gx,Gy,Gz];refine Ar.monoR (Cf G K a.lo b.lo (Ed f1 (by omega))) ?_;cases h2:Bb a.lo b.lo
 ·simp(disch:=omega) only[go_sem,↓reduceIte,g2,g3,Ba,Gw,Gx,Gy,Gz];exact Ax1.sub t (.refl ⟨by simp [Ct, *],rfl⟩)
 simp(disch:=omega) only[go_sem,↓reduceIte,g2,g3,Ba,Gw,Gx,Gy,Gz];refine Ar.monoR (Cf G K a.hi b.hi (Ed f2 (by omega))) ?_;cases h3:Bb a.hi b.hi
 ·simp(disch:=omega) only[go_sem,↓reduceIte,g2,g3,Ba,Gw,Gx,Gy,Gz];exact Ax1.sub t (.refl ⟨by simp [Ct, *],rfl⟩)
 simp(disch:=omega) only[go_sem,↓reduceIte,g2,g3,Ba,Gw,Gx,Gy,Gz];refine Ar.monoR (Cf G K a.value b.value (Ed f3 (by omega))) ?_;cases h4:Bb a.value b.value
 ·simp(disch:=omega) only[go_sem,↓reduceIte,g2,g3,Ba,Gw,Gx,Gy,Gz];exact Ax1.sub t (.refl ⟨by simp [Ct, *],rfl⟩)
 simp(disch:=omega) only[go_sem,↓reduceIte,g2,g3,Ba,Gw,Gx,Gy,Gz];exact Ax1.sub t (.refl ⟨by simp [Ct, *],rfl⟩)
theorem Dr (a b:Dis) (ha:Wv 1048576 a):Ar Tryz.prog G 30 [.agg (Ff a), .agg (Ff b)] H (Cq (.bool (Cu a b)) H):=by
 obtain⟨f0,f1,f2⟩:=ha;refine Ak Tryz.func30 Tryz.call30 rfl (by kernel_rfl) ?_;simp(disch:=omega) only[go_sem,↓reduceIte,DVal.cells,List.nil_append,List.append_nil];intro r2 hr2;dsimp only at hr2;obtain⟨K2,hK2⟩: ∃K',K'=upd H r2 (some (.cells (Ff a) 47)):=⟨_,rfl⟩;rw[<-hK2];have gr2:K2 r2=some (.cells (Ff a) 47):=by rw[hK2];exact Bo _ _ _
 have sK2:Sub H K2:=by rw[hK2];exact(Sub.refl _).new hr2 _
 simp(disch:=omega) only[go_sem,↓reduceIte,DVal.cells,List.nil_append,List.append_nil];intro r3 hr3;dsimp only at hr3;obtain⟨K,hK⟩: ∃K',K'=upd K2 r3 (some (.cells (Ff b) 47)):=⟨_,rfl⟩;rw[<-hK];have gr3:K r3=some (.cells (Ff b) 47):=by rw[hK];exact Bo _ _ _
 have sK:Sub K2 K:=by rw[hK];exact(Sub.refl _).new hr3 _
 have g2:K r2=some (.cells (Ff a) 47):=sK _ _ gr2;have g3:=gr3;have t:Sub H K:=sK2.trans sK;clear sK sK2 gr3 gr2 hK hK2;simp(disch:=omega) only[go_sem,↓reduceIte,g2,g3,Bm,Kd,Ke,Kf];refine Ar.monoR (Dd G K a.name b.name (Ed f0 (by omega))) ?_;cases h1:Bb a.name b.name
 ·simp(disch:=omega) only[go_sem,↓reduceIte,g2,g3,Bm,Kd,Ke,Kf];exact Ax1.sub t (.refl ⟨by simp [Cu, *],rfl⟩)
 simp(disch:=omega) only[go_sem,↓reduceIte,g2,g3,Bm,Kd,Ke,Kf];refine Ar.monoR (Dd G K a.lo b.lo (Ed f1 (by omega))) ?_;cases h2:Bb a.lo b.lo
 ·simp(disch:=omega) only[go_sem,↓reduceIte,g2,g3,Bm,Kd,Ke,Kf];exact Ax1.sub t (.refl ⟨by simp [Cu, *],rfl⟩)
 simp(disch:=omega) only[go_sem,↓reduceIte,g2,g3,Bm,Kd,Ke,Kf];refine Ar.monoR (Dd G K a.hi b.hi (Ed f2 (by omega))) ?_;cases h3:Bb a.hi b.hi
 ·simp(disch:=omega) only[go_sem,↓reduceIte,g2,g3,Bm,Kd,Ke,Kf];exact Ax1.sub t (.refl ⟨by simp [Cu, *],rfl⟩)
 simp(disch:=omega) only[go_sem,↓reduceIte,g2,g3,Bm,Kd,Ke,Kf];exact Ax1.sub t (.refl ⟨by simp [Cu, *],rfl⟩)
theorem Ox (a b:Dis) (ha:Wv 1048576 a):Ar Tryz.prog G 31 [.agg (Ff a), .agg (Ff b)] H (Cq (.bool (Cu a b)) H):=by
 obtain⟨f0,f1,f2⟩:=ha;refine Ak Tryz.func31 Tryz.call31 rfl (by kernel_rfl) ?_;simp(disch:=omega) only[go_sem,↓reduceIte,DVal.cells,List.nil_append,List.append_nil];intro r2 hr2;dsimp only at hr2;obtain⟨K2,hK2⟩: ∃K',K'=upd H r2 (some (.cells (Ff a) 47)):=⟨_,rfl⟩;rw[<-hK2];have gr2:K2 r2=some (.cells (Ff a) 47):=by rw[hK2];exact Bo _ _ _
 have sK2:Sub H K2:=by rw[hK2];exact(Sub.refl _).new hr2 _
 simp(disch:=omega) only[go_sem,↓reduceIte,DVal.cells,List.nil_append,List.append_nil];intro r3 hr3;dsimp only at hr3;obtain⟨K,hK⟩: ∃K',K'=upd K2 r3 (some (.cells (Ff b) 47)):=⟨_,rfl⟩;rw[<-hK];have gr3:K r3=some (.cells (Ff b) 47):=by rw[hK];exact Bo _ _ _
 have sK:Sub K2 K:=by rw[hK];exact(Sub.refl _).new hr3 _
 have g2:K r2=some (.cells (Ff a) 47):=sK _ _ gr2;have g3:=gr3;have t:Sub H K:=sK2.trans sK;clear sK sK2 gr3 gr2 hK hK2;simp(disch:=omega) only[go_sem,↓reduceIte,g2,g3,Bm,Kd,Ke,Kf];refine Ar.monoR (Cf G K a.name b.name (Ed f0 (by omega))) ?_;cases h1:Bb a.name b.name
 ·simp(disch:=omega) only[go_sem,↓reduceIte,g2,g3,Bm,Kd,Ke,Kf];exact Ax1.sub t (.refl ⟨by simp [Cu, *],rfl⟩)
 simp(disch:=omega) only[go_sem,↓reduceIte,g2,g3,Bm,Kd,Ke,Kf];refine Ar.monoR (Cf G K a.lo b.lo (Ed f1 (by omega))) ?_;cases h2:Bb a.lo b.lo
 ·simp(disch:=omega) only[go_sem,↓reduceIte,g2,g3,Bm,Kd,Ke,Kf];exact Ax1.sub t (.refl ⟨by simp [Cu, *],rfl⟩)
 simp(disch:=omega) only[go_sem,↓reduceIte,g2,g3,Bm,Kd,Ke,Kf];refine Ar.monoR (Cf G K a.hi b.hi (Ed f2 (by omega))) ?_;cases h3:Bb a.hi b.hi
 ·simp(disch:=omega) only[go_sem,↓reduceIte,g2,g3,Bm,Kd,Ke,Kf];exact Ax1.sub t (.refl ⟨by simp [Cu, *],rfl⟩)
 simp(disch:=omega) only[go_sem,↓reduceIte,g2,g3,Bm,Kd,Ke,Kf];exact Ax1.sub t (.refl ⟨by simp [Cu, *],rfl⟩)
theorem Oy {α:Type} {a b:List α} {i:Nat} (ha:i<a.length) (hb:i<b.length) (h:a.take i=b.take i) (e:a[i]=b[i]):a.take (i+1)=b.take (i+1):=by
 rw[List.take_add_one,List.take_add_one,List.getElem?_eq_getElem ha,List.getElem?_eq_getElem hb,h,e]
theorem Nt (a b:List (List UInt8)) (ha:a.length<=1099511627776) (hb:b.length<=1099511627776):Ar Tryz.prog G 65 [dW a,dW b] H (Cq (.bool (decide (a=b))) H):=by
 refine Ak Tryz.func65 Tryz.call65 rfl (by kernel_rfl) ?_;by_cases hl:a.length=b.length
 ·simp(disch:=omega) only[go_sem,↓reduceIte,hl,dW];obtain⟨I,hI⟩: ∃I:Nat->(Nat->DVal)->Aa->Prop,∀i env heap,I i env heap↔(H=heap/\env 0= .vslice (a.map .str) a.length/\env 1= .vslice (b.map .str) b.length/\env 12=dI b.length/\env 13=dI i/\i<=a.length/\a.take i=b.take i):=⟨_,fun _ _ _=>Iff.rfl⟩;refine Bq8.run I (fun i=>a.length-i) 0 ((hI _ _ _).2 ?_) ?_
  ·simp(disch:=omega) only[go_sem,↓reduceIte];simp [hl]
  ·intro i env heap hi;obtain⟨rfl,h0,h1,h12,h13,hi,ht⟩:=(hI _ _ _).1 hi;by_cases hlt:i<a.length
   ·have hlt':i<b.length:=by omega
    by_cases hx:a[i]=b[i]
    ·simp(disch:=omega) only[go_sem,↓reduceIte,h0,h1,h12,h13,hx];refine Dc (by kernel_rfl) (.take 0 (.take 1 (.take 2 (.take 3 (.take 4 (.take 5 (.take 6 (.take 7 (.take 8 .done))))))))) (by kernel_rfl) ?_;simp(disch:=omega) only[go_sem,↓reduceIte,h0,h1,h12,h13,hx];refine⟨i+1,_,Pn.refl _,(hI _ _ _).2 ?_,by omega⟩;simp(disch:=omega) only[go_sem,↓reduceIte,h0,h1,h12,h13];(repeat' apply And.intro)<;>(try first | rfl | assumption | omega);exact Oy hlt hlt' ht hx
    ·simp(disch:=omega) only[go_sem,↓reduceIte,h0,h1,h12,h13,hx];refine Dc (by kernel_rfl) (.take 0 (.take 1 (.take 2 (.take 3 (.take 4 (.take 5 (.take 6 (.take 7 (.take 8 .done))))))))) (by kernel_rfl) ?_;simp(disch:=omega) only[go_sem,↓reduceIte,h0,h1,h12,h13,hx];refine Ax1.refl ⟨?_,rfl⟩;rw[decide_eq_false (fun e=>hx (by subst e;rfl))]
   ·simp(disch:=omega) only[go_sem,↓reduceIte,h0,h1,h12,h13];refine Ax1.refl ⟨?_,rfl⟩;have:a=b:=by
     rw[List.take_of_length_le (by omega),List.take_of_length_le (by omega)] at ht;exact ht
    rw[decide_eq_true this]
 ·simp(disch:=omega) only[go_sem,↓reduceIte,hl,dW];refine Ax1.refl ⟨?_,rfl⟩;rw[decide_eq_false (fun e=>hl (by rw[e]))]
end
end Go.Dl

-- Chapter 4: what is the same: lists of forms, type definitions (printed by gen_c5.py).
namespace Go.Dl
open Go Go.Proofs
set_option maxRecDepth 100000
theorem De {α:Type} (f:α->α->Bool): ∀l m:List α,Ey f l m=eqF f l m
 | [],[]=>rfl
 | [],_::_=>rfl
 | _::_,[]=>rfl
 | x::l,y::m=>by rw[Ey,eqF,De f l m]
theorem Bz2 (G:Nat->DVal) (H:Aa) (p:Par->Par->Bool) (l m:List Par) (g:FuncId) (hl:l.length<=1099511627776)
  (hp: ∀x∈l,∀y∈m,∀H,Ar Tryz.prog G g ([]++ [.agg (Fg x), .agg (Fg y)]++ []) H (Cq (.bool (p x y)) H)):
  Ar Tryz.prog G 63 [.vslice (l.flatMap Fg) l.length, .vslice (m.flatMap Fg) m.length, .func (.func g) [] []] H (Cq (.bool (eqF p l m)) H):=by
 refine Ak Tryz.func63 Tryz.call63 rfl (by kernel_rfl) ?_;by_cases hlen:l.length=m.length
 ·have hlen':(l.length:Int)=(m.length:Int):=by omega
  simp(disch:=omega) only[go_sem,↓reduceIte,hlen'];obtain⟨I,hI⟩: ∃I:Nat->(Nat->DVal)->Aa->Prop,∀k env heap,I k env heap↔(env 0= .vslice (l.flatMap Fg) l.length/\env 1= .vslice (m.flatMap Fg) m.length/\env 2= .func (.func g) [] []/\env 15= .vslice (l.flatMap Fg) l.length/\env 16=dI m.length/\env 17=dI k/\k<=l.length/\eqF p l m=eqF p (l.drop k) (m.drop k)/\Sub H heap):=⟨_,fun _ _ _=>Iff.rfl⟩;refine Bq8.run I (fun k=>l.length-k) 0 ((hI _ _ _).2 ?_) ?_
  ·simp(disch:=omega) only[go_sem,↓reduceIte];(repeat' apply And.intro)<;>(try first | rfl | assumption | omega);exact Sub.refl _
  ·intro k env heap hi;obtain⟨e0,e1,e2,e15,e16,e17,hk,hsm,hsub⟩:=(hI _ _ _).1 hi;have hfl:=Bf Bi l;have hfm:=Bf Bi m;by_cases hlt:k<l.length
   ·have hlt':(k:Int)<(m.length:Int):=by omega
    have hlt2:(k:Int)<(l.length:Int):=by omega
    have hkm:k<m.length:=by omega
    have Bc:=Ci Bi l k hlt;have hgetm:=Ci Bi m k hkm;have hwd:IntKind.i64.wrap ((k:Int)+1)=((k+1:Nat):Int):=by rw[IntKind.wrap_i64];omega
    simp(disch:=omega) only[go_sem,↓reduceIte,e0,e1,e2,e15,e16,e17,hlt',hlt2,Bc,hgetm,hfl,hfm,Int.toNat_natCast];intro r8 hr8;dsimp only at hr8;simp(disch:=omega) only[go_sem,↓reduceIte,e0,e1,e2,e15,e16,e17,hlt',hlt2,Bc,hgetm,hfl,hfm,Int.toNat_natCast];intro r9 hr9;dsimp only at hr9;obtain⟨m2,m1,hr9'⟩:=Cm6.1 hr9;simp(disch:=omega) only[go_sem,↓reduceIte,e0,e1,e2,e15,e16,e17,m1,m2,Bc,hgetm,hfl,hfm,Int.toNat_natCast];refine(hp l[k] (List.getElem_mem hlt) m[k] (List.getElem_mem hkm) _).mono ?_;rintro _ H1 ⟨rfl,rfl⟩;rw[El hlt hkm] at hsm;have hs1:=(hsub.new hr8 (some (DObj.cells (Fg l[k]) 32))).new hr9 (some (DObj.cells (Fg m[k]) 32));cases hb:p l[k] m[k] with
    | true=>
     rw[hb,Bool.true_and] at hsm;simp(disch:=omega) only[go_sem,↓reduceIte,e0,e1,e2,e15,e16,e17];refine⟨k+1,_,Pn.refl _,(hI _ _ _).2 ?_,by omega⟩;simp(disch:=omega) only[go_sem,↓reduceIte,e0,e1,e2,e15,e16,e17,hwd];(repeat' apply And.intro)<;>(try first | rfl | assumption | omega)
    | false=>
     rw[hb,Bool.false_and] at hsm;simp(disch:=omega) only[go_sem,↓reduceIte,e0,e1,e2,e15,e16,e17];exact Ax1.sub hs1 (Ax1.refl ⟨by rw[hsm],rfl⟩)
   ·have:k=l.length:=by omega
    subst this;have hlt': ¬(l.length:Int)<(m.length:Int):=by omega
    simp(disch:=omega) only[go_sem,↓reduceIte,e0,e1,e2,e15,e16,e17,hlt'];refine Ax1.sub hsub (Ax1.refl ⟨?_,rfl⟩);rw[hsm,List.drop_length,hlen,List.drop_length];rfl
 ·have hlen': ¬(l.length:Int)=(m.length:Int):=by omega
  simp(disch:=omega) only[go_sem,↓reduceIte,hlen'];exact Ax1.refl ⟨by rw[Gr hlen],rfl⟩
theorem Bz3 (G:Nat->DVal) (H:Aa) (p:Asp->Asp->Bool) (l m:List Asp) (g:FuncId) (hl:l.length<=1099511627776)
  (hp: ∀x∈l,∀y∈m,∀H,Ar Tryz.prog G g ([]++ [.agg (Gj x), .agg (Gj y)]++ []) H (Cq (.bool (p x y)) H)):
  Ar Tryz.prog G 100 [.vslice (l.flatMap Gj) l.length, .vslice (m.flatMap Gj) m.length, .func (.func g) [] []] H (Cq (.bool (eqF p l m)) H):=by
 refine Ak Tryz.func100 Tryz.call100 rfl (by kernel_rfl) ?_;by_cases hlen:l.length=m.length
 ·have hlen':(l.length:Int)=(m.length:Int):=by omega
  simp(disch:=omega) only[go_sem,↓reduceIte,hlen'];obtain⟨I,hI⟩: ∃I:Nat->(Nat->DVal)->Aa->Prop,∀k env heap,I k env heap↔(env 0= .vslice (l.flatMap Gj) l.length/\env 1= .vslice (m.flatMap Gj) m.length/\env 2= .func (.func g) [] []/\env 15= .vslice (l.flatMap Gj) l.length/\env 16=dI m.length/\env 17=dI k/\k<=l.length/\eqF p l m=eqF p (l.drop k) (m.drop k)/\Sub H heap):=⟨_,fun _ _ _=>Iff.rfl⟩;refine Bq8.run I (fun k=>l.length-k) 0 ((hI _ _ _).2 ?_) ?_
  ·simp(disch:=omega) only[go_sem,↓reduceIte];(repeat' apply And.intro)<;>(try first | rfl | assumption | omega);exact Sub.refl _
  ·intro k env heap hi;obtain⟨e0,e1,e2,e15,e16,e17,hk,hsm,hsub⟩:=(hI _ _ _).1 hi;have hfl:=Bf Cn l;have hfm:=Bf Cn m;by_cases hlt:k<l.length
   ·have hlt':(k:Int)<(m.length:Int):=by omega
    have hlt2:(k:Int)<(l.length:Int):=by omega
    have hkm:k<m.length:=by omega
    have Bc:=Ci Cn l k hlt;have hgetm:=Ci Cn m k hkm;have hwd:IntKind.i64.wrap ((k:Int)+1)=((k+1:Nat):Int):=by rw[IntKind.wrap_i64];omega
    simp(disch:=omega) only[go_sem,↓reduceIte,e0,e1,e2,e15,e16,e17,hlt',hlt2,Bc,hgetm,hfl,hfm,Int.toNat_natCast];intro r8 hr8;dsimp only at hr8;simp(disch:=omega) only[go_sem,↓reduceIte,e0,e1,e2,e15,e16,e17,hlt',hlt2,Bc,hgetm,hfl,hfm,Int.toNat_natCast];intro r9 hr9;dsimp only at hr9;obtain⟨m2,m1,hr9'⟩:=Cm6.1 hr9;simp(disch:=omega) only[go_sem,↓reduceIte,e0,e1,e2,e15,e16,e17,m1,m2,Bc,hgetm,hfl,hfm,Int.toNat_natCast];refine(hp l[k] (List.getElem_mem hlt) m[k] (List.getElem_mem hkm) _).mono ?_;rintro _ H1 ⟨rfl,rfl⟩;rw[El hlt hkm] at hsm;have hs1:=(hsub.new hr8 (some (DObj.cells (Gj l[k]) 110))).new hr9 (some (DObj.cells (Gj m[k]) 110));cases hb:p l[k] m[k] with
    | true=>
     rw[hb,Bool.true_and] at hsm;simp(disch:=omega) only[go_sem,↓reduceIte,e0,e1,e2,e15,e16,e17];refine⟨k+1,_,Pn.refl _,(hI _ _ _).2 ?_,by omega⟩;simp(disch:=omega) only[go_sem,↓reduceIte,e0,e1,e2,e15,e16,e17,hwd];(repeat' apply And.intro)<;>(try first | rfl | assumption | omega)
    | false=>
     rw[hb,Bool.false_and] at hsm;simp(disch:=omega) only[go_sem,↓reduceIte,e0,e1,e2,e15,e16,e17];exact Ax1.sub hs1 (Ax1.refl ⟨by rw[hsm],rfl⟩)
   ·have:k=l.length:=by omega
    subst this;have hlt': ¬(l.length:Int)<(m.length:Int):=by omega
    simp(disch:=omega) only[go_sem,↓reduceIte,e0,e1,e2,e15,e16,e17,hlt'];refine Ax1.sub hsub (Ax1.refl ⟨?_,rfl⟩);rw[hsm,List.drop_length,hlen,List.drop_length];rfl
 ·have hlen': ¬(l.length:Int)=(m.length:Int):=by omega
  simp(disch:=omega) only[go_sem,↓reduceIte,hlen'];exact Ax1.refl ⟨by rw[Gr hlen],rfl⟩
theorem Bz4 (G:Nat->DVal) (H:Aa) (p:Cmp->Cmp->Bool) (l m:List Cmp) (g:FuncId) (hl:l.length<=1099511627776)
  (hp: ∀x∈l,∀y∈m,∀H,Ar Tryz.prog G g ([]++ [.agg (Fl x), .agg (Fl y)]++ []) H (Cq (.bool (p x y)) H)):
  Ar Tryz.prog G 102 [.vslice (l.flatMap Fl) l.length, .vslice (m.flatMap Fl) m.length, .func (.func g) [] []] H (Cq (.bool (eqF p l m)) H):=by
 refine Ak Tryz.func102 Tryz.call102 rfl (by kernel_rfl) ?_;by_cases hlen:l.length=m.length
 ·have hlen':(l.length:Int)=(m.length:Int):=by omega
  simp(disch:=omega) only[go_sem,↓reduceIte,hlen'];obtain⟨I,hI⟩: ∃I:Nat->(Nat->DVal)->Aa->Prop,∀k env heap,I k env heap↔(env 0= .vslice (l.flatMap Fl) l.length/\env 1= .vslice (m.flatMap Fl) m.length/\env 2= .func (.func g) [] []/\env 15= .vslice (l.flatMap Fl) l.length/\env 16=dI m.length/\env 17=dI k/\k<=l.length/\eqF p l m=eqF p (l.drop k) (m.drop k)/\Sub H heap):=⟨_,fun _ _ _=>Iff.rfl⟩;refine Bq8.run I (fun k=>l.length-k) 0 ((hI _ _ _).2 ?_) ?_
  ·simp(disch:=omega) only[go_sem,↓reduceIte];(repeat' apply And.intro)<;>(try first | rfl | assumption | omega);exact Sub.refl _
  ·intro k env heap hi;obtain⟨e0,e1,e2,e15,e16,e17,hk,hsm,hsub⟩:=(hI _ _ _).1 hi;have hfl:=Bf Bv l;have hfm:=Bf Bv m;by_cases hlt:k<l.length
   ·have hlt':(k:Int)<(m.length:Int):=by omega
    have hlt2:(k:Int)<(l.length:Int):=by omega
    have hkm:k<m.length:=by omega
    have Bc:=Ci Bv l k hlt;have hgetm:=Ci Bv m k hkm;have hwd:IntKind.i64.wrap ((k:Int)+1)=((k+1:Nat):Int):=by rw[IntKind.wrap_i64];omega
    simp(disch:=omega) only[go_sem,↓reduceIte,e0,e1,e2,e15,e16,e17,hlt',hlt2,Bc,hgetm,hfl,hfm,Int.toNat_natCast];intro r8 hr8;dsimp only at hr8;simp(disch:=omega) only[go_sem,↓reduceIte,e0,e1,e2,e15,e16,e17,hlt',hlt2,Bc,hgetm,hfl,hfm,Int.toNat_natCast];intro r9 hr9;dsimp only at hr9;obtain⟨m2,m1,hr9'⟩:=Cm6.1 hr9;simp(disch:=omega) only[go_sem,↓reduceIte,e0,e1,e2,e15,e16,e17,m1,m2,Bc,hgetm,hfl,hfm,Int.toNat_natCast];refine(hp l[k] (List.getElem_mem hlt) m[k] (List.getElem_mem hkm) _).mono ?_;rintro _ H1 ⟨rfl,rfl⟩;rw[El hlt hkm] at hsm;have hs1:=(hsub.new hr8 (some (DObj.cells (Fl l[k]) 123))).new hr9 (some (DObj.cells (Fl m[k]) 123));cases hb:p l[k] m[k] with
    | true=>
     rw[hb,Bool.true_and] at hsm;simp(disch:=omega) only[go_sem,↓reduceIte,e0,e1,e2,e15,e16,e17];refine⟨k+1,_,Pn.refl _,(hI _ _ _).2 ?_,by omega⟩;simp(disch:=omega) only[go_sem,↓reduceIte,e0,e1,e2,e15,e16,e17,hwd];(repeat' apply And.intro)<;>(try first | rfl | assumption | omega)
    | false=>
     rw[hb,Bool.false_and] at hsm;simp(disch:=omega) only[go_sem,↓reduceIte,e0,e1,e2,e15,e16,e17];exact Ax1.sub hs1 (Ax1.refl ⟨by rw[hsm],rfl⟩)
   ·have:k=l.length:=by omega
    subst this;have hlt': ¬(l.length:Int)<(m.length:Int):=by omega
    simp(disch:=omega) only[go_sem,↓reduceIte,e0,e1,e2,e15,e16,e17,hlt'];refine Ax1.sub hsub (Ax1.refl ⟨?_,rfl⟩);rw[hsm,List.drop_length,hlen,List.drop_length];rfl
 ·have hlen': ¬(l.length:Int)=(m.length:Int):=by omega
  simp(disch:=omega) only[go_sem,↓reduceIte,hlen'];exact Ax1.refl ⟨by rw[Gr hlen],rfl⟩
theorem Ap5 (G:Nat->DVal) (H:Aa) (p:Arm->Arm->Bool) (l m:List Arm) (g:FuncId) (hl:l.length<=1099511627776)
  (hp: ∀x∈l,∀y∈m,∀H,Ar Tryz.prog G g ([]++ [.agg (Hy x), .agg (Hy y)]++ []) H (Cq (.bool (p x y)) H)):
  Ar Tryz.prog G 104 [.vslice (l.flatMap Hy) l.length, .vslice (m.flatMap Hy) m.length, .func (.func g) [] []] H (Cq (.bool (eqF p l m)) H):=by
 refine Ak Tryz.func104 Tryz.call104 rfl (by kernel_rfl) ?_;by_cases hlen:l.length=m.length
 ·have hlen':(l.length:Int)=(m.length:Int):=by omega
  simp(disch:=omega) only[go_sem,↓reduceIte,hlen'];obtain⟨I,hI⟩: ∃I:Nat->(Nat->DVal)->Aa->Prop,∀k env heap,I k env heap↔(env 0= .vslice (l.flatMap Hy) l.length/\env 1= .vslice (m.flatMap Hy) m.length/\env 2= .func (.func g) [] []/\env 15= .vslice (l.flatMap Hy) l.length/\env 16=dI m.length/\env 17=dI k/\k<=l.length/\eqF p l m=eqF p (l.drop k) (m.drop k)/\Sub H heap):=⟨_,fun _ _ _=>Iff.rfl⟩;refine Bq8.run I (fun k=>l.length-k) 0 ((hI _ _ _).2 ?_) ?_
  ·simp(disch:=omega) only[go_sem,↓reduceIte];(repeat' apply And.intro)<;>(try first | rfl | assumption | omega);exact Sub.refl _
  ·intro k env heap hi;obtain⟨e0,e1,e2,e15,e16,e17,hk,hsm,hsub⟩:=(hI _ _ _).1 hi;have hfl:=Bf Co l;have hfm:=Bf Co m;by_cases hlt:k<l.length
   ·have hlt':(k:Int)<(m.length:Int):=by omega
    have hlt2:(k:Int)<(l.length:Int):=by omega
    have hkm:k<m.length:=by omega
    have Bc:=Ci Co l k hlt;have hgetm:=Ci Co m k hkm;have hwd:IntKind.i64.wrap ((k:Int)+1)=((k+1:Nat):Int):=by rw[IntKind.wrap_i64];omega
    simp(disch:=omega) only[go_sem,↓reduceIte,e0,e1,e2,e15,e16,e17,hlt',hlt2,Bc,hgetm,hfl,hfm,Int.toNat_natCast];intro r8 hr8;dsimp only at hr8;simp(disch:=omega) only[go_sem,↓reduceIte,e0,e1,e2,e15,e16,e17,hlt',hlt2,Bc,hgetm,hfl,hfm,Int.toNat_natCast];intro r9 hr9;dsimp only at hr9;obtain⟨m2,m1,hr9'⟩:=Cm6.1 hr9;simp(disch:=omega) only[go_sem,↓reduceIte,e0,e1,e2,e15,e16,e17,m1,m2,Bc,hgetm,hfl,hfm,Int.toNat_natCast];refine(hp l[k] (List.getElem_mem hlt) m[k] (List.getElem_mem hkm) _).mono ?_;rintro _ H1 ⟨rfl,rfl⟩;rw[El hlt hkm] at hsm;have hs1:=(hsub.new hr8 (some (DObj.cells (Hy l[k]) 128))).new hr9 (some (DObj.cells (Hy m[k]) 128));cases hb:p l[k] m[k] with
    | true=>
     rw[hb,Bool.true_and] at hsm;simp(disch:=omega) only[go_sem,↓reduceIte,e0,e1,e2,e15,e16,e17];refine⟨k+1,_,Pn.refl _,(hI _ _ _).2 ?_,by omega⟩;simp(disch:=omega) only[go_sem,↓reduceIte,e0,e1,e2,e15,e16,e17,hwd];(repeat' apply And.intro)<;>(try first | rfl | assumption | omega)
    | false=>
     rw[hb,Bool.false_and] at hsm;simp(disch:=omega) only[go_sem,↓reduceIte,e0,e1,e2,e15,e16,e17];exact Ax1.sub hs1 (Ax1.refl ⟨by rw[hsm],rfl⟩)
   ·have:k=l.length:=by omega
    subst this;have hlt': ¬(l.length:Int)<(m.length:Int):=by omega
    simp(disch:=omega) only[go_sem,↓reduceIte,e0,e1,e2,e15,e16,e17,hlt'];refine Ax1.sub hsub (Ax1.refl ⟨?_,rfl⟩);rw[hsm,List.drop_length,hlen,List.drop_length];rfl
 ·have hlen': ¬(l.length:Int)=(m.length:Int):=by omega
  simp(disch:=omega) only[go_sem,↓reduceIte,hlen'];exact Ax1.refl ⟨by rw[Gr hlen],rfl⟩
section
variable (G:Nat->DVal) (H:Aa)
theorem n40 {l:List (List UInt8)} {n:Nat} (h:Wu n l) (hn:n<=1048576):l.length<=1099511627776:=by have:=h.1;omega
theorem l40 {α:Type} {f:Nat->α->Prop} {l:List α} {n:Nat} (h:Em f n l) (hn:n<=1048576):l.length<=1099511627776:=by have:=h.1;omega
theorem bft:(false==true)=false:=rfl
theorem btf:(true==false)=false:=rfl
theorem bff:(false==false)=true:=rfl
theorem btt:(true==true)=true:=rfl
theorem Cn4 {l:List Ch} (h:Af6 1048576 l):Hx l<=1099511627776:=by have:=h.1;omega
theorem Bz5 (a b:Par) (ha:Np 1048576 a) (hb:Np 1048576 b):Ar Tryz.prog G 64 ([]++ [.agg (Fg a), .agg (Fg b)]++ []) H (Cq (.bool (Da a b)) H):=by
 obtain⟨f0,f1,f2⟩:=ha;refine Ak Tryz.func64 Tryz.call64 rfl (by kernel_rfl) ?_;simp(disch:=omega) only[go_sem,↓reduceIte,DVal.cells,List.nil_append,List.append_nil];intro r2 hr2;dsimp only at hr2;obtain⟨K2,hK2⟩: ∃K',K'=upd H r2 (some (.cells (Fg a) 32)):=⟨_,rfl⟩;rw[<-hK2];have gr2:K2 r2=some (.cells (Fg a) 32):=by rw[hK2];exact Bo _ _ _
 have sK2:Sub H K2:=by rw[hK2];exact(Sub.refl _).new hr2 _
 simp(disch:=omega) only[go_sem,↓reduceIte,DVal.cells,List.nil_append,List.append_nil];intro r3 hr3;dsimp only at hr3;obtain⟨K,hK⟩: ∃K',K'=upd K2 r3 (some (.cells (Fg b) 32)):=⟨_,rfl⟩;rw[<-hK];have gr3:K r3=some (.cells (Fg b) 32):=by rw[hK];exact Bo _ _ _
 have sK:Sub K2 K:=by rw[hK];exact(Sub.refl _).new hr3 _
 have g2:K r2=some (.cells (Fg a) 32):=sK _ _ gr2;have g3:=gr3;have t:Sub H K:=sK2.trans sK;clear sK sK2 gr3 gr2 hK hK2;simp(disch:=omega) only[go_sem,↓reduceIte,g2,g3,Bi,Nq,Nr,Ns,Jg];refine Ar.monoR (Nt G K a.names b.names (n40 f0 (by omega)) (n40 hb.1 (by omega))) ?_;cases h1:decide (a.names=b.names)
 ·simp(disch:=omega) only[go_sem,↓reduceIte,g2,g3,Bi,Nq,Nr,Ns,Jg];exact Ax1.sub t (.refl ⟨by simp [Da, *],rfl⟩)
 simp(disch:=omega) only[go_sem,↓reduceIte,g2,g3,Bi,Nq,Nr,Ns,Jg];by_cases h2:a.mode=b.mode
 ·simp(disch:=omega) only[go_sem,↓reduceIte,g2,g3,h2,Bi,Nq,Nr,Ns,Jg];refine Ar.monoR (Dd G K a.type b.type (Ed f1 (by omega))) ?_;cases h3:Bb a.type b.type
  ·simp(disch:=omega) only[go_sem,↓reduceIte,g2,g3,Bi,Nq,Nr,Ns,Jg];exact Ax1.sub t (.refl ⟨by simp [Da, *],rfl⟩)
  simp(disch:=omega) only[go_sem,↓reduceIte,g2,g3,Bi,Nq,Nr,Ns,Jg];refine Ar.monoR (Dd G K a.e b.e (Ed f2 (by omega))) ?_;cases h4:Bb a.e b.e
  ·simp(disch:=omega) only[go_sem,↓reduceIte,g2,g3,Bi,Nq,Nr,Ns,Jg];exact Ax1.sub t (.refl ⟨by simp [Da, *],rfl⟩)
  simp(disch:=omega) only[go_sem,↓reduceIte,g2,g3,Bi,Nq,Nr,Ns,Jg];exact Ax1.sub t (.refl ⟨by simp [Da, *],rfl⟩)
 ·simp(disch:=omega) only[go_sem,↓reduceIte,g2,g3,h2,Bi,Nq,Nr,Ns,Jg];exact Ax1.sub t (.refl ⟨by simp [Da,h2],rfl⟩)
theorem Bz6 (a b:Asp) (ha:Rg 1048576 a):Ar Tryz.prog G 101 ([]++ [.agg (Gj a), .agg (Gj b)]++ []) H (Cq (.bool (Ei a b)) H):=by
 obtain⟨f0,f1⟩:=ha;refine Ak Tryz.func101 Tryz.call101 rfl (by kernel_rfl) ?_;simp(disch:=omega) only[go_sem,↓reduceIte,DVal.cells,List.nil_append,List.append_nil];intro r2 hr2;dsimp only at hr2;obtain⟨K2,hK2⟩: ∃K',K'=upd H r2 (some (.cells (Gj a) 110)):=⟨_,rfl⟩;rw[<-hK2];have gr2:K2 r2=some (.cells (Gj a) 110):=by rw[hK2];exact Bo _ _ _
 have sK2:Sub H K2:=by rw[hK2];exact(Sub.refl _).new hr2 _
 simp(disch:=omega) only[go_sem,↓reduceIte,DVal.cells,List.nil_append,List.append_nil];intro r3 hr3;dsimp only at hr3;obtain⟨K,hK⟩: ∃K',K'=upd K2 r3 (some (.cells (Gj b) 110)):=⟨_,rfl⟩;rw[<-hK];have gr3:K r3=some (.cells (Gj b) 110):=by rw[hK];exact Bo _ _ _
 have sK:Sub K2 K:=by rw[hK];exact(Sub.refl _).new hr3 _
 have g2:K r2=some (.cells (Gj a) 110):=sK _ _ gr2;have g3:=gr3;have t:Sub H K:=sK2.trans sK;clear sK sK2 gr3 gr2 hK hK2;simp(disch:=omega) only[go_sem,↓reduceIte,g2,g3,Cn,Wx,Wy];by_cases h2:a.name=b.name
 ·simp(disch:=omega) only[go_sem,↓reduceIte,g2,g3,h2,Cn,Wx,Wy];refine Ar.monoR (Dd G K a.e b.e (Ed f1 (by omega))) ?_;cases h4:Bb a.e b.e
  ·simp(disch:=omega) only[go_sem,↓reduceIte,g2,g3,Cn,Wx,Wy];exact Ax1.sub t (.refl ⟨by simp [Ei, *],rfl⟩)
  simp(disch:=omega) only[go_sem,↓reduceIte,g2,g3,Cn,Wx,Wy];exact Ax1.sub t (.refl ⟨by simp [Ei, *],rfl⟩)
 ·simp(disch:=omega) only[go_sem,↓reduceIte,g2,g3,h2,Cn,Wx,Wy];exact Ax1.sub t (.refl ⟨by simp [Ei,h2],rfl⟩)
theorem Bz7 (a b:Cmp) (ha:Lb 1048576 a) (hb:Lb 1048576 b):Ar Tryz.prog G 103 ([]++ [.agg (Fl a), .agg (Fl b)]++ []) H (Cq (.bool (Bj a b)) H):=by
 obtain⟨f0,f1,f2⟩:=ha;refine Ak Tryz.func103 Tryz.call103 rfl (by kernel_rfl) ?_;simp(disch:=omega) only[go_sem,↓reduceIte,DVal.cells,List.nil_append,List.append_nil];intro r2 hr2;dsimp only at hr2;obtain⟨K2,hK2⟩: ∃K',K'=upd H r2 (some (.cells (Fl a) 123)):=⟨_,rfl⟩;rw[<-hK2];have gr2:K2 r2=some (.cells (Fl a) 123):=by rw[hK2];exact Bo _ _ _
 have sK2:Sub H K2:=by rw[hK2];exact(Sub.refl _).new hr2 _
 simp(disch:=omega) only[go_sem,↓reduceIte,DVal.cells,List.nil_append,List.append_nil];intro r3 hr3;dsimp only at hr3;obtain⟨K,hK⟩: ∃K',K'=upd K2 r3 (some (.cells (Fl b) 123)):=⟨_,rfl⟩;rw[<-hK];have gr3:K r3=some (.cells (Fl b) 123):=by rw[hK];exact Bo _ _ _
 have sK:Sub K2 K:=by rw[hK];exact(Sub.refl _).new hr3 _
 have g2:K r2=some (.cells (Fl a) 123):=sK _ _ gr2;have g3:=gr3;have t:Sub H K:=sK2.trans sK;clear sK sK2 gr3 gr2 hK hK2;simp(disch:=omega) only[go_sem,↓reduceIte,g2,g3,Bv,Rh,Ri,Lz];refine Ar.monoR (Nt G K a.names b.names (n40 f0 (by omega)) (n40 hb.1 (by omega))) ?_;cases h1:decide (a.names=b.names)
 ·simp(disch:=omega) only[go_sem,↓reduceIte,g2,g3,Bv,Rh,Ri,Lz];exact Ax1.sub t (.refl ⟨by simp [Bj, *],rfl⟩)
 simp(disch:=omega) only[go_sem,↓reduceIte,g2,g3,Bv,Rh,Ri,Lz];refine Ar.monoR (Ip G K a.sub b.sub f1) ?_;cases h2:Ct a.sub b.sub
 ·simp(disch:=omega) only[go_sem,↓reduceIte,g2,g3,Bv,Rh,Ri,Lz];exact Ax1.sub t (.refl ⟨by simp [Bj, *],rfl⟩)
 simp(disch:=omega) only[go_sem,↓reduceIte,g2,g3,Bv,Rh,Ri,Lz];refine Ar.monoR (Dd G K a.e b.e (Ed f2 (by omega))) ?_;cases h4:Bb a.e b.e
 ·simp(disch:=omega) only[go_sem,↓reduceIte,g2,g3,Bv,Rh,Ri,Lz];exact Ax1.sub t (.refl ⟨by simp [Bj, *],rfl⟩)
 simp(disch:=omega) only[go_sem,↓reduceIte,g2,g3,Bv,Rh,Ri,Lz];exact Ax1.sub t (.refl ⟨by simp [Bj, *],rfl⟩)
theorem Mn (a b:List Par) (ha:Em Np 1048576 a) (hb:Em Np 1048576 b):Ar Tryz.prog G 12 [Kb a,Kb b] H (Cq (.bool (Ey Da a b)) H):=by
 refine Ak Tryz.func12 Tryz.call12 rfl (by kernel_rfl) ?_;simp(disch:=omega) only[go_sem,↓reduceIte,Kb];refine Ar.monoR (Bz2 G H Da a b 64 (l40 ha (by omega)) fun x hx y hy K=>Bz5 G K x y (ha.2 x hx) (hb.2 y hy)) ?_;simp(disch:=omega) only[go_sem,↓reduceIte];exact Ax1.refl ⟨by rw[De],rfl⟩
theorem Lc (a b:List Asp) (ha:Em Rg 1048576 a):Ar Tryz.prog G 33 [Kc a,Kc b] H (Cq (.bool (Ey Ei a b)) H):=by
 refine Ak Tryz.func33 Tryz.call33 rfl (by kernel_rfl) ?_;simp(disch:=omega) only[go_sem,↓reduceIte,Kc];refine Ar.monoR (Bz3 G H Ei a b 101 (l40 ha (by omega)) fun x hx y hy K=>Bz6 G K x y (ha.2 x hx)) ?_;simp(disch:=omega) only[go_sem,↓reduceIte];exact Ax1.refl ⟨by rw[De],rfl⟩
theorem Ca (a b:List Cmp) (ha:Em Lb 1048576 a) (hb:Em Lb 1048576 b):Ar Tryz.prog G 35 [Gf a,Gf b] H (Cq (.bool (Ey Bj a b)) H):=by
 refine Ak Tryz.func35 Tryz.call35 rfl (by kernel_rfl) ?_;simp(disch:=omega) only[go_sem,↓reduceIte,Gf];refine Ar.monoR (Bz4 G H Bj a b 103 (l40 ha (by omega)) fun x hx y hy K=>Bz7 G K x y (ha.2 x hx) (hb.2 y hy)) ?_;simp(disch:=omega) only[go_sem,↓reduceIte];exact Ax1.refl ⟨by rw[De],rfl⟩
theorem Ap6 (a b:Arm) (ha:Ww 1048576 a) (hb:Ww 1048576 b):Ar Tryz.prog G 105 ([]++ [.agg (Hy a), .agg (Hy b)]++ []) H (Cq (.bool (Cv a b)) H):=by
 obtain⟨f0,f1⟩:=ha;refine Ak Tryz.func105 Tryz.call105 rfl (by kernel_rfl) ?_;simp(disch:=omega) only[go_sem,↓reduceIte,DVal.cells,List.nil_append,List.append_nil];intro r2 hr2;dsimp only at hr2;obtain⟨K2,hK2⟩: ∃K',K'=upd H r2 (some (.cells (Hy a) 128)):=⟨_,rfl⟩;rw[<-hK2];have gr2:K2 r2=some (.cells (Hy a) 128):=by rw[hK2];exact Bo _ _ _
 have sK2:Sub H K2:=by rw[hK2];exact(Sub.refl _).new hr2 _
 simp(disch:=omega) only[go_sem,↓reduceIte,DVal.cells,List.nil_append,List.append_nil];intro r3 hr3;dsimp only at hr3;obtain⟨K,hK⟩: ∃K',K'=upd K2 r3 (some (.cells (Hy b) 128)):=⟨_,rfl⟩;rw[<-hK];have gr3:K r3=some (.cells (Hy b) 128):=by rw[hK];exact Bo _ _ _
 have sK:Sub K2 K:=by rw[hK];exact(Sub.refl _).new hr3 _
 have g2:K r2=some (.cells (Hy a) 128):=sK _ _ gr2;have g3:=gr3;have t:Sub H K:=sK2.trans sK;clear sK sK2 gr3 gr2 hK hK2;simp(disch:=omega) only[go_sem,↓reduceIte,g2,g3,Co,Wz,Xa];refine Ar.monoR (Tc G K a.c b.c (Cn4 f0)) ?_;cases h1:Dy a.c b.c
 ·simp(disch:=omega) only[go_sem,↓reduceIte,g2,g3,Co,Wz,Xa];exact Ax1.sub t (.refl ⟨by simp [Cv, *],rfl⟩)
 simp(disch:=omega) only[go_sem,↓reduceIte,g2,g3,Co,Wz,Xa];refine Ar.monoR (Ca G K a.comps b.comps f1 hb.2) ?_;cases h4:Ey Bj a.comps b.comps
 ·simp(disch:=omega) only[go_sem,↓reduceIte,g2,g3,Co,Wz,Xa];exact Ax1.sub t (.refl ⟨by simp [Cv, *],rfl⟩)
 simp(disch:=omega) only[go_sem,↓reduceIte,g2,g3,Co,Wz,Xa];exact Ax1.sub t (.refl ⟨by simp [Cv, *],rfl⟩)
set_option maxHeartbeats 40000000 in
theorem Rk (a b:Typ) (ha:Ug 1048576 a) (hb:Ug 1048576 b):Ar Tryz.prog G 37 [.agg (Ec a), .agg (Ec b)] H (Cq (.bool (Al a b)) H):=by
 obtain⟨f0,f1,f2,f3,f4,f5,f6,f7⟩:=ha;refine Ak Tryz.func37 Tryz.call37 rfl (by kernel_rfl) ?_;simp(disch:=omega) only[go_sem,↓reduceIte,DVal.cells];intro r2 hr2;dsimp only at hr2;obtain⟨K2,hK2⟩: ∃K',K'=upd H r2 (some (.cells (Ec a) 53)):=⟨_,rfl⟩;rw[<-hK2];have gr2:K2 r2=some (.cells (Ec a) 53):=by rw[hK2];exact Bo _ _ _
 have sK2:Sub H K2:=by rw[hK2];exact(Sub.refl _).new hr2 _
 simp(disch:=omega) only[go_sem,↓reduceIte,DVal.cells];intro r3 hr3;dsimp only at hr3;obtain⟨K,hK⟩: ∃K',K'=upd K2 r3 (some (.cells (Ec b) 53)):=⟨_,rfl⟩;rw[<-hK];have gr3:K r3=some (.cells (Ec b) 53):=by rw[hK];exact Bo _ _ _
 have sK:Sub K2 K:=by rw[hK];exact(Sub.refl _).new hr3 _
 have g2:K r2=some (.cells (Ec a) 53):=sK _ _ gr2;have g3:=gr3;have t:Sub H K:=sK2.trans sK;clear sK sK2 gr3 gr2 hK hK2;by_cases h0:a.kind=b.kind
 ·simp(disch:=omega) only[go_sem,↓reduceIte,g2,g3,Ab,Am,An,Ao,Ac,Ad,Ae,Af,Ag,Ah,Ai,h0];refine Ar.monoR (Nt G K a.names b.names (n40 f0 (by omega)) (n40 hb.1 (by omega))) ?_;cases h1:decide (a.names=b.names)
  ·simp(disch:=omega) only[go_sem,↓reduceIte,g2,g3,Ab,Am,An,Ao,Ac,Ad,Ae,Af,Ag,Ah,Ai];refine Ar.monoR (Dr G K a.disc b.disc f4) ?_;cases h5:Cu a.disc b.disc
   ·simp(disch:=omega) only[go_sem,↓reduceIte,g2,g3,Ab,Am,An,Ao,Ac,Ad,Ae,Af,Ag,Ah,Ai];exact Ax1.sub t (.refl ⟨by simp [Al, *],rfl⟩)
   simp(disch:=omega) only[go_sem,↓reduceIte,g2,g3,Ab,Am,An,Ao,Ac,Ad,Ae,Af,Ag,Ah,Ai];refine Ar.monoR (Ca G K a.comps b.comps f5 hb.2.2.2.2.2.1) ?_;cases h6:Ey Bj a.comps b.comps
   ·simp(disch:=omega) only[go_sem,↓reduceIte,g2,g3,Ab,Am,An,Ao,Ac,Ad,Ae,Af,Ag,Ah,Ai];exact Ax1.sub t (.refl ⟨by simp [Al, *],rfl⟩)
   simp(disch:=omega) only[go_sem,↓reduceIte,g2,g3,Ab,Am,An,Ao,Ac,Ad,Ae,Af,Ag,Ah,Ai];by_cases h7:a.var=b.var
   ·simp(disch:=omega) only[go_sem,↓reduceIte,g2,g3,Ab,Am,An,Ao,Ac,Ad,Ae,Af,Ag,Ah,Ai,h7];cases h8:a.limited<;>cases h9:b.limited
    ·try simp(disch:=omega) only[go_sem,↓reduceIte,g2,g3,Ab,Am,An,Ao,Ac,Ad,Ae,Af,Ag,Ah,Ai,h8,h9,bft,btf,bff,btt]
     exact Ax1.sub t (.refl ⟨by simp [Al, *],rfl⟩)
    ·try simp(disch:=omega) only[go_sem,↓reduceIte,g2,g3,Ab,Am,An,Ao,Ac,Ad,Ae,Af,Ag,Ah,Ai,h8,h9,bft,btf,bff,btt]
     exact Ax1.sub t (.refl ⟨by simp [Al, *],rfl⟩)
    ·try simp(disch:=omega) only[go_sem,↓reduceIte,g2,g3,Ab,Am,An,Ao,Ac,Ad,Ae,Af,Ag,Ah,Ai,h8,h9,bft,btf,bff,btt]
     exact Ax1.sub t (.refl ⟨by simp [Al, *],rfl⟩)
    ·try simp(disch:=omega) only[go_sem,↓reduceIte,g2,g3,Ab,Am,An,Ao,Ac,Ad,Ae,Af,Ag,Ah,Ai,h8,h9,bft,btf,bff,btt]
     exact Ax1.sub t (.refl ⟨by simp [Al, *],rfl⟩)
   ·simp(disch:=omega) only[go_sem,↓reduceIte,g2,g3,Ab,Am,An,Ao,Ac,Ad,Ae,Af,Ag,Ah,Ai,h7];exact Ax1.sub t (.refl ⟨by simp [Al, *],rfl⟩)
  simp(disch:=omega) only[go_sem,↓reduceIte,g2,g3,Ab,Am,An,Ao,Ac,Ad,Ae,Af,Ag,Ah,Ai];refine Ar.monoR (Dd G K a.lo b.lo (Ed f1 (by omega))) ?_;cases h2:Bb a.lo b.lo
  ·simp(disch:=omega) only[go_sem,↓reduceIte,g2,g3,Ab,Am,An,Ao,Ac,Ad,Ae,Af,Ag,Ah,Ai];refine Ar.monoR (Dr G K a.disc b.disc f4) ?_;cases h5:Cu a.disc b.disc
   ·simp(disch:=omega) only[go_sem,↓reduceIte,g2,g3,Ab,Am,An,Ao,Ac,Ad,Ae,Af,Ag,Ah,Ai];exact Ax1.sub t (.refl ⟨by simp [Al, *],rfl⟩)
   simp(disch:=omega) only[go_sem,↓reduceIte,g2,g3,Ab,Am,An,Ao,Ac,Ad,Ae,Af,Ag,Ah,Ai];refine Ar.monoR (Ca G K a.comps b.comps f5 hb.2.2.2.2.2.1) ?_;cases h6:Ey Bj a.comps b.comps
   ·simp(disch:=omega) only[go_sem,↓reduceIte,g2,g3,Ab,Am,An,Ao,Ac,Ad,Ae,Af,Ag,Ah,Ai];exact Ax1.sub t (.refl ⟨by simp [Al, *],rfl⟩)
   simp(disch:=omega) only[go_sem,↓reduceIte,g2,g3,Ab,Am,An,Ao,Ac,Ad,Ae,Af,Ag,Ah,Ai];by_cases h7:a.var=b.var
   ·simp(disch:=omega) only[go_sem,↓reduceIte,g2,g3,Ab,Am,An,Ao,Ac,Ad,Ae,Af,Ag,Ah,Ai,h7];cases h8:a.limited<;>cases h9:b.limited
    ·try simp(disch:=omega) only[go_sem,↓reduceIte,g2,g3,Ab,Am,An,Ao,Ac,Ad,Ae,Af,Ag,Ah,Ai,h8,h9,bft,btf,bff,btt]
     exact Ax1.sub t (.refl ⟨by simp [Al, *],rfl⟩)
    ·try simp(disch:=omega) only[go_sem,↓reduceIte,g2,g3,Ab,Am,An,Ao,Ac,Ad,Ae,Af,Ag,Ah,Ai,h8,h9,bft,btf,bff,btt]
     exact Ax1.sub t (.refl ⟨by simp [Al, *],rfl⟩)
    ·try simp(disch:=omega) only[go_sem,↓reduceIte,g2,g3,Ab,Am,An,Ao,Ac,Ad,Ae,Af,Ag,Ah,Ai,h8,h9,bft,btf,bff,btt]
     exact Ax1.sub t (.refl ⟨by simp [Al, *],rfl⟩)
    ·try simp(disch:=omega) only[go_sem,↓reduceIte,g2,g3,Ab,Am,An,Ao,Ac,Ad,Ae,Af,Ag,Ah,Ai,h8,h9,bft,btf,bff,btt]
     exact Ax1.sub t (.refl ⟨by simp [Al, *],rfl⟩)
   ·simp(disch:=omega) only[go_sem,↓reduceIte,g2,g3,Ab,Am,An,Ao,Ac,Ad,Ae,Af,Ag,Ah,Ai,h7];exact Ax1.sub t (.refl ⟨by simp [Al, *],rfl⟩)
  simp(disch:=omega) only[go_sem,↓reduceIte,g2,g3,Ab,Am,An,Ao,Ac,Ad,Ae,Af,Ag,Ah,Ai];refine Ar.monoR (Dd G K a.hi b.hi (Ed f2 (by omega))) ?_;cases h3:Bb a.hi b.hi
  ·simp(disch:=omega) only[go_sem,↓reduceIte,g2,g3,Ab,Am,An,Ao,Ac,Ad,Ae,Af,Ag,Ah,Ai];refine Ar.monoR (Dr G K a.disc b.disc f4) ?_;cases h5:Cu a.disc b.disc
   ·simp(disch:=omega) only[go_sem,↓reduceIte,g2,g3,Ab,Am,An,Ao,Ac,Ad,Ae,Af,Ag,Ah,Ai];exact Ax1.sub t (.refl ⟨by simp [Al, *],rfl⟩)
   simp(disch:=omega) only[go_sem,↓reduceIte,g2,g3,Ab,Am,An,Ao,Ac,Ad,Ae,Af,Ag,Ah,Ai];refine Ar.monoR (Ca G K a.comps b.comps f5 hb.2.2.2.2.2.1) ?_;cases h6:Ey Bj a.comps b.comps
   ·simp(disch:=omega) only[go_sem,↓reduceIte,g2,g3,Ab,Am,An,Ao,Ac,Ad,Ae,Af,Ag,Ah,Ai];exact Ax1.sub t (.refl ⟨by simp [Al, *],rfl⟩)
   simp(disch:=omega) only[go_sem,↓reduceIte,g2,g3,Ab,Am,An,Ao,Ac,Ad,Ae,Af,Ag,Ah,Ai];by_cases h7:a.var=b.var
   ·simp(disch:=omega) only[go_sem,↓reduceIte,g2,g3,Ab,Am,An,Ao,Ac,Ad,Ae,Af,Ag,Ah,Ai,h7];cases h8:a.limited<;>cases h9:b.limited
    ·try simp(disch:=omega) only[go_sem,↓reduceIte,g2,g3,Ab,Am,An,Ao,Ac,Ad,Ae,Af,Ag,Ah,Ai,h8,h9,bft,btf,bff,btt]
     exact Ax1.sub t (.refl ⟨by simp [Al, *],rfl⟩)
    ·try simp(disch:=omega) only[go_sem,↓reduceIte,g2,g3,Ab,Am,An,Ao,Ac,Ad,Ae,Af,Ag,Ah,Ai,h8,h9,bft,btf,bff,btt]
     exact Ax1.sub t (.refl ⟨by simp [Al, *],rfl⟩)
    ·try simp(disch:=omega) only[go_sem,↓reduceIte,g2,g3,Ab,Am,An,Ao,Ac,Ad,Ae,Af,Ag,Ah,Ai,h8,h9,bft,btf,bff,btt]
     exact Ax1.sub t (.refl ⟨by simp [Al, *],rfl⟩)
    ·try simp(disch:=omega) only[go_sem,↓reduceIte,g2,g3,Ab,Am,An,Ao,Ac,Ad,Ae,Af,Ag,Ah,Ai,h8,h9,bft,btf,bff,btt]
     exact Ax1.sub t (.refl ⟨by simp [Al, *],rfl⟩)
   ·simp(disch:=omega) only[go_sem,↓reduceIte,g2,g3,Ab,Am,An,Ao,Ac,Ad,Ae,Af,Ag,Ah,Ai,h7];exact Ax1.sub t (.refl ⟨by simp [Al, *],rfl⟩)
  simp(disch:=omega) only[go_sem,↓reduceIte,g2,g3,Ab,Am,An,Ao,Ac,Ad,Ae,Af,Ag,Ah,Ai];refine Ar.monoR (Ip G K a.sub b.sub f3) ?_;cases h4:Ct a.sub b.sub
  ·simp(disch:=omega) only[go_sem,↓reduceIte,g2,g3,Ab,Am,An,Ao,Ac,Ad,Ae,Af,Ag,Ah,Ai];refine Ar.monoR (Dr G K a.disc b.disc f4) ?_;cases h5:Cu a.disc b.disc
   ·simp(disch:=omega) only[go_sem,↓reduceIte,g2,g3,Ab,Am,An,Ao,Ac,Ad,Ae,Af,Ag,Ah,Ai];exact Ax1.sub t (.refl ⟨by simp [Al, *],rfl⟩)
   simp(disch:=omega) only[go_sem,↓reduceIte,g2,g3,Ab,Am,An,Ao,Ac,Ad,Ae,Af,Ag,Ah,Ai];refine Ar.monoR (Ca G K a.comps b.comps f5 hb.2.2.2.2.2.1) ?_;cases h6:Ey Bj a.comps b.comps
   ·simp(disch:=omega) only[go_sem,↓reduceIte,g2,g3,Ab,Am,An,Ao,Ac,Ad,Ae,Af,Ag,Ah,Ai];exact Ax1.sub t (.refl ⟨by simp [Al, *],rfl⟩)
   simp(disch:=omega) only[go_sem,↓reduceIte,g2,g3,Ab,Am,An,Ao,Ac,Ad,Ae,Af,Ag,Ah,Ai];by_cases h7:a.var=b.var
   ·simp(disch:=omega) only[go_sem,↓reduceIte,g2,g3,Ab,Am,An,Ao,Ac,Ad,Ae,Af,Ag,Ah,Ai,h7];cases h8:a.limited<;>cases h9:b.limited
    ·try simp(disch:=omega) only[go_sem,↓reduceIte,g2,g3,Ab,Am,An,Ao,Ac,Ad,Ae,Af,Ag,Ah,Ai,h8,h9,bft,btf,bff,btt]
     exact Ax1.sub t (.refl ⟨by simp [Al, *],rfl⟩)
    ·try simp(disch:=omega) only[go_sem,↓reduceIte,g2,g3,Ab,Am,An,Ao,Ac,Ad,Ae,Af,Ag,Ah,Ai,h8,h9,bft,btf,bff,btt]
     exact Ax1.sub t (.refl ⟨by simp [Al, *],rfl⟩)
    ·try simp(disch:=omega) only[go_sem,↓reduceIte,g2,g3,Ab,Am,An,Ao,Ac,Ad,Ae,Af,Ag,Ah,Ai,h8,h9,bft,btf,bff,btt]
     exact Ax1.sub t (.refl ⟨by simp [Al, *],rfl⟩)
    ·try simp(disch:=omega) only[go_sem,↓reduceIte,g2,g3,Ab,Am,An,Ao,Ac,Ad,Ae,Af,Ag,Ah,Ai,h8,h9,bft,btf,bff,btt]
     exact Ax1.sub t (.refl ⟨by simp [Al, *],rfl⟩)
   ·simp(disch:=omega) only[go_sem,↓reduceIte,g2,g3,Ab,Am,An,Ao,Ac,Ad,Ae,Af,Ag,Ah,Ai,h7];exact Ax1.sub t (.refl ⟨by simp [Al, *],rfl⟩)
  simp(disch:=omega) only[go_sem,↓reduceIte,g2,g3,Ab,Am,An,Ao,Ac,Ad,Ae,Af,Ag,Ah,Ai];refine Ar.monoR (Dr G K a.disc b.disc f4) ?_;cases h5:Cu a.disc b.disc
  ·simp(disch:=omega) only[go_sem,↓reduceIte,g2,g3,Ab,Am,An,Ao,Ac,Ad,Ae,Af,Ag,Ah,Ai];exact Ax1.sub t (.refl ⟨by simp [Al, *],rfl⟩)
  simp(disch:=omega) only[go_sem,↓reduceIte,g2,g3,Ab,Am,An,Ao,Ac,Ad,Ae,Af,Ag,Ah,Ai];refine Ar.monoR (Ca G K a.comps b.comps f5 hb.2.2.2.2.2.1) ?_;cases h6:Ey Bj a.comps b.comps
  ·simp(disch:=omega) only[go_sem,↓reduceIte,g2,g3,Ab,Am,An,Ao,Ac,Ad,Ae,Af,Ag,Ah,Ai];exact Ax1.sub t (.refl ⟨by simp [Al, *],rfl⟩)
  simp(disch:=omega) only[go_sem,↓reduceIte,g2,g3,Ab,Am,An,Ao,Ac,Ad,Ae,Af,Ag,Ah,Ai];by_cases h7:a.var=b.var
  ·simp(disch:=omega) only[go_sem,↓reduceIte,g2,g3,Ab,Am,An,Ao,Ac,Ad,Ae,Af,Ag,Ah,Ai,h7];cases h8:a.limited<;>cases h9:b.limited
   ·try simp(disch:=omega) only[go_sem,↓reduceIte,g2,g3,Ab,Am,An,Ao,Ac,Ad,Ae,Af,Ag,Ah,Ai,h8,h9,Ij,bft,btf,bff,btt]
    refine Ar.monoR (Ap5 G K Cv a.arms b.arms 105 (l40 f7 (by omega)) fun x hx y hy K=>Ap6 G K x y (f7.2 x hx) (hb.2.2.2.2.2.2.2.2 y hy)) ?_;rw[<-De Cv a.arms b.arms];cases h10:Ey Cv a.arms b.arms
    ·simp(disch:=omega) only[go_sem,↓reduceIte,g2,g3,Ab,Am,An,Ao,Ac,Ad,Ae,Af,Ag,Ah,Ai];exact Ax1.sub t (.refl ⟨by simp [Al, *],rfl⟩)
    simp(disch:=omega) only[go_sem,↓reduceIte,g2,g3,Ab,Am,An,Ao,Ac,Ad,Ae,Af,Ag,Ah,Ai];exact Ax1.sub t (.refl ⟨by simp [Al, *],rfl⟩)
   ·try simp(disch:=omega) only[go_sem,↓reduceIte,g2,g3,Ab,Am,An,Ao,Ac,Ad,Ae,Af,Ag,Ah,Ai,h8,h9,bft,btf,bff,btt]
    exact Ax1.sub t (.refl ⟨by simp [Al, *],rfl⟩)
   ·try simp(disch:=omega) only[go_sem,↓reduceIte,g2,g3,Ab,Am,An,Ao,Ac,Ad,Ae,Af,Ag,Ah,Ai,h8,h9,bft,btf,bff,btt]
    exact Ax1.sub t (.refl ⟨by simp [Al, *],rfl⟩)
   ·try simp(disch:=omega) only[go_sem,↓reduceIte,g2,g3,Ab,Am,An,Ao,Ac,Ad,Ae,Af,Ag,Ah,Ai,h8,h9,Ij,bft,btf,bff,btt]
    refine Ar.monoR (Ap5 G K Cv a.arms b.arms 105 (l40 f7 (by omega)) fun x hx y hy K=>Ap6 G K x y (f7.2 x hx) (hb.2.2.2.2.2.2.2.2 y hy)) ?_;rw[<-De Cv a.arms b.arms];cases h10:Ey Cv a.arms b.arms
    ·simp(disch:=omega) only[go_sem,↓reduceIte,g2,g3,Ab,Am,An,Ao,Ac,Ad,Ae,Af,Ag,Ah,Ai];exact Ax1.sub t (.refl ⟨by simp [Al, *],rfl⟩)
    simp(disch:=omega) only[go_sem,↓reduceIte,g2,g3,Ab,Am,An,Ao,Ac,Ad,Ae,Af,Ag,Ah,Ai];exact Ax1.sub t (.refl ⟨by simp [Al, *],rfl⟩)
  ·simp(disch:=omega) only[go_sem,↓reduceIte,g2,g3,Ab,Am,An,Ao,Ac,Ad,Ae,Af,Ag,Ah,Ai,h7];exact Ax1.sub t (.refl ⟨by simp [Al, *],rfl⟩)
 ·simp(disch:=omega) only[go_sem,↓reduceIte,g2,g3,Ab,Am,An,Ao,Ac,Ad,Ae,Af,Ag,Ah,Ai,h0];refine Ar.monoR (Dr G K a.disc b.disc f4) ?_;cases h5:Cu a.disc b.disc
  ·simp(disch:=omega) only[go_sem,↓reduceIte,g2,g3,Ab,Am,An,Ao,Ac,Ad,Ae,Af,Ag,Ah,Ai];exact Ax1.sub t (.refl ⟨by simp [Al, *],rfl⟩)
  simp(disch:=omega) only[go_sem,↓reduceIte,g2,g3,Ab,Am,An,Ao,Ac,Ad,Ae,Af,Ag,Ah,Ai];refine Ar.monoR (Ca G K a.comps b.comps f5 hb.2.2.2.2.2.1) ?_;cases h6:Ey Bj a.comps b.comps
  ·simp(disch:=omega) only[go_sem,↓reduceIte,g2,g3,Ab,Am,An,Ao,Ac,Ad,Ae,Af,Ag,Ah,Ai];exact Ax1.sub t (.refl ⟨by simp [Al, *],rfl⟩)
  simp(disch:=omega) only[go_sem,↓reduceIte,g2,g3,Ab,Am,An,Ao,Ac,Ad,Ae,Af,Ag,Ah,Ai];by_cases h7:a.var=b.var
  ·simp(disch:=omega) only[go_sem,↓reduceIte,g2,g3,Ab,Am,An,Ao,Ac,Ad,Ae,Af,Ag,Ah,Ai,h7];cases h8:a.limited<;>cases h9:b.limited
   ·try simp(disch:=omega) only[go_sem,↓reduceIte,g2,g3,Ab,Am,An,Ao,Ac,Ad,Ae,Af,Ag,Ah,Ai,h8,h9,bft,btf,bff,btt]
    exact Ax1.sub t (.refl ⟨by simp [Al, *],rfl⟩)
   ·try simp(disch:=omega) only[go_sem,↓reduceIte,g2,g3,Ab,Am,An,Ao,Ac,Ad,Ae,Af,Ag,Ah,Ai,h8,h9,bft,btf,bff,btt]
    exact Ax1.sub t (.refl ⟨by simp [Al, *],rfl⟩)
   ·try simp(disch:=omega) only[go_sem,↓reduceIte,g2,g3,Ab,Am,An,Ao,Ac,Ad,Ae,Af,Ag,Ah,Ai,h8,h9,bft,btf,bff,btt]
    exact Ax1.sub t (.refl ⟨by simp [Al, *],rfl⟩)
   ·try simp(disch:=omega) only[go_sem,↓reduceIte,g2,g3,Ab,Am,An,Ao,Ac,Ad,Ae,Af,Ag,Ah,Ai,h8,h9,bft,btf,bff,btt]
    exact Ax1.sub t (.refl ⟨by simp [Al, *],rfl⟩)
  ·simp(disch:=omega) only[go_sem,↓reduceIte,g2,g3,Ab,Am,An,Ao,Ac,Ad,Ae,Af,Ag,Ah,Ai,h7];exact Ax1.sub t (.refl ⟨by simp [Al, *],rfl⟩)
end
end Go.Dl

-- Chapter 4: what is the same, by the reference.
namespace Go.Dl
open Go Go.Proofs
set_option maxRecDepth 100000
section
variable (G:Nat->DVal) (H:Aa)
theorem Ic (a b:List (List UInt8)) (ha:a.length<=1099511627776) (hb:b.length<=1099511627776):Ar Tryz.prog G 99 [dW a,dW b] H (Cq (.bool (decide (a=b))) H):=by
 refine Ak Tryz.func99 Tryz.call99 rfl (by kernel_rfl) ?_;by_cases hl:a.length=b.length
 ·have hl':(a.length:Int)=(b.length:Int):=by omega
  simp(disch:=omega) only[go_sem,↓reduceIte,hl',dW];obtain⟨I,hI⟩: ∃I:Nat->(Nat->DVal)->Aa->Prop,∀i env heap,I i env heap↔(H=heap/\env 0= .vslice (a.map .str) a.length/\env 1= .vslice (b.map .str) b.length/\env 5=dI i/\i<=a.length/\a.take i=b.take i):=⟨_,fun _ _ _=>Iff.rfl⟩;refine Bq8.run I (fun i=>a.length-i) 0 ((hI _ _ _).2 ?_) ?_
  ·simp(disch:=omega) only[go_sem,↓reduceIte,dW];simp
  ·intro i env heap hi;obtain⟨rfl,h0,h1,h5,hi,ht⟩:=(hI _ _ _).1 hi;by_cases hlt:i<a.length
   ·have hlt':i<b.length:=by omega
    have hlti:(i:Int)<(a.length:Int):=by omega
    have hwd:IntKind.i64.wrap ((i:Int)+1)=((i+1:Nat):Int):=by rw[IntKind.wrap_i64];omega
    by_cases hx:a[i]=b[i]
    ·simp(disch:=omega) only[go_sem,↓reduceIte,h0,h1,h5,hlti];refine Dc (by kernel_rfl) (.take 0 (.take 1 (.take 2 (.take 3 (.take 4 (.take 5 (.take 6 (.take 7 (.take 8 .done))))))))) (by kernel_rfl) ?_;simp(disch:=omega) only[go_sem,↓reduceIte,h0,h1,h5,hx,hlti];refine⟨i+1,_,Pn.refl _,(hI _ _ _).2 ?_,by omega⟩;simp(disch:=omega) only[go_sem,↓reduceIte,h0,h1,h5,hwd];(repeat' apply And.intro)<;>(try first | rfl | assumption | omega);exact Oy hlt hlt' ht hx
    ·simp(disch:=omega) only[go_sem,↓reduceIte,h0,h1,h5,hlti];refine Dc (by kernel_rfl) (.take 0 (.take 1 (.take 2 (.take 3 (.take 4 (.take 5 (.take 6 (.take 7 (.take 8 .done))))))))) (by kernel_rfl) ?_;simp(disch:=omega) only[go_sem,↓reduceIte,h0,h1,h5,hx,hlti];refine Ax1.refl ⟨?_,rfl⟩;rw[decide_eq_false (fun e=>hx (by subst e;rfl))]
   ·have hlti: ¬(i:Int)<(a.length:Int):=by omega
    simp(disch:=omega) only[go_sem,↓reduceIte,h0,h1,h5,hlti];refine Ax1.refl ⟨?_,rfl⟩;have:a=b:=by
     rw[List.take_of_length_le (by omega),List.take_of_length_le (by omega)] at ht;exact ht
    rw[decide_eq_true this]
 ·have hl': ¬(a.length:Int)=(b.length:Int):=by omega
  simp(disch:=omega) only[go_sem,↓reduceIte,hl',dW];refine Ax1.refl ⟨?_,rfl⟩;rw[decide_eq_false (fun e=>hl (by rw[e]))]
set_option maxHeartbeats 40000000 in
theorem Tf (l m:List Par) (ha:Em Np 1048576 l) (hb:Em Np 1048576 m):Ar Tryz.prog G 32 [Kb l,Kb m] H (Cq (.bool (eqF Da l m)) H):=by
 have hll:=ha.1;refine Ak Tryz.func32 Tryz.call32 rfl (by kernel_rfl) ?_;by_cases hlen:l.length=m.length
 ·have hlen':(l.length:Int)=(m.length:Int):=by omega
  simp(disch:=omega) only[go_sem,↓reduceIte,hlen',Kb];obtain⟨I,hI⟩: ∃I:Nat->(Nat->DVal)->Aa->Prop,∀k env heap,I k env heap↔(env 0= .vslice (l.flatMap Fg) l.length/\env 1= .vslice (m.flatMap Fg) m.length/\env 5=dI k/\k<=l.length/\eqF Da l m=eqF Da (l.drop k) (m.drop k)/\H=heap):=⟨_,fun _ _ _=>Iff.rfl⟩;refine Bq8.run I (fun k=>l.length-k) 0 ((hI _ _ _).2 ?_) ?_
  ·simp(disch:=omega) only[go_sem,↓reduceIte,hlen',Kb];simp
  ·intro k env heap hi;obtain⟨e0,e1,e5,hk,hsm,rfl⟩:=(hI _ _ _).1 hi;have hfl:=Bf Bi l;have hfm:=Bf Bi m;by_cases hlt:k<l.length
   ·have hlt2:(k:Int)<(l.length:Int):=by omega
    have hlt3:(k:Int)<(m.length:Int):=by omega
    have hkm:k<m.length:=by omega
    have hwd:IntKind.i64.wrap ((k:Int)+1)=((k+1:Nat):Int):=by rw[IntKind.wrap_i64];omega
    rw[El hlt hkm] at hsm;have mx:=List.getElem_mem hlt;have my:=List.getElem_mem hkm;have x0:=Ce Bi l k hlt 0 (by decide);rw[Nq] at x0;have x0z:=x0;rw[Nat.add_zero] at x0z;have y0:=Ce Bi m k hkm 0 (by decide);rw[Nq] at y0;have y0z:=y0;rw[Nat.add_zero] at y0z;have x1:=Ce Bi l k hlt 1 (by decide);rw[Nr] at x1;have y1:=Ce Bi m k hkm 1 (by decide);rw[Nr] at y1;have x2:=En Bi l k hlt 2 9 (by decide);rw[Ns] at x2;have y2:=En Bi m k hkm 2 9 (by decide);rw[Ns] at y2;have x3:=En Bi l k hlt 11 9 (by decide);rw[Jg] at x3;have y3:=En Bi m k hkm 11 9 (by decide);rw[Jg] at y3;obtain⟨x,hx⟩: ∃x,x=l[k]:=⟨_,rfl⟩;obtain⟨y,hy⟩: ∃y,y=m[k]:=⟨_,rfl⟩;rw[<-hx] at x0 x0z x1 x2 x3 mx hsm;rw[<-hy] at y0 y0z y1 y2 y3 my hsm;clear hx hy;have fx:=ha.2 x mx;have fy:=hb.2 y my;simp(disch:=omega) only[go_sem,↓reduceIte,e0,e1,e5,hlt2,hlt3];refine Dc (by kernel_rfl) (.take 0 (.take 1 (.take 2 (.take 3 (.take 4 (.take 5 (.take 6 (.take 7 (.take 8 (.take 9 (.go 10 [] (.take 11 (.take 12 (.take 13 (.take 14 (.take 15 (.take 16 (.take 17 (.take 18 (.take 19 (.take 20 (.take 21 (.take 22 (.take 23 (.take 24 (.take 25 (.take 26 (.take 27 (.take 28 (.take 29 (.take 30 (.take 31 (.take 32 (.take 33 (.take 34 (.take 35 (.go 36 [] (.take 37 (.take 38 (.take 39 (.take 40 (.take 41 (.take 42 (.take 43 (.take 44 (.take 45 (.take 46 (.take 47 (.take 48 (.take 49 (.go 50 [] (.take 51 (.take 52 .done))))))))))))))))))))))))))))))))))))))))))))))))))))) (by kernel_rfl) ?_;simp(disch:=omega) only[go_sem,↓reduceIte,e0,e1,e5,hlt2,hlt3,hfl,hfm,Int.toNat_natCast,x0,x0z,x1,x2,x3,y0,y0z,y1,y2,y3];refine Ar.monoR (Ic G _ x.names y.names (n40 fx.1 (by omega)) (n40 fy.1 (by omega))) ?_;cases h1:decide (x.names=y.names)
    ·simp(disch:=omega) only[go_sem,↓reduceIte,e0,e1,e5,hlt2,hlt3,hfl,hfm,Int.toNat_natCast,x0,x0z,x1,x2,x3,y0,y0z,y1,y2,y3];exact Ax1.refl ⟨by rw[hsm];simp [Da, *],rfl⟩
    ·simp(disch:=omega) only[go_sem,↓reduceIte,e0,e1,e5,hlt2,hlt3,hfl,hfm,Int.toNat_natCast,x0,x0z,x1,x2,x3,y0,y0z,y1,y2,y3];by_cases h2:x.mode=y.mode
     ·simp(disch:=omega) only[go_sem,↓reduceIte,e0,e1,e5,hlt2,hlt3,hfl,hfm,Int.toNat_natCast,x0,x0z,x1,x2,x3,y0,y0z,y1,y2,y3,h2];refine Ar.monoR (Cf G _ x.type y.type (Ed fx.2.1 (by omega))) ?_;cases h3:Bb x.type y.type
      ·simp(disch:=omega) only[go_sem,↓reduceIte,e0,e1,e5,hlt2,hlt3,hfl,hfm,Int.toNat_natCast,x0,x0z,x1,x2,x3,y0,y0z,y1,y2,y3];exact Ax1.refl ⟨by rw[hsm];simp [Da, *],rfl⟩
      ·simp(disch:=omega) only[go_sem,↓reduceIte,e0,e1,e5,hlt2,hlt3,hfl,hfm,Int.toNat_natCast,x0,x0z,x1,x2,x3,y0,y0z,y1,y2,y3];refine Ar.monoR (Cf G _ x.e y.e (Ed fx.2.2 (by omega))) ?_;cases h4:Bb x.e y.e
       ·simp(disch:=omega) only[go_sem,↓reduceIte,e0,e1,e5,hlt2,hlt3,hfl,hfm,Int.toNat_natCast,x0,x0z,x1,x2,x3,y0,y0z,y1,y2,y3];exact Ax1.refl ⟨by rw[hsm];simp [Da, *],rfl⟩
       ·simp(disch:=omega) only[go_sem,↓reduceIte,e0,e1,e5,hlt2,hlt3,hfl,hfm,Int.toNat_natCast,x0,x0z,x1,x2,x3,y0,y0z,y1,y2,y3];refine⟨k+1,_,Pn.refl _,(hI _ _ _).2 ?_,by omega⟩;simp(disch:=omega) only[go_sem,↓reduceIte,e0,e1,e5,hwd];(repeat' apply And.intro)<;>(try first | rfl | assumption | omega);rw[hsm];simp [Da, *]
     ·simp(disch:=omega) only[go_sem,↓reduceIte,e0,e1,e5,hlt2,hlt3,hfl,hfm,Int.toNat_natCast,x0,x0z,x1,x2,x3,y0,y0z,y1,y2,y3,h2];exact Ax1.refl ⟨by rw[hsm];simp [Da, *],rfl⟩
   ·have:k=l.length:=by omega
    subst this;have hlt': ¬(l.length:Int)<(l.length:Int):=by omega
    simp(disch:=omega) only[go_sem,↓reduceIte,e0,e1,e5,hlt',hlen'];refine Ax1.refl ⟨?_,rfl⟩;rw[hsm,List.drop_length,hlen,List.drop_length];rfl
 ·have hlen': ¬(l.length:Int)=(m.length:Int):=by omega
  simp(disch:=omega) only[go_sem,↓reduceIte,hlen',Kb];exact Ax1.refl ⟨by rw[Gr hlen],rfl⟩
set_option maxHeartbeats 40000000 in
theorem Rl (l m:List Asp) (ha:Em Rg 1048576 l) (hb:Em Rg 1048576 m):Ar Tryz.prog G 34 [Kc l,Kc m] H (Cq (.bool (eqF Ei l m)) H):=by
 have hll:=ha.1;refine Ak Tryz.func34 Tryz.call34 rfl (by kernel_rfl) ?_;by_cases hlen:l.length=m.length
 ·have hlen':(l.length:Int)=(m.length:Int):=by omega
  simp(disch:=omega) only[go_sem,↓reduceIte,hlen',Kc];obtain⟨I,hI⟩: ∃I:Nat->(Nat->DVal)->Aa->Prop,∀k env heap,I k env heap↔(env 0= .vslice (l.flatMap Gj) l.length/\env 1= .vslice (m.flatMap Gj) m.length/\env 5=dI k/\k<=l.length/\eqF Ei l m=eqF Ei (l.drop k) (m.drop k)/\H=heap):=⟨_,fun _ _ _=>Iff.rfl⟩;refine Bq8.run I (fun k=>l.length-k) 0 ((hI _ _ _).2 ?_) ?_
  ·simp(disch:=omega) only[go_sem,↓reduceIte,hlen',Kc];simp
  ·intro k env heap hi;obtain⟨e0,e1,e5,hk,hsm,rfl⟩:=(hI _ _ _).1 hi;have hfl:=Bf Cn l;have hfm:=Bf Cn m;by_cases hlt:k<l.length
   ·have hlt2:(k:Int)<(l.length:Int):=by omega
    have hlt3:(k:Int)<(m.length:Int):=by omega
    have hkm:k<m.length:=by omega
    have hwd:IntKind.i64.wrap ((k:Int)+1)=((k+1:Nat):Int):=by rw[IntKind.wrap_i64];omega
    rw[El hlt hkm] at hsm;have mx:=List.getElem_mem hlt;have my:=List.getElem_mem hkm;have x0:=Ce Cn l k hlt 0 (by decide);rw[Wx] at x0;have x0z:=x0;rw[Nat.add_zero] at x0z;have y0:=Ce Cn m k hkm 0 (by decide);rw[Wx] at y0;have y0z:=y0;rw[Nat.add_zero] at y0z;have x1:=En Cn l k hlt 1 9 (by decide);rw[Wy] at x1;have y1:=En Cn m k hkm 1 9 (by decide);rw[Wy] at y1;obtain⟨x,hx⟩: ∃x,x=l[k]:=⟨_,rfl⟩;obtain⟨y,hy⟩: ∃y,y=m[k]:=⟨_,rfl⟩;rw[<-hx] at x0 x0z x1 mx hsm;rw[<-hy] at y0 y0z y1 my hsm;clear hx hy;have fx:=ha.2 x mx;have fy:=hb.2 y my;simp(disch:=omega) only[go_sem,↓reduceIte,e0,e1,e5,hlt2,hlt3];refine Dc (by kernel_rfl) (.take 0 (.take 1 (.take 2 (.take 3 (.take 4 (.take 5 (.take 6 (.take 7 (.take 8 (.take 9 (.take 10 (.take 11 (.take 12 (.take 13 (.take 14 (.take 15 (.take 16 (.take 17 (.take 18 (.take 19 (.take 20 (.take 21 (.go 22 [] (.take 23 (.take 24 .done))))))))))))))))))))))))) (by kernel_rfl) ?_;by_cases h1:x.name=y.name
    ·simp(disch:=omega) only[go_sem,↓reduceIte,e0,e1,e5,hlt2,hlt3,hfl,hfm,Int.toNat_natCast,x0,x0z,x1,y0,y0z,y1,h1];refine Ar.monoR (Cf G _ x.e y.e (Ed fx.2 (by omega))) ?_;cases h2:Bb x.e y.e
     ·simp(disch:=omega) only[go_sem,↓reduceIte,e0,e1,e5,hlt2,hlt3,hfl,hfm,Int.toNat_natCast,x0,x0z,x1,y0,y0z,y1];exact Ax1.refl ⟨by rw[hsm];simp [Ei, *],rfl⟩
     ·simp(disch:=omega) only[go_sem,↓reduceIte,e0,e1,e5,hlt2,hlt3,hfl,hfm,Int.toNat_natCast,x0,x0z,x1,y0,y0z,y1];refine⟨k+1,_,Pn.refl _,(hI _ _ _).2 ?_,by omega⟩;simp(disch:=omega) only[go_sem,↓reduceIte,e0,e1,e5,hwd];(repeat' apply And.intro)<;>(try first | rfl | assumption | omega);rw[hsm];simp [Ei, *]
    ·simp(disch:=omega) only[go_sem,↓reduceIte,e0,e1,e5,hlt2,hlt3,hfl,hfm,Int.toNat_natCast,x0,x0z,x1,y0,y0z,y1,h1];exact Ax1.refl ⟨by rw[hsm];simp [Ei, *],rfl⟩
   ·have:k=l.length:=by omega
    subst this;have hlt': ¬(l.length:Int)<(l.length:Int):=by omega
    simp(disch:=omega) only[go_sem,↓reduceIte,e0,e1,e5,hlt',hlen'];refine Ax1.refl ⟨?_,rfl⟩;rw[hsm,List.drop_length,hlen,List.drop_length];rfl
 ·have hlen': ¬(l.length:Int)=(m.length:Int):=by omega
  simp(disch:=omega) only[go_sem,↓reduceIte,hlen',Kc];exact Ax1.refl ⟨by rw[Gr hlen],rfl⟩
set_option maxHeartbeats 40000000 in
theorem Ie (l m:List Cmp) (ha:Em Lb 1048576 l) (hb:Em Lb 1048576 m):Ar Tryz.prog G 36 [Gf l,Gf m] H (Cq (.bool (eqF Bj l m)) H):=by
 have hll:=ha.1;refine Ak Tryz.func36 Tryz.call36 rfl (by kernel_rfl) ?_;by_cases hlen:l.length=m.length
 ·have hlen':(l.length:Int)=(m.length:Int):=by omega
  simp(disch:=omega) only[go_sem,↓reduceIte,hlen',Gf];obtain⟨I,hI⟩: ∃I:Nat->(Nat->DVal)->Aa->Prop,∀k env heap,I k env heap↔(env 0= .vslice (l.flatMap Fl) l.length/\env 1= .vslice (m.flatMap Fl) m.length/\env 5=dI k/\k<=l.length/\eqF Bj l m=eqF Bj (l.drop k) (m.drop k)/\H=heap):=⟨_,fun _ _ _=>Iff.rfl⟩;refine Bq8.run I (fun k=>l.length-k) 0 ((hI _ _ _).2 ?_) ?_
  ·simp(disch:=omega) only[go_sem,↓reduceIte,hlen',Gf];simp
  ·intro k env heap hi;obtain⟨e0,e1,e5,hk,hsm,rfl⟩:=(hI _ _ _).1 hi;have hfl:=Bf Bv l;have hfm:=Bf Bv m;by_cases hlt:k<l.length
   ·have hlt2:(k:Int)<(l.length:Int):=by omega
    have hlt3:(k:Int)<(m.length:Int):=by omega
    have hkm:k<m.length:=by omega
    have hwd:IntKind.i64.wrap ((k:Int)+1)=((k+1:Nat):Int):=by rw[IntKind.wrap_i64];omega
    rw[El hlt hkm] at hsm;have mx:=List.getElem_mem hlt;have my:=List.getElem_mem hkm;have x0:=Ce Bv l k hlt 0 (by decide);rw[Rh] at x0;have x0z:=x0;rw[Nat.add_zero] at x0z;have y0:=Ce Bv m k hkm 0 (by decide);rw[Rh] at y0;have y0z:=y0;rw[Nat.add_zero] at y0z;have x1:=En Bv l k hlt 1 36 (by decide);rw[Ri] at x1;have y1:=En Bv m k hkm 1 36 (by decide);rw[Ri] at y1;have x2:=En Bv l k hlt 37 9 (by decide);rw[Lz] at x2;have y2:=En Bv m k hkm 37 9 (by decide);rw[Lz] at y2;obtain⟨x,hx⟩: ∃x,x=l[k]:=⟨_,rfl⟩;obtain⟨y,hy⟩: ∃y,y=m[k]:=⟨_,rfl⟩;rw[<-hx] at x0 x0z x1 x2 mx hsm;rw[<-hy] at y0 y0z y1 y2 my hsm;clear hx hy;have fx:=ha.2 x mx;have fy:=hb.2 y my;simp(disch:=omega) only[go_sem,↓reduceIte,e0,e1,e5,hlt2,hlt3];refine Dc (by kernel_rfl) (.take 0 (.take 1 (.take 2 (.take 3 (.take 4 (.take 5 (.take 6 (.take 7 (.take 8 (.take 9 (.go 10 [] (.take 11 (.take 12 (.take 13 (.take 14 (.take 15 (.take 16 (.take 17 (.take 18 (.take 19 (.take 20 (.take 21 (.take 22 (.go 23 [] (.take 24 (.take 25 (.take 26 (.take 27 (.take 28 (.take 29 (.take 30 (.take 31 (.take 32 (.take 33 (.take 34 (.take 35 (.take 36 (.go 37 [] (.take 38 (.take 39 .done)))))))))))))))))))))))))))))))))))))))) (by kernel_rfl) ?_;simp(disch:=omega) only[go_sem,↓reduceIte,e0,e1,e5,hlt2,hlt3,hfl,hfm,Int.toNat_natCast,x0,x0z,x1,x2,y0,y0z,y1,y2];refine Ar.monoR (Ic G _ x.names y.names (n40 fx.1 (by omega)) (n40 fy.1 (by omega))) ?_;cases h1:decide (x.names=y.names)
    ·simp(disch:=omega) only[go_sem,↓reduceIte,e0,e1,e5,hlt2,hlt3,hfl,hfm,Int.toNat_natCast,x0,x0z,x1,x2,y0,y0z,y1,y2];exact Ax1.refl ⟨by rw[hsm];simp [Bj, *],rfl⟩
    ·simp(disch:=omega) only[go_sem,↓reduceIte,e0,e1,e5,hlt2,hlt3,hfl,hfm,Int.toNat_natCast,x0,x0z,x1,x2,y0,y0z,y1,y2];refine Ar.monoR (Kk G _ x.sub y.sub fx.2.1) ?_;cases h2:Ct x.sub y.sub
     ·simp(disch:=omega) only[go_sem,↓reduceIte,e0,e1,e5,hlt2,hlt3,hfl,hfm,Int.toNat_natCast,x0,x0z,x1,x2,y0,y0z,y1,y2];exact Ax1.refl ⟨by rw[hsm];simp [Bj, *],rfl⟩
     ·simp(disch:=omega) only[go_sem,↓reduceIte,e0,e1,e5,hlt2,hlt3,hfl,hfm,Int.toNat_natCast,x0,x0z,x1,x2,y0,y0z,y1,y2];refine Ar.monoR (Cf G _ x.e y.e (Ed fx.2.2 (by omega))) ?_;cases h3:Bb x.e y.e
      ·simp(disch:=omega) only[go_sem,↓reduceIte,e0,e1,e5,hlt2,hlt3,hfl,hfm,Int.toNat_natCast,x0,x0z,x1,x2,y0,y0z,y1,y2];exact Ax1.refl ⟨by rw[hsm];simp [Bj, *],rfl⟩
      ·simp(disch:=omega) only[go_sem,↓reduceIte,e0,e1,e5,hlt2,hlt3,hfl,hfm,Int.toNat_natCast,x0,x0z,x1,x2,y0,y0z,y1,y2];refine⟨k+1,_,Pn.refl _,(hI _ _ _).2 ?_,by omega⟩;simp(disch:=omega) only[go_sem,↓reduceIte,e0,e1,e5,hwd];(repeat' apply And.intro)<;>(try first | rfl | assumption | omega);rw[hsm];simp [Bj, *]
   ·have:k=l.length:=by omega
    subst this;have hlt': ¬(l.length:Int)<(l.length:Int):=by omega
    simp(disch:=omega) only[go_sem,↓reduceIte,e0,e1,e5,hlt',hlen'];refine Ax1.refl ⟨?_,rfl⟩;rw[hsm,List.drop_length,hlen,List.drop_length];rfl
 ·have hlen': ¬(l.length:Int)=(m.length:Int):=by omega
  simp(disch:=omega) only[go_sem,↓reduceIte,hlen',Gf];exact Ax1.refl ⟨by rw[Gr hlen],rfl⟩
end
end Go.Dl

-- Chapter 4: what is the same, by the reference: the whole type.
namespace Go.Dl
open Go Go.Proofs
set_option maxRecDepth 100000
section
variable (G:Nat->DVal) (H:Aa)
set_option maxHeartbeats 40000000 in
theorem Yp (a b:Typ) (ha:Ug 1048576 a) (hb:Ug 1048576 b):Ar Tryz.prog G 38 [.agg (Ec a), .agg (Ec b)] H (Cq (.bool (Al a b)) H):=by
 obtain⟨f0,f1,f2,f3,f4,f5,f6,f7⟩:=ha;refine Ak Tryz.func38 Tryz.call38 rfl (by kernel_rfl) ?_;simp(disch:=omega) only[go_sem,↓reduceIte,DVal.cells];intro r2 hr2;dsimp only at hr2;obtain⟨K2,hK2⟩: ∃K',K'=upd H r2 (some (.cells (Ec a) 53)):=⟨_,rfl⟩;rw[<-hK2];have gr2:K2 r2=some (.cells (Ec a) 53):=by rw[hK2];exact Bo _ _ _
 have sK2:Sub H K2:=by rw[hK2];exact(Sub.refl _).new hr2 _
 simp(disch:=omega) only[go_sem,↓reduceIte,DVal.cells];intro r3 hr3;dsimp only at hr3;obtain⟨K,hK⟩: ∃K',K'=upd K2 r3 (some (.cells (Ec b) 53)):=⟨_,rfl⟩;rw[<-hK];have gr3:K r3=some (.cells (Ec b) 53):=by rw[hK];exact Bo _ _ _
 have sK:Sub K2 K:=by rw[hK];exact(Sub.refl _).new hr3 _
 have g2:K r2=some (.cells (Ec a) 53):=sK _ _ gr2;have g3:=gr3;have t:Sub H K:=sK2.trans sK;clear sK sK2 gr3 gr2 hK hK2;by_cases h0:a.kind=b.kind
 ·simp(disch:=omega) only[go_sem,↓reduceIte,g2,g3,Ab,Am,An,Ao,Ac,Ad,Ae,Af,Ag,Ah,Ai,h0];refine Ar.monoR (Ic G K a.names b.names (n40 f0 (by omega)) (n40 hb.1 (by omega))) ?_;cases h1:decide (a.names=b.names)
  ·simp(disch:=omega) only[go_sem,↓reduceIte,g2,g3,Ab,Am,An,Ao,Ac,Ad,Ae,Af,Ag,Ah,Ai];exact Ax1.sub t (.refl ⟨by simp [Al, *],rfl⟩)
  simp(disch:=omega) only[go_sem,↓reduceIte,g2,g3,Ab,Am,An,Ao,Ac,Ad,Ae,Af,Ag,Ah,Ai];refine Ar.monoR (Cf G K a.lo b.lo (Ed f1 (by omega))) ?_;cases h2:Bb a.lo b.lo
  ·simp(disch:=omega) only[go_sem,↓reduceIte,g2,g3,Ab,Am,An,Ao,Ac,Ad,Ae,Af,Ag,Ah,Ai];exact Ax1.sub t (.refl ⟨by simp [Al, *],rfl⟩)
  simp(disch:=omega) only[go_sem,↓reduceIte,g2,g3,Ab,Am,An,Ao,Ac,Ad,Ae,Af,Ag,Ah,Ai];refine Ar.monoR (Cf G K a.hi b.hi (Ed f2 (by omega))) ?_;cases h3:Bb a.hi b.hi
  ·simp(disch:=omega) only[go_sem,↓reduceIte,g2,g3,Ab,Am,An,Ao,Ac,Ad,Ae,Af,Ag,Ah,Ai];exact Ax1.sub t (.refl ⟨by simp [Al, *],rfl⟩)
  simp(disch:=omega) only[go_sem,↓reduceIte,g2,g3,Ab,Am,An,Ao,Ac,Ad,Ae,Af,Ag,Ah,Ai];refine Ar.monoR (Kk G K a.sub b.sub f3) ?_;cases h4:Ct a.sub b.sub
  ·simp(disch:=omega) only[go_sem,↓reduceIte,g2,g3,Ab,Am,An,Ao,Ac,Ad,Ae,Af,Ag,Ah,Ai];exact Ax1.sub t (.refl ⟨by simp [Al, *],rfl⟩)
  simp(disch:=omega) only[go_sem,↓reduceIte,g2,g3,Ab,Am,An,Ao,Ac,Ad,Ae,Af,Ag,Ah,Ai];refine Ar.monoR (Ox G K a.disc b.disc f4) ?_;cases h5:Cu a.disc b.disc
  ·simp(disch:=omega) only[go_sem,↓reduceIte,g2,g3,Ab,Am,An,Ao,Ac,Ad,Ae,Af,Ag,Ah,Ai];exact Ax1.sub t (.refl ⟨by simp [Al, *],rfl⟩)
  simp(disch:=omega) only[go_sem,↓reduceIte,g2,g3,Ab,Am,An,Ao,Ac,Ad,Ae,Af,Ag,Ah,Ai];refine Ar.monoR (Ie G K a.comps b.comps f5 hb.2.2.2.2.2.1) ?_;rw[<-De Bj a.comps b.comps];cases h6:Ey Bj a.comps b.comps
  ·simp(disch:=omega) only[go_sem,↓reduceIte,g2,g3,Ab,Am,An,Ao,Ac,Ad,Ae,Af,Ag,Ah,Ai];exact Ax1.sub t (.refl ⟨by simp [Al, *],rfl⟩)
  simp(disch:=omega) only[go_sem,↓reduceIte,g2,g3,Ab,Am,An,Ao,Ac,Ad,Ae,Af,Ag,Ah,Ai];by_cases h7:a.var=b.var
  ·by_cases h8:a.limited=b.limited
   ·by_cases h9:a.arms.length=b.arms.length
    ·have h9':(a.arms.length:Int)=(b.arms.length:Int):=by omega
     simp(disch:=omega) only[go_sem,↓reduceIte,g2,g3,Ab,Am,An,Ao,Ac,Ad,Ae,Af,Ag,Ah,Ai,h7,h8,h9',Ij];have hE:Al a b=eqF Cv a.arms b.arms:=by rw[<-De];simp [Al, *]
     rw[hE];obtain⟨I,hI⟩: ∃I:Nat->(Nat->DVal)->Aa->Prop,∀k env heap,I k env heap↔(env 2= .optr r2 0/\env 3= .optr r3 0/\env 5=dI k/\k<=a.arms.length/\eqF Cv a.arms b.arms=eqF Cv (a.arms.drop k) (b.arms.drop k)/\K=heap):=⟨_,fun _ _ _=>Iff.rfl⟩;refine Bq8.run I (fun k=>a.arms.length-k) 0 ((hI _ _ _).2 ?_) ?_
     ·simp(disch:=omega) only[go_sem,↓reduceIte];simp
     ·intro k env heap hi;obtain⟨e2,e3,e5,hk,hsm,rfl⟩:=(hI _ _ _).1 hi;have hfl:=Bf Co a.arms;have hfm:=Bf Co b.arms;by_cases hlt:k<a.arms.length
      ·have hlt2:(k:Int)<(a.arms.length:Int):=by omega
       have hlt3:(k:Int)<(b.arms.length:Int):=by omega
       have hkm:k<b.arms.length:=by omega
       have hwd:IntKind.i64.wrap ((k:Int)+1)=((k+1:Nat):Int):=by rw[IntKind.wrap_i64];have:=f7.1;omega
       rw[El hlt hkm] at hsm;have mx:=List.getElem_mem hlt;have my:=List.getElem_mem hkm;have x0:=Ce Co a.arms k hlt 0 (by decide);rw[Wz] at x0;have y0:=Ce Co b.arms k hkm 0 (by decide);rw[Wz] at y0;have x1:=Ce Co a.arms k hlt 1 (by decide);rw[Xa] at x1;have y1:=Ce Co b.arms k hkm 1 (by decide);rw[Xa] at y1;obtain⟨x,hx⟩: ∃x,x=a.arms[k]:=⟨_,rfl⟩;obtain⟨y,hy⟩: ∃y,y=b.arms[k]:=⟨_,rfl⟩;rw[<-hx] at x0 x1 mx hsm;rw[<-hy] at y0 y1 my hsm;clear hx hy;have x0z:=x0;rw[Nat.add_zero] at x0z;have y0z:=y0;rw[Nat.add_zero] at y0z;have fx:=f7.2 x mx;have fy:=hb.2.2.2.2.2.2.2.2 y my;simp(disch:=omega) only[go_sem,↓reduceIte,g2,g3,Ab,Am,An,Ao,Ac,Ad,Ae,Af,Ag,Ah,Ai,e2,e3,e5,Ij,hlt2,hlt3];refine Dc (by kernel_rfl) (.take 0 (.take 1 (.take 2 (.take 3 (.take 4 (.take 5 (.take 6 (.take 7 (.take 8 (.take 9 (.take 10 (.take 11 (.go 12 [] (.take 13 (.take 14 (.take 15 (.take 16 (.take 17 (.take 18 (.take 19 (.take 20 (.take 21 (.take 22 (.take 23 (.take 24 (.take 25 (.take 26 (.go 27 [] (.take 28 (.take 29 .done)))))))))))))))))))))))))))))) (by kernel_rfl) ?_;simp(disch:=omega) only[go_sem,↓reduceIte,g2,g3,Ab,Am,An,Ao,Ac,Ad,Ae,Af,Ag,Ah,Ai,e2,e3,e5,Ij,hlt2,hlt3,hfl,hfm,Int.toNat_natCast,x0,x1,y0,y1,x0z,y0z,fx.1,fx.2,fy.1,fy.2];refine Ar.monoR (Re G _ x.c y.c (Cn4 fx.1)) ?_;cases h10:Dy x.c y.c
       ·simp(disch:=omega) only[go_sem,↓reduceIte,g2,g3,Ab,Am,An,Ao,Ac,Ad,Ae,Af,Ag,Ah,Ai,e2,e3,e5,Ij,hlt2,hlt3,hfl,hfm,Int.toNat_natCast,x0,x1,y0,y1,x0z,y0z,fx.1,fx.2,fy.1,fy.2];exact Ax1.sub t (.refl ⟨by rw[hsm];simp [Cv, *],rfl⟩)
       ·simp(disch:=omega) only[go_sem,↓reduceIte,g2,g3,Ab,Am,An,Ao,Ac,Ad,Ae,Af,Ag,Ah,Ai,e2,e3,e5,Ij,hlt2,hlt3,hfl,hfm,Int.toNat_natCast,x0,x1,y0,y1,x0z,y0z,fx.1,fx.2,fy.1,fy.2];refine Ar.monoR (Ie G _ x.comps y.comps fx.2 fy.2) ?_;rw[<-De Bj x.comps y.comps];cases h11:Ey Bj x.comps y.comps
        ·simp(disch:=omega) only[go_sem,↓reduceIte,g2,g3,Ab,Am,An,Ao,Ac,Ad,Ae,Af,Ag,Ah,Ai,e2,e3,e5,Ij,hlt2,hlt3,hfl,hfm,Int.toNat_natCast,x0,x1,y0,y1,x0z,y0z,fx.1,fx.2,fy.1,fy.2];exact Ax1.sub t (.refl ⟨by rw[hsm];simp [Cv, *],rfl⟩)
        ·simp(disch:=omega) only[go_sem,↓reduceIte,g2,g3,Ab,Am,An,Ao,Ac,Ad,Ae,Af,Ag,Ah,Ai,e2,e3,e5,Ij,hlt2,hlt3,hfl,hfm,Int.toNat_natCast,x0,x1,y0,y1,x0z,y0z,fx.1,fx.2,fy.1,fy.2];refine⟨k+1,_,Pn.refl _,(hI _ _ _).2 ?_,by omega⟩;simp(disch:=omega) only[go_sem,↓reduceIte,e2,e3,e5,hwd];(repeat' apply And.intro)<;>(try first | rfl | assumption | omega);rw[hsm];simp [Cv, *]
      ·have:k=a.arms.length:=by omega
       subst this;have hlt': ¬(a.arms.length:Int)<(b.arms.length:Int):=by omega
       have hlt'': ¬(a.arms.length:Int)<(a.arms.length:Int):=by omega
       simp(disch:=omega) only[go_sem,↓reduceIte,g2,g3,Ab,Am,An,Ao,Ac,Ad,Ae,Af,Ag,Ah,Ai,e2,e3,e5,Ij,hlt',hlt'',h9'];refine Ax1.sub t ?_;refine Ax1.refl ⟨?_,rfl⟩;rw[hsm,List.drop_length,h9,List.drop_length];rfl
    ·have h9': ¬(a.arms.length:Int)=(b.arms.length:Int):=by omega
     have h10:Ey Cv a.arms b.arms=false:=by rw[De,Gr h9]
     simp(disch:=omega) only[go_sem,↓reduceIte,g2,g3,Ab,Am,An,Ao,Ac,Ad,Ae,Af,Ag,Ah,Ai,h7,h8,h9',Ij];exact Ax1.sub t (.refl ⟨by simp [Al, *],rfl⟩)
   ·have hT:Al a b=false:=by simp [Al,h8]
    simp(disch:=omega) only[go_sem,↓reduceIte,g2,g3,Ab,Am,An,Ao,Ac,Ad,Ae,Af,Ag,Ah,Ai,h7];cases hal:a.limited<;>cases hbl:b.limited
    ·exact absurd (hal.trans hbl.symm) h8
    ·simp(disch:=omega) only[go_sem,↓reduceIte,g2,g3,Ab,Am,An,Ao,Ac,Ad,Ae,Af,Ag,Ah,Ai,hal,hbl,bft,btf,bff,btt];exact Ax1.sub t (.refl ⟨by simp [Al, *],rfl⟩)
    ·simp(disch:=omega) only[go_sem,↓reduceIte,g2,g3,Ab,Am,An,Ao,Ac,Ad,Ae,Af,Ag,Ah,Ai,hal,hbl,bft,btf,bff,btt];exact Ax1.sub t (.refl ⟨by simp [Al, *],rfl⟩)
    ·exact absurd (hal.trans hbl.symm) h8
  ·simp(disch:=omega) only[go_sem,↓reduceIte,g2,g3,Ab,Am,An,Ao,Ac,Ad,Ae,Af,Ag,Ah,Ai,h7];exact Ax1.sub t (.refl ⟨by simp [Al, *],rfl⟩)
 ·simp(disch:=omega) only[go_sem,↓reduceIte,g2,g3,Ab,Am,An,Ao,Ac,Ad,Ae,Af,Ag,Ah,Ai,h0];exact Ax1.sub t (.refl ⟨by simp [Al, *],rfl⟩)
end
end Go.Dl
