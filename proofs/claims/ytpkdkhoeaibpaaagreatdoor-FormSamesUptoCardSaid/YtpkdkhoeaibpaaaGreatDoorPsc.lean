/- The data level and the contracts of the functions that are reached (part 3). -/
import Derived.Test.YtpkdkhoeaibpaaaGreatDoorProg
import Derived.KernelRfl
import Derived.Lib.ItoaMem
import Derived.Lib.ConvBytes
import Derived.Lib.LaidTab
import Derived.Lib.ItoaLen
import Derived.Lib.ParseIntBTie
import Derived.Lib.IndexMore
import Derived.Lib.IndexAny
import Derived.Lib.TrimByte
import Derived.Lib.Strings
import Derived.Lib.Repeat
import Derived.Lib.CountLaws
import Derived.Lib.ParseIntB
import Derived.Lib.Fields
import Derived.Laws.RangeString
import Derived.Laws.RangeAny
import Derived.Test.YtpkdkhoeaibpaaaGreatDoorPsb
set_option linter.unusedSimpArgs false
set_option linter.unusedVariables false
set_option linter.unusedSectionVars false
-- THE DATA LEVEL, PART Z: an operation hangs on its operands alone.
namespace Go.Dl
open Go
section
variable {P:Program} {G:Nat->DVal}
theorem Pu {dst:Option Nat} {K:DK} {Q:DExit->DS->Prop} {s:DS} (op:Op) (he:Jt op=true) (h:dop P G dst K Q s op):
  ∃d,Av dst d K s/\ ∀Q' K' s',(∀x∈op.operands,dev G s'.env x=dev G s.env x)->An1 G s s' op->Av dst d K' s'->dop P G dst K' Q' s' op:=by
 have lift: ∀ {F:DK->DS->Prop},EVF dst F->F K s->(∀K' s',(∀x∈op.operands,dev G s'.env x=dev G s.env x)-> ∀Q',F K' s'->dop P G dst K' Q' s' op)->
   ∃d,Av dst d K s/\ ∀Q' K' s',(∀x∈op.operands,dev G s'.env x=dev G s.env x)->An1 G s s' op->Av dst d K' s'->dop P G dst K' Q' s' op:=by
  intro F hF hf hT;obtain⟨d,h1,h2⟩:=hF K s hf;exact⟨d,h1,fun Q' K' s' ha _ h'=>hT K' s' ha Q' (h2 K' s' h')⟩
 cases op<;>simp only[Jt] at he<;>try (cases he;done)
 case move x=>exact lift (Eh _ _) h fun K' s' ha Q' h'=>by simp only[dop];rw[ha x (by simp [Op.operands])];exact h'
 case assign x=>exact lift (Eh _ _) h fun K' s' ha Q' h'=>by simp only[dop];rw[ha x (by simp [Op.operands])];exact h'
 case pick c a b=>exact lift (Cg8 _ _ _ _) h fun K' s' ha Q' h'=>by simp only[dop];rw[ha c (by simp [Op.operands]),ha a (by simp [Op.operands]),ha b (by simp [Op.operands])];exact h'
 case build t ps=>
  exact lift (Bt2 _ _ _ _ _ _) h fun K' s' ha Q' h'=>by
   simp only[dop];rw[Ls (env:=s.env) (fun x hx=>ha x (by simpa [Op.operands] using hx))];exact h'
 case load t a=>
  obtain⟨d,h1,h2⟩:=Cg9 _ _ _ _ K s h;exact⟨d,h1,fun Q' K' s' ha hk h'=>by simp only[dop];rw[ha a (by simp [Op.operands])];exact h2 K' s' (hk a rfl).ptr h'⟩
 case nilCheck x=>exact lift (Am8 _ _) h fun K' s' ha Q' h'=>by simp only[dop];rw[ha x (by simp [Op.operands])];exact h'
 case binOp op t x y _=>
  have hn:Dh y=false:=by simpa using he
  simp only[dop,hn,Hv] at h;exact lift (Bt5 _ _ _ _ _ _ _) h fun K' s' ha Q' h'=>by simp only[dop,hn,Hv];rw[ha x (by simp [Op.operands]),ha y (by simp [Op.operands])];exact h'
 case unOp op t x=>exact lift (Cy7 _ _ _) h fun K' s' ha Q' h'=>by simp only[dop];rw[ha x (by simp [Op.operands])];exact h'
 case convert a t x=>
  obtain⟨d,h1,h2⟩:=Bu0 _ _ _ _ _ K s h;exact⟨d,h1,fun Q' K' s' ha hk h'=>by simp only[dop];rw[ha x (by simp [Op.operands])];exact h2 K' s' (hk x rfl) h'⟩
 case makeInterface t x=>exact lift (Ae5 _ _ _ _) h fun K' s' ha Q' h'=>by simp only[dop];rw[ha x (by simp [Op.operands])];exact h'
 case makeFunc fn fs cs=>
  exact lift (Eh _ _) h fun K' s' ha Q' h'=>by
   simp only[dop];rw[Jd (env:=s.env) (xs:=fs.toList) (fun x hx=>ha x (by simp at hx;simp [Op.operands,hx])),Jd (env:=s.env) (xs:=cs.toList) (fun x hx=>ha x (by simp at hx;simp [Op.operands,hx]))];exact h'
 case slice t x lo hi mx=>
  obtain⟨d,h1,h2⟩:=Bt6 _ _ _ _ _ _ _ K s h;exact⟨d,h1,fun Q' K' s' ha hk h'=>by
   simp only[dop];rw[ha x (by simp [Op.operands]),Lt (x:=lo) (env:=s.env) (fun y hy=>ha y (by simp at hy;simp [Op.operands,hy])),Lt (x:=hi) (env:=s.env) (fun y hy=>ha y (by simp at hy;simp [Op.operands,hy])),Lt (x:=mx) (env:=s.env) (fun y hy=>ha y (by simp at hy;simp [Op.operands,hy]))];exact h2 K' s' (hk x rfl).ptr h'⟩
 case fieldAddr t x f=>exact lift (Ae6 _ _ _ _ _) h fun K' s' ha Q' h'=>by simp only[dop];rw[ha x (by simp [Op.operands])];exact h'
 case field t x f=>exact lift (Bt7 _ _ _ _ _) h fun K' s' ha Q' h'=>by simp only[dop];rw[ha x (by simp [Op.operands])];exact h'
 case indexAddr t x i=>exact lift (Ae7 _ _ _ _ _) h fun K' s' ha Q' h'=>by simp only[dop];rw[ha x (by simp [Op.operands]),ha i (by simp [Op.operands])];exact h'
 case index t x i=>exact lift (Bt8 _ _ _ _ _) h fun K' s' ha Q' h'=>by simp only[dop];rw[ha x (by simp [Op.operands]),ha i (by simp [Op.operands])];exact h'
 case typeAssert x t u ok=>exact lift (Yo _ _ _ _ _ _) h fun K' s' ha Q' h'=>by simp only[dop];rw[ha x (by simp [Op.operands])];exact h'
 case extract x i=>exact lift (Ax6 _ _ _) h fun K' s' ha Q' h'=>by simp only[dop];rw[ha x (by simp [Op.operands])];exact h'
 case call c=>
  have hargs: ∀s':DS,(∀x∈(Op.call c).operands,dev G s'.env x=dev G s.env x)->Cj G s'.env c.args.toList=Cj G s.env c.args.toList:=by
   intro s' ha;exact Jd fun x hx=>ha x (by simp at hx;simp [Op.operands,Call.operands,hx])
  simp only[dop] at h⊢
  cases hc:c.callee with
  | value f=>rw[hc] at he;cases he
  | invoke r m=>rw[hc] at he;cases he
  | builtin b=>
   rw[hc] at h he;simp only[Jp] at h⊢
   cases b<;>simp only at he<;>try (cases he;done)
   case len=>
    cases hx:Cj G s.env c.args.toList with
    | nil=>rw[hx] at h;exact h.elim
    | cons x xs=>
     cases xs with
     | cons y ys=>rw[hx] at h;exact h.elim
     | nil=>
      rw[hx] at h;obtain⟨d,h1,h2⟩:=Bt9 P x dst c.argTypes.toList K s h;exact⟨d,h1,fun Q' K' s' ha _ h'=>by rw[hargs s' ha,hx];exact h2 K' s' h'⟩
   case min=>
    obtain⟨d,h1,h2⟩:=Fj dst (Fm false (Cj G s.env c.args.toList)) K s h;exact⟨d,h1,fun Q' K' s' ha _ h'=>by rw[hargs s' ha];exact h2 K' s' h'⟩
   case max=>
    obtain⟨d,h1,h2⟩:=Fj dst (Fm true (Cj G s.env c.args.toList)) K s h;exact⟨d,h1,fun Q' K' s' ha _ h'=>by rw[hargs s' ha];exact h2 K' s' h'⟩
theorem Bl9 {dst:Option Nat} {K K':DK} {Q Q':DExit->DS->Prop} {s s':DS} (op:Op) (ha: ∀x∈op.operands,dev G s'.env x=dev G s.env x) (hh:s'.heap=s.heap)
  (hK: ∀d h,K ⟨Df s.env dst d,h⟩->K' ⟨Df s'.env dst d,h⟩) (hQ: ∀v h,Q (.panic v) ⟨s.env,h⟩->Q' (.panic v) ⟨s'.env,h⟩)
  (h:dop P G dst K Q s op):dop P G dst K' Q' s' op:=by
 by_cases he:Jt op=true
 ·obtain⟨d,h1,h2⟩:=Pu op he h;refine h2 Q' K' s' ha (fun a _=>by rw[hh];exact Ju) ?_;show K' ⟨Df s'.env dst d,s'.heap⟩;rw[hh];exact hK _ _ h1
 ·have newP: ∀ {cs e},Vh cs e dst K s->Vh cs e dst K' s':=fun hn r hr=>by
   rw[hh] at hr⊢;exact hK _ _ (hn r hr)
  have newS: ∀ {cs e sz l c},Tt cs e sz l c dst K s->Tt cs e sz l c dst K' s':=fun hn r hr=>by
   rw[hh] at hr⊢;exact hK _ _ (hn r hr)
  have panic: ∀ {x},My Q s x->My Q' s' x:=by
   intro x hx;unfold My at hx⊢
   split at hx<;>try exact hx.elim
   have:=hQ _ _ hx;rw[<-hh] at this;exact this
  cases op<;>(try exact(he rfl).elim)<;>(try exact h.elim)
  case binOp op t x y t'=>
   have hn:Dh y=true:=by
    simp only[Jt] at he;cases hy:Dh y with
    | true=>rfl
    | false=>rw[hy] at he;exact absurd rfl he
   simp only[dop] at h⊢
   rw[ha x (by simp [Op.operands]),ha y (by simp [Op.operands])];rw[hn] at h⊢
   generalize dev G s.env x=dx at h⊢
   generalize dev G s.env y=dy at h⊢
   have put: ∀d,Av dst d K s->Av dst d K' s':=fun d h=>by unfold Av at*;rw[hh];exact hK _ _ h
   have rest:Gi P t (Cd x || Cd y) op dst dx dy K s->Gi P t (Cd x || Cd y) op dst dx dy K' s':=fun h=>by
    obtain⟨d,h1,h2⟩:=Bt5 _ _ _ _ _ _ _ K s h;exact h2 K' s' (put d h1)
   cases dx<;>first | exact rest h | skip
   simp only[Ot] at h⊢
   refine⟨h.1,fun b hb=> ?_⟩;obtain⟨d,h1,h2⟩:=Ax4 _ _ _ K s (h.2 b hb);exact h2 K' s' (put d h1)
  case range t x=>
   simp only[dop] at h⊢
   rw[ha x (by simp [Op.operands])];generalize P.underlying t=u at h⊢
   generalize dev G s.env x=dx at h⊢
   unfold Vl at h⊢
   split at h<;>try exact h.elim
   exact fun r hr=>by rw[hh] at hr⊢;exact hK _ _ (h r hr)
  case next x b=>
   simp only[dop] at h⊢
   rw[ha x (by simp [Op.operands])];generalize dev G s.env x=dx at h⊢
   unfold Za at h⊢
   split at h<;>try exact h.elim
   rw[hh];unfold Ab6 at h⊢
   split at h<;>try exact h.elim
   refine⟨fun hp=>by rw[hh];exact hK _ _ (h.1 hp),fun hp=> ?_⟩;have:=h.2 hp;unfold Av at*;rw[hh];exact hK _ _ this
  case makeMap t r=>
   simp only[dop] at h⊢
   rw[Lt (x:=r) (env:=s.env) (fun y hy=>ha y (by simp at hy;simp [Op.operands,hy]))];generalize P.underlying t=u at h⊢
   generalize Hu G s.env r=v at h⊢
   unfold Ks at h⊢
   split at h<;>try exact h.elim
   all_goals exact fun r hr=>by rw[hh] at hr⊢;exact hK _ _ (h r hr)
  case lookup t x k ok=>
   simp only[dop] at h⊢
   rw[ha x (by simp [Op.operands]),ha k (by simp [Op.operands])];generalize P.underlying t=u at h⊢
   generalize dev G s.env x=dx at h⊢
   generalize dev G s.env k=dk at h⊢
   have put: ∀d,Av dst d K s->Av dst d K' s':=fun d h=>by unfold Av at*;rw[hh];exact hK _ _ h
   have hF: ∀es z r,Pm es ok dst z r K s->Pm es ok dst z r K' s':=fun es z r h=>by
    unfold Pm at h⊢
    split at h<;>try exact h.elim
    ·obtain⟨p,h1,h2⟩:=h;exact⟨p,h1,put _ h2⟩
    ·exact put _ h
   unfold Qm at h⊢
   split at h<;>try exact h.elim
   ·refine⟨h.1, ?_⟩;have h2:=h.2;rw[hh];generalize s.heap _=ob at h2⊢
    unfold At4 at h2⊢
    split at h2<;>try exact h2.elim
    exact hF _ _ _ h2
   ·exact⟨h.1,hF _ _ _ h.2⟩
  case mapUpdate t m k x=>
   simp only[dop] at h⊢
   rw[ha m (by simp [Op.operands]),ha k (by simp [Op.operands]),ha x (by simp [Op.operands])];generalize P.underlying t=u at h⊢
   generalize dev G s.env m=dm at h⊢
   generalize dev G s.env k=dk at h⊢
   generalize dev G s.env x=dx at h⊢
   unfold Jo at h⊢
   split at h<;>try exact h.elim
   obtain⟨h1,h2,h3⟩:=h;refine⟨h1,h2, ?_⟩;rw[hh];generalize s.heap _=ob at h3⊢
   unfold Ql at h3⊢
   split at h3<;>try exact h3.elim
   refine⟨h3.1, ?_⟩;have h4:=h3.2;unfold Qk at h4⊢
   split at h4<;>try exact h4.elim
   subst h1;rw[hh];exact hK Bp _ h4
  case insert t m k x=>
   simp only[dop] at h⊢
   rw[ha m (by simp [Op.operands]),ha k (by simp [Op.operands]),ha x (by simp [Op.operands])];generalize P.underlying t=u at h⊢
   generalize dev G s.env m=dm at h⊢
   generalize dev G s.env k=dk at h⊢
   generalize dev G s.env x=dx at h⊢
   unfold Jo at h⊢
   split at h<;>try exact h.elim
   obtain⟨h1,h2,h3⟩:=h;refine⟨h1,h2, ?_⟩;rw[hh];generalize s.heap _=ob at h3⊢
   unfold Ql at h3⊢
   split at h3<;>try exact h3.elim
   refine⟨h3.1, ?_⟩;have h4:=h3.2;unfold Qk at h4⊢
   split at h4<;>try exact h4.elim
   subst h1;rw[hh];exact hK Bp _ h4
  case alloc e=>
   simp only[dop] at h⊢
   generalize Ax P e=z at h⊢
   cases z with
   | none=>exact h.elim
   | some z=>exact newP h
  case box e x=>simp only[dop] at h⊢;rw[ha x (by simp [Op.operands])];exact newP h
  case buildSlice t n ps=>
   simp only[dop] at h⊢
   rw[Ls (env:=s.env) (fun x hx=>ha x (by simpa [Op.operands] using hx))];generalize Eu G s.env ps.toList=qs at h⊢
   generalize P.underlying t=u at h⊢
   unfold Fx at h⊢
   split at h<;>try exact h.elim
   show Li _ _ _ _ _ _ _ _;generalize Ax P _=z at h⊢
   cases z with
   | none=>exact h.elim
   | some z=>
    obtain⟨h1,h2,h3⟩:=h;refine⟨h1,h2, ?_⟩;generalize Gk _ _ _=f at h3⊢
    cases f with
    | none=>exact h3.elim
    | some f=>exact newS h3
  case store t a x=>
   simp only[dop] at h⊢
   obtain⟨h1,h2⟩:=h;refine⟨h1, ?_⟩;rw[ha a (by simp [Op.operands]),ha x (by simp [Op.operands])];generalize dev G s.env a=va at h2⊢
   generalize dev G s.env x=vx at h2⊢
   unfold Sg at h2⊢
   split at h2<;>try exact h2.elim
   rename_i hx0 hx1 hx2 hx3
   rw[hh];generalize s.heap _=ob at h2⊢
   unfold Ab5 at h2⊢
   split at h2<;>try exact h2.elim
   obtain⟨g1,g2,g3,g4⟩:=h2;refine⟨g1,g2,g3, ?_⟩;rw[hh];exact hK Bp _ g4
  case makeSlice t l c=>
   simp only[dop] at h⊢
   rw[ha l (by simp [Op.operands]),ha c (by simp [Op.operands])];generalize dev G s.env l=vl at h⊢
   generalize dev G s.env c=vc at h⊢
   generalize P.underlying t=u at h⊢
   unfold Ha at h⊢
   split at h<;>try exact h.elim
   show Mv _ _ _ _ _ _ _ _ _;generalize Ax P _=z at h⊢
   cases z with
   | none=>exact h.elim
   | some z=>
    obtain⟨h1,h2,h3,h4,h5,h6,h7⟩:=h;exact⟨h1,h2,h3,h4,h5,h6,newS h7⟩
  case panic x=>simp only[dop] at h⊢;rw[ha x (by simp [Op.operands])];exact panic h
  case call c=>
   have hargs:Cj G s'.env c.args.toList=Cj G s.env c.args.toList:=
    Jd fun x hx=>ha x (by simp at hx;simp [Op.operands,Call.operands,hx])
   simp only[dop] at h⊢
   cases hc:c.callee with
   | invoke r m=>rw[hc] at h;exact h.elim
   | value f=>
    rw[hc] at h;simp only[Jp] at h⊢
    rw[hargs,ha f (by simp [Op.operands,Call.operands,hc])];generalize dev G s.env f=vf at h⊢
    unfold Si at h⊢
    split at h<;>try exact h.elim
    all_goals
     rw[hh];refine h.mono ?_;intro e H' hr;cases e with
     | ret v=>exact hK _ _ hr
     | panic v=>exact hQ _ _ hr
   | builtin b=>
    rw[hc] at h;simp only[Jp] at h⊢
    rw[hargs];generalize Cj G s.env c.args.toList=vs at h⊢
    cases b<;>(try (cases vs<;>exact h.elim))<;>(try (exfalso;refine he ?_;simp [Jt,hc];done))
    case cap=>
     cases vs with
     | nil=>exact h.elim
     | cons x vs=> ?_
     cases vs with
     | cons z vs=>exact h.elim
     | nil=> ?_
     simp only[Et] at h⊢
     generalize c.argTypes.toList=ts at h⊢
     unfold Bq6 at h⊢
     split at h<;>try exact h.elim
     show Bq5 _ _ _ _ _;generalize P.underlying _=u at h⊢
     unfold Bq5 at h⊢
     split at h<;>try exact h.elim
     ·show K' ⟨_,s'.heap⟩;rw[hh];exact hK _ _ h
     ·intro c hc;show K' ⟨_,s'.heap⟩;rw[hh];exact hK _ _ (h c hc)
     ·intro c hc hc';show K' ⟨_,s'.heap⟩;rw[hh];exact hK _ _ (h c hc hc')
    case clear=>
     cases vs with
     | nil=>exact h.elim
     | cons x vs=> ?_
     cases vs with
     | cons z vs=>exact h.elim
     | nil=> ?_
     simp only[Et] at h⊢
     generalize c.argTypes.toList=ts at h⊢
     unfold Aj9 at h⊢
     split at h<;>try exact h.elim
     show Vp _ _ _ _ _ _;generalize P.underlying _=u at h⊢
     unfold Vp at h⊢
     split at h<;>try exact h.elim
     generalize Ax _ _=zo at h⊢
     unfold Ab9 at h⊢
     split at h<;>try exact h.elim
     ·show K' ⟨_,s'.heap⟩;rw[hh];exact hK _ _ h
     ·refine⟨h.1,h.2.1, ?_⟩;have h2:=h.2.2;rw[hh];generalize s.heap _=ob at h2⊢
      unfold Bb6 at h2⊢
      split at h2<;>try exact h2.elim
      refine⟨h2.1,h2.2.1,h2.2.2.1, ?_⟩;rw[hh];exact hK _ _ h2.2.2.2
    case delete=>
     cases vs with
     | nil=>exact h.elim
     | cons x vs=> ?_
     cases vs with
     | nil=>exact h.elim
     | cons y vs=> ?_
     cases vs with
     | cons z vs=>exact h.elim
     | nil=> ?_
     simp only[Et] at h⊢
     generalize c.argTypes.toList=ts at h⊢
     unfold Zc at h⊢
     split at h<;>try exact h.elim
     show Qn _ _ _ _ _ _ _;generalize P.underlying _=u at h⊢
     unfold Qn at h⊢
     split at h<;>try exact h.elim
     refine⟨h.1, ?_⟩;have h2:=h.2;rw[hh];generalize s.heap _=ob at h2⊢
     unfold Vr at h2⊢
     split at h2<;>try exact h2.elim
     unfold Vq at h2⊢
     split at h2<;>try exact h2.elim
     rw[hh];exact hK _ _ h2
    case append=>
     cases vs with
     | nil=>exact h.elim
     | cons x vs=> ?_
     cases vs with
     | nil=>exact h.elim
     | cons y vs=> ?_
     cases vs with
     | cons z vs=>exact h.elim
     | nil=> ?_
     simp only[Et] at h⊢
     generalize c.argTypes.toList=ts at h⊢
     unfold Kr at h⊢
     split at h<;>try exact h.elim
     show Mx _ _ _ _ _ _ _ _ _;generalize Gm _=it at h⊢
     cases it with
     | true=>
      simp only[Mx] at h⊢
      generalize P.underlying _=u at h⊢
      unfold Qj at h⊢
      split at h<;>try exact h.elim
      generalize Ax _ _=zo at h⊢
      unfold Vo at h⊢
      split at h<;>try exact h.elim
      refine⟨h.1,h.2.1,fun hn=> ?_,fun hn=>⟨(h.2.2.2 hn).1,(h.2.2.2 hn).2.1,(h.2.2.2 hn).2.2.1,newS (h.2.2.2 hn).2.2.2⟩⟩;have:=h.2.2.1 hn;show K' ⟨_,s'.heap⟩;rw[hh];exact hK _ _ this
     | false=> ?_
     simp only[Mx] at h⊢
     generalize Pk _=u' at h⊢
     generalize P.underlying _=u at h⊢
     unfold Qi at h⊢
     split at h<;>try exact h.elim
     obtain⟨g1,g2,g3,g4,g5,g6⟩:=h;refine⟨g1,g2,g3,g4,g5, ?_⟩;rw[hh];generalize Ja _ _ _=sc at g6⊢
     unfold Vn at g6⊢
     split at g6<;>try exact g6.elim
     obtain⟨k1,k2,k3⟩:=g6;refine⟨k1,k2, ?_⟩;unfold Kq at k3⊢
     split at k3<;>try exact k3.elim
     ·refine⟨fun hn=> ?_,fun hn=>⟨(k3.2 hn).1,newS (k3.2 hn).2⟩⟩;have:=k3.1 hn;show K' ⟨_,s'.heap⟩;rw[hh];exact hK _ _ this
     ·refine⟨k3.1, ?_⟩;have k4:=k3.2;rw[hh];generalize s.heap _=ob at k4⊢
      unfold Qh at k4⊢
      split at k4<;>try exact k4.elim
      obtain⟨m1,m2,m3⟩:=k4;refine⟨m1,fun hl=>⟨(m2 hl).1, ?_⟩,fun hl=>⟨(m3 hl).1,(m3 hl).2.1,fun r' pre hr hp=> ?_⟩⟩
      ·rw[hh];exact hK _ _ (m2 hl).2
      ·rw[hh] at hr⊢;exact hK _ _ ((m3 hl).2.2 r' pre hr hp)
    case panic=>
     cases vs with
     | nil=>exact h.elim
     | cons x xs=>cases xs with
      | nil=>exact panic h
      | cons y ys=>exact h.elim
end
end Go.Dl

-- THE DATA LEVEL, PART 1: plans of regions whose order is drawn.
namespace Go.Dl
open Go
inductive Plan where
 | done
 | take (i:Nat) (p:Plan)
 | go (i:Nat) (ls:List Nat) (p:Plan)
 | alt (p q:Plan)
 deriving Inhabited
def Bz:List Oper->Nat->Option Oper
 | [],_=>none
 | o::_,0=>some o
 | _::r,n+1=>Bz r n
def Qv (P:Program) (G:Nat->DVal) (K:DK) (Q:DExit->DS->Prop) (dst:Option Nat) (op:Op) (s:DS):Bool->DVal->Prop
 | true, .bool true=>dop P G dst K Q s op
 | true, .bool false=>Av dst Bp K s
 | false, .bool true=>Av dst Bp K s
 | false, .bool false=>dop P G dst K Q s op
 | true, .tuple []=>Av dst Bp K s
 | false, .tuple []=>Av dst Bp K s
 | _,_=>False
def Kx (P:Program) (G:Nat->DVal) (K:DK) (Q:DExit->DS->Prop) (dst:Option Nat) (op:Op) (s:DS) (b:Bool):Option Nat->Prop
 | some g=>Qv P G K Q dst op s b (s.env g)
 | none=>False
def Bm0 (P:Program) (G:Nat->DVal) (all:List Oper) (K:DK) (Q:DExit->DS->Prop) (s:DS) (dst:Option Nat) (op:Op):Option (Nat×Bool)->Prop
 | none=>dop P G dst K Q s op
 | some (j,b)=>Kx P G K Q dst op s b (Ih all j)
def dAt (P:Program) (G:Nat->DVal) (all:List Oper) (K:DK) (Q:DExit->DS->Prop) (s:DS):Option Oper->Prop
 | some o=>Bm0 P G all K Q s o.dst o.op o.guard
 | none=>False
def Bu1 (G:Nat->DVal) (s:DS) (H':Aa):Option Operand->Prop
 | some a=>Ev s.heap H' (dev G s.env a)
 | none=>True
def Lu:Option Oper->Option Operand
 | some o=>Ae8 o.op
 | none=>none
def Bc6 (G:Nat->DVal) (all:List Oper) (s:DS) (H':Aa):List Nat->Prop
 | []=>True
 | l::ls=>Bu1 G s H' (Lu (Bz all l))/\Bc6 G all s H' ls
def Bc7 (G:Nat->DVal) (all:List Oper) (ls:List Nat) (s:DS) (K:DK):DK:=fun s'=>Bc6 G all s s'.heap ls/\K s'
def Fk (P:Program) (G:Nat->DVal) (all:List Oper) (Q:DExit->DS->Prop):Plan->DS->Prop
 | .done,s=>Q .normal s
 | .take i p,s=>dAt P G all (Fk P G all Q p) Q s (Bz all i)
 | .go i ls p,s=>dAt P G all (Bc7 G all ls s (Fk P G all Q p)) Q s (Bz all i)
 | .alt p q,s=>Fk P G all Q p s/\Fk P G all Q q s
def QP (Q:DExit->DS->Prop):DExit->DS->Prop
 | .panic v,s=> ∀env,Q (.panic v) ⟨env,s.heap⟩
 | .normal,s=>Q .normal s
 | _,_=>False
def Jl (all:List Oper) (k j:Nat):Bool:=
 match Bz all k with
 | some o=>o.after.any fun e=>Region.binds .any e&&e.on==j
 | none=>false
def Wi (all:List Oper) (j k:Nat):Bool:=
 match Bz all j,Bz all k with
 | some x,some y=>x.apart all.toArray y
 | _,_=>true
def Ax7 (all:List Oper) (i:Nat):Bool:=
 match Bz all i with
 | some o=>Jt o.op
 | none=>false
def Ss (all:List Oper) (k:Nat) (T:List Nat):Bool:=
 match Bz all k with
 | some o=>o.after.all fun e=>!Region.binds .any e || T.contains e.on
 | none=>false
def Ge (all:List Oper) (j:Nat):Option Nat:=(Bz all j).bind (·.dst)
def Je:Plan->List Nat
 | .go i _ _=> [i]
 | .alt p q=>Je p++Je q
 | _=> []
def Ub (all:List Oper) (T:List Nat):Plan->Bool
 | .done=>true
 | .take _ _=>true
 | p=>(List.range all.length).all fun k=>T.contains k || (Je p).contains k || !Ss all k T
def An3 (all:List Oper) (T:List Nat) (l:Nat):Operand->Bool
 | .tmp t=>T.all fun m=>Ge all m !=some t || Jl all l m
 | _=>true
def Bu2 (all:List Oper) (k:Nat):List Nat:=
 match Bz all k with
 | some o=>(o.after.toList.filter fun e=>Region.binds .any e).map (·.on)
 | none=> []
def Uw (all:List Oper):Nat->List Nat->List Nat
 | 0,S=>S
 | k+1,S=>Uw all k (if S.contains k then Bu2 all k++S else S)
def Dg3 (all:List Oper) (i:Nat):List Nat:=Uw all (i+1) [i]
def Bc8 (all:List Oper) (T:List Nat) (i:Nat) (ls:List Nat):Bool:=
 T.all fun l=>match Lu (Bz all l) with
  | none=>true
  | some a=>Jl all i l || (l !=i&&(Dg3 all i).contains l) || (ls.contains l&&An3 all T l a)
def Dx (all:List Oper):Plan->List Nat->Bool
 | .done,T=>(List.range all.length).all fun k=>T.contains k
 | .take i p,T=>decide (i<all.length)&&!T.contains i&&Ax7 all i&&Ss all i T&&
   ((List.range all.length).all fun k=>T.contains k || k==i || Jl all k i || Wi all i k)&&Ub all (i::T) p&&Dx all p (i::T)
 | .go i ls p,T=>decide (i<all.length)&&!T.contains i&&Ss all i T&&Bc8 all T i ls&&Ub all (i::T) p&&Dx all p (i::T)
 | .alt p q,T=>Dx all p T&&Dx all q T
section
variable {P:Program} {G:Nat->DVal} {N:Nat} {all:List Oper} {Q:DExit->DS->Prop} {s0:DS} {w0:World}
theorem Iv: ∀(all:List Oper) (j:Nat),Bz all j=all[j]?
 | [],j=>by simp [Bz]
 | o::r,0=>by simp [Bz]
 | o::r,j+1=>by simp [Bz,Iv r j]
theorem Wj {o:Oper} {K:DK} {s:DS}:dAt P G all K Q s (some o)↔
  (Jv all s.env o=some true/\dop P G o.dst K Q s o.op)\/(Jv all s.env o=some false/\Av o.dst Bp K s):=by
 simp only[dAt];unfold Bm0 Jv;cases o.guard with
 | none=>simp
 | some jb=>
  obtain⟨j,b⟩:=jb;simp only;cases Ih all j with
  | none=>simp [Kx]
  | some g=>
   simp only[Kx];cases hv:s.env g<;>(try (cases b<;>simp [Qv];done))
   case bool v=>cases b<;>cases v<;>simp [Qv]
   case tuple vs=>cases vs<;>cases b<;>simp [Qv]
def Ch1 (P:Program) (G:Nat->DVal) (all:List Oper) (j:Nat) (s:DS) (d:DVal):Prop:=
 ∃o,Bz all j=some o/\Jt o.op=true/\
  ((Jv all s.env o=some true/\ ∀K Q,Av o.dst d K s->dop P G o.dst K Q s o.op)\/(Jv all s.env o=some false/\d=Bp))
def Seq (P:Program) (G:Nat->DVal) (all:List Oper):DS->List Nat->DS->Prop
 | s,[],s'=>s'=s
 | s,j::js,s'=> ∃d,Ch1 P G all j s d/\Seq P G all ⟨Df s.env (Ge all j) d,s.heap⟩ js s'
def looks (all:List Oper) (j:Nat):List Nat:=
 match Bz all j with
 | some o=>o.looksAt all.toArray
 | none=> []
theorem Zi {o:Oper} {env env':Nat->DVal} (h: ∀t∈o.looksAt all.toArray,env' t=env t): ∀x∈o.op.operands,dev G env' x=dev G env x:=by
 intro x hx;cases x with
 | tmp t=>
  refine h t ?_;unfold Oper.looksAt;refine List.mem_append_left _ (List.mem_filterMap.2 ⟨.tmp t,by simpa using hx,rfl⟩)
 | _=>rfl
theorem Qw {o:Oper} {env env':Nat->DVal} (h: ∀t∈o.looksAt all.toArray,env' t=env t):Jv all env' o=Jv all env o:=by
 unfold Jv;cases hg:o.guard with
 | none=>rfl
 | some jb=>
  obtain⟨j,b⟩:=jb;simp only;cases hj:Ih all j with
  | none=>rfl
  | some g=>
   simp only;rw[h g];unfold Oper.looksAt;refine List.mem_append_right _ ?_;rw[hg];rw[Qu] at hj;simp [hj]
theorem Ch1.agree {j:Nat} {s s':DS} {d:DVal} (h:Ch1 P G all j s d) (ha: ∀t∈looks all j,s'.env t=s.env t)
  (hk: ∀o a,Bz all j=some o->Ae8 o.op=some a->Ev s.heap s'.heap (dev G s.env a)):Ch1 P G all j s' d:=by
 obtain⟨o,ho,he,h⟩:=h;have ha': ∀t∈o.looksAt all.toArray,s'.env t=s.env t:=by
  intro t ht;exact ha t (by unfold looks;rw[ho];exact ht)
 refine⟨o,ho,he, ?_⟩;rw[Qw ha'];rcases h with⟨hw,h⟩ | h
 ·refine .inl ⟨hw,fun K' Q' hp=> ?_⟩;have h1:=h (fun s1=>s1=⟨Df s.env o.dst d,s.heap⟩) Q' rfl;obtain⟨d',hd',hall⟩:=Pu o.op he h1;refine hall Q' K' s' (Zi (all:=all) ha') ?_ ?_
  ·exact fun a hl=>hk o a ho hl
  ·unfold Av at hd' hp⊢
   have he:Df s.env o.dst d'=Df s.env o.dst d:=congrArg DS.env hd';have:Df s'.env o.dst d'=Df s'.env o.dst d:=by
    cases hdst:o.dst with
    | none=>rfl
    | some t=>
     rw[hdst] at he;have h2:=congrFun he t;simp [Df,upd] at h2;rw[h2]
   rw[this];exact hp
 ·exact .inr h
theorem Qy {env:Nat->DVal} {dst:Option Nat} {d:DVal} {t:Nat} (h:dst≠some t):Df env dst d t=env t:=by
 cases dst with
 | none=>rfl
 | some k=>simp only[Df,upd];rw[if_neg];intro e;exact h (by rw[e])
theorem Zj {env:Nat->DVal} {x y:Option Nat} {d e:DVal} (h: ∀t,x=some t->y≠some t):Df (Df env x d) y e=Df (Df env y e) x d:=by
 cases x with
 | none=>rfl
 | some i=>
  cases y with
  | none=>rfl
  | some k=>
   have hne:k≠i:=fun hh=>h i rfl (by rw[hh]);funext t;simp only[Df,upd];by_cases h1:t=k
   ·subst h1;rw[if_pos rfl,if_neg hne,if_pos rfl]
   ·rw[if_neg h1];by_cases h2:t=i
    ·rw[if_pos h2,if_pos h2]
    ·rw[if_neg h2,if_neg h2,if_neg h1]
structure Apart (all:List Oper) (j k:Nat):Prop where
 a: ∀t,Ge all j=some t->t∉looks all k
 b: ∀t,Ge all j=some t->Ge all k≠some t
 c: ∀t,Ge all k=some t->t∉looks all j
theorem Uc {j k:Nat} {x y:Oper} (hx:Bz all j=some x) (hy:Bz all k=some y) (h:Wi all j k=true):Apart all j k:=by
 unfold Wi at h;rw[hx,hy] at h;obtain⟨h1,h2,h3⟩:=Oper.apart_spec h;refine⟨?_, ?_, ?_⟩<;>simp only[Ge,looks,hx,hy,Option.bind_some]<;>assumption
theorem Seq.front: ∀ {A:List Nat} {k:Nat} {B:List Nat} {s s':DS},(∀j∈A,Apart all j k)->Seq P G all s (A++k::B) s'->Seq P G all s (k::(A++B)) s'
 | [],k,B,s,s',_,h=>h
 | j::A,k,B,s,s',hA,h=>by
  obtain⟨d,hd,h⟩:=h;obtain⟨dk,hk,h⟩:=Seq.front (fun i hi=>hA i (by simp [hi])) h;have ap:=hA j (by simp);refine⟨dk,hk.agree (fun t ht=>(Qy (fun e=>ap.a t e ht)).symm) (fun _ _ _ _=>Ju),d,hd.agree (fun t ht=>Qy (fun e=>ap.c t e ht)) (fun _ _ _ _=>Ju), ?_⟩;show Seq P G all ⟨Df (Df s.env _ dk) _ d,s.heap⟩ (A++B) s';rw[Zj (fun t h1 h2=>ap.b t h2 h1)];exact h
theorem Seq.heap: ∀ {js:List Nat} {s s':DS},Seq P G all s js s'->s'.heap=s.heap
 | [],s,s',h=>by cases h;rfl
 | j::js,s,s',⟨d,_,h⟩=>by have:=Seq.heap h;exact this
theorem Seq.env: ∀ {js:List Nat} {s s':DS},Seq P G all s js s'-> ∀t,(∀j∈js,Ge all j≠some t)->s'.env t=s.env t
 | [],s,s',h,t,_=>by cases h;rfl
 | j::js,s,s',⟨d,_,h⟩,t,ht=>by
  rw[Seq.env h t fun i hi=>ht i (by simp [hi])];exact Qy (ht j (by simp))
theorem Seq.shift {k:Option Nat} {v:DVal} {h:Aa}: ∀ {js:List Nat} {s s':DS},Seq P G all s js s'->
  (∀j∈js,∀t,k=some t->t∉looks all j)->(∀j∈js,∀t,Ge all j=some t->k≠some t)->
  (∀A j B,js=A++j::B-> ∀o a,Bz all j=some o->Ae8 o.op=some a->(∀t,a= .tmp t-> ∀m∈j::B,Ge all m≠some t)/\Ev s.heap h (dev G s'.env a))->
  Seq P G all ⟨Df s.env k v,h⟩ js ⟨Df s'.env k v,h⟩
 | [],s,s',hs,_,_,_=>by cases hs;rfl
 | j::js,s,s',⟨d,hd,hs⟩,h1,h2,h3=>by
  refine⟨d,hd.agree (fun t ht=>Qy fun e=>h1 j (by simp) t e ht) (fun o a ho ha=> ?_), ?_⟩
  ·obtain⟨g1,g2⟩:=h3 [] j js rfl o a ho ha;have:dev G s'.env a=dev G s.env a:=by
    cases a with
    | tmp t=>
     have:=Seq.env hs t fun i hi=>g1 t rfl i (by simp [hi]);simp only[dev];rw[this];exact Qy (g1 t rfl j (by simp))
    | _=>rfl
   rw[<-this];exact g2
  ·have hs':=Seq.shift (k:=k) (v:=v) (h:=h) hs (fun i hi=>h1 i (by simp [hi])) (fun i hi=>h2 i (by simp [hi])) (fun A i B e=>h3 (j::A) i B (by rw[e];rfl));show Seq P G all ⟨Df (Df s.env k v) (Ge all j) d,h⟩ js _;rw[Zj fun t e1 e2=>h2 j (by simp) t e2 e1];exact hs'
end
end Go.Dl

-- THE DATA LEVEL, PART 2: what a plan ends with, every order that is drawn ends with.
namespace Go.Dl
open Go
section
variable {P:Program} {G:Nat->DVal} {N:Fr} {all:List Oper} {Q:DExit->DS->Prop} {s0:DS} {w0:World}
theorem Wk {F:Fence} {n:Nat} (hF:FOk F) {k:Nat} {o:Oper} {c:DS} {a:Act} {w:World} {K:DK} (hall:all.all (Ef N)=true) (hk:Bz all k=some o) (hS:Sim G N c a w) (hE:Ext s0.heap w0 c.heap w)
  (h:dAt P G all K Q c (some o)):wpOpIn F n P all.toArray (Ii G N Q s0 w0) k (Dg G N K c w) a w:=by
 have hko:all.toArray[k]? =some o:=by rw[Iv] at hk;simpa using hk
 have hok:Ef N o=true:=by
  rw[Iv] at hk;exact List.all_eq_true.1 hall o (List.mem_of_getElem? hk)
 unfold wpOpIn;simp only[hko];have skip:Av o.dst Bp K c->Dg G N K c w (a.put o.dst undef) w:=fun hp=>
  ⟨⟨Df c.env o.dst Bp,c.heap⟩,hp,hS.put (Hd hok) (Lm w c.heap),Ext.refl _ _⟩
 simp only[dAt] at h;unfold Bm0 at h;cases hg:o.guard with
 | none=>
  rw[hg] at h;rw[if_pos (by simp [Region.wanted,hg])];exact Js hF hok hS hE h
 | some jb=>
  obtain⟨j,b⟩:=jb;rw[hg] at h;simp only at h;cases hj:Ih all j with
  | none=>rw[hj] at h;exact h.elim
  | some g=>
   rw[hj] at h;simp only[Kx] at h;have hjo:(all[j]?).bind (·.dst)=some g:=by rw[<-Qu];exact hj
   obtain⟨oj,hoj,hdj⟩:=Option.bind_eq_some_iff.1 hjo;have hmem:oj∈all:=List.mem_of_getElem? hoj;have hgN:g<N:=by
    have:=List.all_eq_true.1 hall oj hmem;have:=Hd this;rw[hdj] at this;simpa [Be] using this
   have hrel:=hS.tmps g hgN;have hy: ∀v,c.env g= .bool v->yielded all.toArray a.tmps j=some v:=by
    intro v hv;rw[hv] at hrel;simp only[Rel] at hrel;have h1:a.tmps[g]? =some (.bool v):=by
     rw[Array.getD_eq_getD_getElem?] at hrel;cases hq:a.tmps[g]? with
     | none=>
      have:=hS.size;rw[Array.getElem?_eq_none_iff] at hq;omega
     | some z=>rw[hq] at hrel;simpa using hrel
    simp [yielded,hoj,hdj,h1]
   by_cases hun:c.env g= .tuple []
   ·rw[hun] at h hrel;simp only[Rel,Ap] at hrel;obtain⟨xs,hxs,hx0⟩:=hrel;have hyn:yielded all.toArray a.tmps j=none:=by
     have h2: ∀z,a.tmps[g]? =some z->z= .tuple xs:=fun z hz=>by
      rw[Array.getD_eq_getD_getElem?,hz] at hxs;simpa using hxs
     unfold yielded;simp only[List.getElem?_toArray,hjo,Option.bind_some];cases hz:a.tmps[g]? with
     | none=>rfl
     | some z=>rw[h2 z hz]
    rw[if_neg (by simp [Region.wanted,hg,hyn])];exact⟨fun f _=>hF.fn f,skip (by cases b<;>exact h)⟩
   cases hv:c.env g<;>rw[hv] at h<;>(try (cases b<;>exact h.elim))
   case tuple vs=>cases vs with
    | nil=>exact absurd hv hun
    | cons _ _=>cases b<;>exact h.elim
   rename_i v
   have hy':=hy v hv;cases b<;>cases v<;>simp only[Qv] at h
   ·rw[if_pos (by simp [Region.wanted,hg,hy'])];exact Js hF hok hS hE h
   ·rw[if_neg (by simp [Region.wanted,hg,hy'])];exact⟨fun f _=>hF.fn f,skip h⟩
   ·rw[if_neg (by simp [Region.wanted,hg,hy'])];exact⟨fun f _=>hF.fn f,skip h⟩
   ·rw[if_pos (by simp [Region.wanted,hg,hy'])];exact Js hF hok hS hE h
structure Inv (P:Program) (G:Nat->DVal) (N:Fr) (all:List Oper) (Q:DExit->DS->Prop) (s0:DS) (w0:World)
  (T js:List Nat) (p:Plan) (c s:DS) (a:Act) (w:World) (listed:Array Bool):Prop where
 sim:Sim G N c a w
 ext:Ext s0.heap w0 c.heap w
 seq:Seq P G all c js s
 plan:Fk P G all Q p s
 ok:Dx all p T=true
 cov:Ub all T p=true
 size:listed.size=all.length
 iff: ∀i,i<all.length->(listed.getD i true=true↔i∈T/\i∉js)
 sub: ∀i∈js,i∈T/\i<all.length
 tlt: ∀i∈T,i<all.length
 nodup:js.Nodup
 eager: ∀j∈js,Ax7 all j=true
 pair:js.Pairwise fun j k=>(Jl all k j=true\/Wi all j k=true)/\Jl all j k=false
 out: ∀j∈js,∀k,k<all.length->k∉T->Jl all k j=true\/Wi all j k=true
 deps: ∀j∈js,∀e,Jl all j e=true->e∈T/\e≠j
 clo: ∀k,k<all.length->listed.getD k true=true-> ∀e,Jl all k e=true->listed.getD e false=true
theorem Ky {i:Nat} (h:i<all.length): ∃o,Bz all i=some o:=by
 rw[Iv];exact⟨all[i],by simp [h]⟩
theorem Ax8 {k e:Nat} (h:e∈Bu2 all k):Jl all k e=true:=by
 unfold Bu2 at h;unfold Jl;split at h
 ·rename_i o ho
  simp only[List.mem_map,List.mem_filter,Array.mem_toList_iff] at h;obtain⟨x,⟨hx,hb⟩,rfl⟩:=h;exact Array.any_eq_true'.2 ⟨x,hx,by simp [hb]⟩
 ·cases h
theorem Qz {listed:Array Bool} {i:Nat} (hs:listed.size=all.length) (hi: ∀e,Jl all i e=true->listed.getD e false=true)
  (hc: ∀k,k<all.length->listed.getD k true=true-> ∀e,Jl all k e=true->listed.getD e false=true): ∀(n:Nat) (S:List Nat),(∀m∈S,m=i\/listed.getD m false=true)-> ∀m∈Uw all n S,m=i\/listed.getD m false=true
 | 0,S,h=>h
 | k+1,S,h=>by
  rw[Uw];refine Qz hs hi hc k _ ?_;split
  ·rename_i hk
   intro m hm;rcases List.mem_append.1 hm with hm | hm
   ·have hd:=Ax8 hm;rcases h k (List.contains_iff_mem.1 hk) with rfl | hl
    ·exact .inr (hi m hd)
    ·have hlt:k<listed.size:=by
      rcases Nat.lt_or_ge k listed.size with h' | h'
      ·exact h'
      ·simp [Array.getElem?_eq_none h'] at hl
     refine .inr (hc k (by rw[<-hs];exact hlt) ?_ m hd);simpa [hlt] using hl
   ·exact h m hm
  ·exact h
theorem Jw {k:Nat} {T:List Nat} (hk:k<all.length):Ss all k T=true↔ ∀e,Jl all k e=true->e∈T:=by
 obtain⟨o,ho⟩:=Ky hk;unfold Ss Jl;rw[ho];simp only[Array.all_eq_true_iff_forall_mem,Bool.or_eq_true,Bool.not_eq_true',List.contains_iff_mem];constructor
 ·intro h e he;obtain⟨x,hx,hb⟩:=Array.any_eq_true'.1 he;simp only[Bool.and_eq_true,beq_iff_eq] at hb;rcases h x hx with h1 | h1
  ·rw[hb.1] at h1;cases h1
  ·rw[<-hb.2];exact h1
 ·intro h x hx;by_cases hb:Region.binds .any x=true
  ·exact .inr (h x.on (Array.any_eq_true'.2 ⟨x,hx,by simp [hb]⟩))
  ·exact .inl (by simpa using hb)
theorem Lv {listed:Array Bool} {k:Nat} (hs:listed.size=all.length):k∈Region.ready .any all.toArray listed↔
  k<all.length/\listed.getD k true=false/\ ∀e,Jl all k e=true->listed.getD e false=true:=by
 rw[mem_ready];constructor
 ·rintro⟨h0,o,ho,h⟩;have ho':all[k]? =some o:=by simpa using ho
  have hlt:k<all.length:=(List.getElem?_eq_some_iff.1 ho').1;refine⟨hlt,h0,fun e he=> ?_⟩;unfold Jl at he;rw[Iv,ho'] at he;obtain⟨x,hx,hb⟩:=Array.any_eq_true'.1 he;simp only[Bool.and_eq_true,beq_iff_eq] at hb;rw[<-hb.2];exact h x hx hb.1
 ·rintro⟨hlt,h0,h⟩;refine⟨h0,all[k],by simp [hlt],fun x hx hb=>h x.on ?_⟩;unfold Jl;rw[Iv,List.getElem?_eq_getElem hlt];exact Array.any_eq_true'.2 ⟨x,hx,by simp [hb]⟩
theorem Mm {listed:Array Bool} {e:Nat} (h:e<listed.size):listed.getD e false=listed.getD e true:=by
 simp [h]
theorem Inv.advance {T js:List Nat} {i:Nat} {p:Plan} {c s:DS} {a:Act} {w:World} {listed:Array Bool} (h:Inv P G N all Q s0 w0 T js (.take i p) c s a w listed):
    ∃s',Inv P G N all Q s0 w0 (i::T) (js++ [i]) p c s' a w listed:=by
  have hok:=h.ok
  simp only[Dx,Bool.and_eq_true,decide_eq_true_eq,Bool.not_eq_true',List.all_eq_true,List.mem_range,Bool.or_eq_true,List.contains_iff_mem,beq_iff_eq] at hok
  obtain⟨⟨⟨⟨⟨⟨hi,hT⟩,he⟩,hd⟩,ha⟩,hc⟩,hp⟩:=hok
  have hT':i∉T:=by intro hm;rw[List.contains_iff_mem.2 hm] at hT;cases hT
  rw[Jw hi] at hd
  obtain⟨o,ho⟩:=Ky hi
  have hpl:=h.plan
  simp only[Fk,ho] at hpl
  have heo:Jt o.op=true:=by unfold Ax7 at he;rw[ho] at he;exact he
  have hst: ∃d,Ch1 P G all i s d/\Fk P G all Q p ⟨Df s.env (Ge all i) d,s.heap⟩:=by
    have hdst:Ge all i=o.dst:=by simp [Ge,ho]
    rw[hdst]
    rcases Wj.1 hpl with⟨hw,hdop⟩ | ⟨hw,hput⟩
    · obtain⟨d,hd1,hd2⟩:=Pu o.op heo hdop
      exact⟨d,⟨o,ho,heo, .inl ⟨hw,fun K Q hK=>hd2 Q K s (fun _ _=>rfl) (fun _ _=>Ju) hK⟩⟩,hd1⟩
    · exact⟨Bp,⟨o,ho,heo, .inr ⟨hw,rfl⟩⟩,hput⟩
  obtain⟨d,hev,hpl'⟩:=hst
  have seqApp: ∀(js:List Nat) (c:DS),Seq P G all c js s->Seq P G all c (js++ [i]) ⟨Df s.env (Ge all i) d,s.heap⟩:=by
    intro js
    induction js with
    | nil=>intro c hc;cases hc;exact⟨d,hev,rfl⟩
    | cons j js ih=>intro c hc;obtain⟨d',h1,h2⟩:=hc;exact⟨d',h1,ih _ h2⟩
  refine⟨⟨Df s.env (Ge all i) d,s.heap⟩, ?_⟩
  exact {
    sim:=h.sim,ext:=h.ext,seq:=seqApp js c h.seq,plan:=hpl',ok:=hp,cov:=hc,size:=h.size
    iff:=fun k hk=>by
      rw[h.iff k hk]
      simp only[List.mem_cons,List.mem_append,List.not_mem_nil,or_false,not_or]
      constructor
      · rintro⟨h1,h2⟩
        exact⟨.inr h1,h2,fun e=>hT' (e▸h1)⟩
      · rintro⟨h1,h2,h3⟩
        exact⟨h1.resolve_left h3,h2⟩
    sub:=fun k hk=>by
      simp only[List.mem_append,List.mem_cons,List.not_mem_nil,or_false] at hk⊢
      rcases hk with hk | rfl
      · exact⟨.inr (h.sub k hk).1,(h.sub k hk).2⟩
      · exact⟨.inl rfl,hi⟩
    tlt:=fun k hk=>by
      simp only[List.mem_cons] at hk
      rcases hk with rfl | hk
      · exact hi
      · exact h.tlt k hk
    nodup:=by
      rw[List.nodup_append]
      refine⟨h.nodup,by simp, ?_⟩
      intro x hx y hy e
      simp only[List.mem_cons,List.not_mem_nil,or_false] at hy
      subst hy;subst e
      exact hT' (h.sub x hx).1
    eager:=fun k hk=>by
      simp only[List.mem_append,List.mem_cons,List.not_mem_nil,or_false] at hk
      rcases hk with hk | rfl
      · exact h.eager k hk
      · exact he
    pair:=by
      rw[List.pairwise_append]
      refine⟨h.pair,by simp, ?_⟩
      intro j hj k hk
      simp only[List.mem_cons,List.not_mem_nil,or_false] at hk
      subst hk
      refine⟨h.out j hj k hi hT', ?_⟩
      cases hdep:Jl all j k with
      | false=>rfl
      | true=>exact(hT' (h.deps j hj k hdep).1).elim
    out:=fun j hj k hk hkT=>by
      simp only[List.mem_append,List.mem_cons,List.not_mem_nil,or_false,not_or] at hj hkT
      rcases hj with hj | rfl
      · exact h.out j hj k hk hkT.2
      · rcases ha k hk with((h1 | h1) | h1) | h1
        · exact(hkT.2 h1).elim
        · exact(hkT.1 h1).elim
        · exact .inl h1
        · exact .inr h1
    deps:=fun j hj e hde=>by
      simp only[List.mem_append,List.mem_cons,List.not_mem_nil,or_false] at hj⊢
      rcases hj with hj | rfl
      · exact⟨.inr (h.deps j hj e hde).1,(h.deps j hj e hde).2⟩
      · have:=hd e hde
        exact⟨.inr this,fun hh=>hT' (hh▸this)⟩
    clo:=h.clo }
def Bc9:Plan->Prop
 | .take _ _=>False
 | _=>True
theorem Inv.normal: ∀ {p:Plan} {T js:List Nat} {c s:DS} {a:Act} {w:World} {listed:Array Bool},Inv P G N all Q s0 w0 T js p c s a w listed->
  ∃T' js' p' s',Inv P G N all Q s0 w0 T' js' p' c s' a w listed/\Bc9 p'
 | .take i p,T,js,c,s,a,w,listed,h=>by
  obtain⟨s',h'⟩:=h.advance;exact h'.normal
 | .done,T,js,c,s,a,w,listed,h=>⟨T,js,_,s,h,trivial⟩
 | .go i ls p,T,js,c,s,a,w,listed,h=>⟨T,js,_,s,h,trivial⟩
 | .alt p q,T,js,c,s,a,w,listed,h=>⟨T,js,_,s,h,trivial⟩
theorem St: ∀(p:Plan) (T:List Nat) (s:DS),Dx all p T=true->Fk P G all Q p s->
  ((∀i,i<all.length->i∈T)/\Q .normal s)\/ ∃i,i<all.length/\i∉T/\ ∀e,Jl all i e=true->e∈T
 | .done,T,s,hok,h=>by
  simp only[Dx,List.all_eq_true,List.mem_range,List.contains_iff_mem] at hok;exact .inl ⟨hok,h⟩
 | .take i p,T,s,hok,h=>by
  simp only[Dx,Bool.and_eq_true,decide_eq_true_eq,Bool.not_eq_true'] at hok;obtain⟨⟨⟨⟨⟨⟨hi,hT⟩,he⟩,hd⟩,_⟩,_⟩,_⟩:=hok;exact .inr ⟨i,hi,(fun hm=>by rw[List.contains_iff_mem.2 hm] at hT;cases hT),(Jw hi).1 hd⟩
 | .go i ls p,T,s,hok,h=>by
  simp only[Dx,Bool.and_eq_true,decide_eq_true_eq,Bool.not_eq_true'] at hok;obtain⟨⟨⟨⟨⟨hi,hT⟩,hd⟩,_⟩,_⟩,_⟩:=hok;exact .inr ⟨i,hi,(fun hm=>by rw[List.contains_iff_mem.2 hm] at hT;cases hT),(Jw hi).1 hd⟩
 | .alt p q,T,s,hok,h=>by
  simp only[Dx,Bool.and_eq_true] at hok;exact St p T s hok.1 h.1
theorem Pv: ∀(p:Plan) (T:List Nat) (s:DS) (k:Nat),Dx all p T=true->Fk P G all Q p s->k∈Je p->
  ∃ls p',Dx all (.go k ls p') T=true/\Fk P G all Q (.go k ls p') s
 | .done,T,s,k,_,_,hk=>by simp [Je] at hk
 | .take i p,T,s,k,_,_,hk=>by simp [Je] at hk
 | .go i ls p,T,s,k,hok,h,hk=>by
  simp only[Je,List.mem_cons,List.not_mem_nil,or_false] at hk;subst hk;exact⟨ls,p,hok,h⟩
 | .alt p q,T,s,k,hok,h,hk=>by
  simp only[Dx,Bool.and_eq_true] at hok;simp only[Je,List.mem_append] at hk;rcases hk with hk | hk
  ·exact Pv p T s k hok.1 h.1 hk
  ·exact Pv q T s k hok.2 h.2 hk
theorem Ax9 {p:Plan} {T:List Nat} (hc:Ub all T p=true) (hok:Dx all p T=true) (hn:Bc9 p) {k:Nat} (hk:k<all.length) (hT:k∉T) (hd: ∀e,Jl all k e=true->e∈T):k∈Je p:=by
 have gen:((List.range all.length).all fun k=>T.contains k || (Je p).contains k || !Ss all k T)=true->k∈Je p:=by
  intro h;simp only[List.all_eq_true,List.mem_range,Bool.or_eq_true,List.contains_iff_mem,Bool.not_eq_true'] at h;rcases h k hk with(h1 | h1) | h1
  ·exact(hT h1).elim
  ·exact h1
  ·rw[(Jw hk).2 hd] at h1;cases h1
 cases p with
 | done=>
  simp only[Dx,List.all_eq_true,List.mem_range,List.contains_iff_mem] at hok;exact(hT (hok k hk)).elim
 | take i p=>exact hn.elim
 | go i ls p=>exact gen hc
 | alt p q=>exact gen hc
theorem Zk {s:DS} {H':Aa}: ∀ {ls:List Nat},Bc6 G all s H' ls-> ∀l∈ls,Bu1 G s H' (Lu (Bz all l))
 | [],_,l,hl=>by simp at hl
 | x::ls,h,l,hl=>by
  simp only[List.mem_cons] at hl;rcases hl with rfl | hl
  ·exact h.1
  ·exact Zk h.2 l hl
theorem Inv.sound {F:Fence} {n:Nat} (hF:FOk F) (hall:all.all (Ef N)=true) (hQ: ∀v env env' h,Q (.panic v) ⟨env,h⟩->Q (.panic v) ⟨env',h⟩): ∀(Bh:Nat) (U T js:List Nat) (p:Plan) (c s:DS) (a:Act) (w:World) (listed:Array Bool),
    Inv P G N all Q s0 w0 T js p c s a w listed->U.length<=Bh->(∀i,i<all.length->listed.getD i true=false->i∈U)->
    wpAnyIn F n P .any all.toArray (Ii G N Q s0 w0) Bh listed a w:=by
  intro Bh
  induction Bh with
  | zero=>
    intro U T js p c s a w listed h hU hUm
    have hnil:U= []:=List.eq_nil_of_length_eq_zero (Nat.le_zero.1 hU)
    subst hnil
    have hall1: ∀i,i<all.length->listed.getD i true=true:=by
      intro i hi
      cases hl:listed.getD i true with
      | true=>rfl
      | false=>exact absurd (hUm i hi hl) (by simp)
    have hjs:js= []:=by
      cases js with
      | nil=>rfl
      | cons j js=>
        have hs:=h.sub j (by simp)
        exact absurd (by simp) ((h.iff j hs.2).1 (hall1 j hs.2)).2
    subst hjs
    have hsc:=h.seq
    simp only[Seq] at hsc
    refine⟨?_, ?_⟩
    · rw[List.eq_nil_iff_forall_not_mem]
      intro k hk
      rw[Lv h.size] at hk
      rw[hall1 k hk.1] at hk
      cases hk.2.1
    · rcases St p T s h.ok h.plan with⟨_,hq⟩ | ⟨i,hi,hiT,_⟩
      · subst hsc;exact⟨.normal,s,hq, .normal,h.sim,h.ext⟩
      · exact absurd ((h.iff i hi).1 (hall1 i hi)).1 hiT
  | succ Bh ih=>
    intro U T js p c s a w listed h0 hU hUm
    obtain⟨T,js,p,s,h,hnt⟩:=h0.normal
    have inList: ∀e,listed.getD e false=true->e∈T/\e∉js:=by
      intro e he
      have hlt:e<listed.size:=by
        rcases Nat.lt_or_ge e listed.size with h' | h'
        · exact h'
        · simp [Array.getElem?_eq_none h'] at he
      have:=he
      rw[Mm hlt] at this
      exact(h.iff e (by rw[<-h.size];exact hlt)).1 this
    refine⟨fun hr=> ?_,fun k hk=> ?_⟩
    · -- nothing may come up: all have
      have hno: ∀k,k∉Region.ready .any all.toArray listed:=by rw[hr];simp
      have toL: ∀e,e∈T->e∉js->e<all.length->listed.getD e false=true:=by
        intro e h1 h2 h3
        rw[Mm (by rw[h.size];exact h3)]
        exact(h.iff e h3).2 ⟨h1,h2⟩
      have unl: ∀i,i<all.length-> ¬(i∈T/\i∉js)->listed.getD i true=false:=by
        intro i hi hn
        cases hl:listed.getD i true with
        | false=>rfl
        | true=>exact(hn ((h.iff i hi).1 hl)).elim
      have hjs:js= []:=by
        cases js with
        | nil=>rfl
        | cons j js=>
          refine(hno j ((Lv h.size).2 ⟨(h.sub j (by simp)).2,unl j (h.sub j (by simp)).2 (fun hh=>hh.2 (by simp)),fun e he=> ?_⟩)).elim
          obtain⟨g1,g2⟩:=h.deps j (by simp) e he
          refine toL e g1 (fun hm=> ?_) (h.tlt e g1)
          simp only[List.mem_cons] at hm
          rcases hm with hm | hm
          · exact g2 hm
          · have:=((List.pairwise_cons.1 h.pair).1 e hm).2
            rw[he] at this;cases this
      subst hjs
      have hsc:=h.seq
      simp only[Seq] at hsc
      rcases St p T s h.ok h.plan with⟨_,hq⟩ | ⟨i,hi,hiT,hd⟩
      · subst hsc;exact⟨.normal,s,hq, .normal,h.sim,h.ext⟩
      · exact(hno i ((Lv h.size).2 ⟨hi,unl i hi (fun hh=>hiT hh.1),fun e he=>toL e (hd e he) (by simp) (h.tlt e (hd e he))⟩)).elim
    · rw[Lv h.size] at hk
      obtain⟨hkn,hun,hdep⟩:=hk
      obtain⟨o,ho⟩:=Ky hkn
      have hdepT: ∀e,Jl all k e=true->e∈T/\e∉js:=fun e he=>inList e (hdep e he)
      have hU':k∈U:=hUm k hkn hun
      have hUl:(U.erase k).length<=Bh:=by
        rw[List.length_erase_of_mem hU'];omega
      have hset: ∀i,i≠k->(listed.setIfInBounds k true).getD i true=listed.getD i true:=fun i hi=>getD_set_ne true (Ne.symm hi)
      have hsetk:(listed.setIfInBounds k true).getD k true=true:=by
        have:k<listed.size:=by rw[h.size];exact hkn
        simp [this]
      have hup: ∀e,listed.getD e false=true->(listed.setIfInBounds k true).getD e false=true:=by
        intro e he
        have hlt:e<listed.size:=by
          rcases Nat.lt_or_ge e listed.size with h' | h'
          · exact h'
          · simp [Array.getElem?_eq_none h'] at he
        by_cases hek:e=k
        · subst hek
          simp [hlt]
        · rw[getD_set_ne false (Ne.symm hek)];exact he
      have hclo: ∀i,i<all.length->(listed.setIfInBounds k true).getD i true=true-> ∀e,Jl all i e=true->(listed.setIfInBounds k true).getD e false=true:=by
        intro i hi hl e he
        by_cases hik:i=k
        · subst hik;exact hup e (hdep e he)
        · rw[hset i hik] at hl
          exact hup e (h.clo i hi hl e he)
      have hUm': ∀i,i<all.length->(listed.setIfInBounds k true).getD i true=false->i∈U.erase k:=by
        intro i hi hl
        by_cases hik:i=k
        · subst hik;rw[hsetk] at hl;cases hl
        · rw[hset i hik] at hl
          exact(List.mem_erase_of_ne hik).2 (hUm i hi hl)
      by_cases hkj:k∈js
      · -- it was taken before
        obtain⟨A,B,rfl⟩:=List.append_of_mem hkj
        have hpw:=List.pairwise_append.1 h.pair
        have hnd:=h.nodup
        rw[List.nodup_append] at hnd
        have apA: ∀j∈A,Apart all j k:=by
          intro j hj
          have hjlt:=(h.sub j (by simp [hj])).2
          obtain⟨x,hx⟩:=Ky hjlt
          rcases(hpw.2.2 j hj k (by simp)).1 with hd | ha
          · exact absurd (by simp [hj]) (hdepT j hd).2
          · exact Uc hx ho ha
        obtain⟨d,hev,hrest⟩:=Seq.front apA h.seq
        obtain⟨o',ho',heo,hev⟩:=hev
        rw[ho] at ho';cases ho'
        have hdst:Ge all k=o.dst:=by simp [Ge,ho]
        have hat:dAt P G all (fun s1=>s1=⟨Df c.env o.dst d,c.heap⟩) Q c (some o):=by
          rw[Wj]
          rcases hev with⟨hw,hv⟩ | ⟨hw,rfl⟩
          · exact .inl ⟨hw,hv _ _ rfl⟩
          · exact .inr ⟨hw,rfl⟩
        refine wpOpIn_mono ?_ (Wk hF hall ho h.sim h.ext hat)
        rintro a' w' ⟨s1,rfl,hS',hE'⟩
        refine ih (U.erase k) T (A++B) p ⟨Df c.env o.dst d,c.heap⟩ s a' w' _ ?_ hUl hUm'
        have memE: ∀i,i∈A++B->i∈A++k::B:=fun i hi=>by
          simp only[List.mem_append,List.mem_cons] at hi⊢
          rcases hi with hi | hi
          · exact .inl hi
          · exact .inr (.inr hi)
        have subl:(A++B).Sublist (A++k::B):=List.Sublist.append (List.Sublist.refl A) (List.sublist_cons_self k B)
        have kno:k∉A++B:=by
          intro hm
          have:=h.nodup
          rw[(List.perm_middle (a:=k) (l₁:=A) (l₂:=B)).nodup_iff] at this
          exact(List.nodup_cons.1 this).1 hm
        exact {
          sim:=hS',ext:=h.ext.trans hE',seq:=by rw[hdst] at hrest;exact hrest,plan:=h.plan,ok:=h.ok,cov:=h.cov
          size:=by simp [h.size]
          iff:=fun i hi=>by
            by_cases hik:i=k
            · subst hik
              rw[hsetk]
              exact⟨fun _=>⟨(h.sub i (by simp)).1,kno⟩,fun _=>rfl⟩
            · rw[hset i hik,h.iff i hi]
              simp only[List.mem_append,List.mem_cons,not_or]
              constructor
              · rintro⟨g1,g2,g3⟩;exact⟨g1,g2,g3.2⟩
              · rintro⟨g1,g2,g3⟩;exact⟨g1,g2,hik,g3⟩
          sub:=fun i hi=>h.sub i (memE i hi)
          tlt:=h.tlt
          nodup:=h.nodup.sublist subl
          eager:=fun i hi=>h.eager i (memE i hi)
          pair:=h.pair.sublist subl
          out:=fun i hi=>h.out i (memE i hi)
          deps:=fun i hi=>h.deps i (memE i hi)
          clo:=hclo }
      · -- it is the plan's next
        have hkT:k∉T:=by
          intro hm
          have:=(h.iff k hkn).2 ⟨hm,hkj⟩
          rw[hun] at this;cases this
        have hf:=Ax9 h.cov h.ok hnt hkn hkT fun e he=>(hdepT e he).1
        obtain⟨ls,p',hok,hpl⟩:=Pv p T s k h.ok h.plan hf
        simp only[Dx,Bool.and_eq_true,decide_eq_true_eq,Bool.not_eq_true'] at hok
        obtain⟨⟨⟨⟨⟨_,_⟩,hd⟩,hlk⟩,hc'⟩,hp'⟩:=hok
        simp only[Fk,ho] at hpl
        have apJ: ∀j∈js,Apart all j k:=by
          intro j hj
          obtain⟨x,hx⟩:=Ky (h.sub j hj).2
          rcases h.out j hj k hkn hkT with hd | ha
          · exact absurd hj (hdepT j hd).2
          · exact Uc hx ho ha
        have hdst:Ge all k=o.dst:=by simp [Ge,ho]
        have hlooks:looks all k=o.looksAt all.toArray:=by simp [looks,ho]
        have agree: ∀t∈o.looksAt all.toArray,c.env t=s.env t:=by
          intro t ht
          refine(Seq.env h.seq t fun j hj e=> ?_).symm
          exact(apJ j hj).a t e (by rw[hlooks];exact ht)
        have shift: ∀d H',Bc7 G all ls s (Fk P G all Q p') ⟨Df s.env o.dst d,H'⟩->
            (∃s1,Fk P G all Q p' s1/\Seq P G all ⟨Df c.env o.dst d,H'⟩ js s1):=by
          intro d H' hK
          refine⟨_,hK.2,Seq.shift h.seq (fun j hj t e=> ?_) (fun j hj t e e2=> ?_) ?_⟩
          · exact(apJ j hj).c t (by rw[hdst];exact e)
          · exact(apJ j hj).b t e (by rw[hdst];exact e2)
          · intro A j B e oj a hoj hla
            have hjm:j∈js:=by rw[e];simp
            have hjT:=(h.sub j hjm).1
            unfold Bc8 at hlk
            rw[List.all_eq_true] at hlk
            have hl:=hlk j hjT
            simp only[Lu,hoj,hla,Bool.or_eq_true,Bool.and_eq_true,List.contains_iff_mem,bne_iff_ne] at hl
            rcases hl with(hl | ⟨hl1,hl2⟩) | ⟨hl1,hl2⟩
            · exact absurd hjm (hdepT j hl).2
            · rcases Qz h.size hdep h.clo (k+1) [k] (fun m hm=> .inl (by simpa using hm)) j hl2 with hh | hh
              · exact absurd hh hl1
              · exact absurd hjm (inList j hh).2
            · refine⟨fun t ht m hm hdm=> ?_, ?_⟩
              · subst ht
                simp only[An3,List.all_eq_true,Bool.or_eq_true,bne_iff_ne] at hl2
                have hmj:m∈js:=by rw[e];exact List.mem_append_right _ hm
                rcases hl2 m (h.sub m hmj).1 with g | g
                · exact g hdm
                · simp only[List.mem_cons] at hm
                  rcases hm with rfl | hm
                  · exact(h.deps m hmj m g).2 rfl
                  · have hp:=h.pair
                    rw[e,List.pairwise_append] at hp
                    have:=(List.pairwise_cons.1 hp.2.1).1 m hm
                    rw[g] at this
                    cases this.2
              · have hkl:=Zk hK.1 j hl1
                simp only[Lu,hoj,hla,Bu1] at hkl
                rw[<-Seq.heap h.seq]
                exact hkl
        have hat:dAt P G all (fun c1=> ∃s1,Fk P G all Q p' s1/\Seq P G all c1 js s1) Q c (some o):=by
          rw[Wj] at hpl⊢
          rw[Qw agree]
          have hheap:=Seq.heap h.seq
          rcases hpl with⟨hw,hop⟩ | ⟨hw,hput⟩
          · refine .inl ⟨hw,Bl9 o.op (Zi (all:=all) agree) hheap.symm (fun d H' hK=>shift d H' hK) (fun v H' hq=>hQ v _ _ H' hq) hop⟩
          · refine .inr ⟨hw, ?_⟩
            unfold Av at hput⊢
            rw[<-hheap]
            exact shift _ _ hput
        refine wpOpIn_mono ?_ (Wk hF hall ho h.sim h.ext hat)
        rintro a' w' ⟨c1,⟨s1,hp1,hseq⟩,hS',hE'⟩
        refine ih (U.erase k) (k::T) js p' c1 s1 a' w' _ ?_ hUl hUm'
        exact {
          sim:=hS',ext:=h.ext.trans hE',seq:=hseq,plan:=hp1,ok:=hp',cov:=hc'
          size:=by simp [h.size]
          iff:=fun i hi=>by
            by_cases hik:i=k
            · subst hik
              rw[hsetk]
              exact⟨fun _=>⟨by simp,hkj⟩,fun _=>rfl⟩
            · rw[hset i hik,h.iff i hi]
              simp [hik]
          sub:=fun i hi=>⟨by simp [(h.sub i hi).1],(h.sub i hi).2⟩
          tlt:=fun i hi=>by
            simp only[List.mem_cons] at hi
            rcases hi with rfl | hi
            · exact hkn
            · exact h.tlt i hi
          nodup:=h.nodup
          eager:=h.eager
          pair:=h.pair
          out:=fun i hi m hm hmT=>h.out i hi m hm (fun hh=>hmT (by simp [hh]))
          deps:=fun i hi e he=>⟨by simp [(h.deps i hi e he).1],(h.deps i hi e he).2⟩
          clo:=hclo }
theorem Bd0 {id:Nat} {ops:Array Oper} {s:DS} (hm:P.follows .mixedOrders=true) (p:Plan)
    (hp:(ops.toList.all (Ef N)&&Ub ops.toList [] p&&Dx ops.toList p [])=true) (h:Fk P G ops.toList (QP Q) p s):DWp P G N (.region id ops true) Q s:=by
  intro F n B hF a w hS
  simp only[Bool.and_eq_true] at hp
  obtain⟨⟨hall,hc⟩,hok⟩:=hp
  have hE:Ext s.heap w s.heap { w with drawn:=w.drawn+1 }:=⟨rfl,rfl,rfl,Nat.le_refl _,fun _ _ _=>rfl,fun _ h=> .inl h,fun _ _=>rfl,fun _ _ _=>rfl⟩
  have hSH:Aw { w with drawn:=w.drawn+1 } s.heap:=fun r o hr=>(hS.heap r o hr).lasts hE.lasts
  have hS':Sim G ⟨N.n,B⟩ s a { w with drawn:=w.drawn+1 }:=hS.ext hE hSH
  have key:=Inv.sound (n:=n) hF (P:=P) (G:=G) (N:=⟨N.n,B⟩) (all:=ops.toList) (Q:=QP Q) (s0:=s) (w0:=w) hall
    (fun v env env' h hq env''=>hq env'') ops.toList.length (List.range ops.toList.length) [] [] p s s a { w with drawn:=w.drawn+1 } (Array.replicate ops.size false)
    { sim:=hS',ext:=hE,seq:=rfl,plan:=h,ok:=hok,cov:=hc,size:=by simp
      iff:=fun i hi=>by
        have:i<ops.size:=by simpa using hi
        simp [this]
      sub:=by simp
      tlt:=by simp
      nodup:=by simp
      eager:=by simp
      pair:=by simp
      out:=by simp
      deps:=by simp
      clo:=fun k hk hl=>by
        have:k<ops.size:=by simpa using hk
        simp [this] at hl } (by simp) (fun i hi _=>by simpa using hi)
  have e1:ops.toList.toArray=ops:=by simp
  have e2:ops.toList.length=ops.size:=by simp
  rw[e1,e2] at key
  refine wpIn_mono (wpIn_region_any hm key) ?_
  rintro e a' w' ⟨e',s',hq,hx,hS1,hE1⟩
  refine⟨e',s', ?_,hx,hS1,hE1⟩
  cases hx with
  | normal=>exact hq
  | panic d v hv=>exact hq s'.env
  | exit=>exact hq.elim
  | goto=>exact hq.elim
  | ret=>exact hq.elim
end
end Go.Dl

-- THE DATA LEVEL, PART 3: plans run by simp.
namespace Go.Dl
open Go
attribute [go_sem] Bz.eq_1 Bz.eq_2 Bz.eq_3 Qv.eq_1 Qv.eq_2 Qv.eq_3 Qv.eq_4 Qv.eq_5 Qv.eq_6 Kx.eq_1 Bm0.eq_1 Bm0.eq_2 dAt.eq_1 Ev.eq_1 Ev.eq_2 Bu1.eq_1 Bu1.eq_2 Lu.eq_1 Ae8.eq_1 Ae8.eq_2 Ae8.eq_3 Bc6.eq_1 Bc6.eq_2 Fk.eq_1 Fk.eq_2 Fk.eq_3 Fk.eq_4 QP.eq_1 QP.eq_2
attribute [go_sem] Bc7
section
variable (v:DVal) (H H':Aa)
@[go_sem] theorem Cm4 (cs:List DVal) (o:Nat):Ev H H' (.vptr cs o)=True:=rfl
@[go_sem] theorem Ce5 (cs:List DVal) (o:Nat):Ev H H' (.vslice cs o)=True:=rfl
@[go_sem] theorem Cr5 (k:IntKind) (n:Int):Ev H H' (.int k n)=True:=rfl
@[go_sem] theorem Cm5 (b:Bool):Ev H H' (.bool b)=True:=rfl
@[go_sem] theorem Bq1:Ev H H' .nilSlice=True:=rfl
@[go_sem] theorem Cr6 (s:List UInt8):Ev H H' (.str s)=True:=rfl
end
end Go.Dl

-- THE DATA LEVEL, PART 6: a heap in two parts; the contract of an iterator; the loop over it.
namespace Go.Dl
open Go Go.RowKit
def Dg4 (Hi X:Aa):Aa:=fun r=>match X r with
 | some o=>some o
 | none=>Hi r
def h0:Aa:=fun _=>none
theorem Ch2 (Hi:Aa):Dg4 Hi h0=Hi:=rfl
theorem Cm6 {H:Aa} {r r':Nat} {o:DObj}:upd H r (some o) r'=none↔r'≠r/\r≠r'/\H r'=none:=by
 unfold upd;by_cases e:r'=r
 ·simp [e]
 ·simp [e,Ne.symm e,eq_comm]
section
end
end Go.Dl

-- THE DATA LEVEL, PART 7: own memory seen as memory that lasts; calls that only look.
namespace Go.Dl
open Go Go.RowKit
mutual
/-- The value, with block r (its cells: cs) seen as memory that lasts. -/
def fz (r:Nat) (cs:List DVal):DVal->DVal
 | .optr r' off=>if r'=r then .vptr cs off else .optr r' off
 | .oslice sz r' off len lo=>if r'=r then .vslice ((cs.drop off).take (len*sz)) len else .oslice sz r' off len lo
 | .func fn a c=> .func fn (fzs r cs a) (fzs r cs c)
 | .iface t v=> .iface t (fz r cs v)
 | .agg l=> .agg (fzs r cs l)
 | .tuple l=> .tuple (fzs r cs l)
 | .vptr l off=> .vptr (fzs r cs l) off
 | .vslice l n=> .vslice (fzs r cs l) n
 | d=>d
def fzs (r:Nat) (cs:List DVal):List DVal->List DVal
 | []=> []
 | d::ds=>fz r cs d::fzs r cs ds
end
section
variable {P:Program} {G:Nat->DVal} {w:World} {H:Aa}
def Su (H:Aa) (v:DVal) (H':Aa) (v':DVal):Prop:= ∀w,Aw w H->Aw w H'/\(∀b,H' b≠none->H b≠none)/\ ∀x,Rel w H v x->Rel w H' v' x
theorem Su.trans {H H' H'':Aa} {v v' v'':DVal} (h:Su H v H' v') (k:Su H' v' H'' v''):Su H v H'' v'':=fun w hw=>by
 obtain⟨h1,h2,h3⟩:=h w hw;obtain⟨k1,k2,k3⟩:=k w h1;exact⟨k1,fun b hb=>h2 b (k2 b hb),fun x hx=>k3 x (h3 x hx)⟩
theorem Ax1.ghost {R:DEnd->Aa->Prop} {v v':DVal} {H H':Aa} (g:Su H v H' v') (h:Ax1 R v' H'):Ax1 R v H:=by
 obtain⟨v2,H2,k,hR⟩:=h;exact⟨v2,H2,g.trans k,hR⟩
theorem Ar.ghost {f:FuncId} {args:List DVal} {H:Aa} {R R':DEnd->Aa->Prop} (h:Ar P G f args H R) (hr: ∀e H',R e H'-> ∃v v' H'',e= .ret v/\Su H' v H'' v'/\R' (.ret v') H''):Ar P G f args H R':=by
 refine⟨h.1,fun vs w hv hH hG=>(h.2 vs w hv hH hG).mono fun e w' ⟨e',H',r,k1,k2,k3⟩=> ?_⟩;obtain⟨v,v',H'',rfl,g,r'⟩:=hr _ _ r;obtain⟨g1,g2,g3⟩:=g w' k2;cases k1 with
 | ret d x hx=>exact⟨.ret v',H'',r', .ret _ _ (g3 x hx),g1,k3.os,k3.tape,k3.output,k3.size,k3.block,fun b hb=>k3.own b (g2 b hb),k3.keep,k3.fz⟩
def plain:DVal->Bool
 | .bool _ | .int _ _ | .str _ | .nilPtr | .nilSlice | .nilMap | .nilFunc | .nilIface=>true
 | .tuple l=>plains l
 | .agg l=>plains l
 | _=>false
where plains:List DVal->Bool
 | []=>true
 | d::ds=>plain d&&plains ds
end
attribute [go_sem] fz.eq_1 fz.eq_2 fz.eq_3 fz.eq_4 fz.eq_5 fz.eq_6 fzs.eq_1 fzs.eq_2
end Go.Dl

-- THE DATA LEVEL, PART 8: loops over iterators, ready for use.
namespace Go.Dl
open Go Go.RowKit
attribute [go_sem] Ch2
theorem Ch3 {α:Type} (f:Nat->α) (r:Nat) (a b:α):upd (upd f r a) r b=upd f r b:=by
 funext i;simp only[upd];split<;>rfl
theorem An4 (xs ys:List DVal):splice xs 0 ys=ys++xs.drop ys.length:=by simp [splice]
attribute [go_sem] Ch3 An4
section
variable {P:Program} {G:Nat->DVal} {N:Nat} {Q:DExit->DS->Prop}
theorem Dc {id:Nat} {ops:List Oper} {s:DS} (hm:P.follows .mixedOrders=true) (p:Plan) (hp:(ops.all (Ef N)&&Ub ops [] p&&Dx ops p [])=true) (h:Fk P G ops (QP Q) p s):dwp P G N (.region id ops.toArray true) Q s:=
 Bd0 (N:=⟨N,⟨0,[],false⟩⟩) hm p (by simpa using hp) (by simpa using h)
end
end Go.Dl

-- THE DATA LEVEL, PART 9: slices that are built up; plain lists seen as slices.
namespace Go.Dl
open Go Go.RowKit
abbrev Cq (v:DVal) (H:Aa):DEnd->Aa->Prop:=fun e H'=>e= .ret v/\H'=H
section
end
theorem An5 {H H':Aa} (h: ∀r o,H' r=some o->H r=some o) {b:Nat} (hb:H b=none):H' b=none:=by
 cases e:H' b with
 | none=>rfl
 | some o=>rw[h b o e] at hb;cases hb
theorem Sv {H H':Aa} (h: ∀r o,H' r=some o->H r=some o) (w:World):Lasts H w H' w:=
 ⟨fun b i x hb hc=>⟨An5 h hb,hc⟩,Nat.le_refl _,fun _ _=>rfl⟩
theorem Su.sub {H H':Aa} (h: ∀r o,H' r=some o->H r=some o) (v:DVal):Su H v H' v:=fun w hw=>
 ⟨fun r o ho=>(hw r o (h r o ho)).lasts (Sv h w),fun b hb e=>hb (An5 h e),fun x hx=>Rel.lasts (Sv h w) _ _ hx⟩
theorem Ax1.sub {R:DEnd->Aa->Prop} {v:DVal} {H H':Aa} (h: ∀r o,H' r=some o->H r=some o) (k:Ax1 R v H'):Ax1 R v H:= .ghost (.sub h v) k
theorem An6 {α:Type} (p:α->Bool) (x:α):Option.all p (some x)=p x:=rfl
attribute [go_sem] An6
end Go.Dl

-- THE DATA LEVEL: the lemmas that the long simp call (simp (disch := omega) only [go_sem] in fill.py) takes besides the equations.
namespace Go.Dl
open Go
attribute [go_sem] Int.toNat_natCast Int.sub_zero Int.zero_add Int.add_zero Nat.add_sub_cancel Bl3 List.length_cons List.length_nil List.all_cons List.all_nil Bool.and_true Bool.true_and Bool.or_false Bool.false_or
attribute [go_sem] List.take_succ_cons List.take_zero List.drop_succ_cons List.drop_zero decide_true decide_false Nat.mul_one Nat.one_mul Nat.zero_add Nat.add_zero Nat.mul_zero Nat.zero_mul Bool.not_true Bool.not_false
attribute [go_sem] Option.map_some Option.map_none Nat.le_refl Nat.zero_lt_succ ne_eq not_true_eq_false not_false_eq_true Option.isSome_some Cr3 Bt1 Bl4 true_imp_iff false_imp_iff beq_self_eq_true forall_const Am6 List.length_map
end Go.Dl

-- Facts on the types of this seat, each by the kernel. MADE BY PROGRAM (facts.py).
namespace Go.Dl
open Go Go.Proofs
theorem Ch4:Tryz.prog.cellsOf 2=1:=by kernel_rfl
theorem Cy8:Br Tryz.prog 2=some false:=by kernel_rfl
theorem Ch5:Tryz.prog.cellsOf 4=1:=by kernel_rfl
theorem Cy9:Br Tryz.prog 4=some false:=by kernel_rfl
theorem Ch6:Tryz.prog.cellsOf 9=1:=by kernel_rfl
theorem Cr7:(Tryz.prog.info? 9).isSome=true:=by kernel_rfl
theorem Cz0:Br Tryz.prog 9=some false:=by kernel_rfl
theorem Bu3:Tryz.prog.cellsOf 22=1:=by kernel_rfl
theorem Cr8:Br Tryz.prog 22=some false:=by kernel_rfl
theorem Bu4:Tryz.prog.cellsOf 23=1:=by kernel_rfl
theorem Cr9:Br Tryz.prog 23=some false:=by kernel_rfl
theorem Bu5:Tryz.prog.cellsOf 24=1:=by kernel_rfl
theorem Cs0:Br Tryz.prog 24=some false:=by kernel_rfl
theorem Bu6:Tryz.prog.cellsOf 25=1:=by kernel_rfl
theorem Cs1:Br Tryz.prog 25=some false:=by kernel_rfl
theorem Bu7:Tryz.prog.cellsOf 26=1:=by kernel_rfl
theorem Cs2:Br Tryz.prog 26=some false:=by kernel_rfl
theorem Bu8:Tryz.prog.cellsOf 27=1:=by kernel_rfl
theorem Cs3:Br Tryz.prog 27=some false:=by kernel_rfl
theorem Bu9:Tryz.prog.cellsOf 29=9:=by kernel_rfl
theorem Ch7:(Tryz.prog.info? 29).isSome=true:=by kernel_rfl
theorem Cs4:Br Tryz.prog 29=some true:=by kernel_rfl
theorem Ch8:Ax Tryz.prog 29=some (.agg [.int .u8 0, .int .u8 0, .int .i64 0, .str [], .nilSlice, .nilSlice, .int .i64 0, .int .i64 0, .int .i64 0]):=by kernel_rfl
theorem Bv0:Tryz.prog.cellsOf 32=21:=by kernel_rfl
theorem Ch9:(Tryz.prog.info? 32).isSome=true:=by kernel_rfl
theorem Cs5:Br Tryz.prog 32=some true:=by kernel_rfl
theorem Ci0:Ax Tryz.prog 32=some (.agg [.nilSlice, .int .u8 0, .int .u8 0, .int .u8 0, .int .i64 0, .str [], .nilSlice, .nilSlice, .int .i64 0, .int .i64 0, .int .i64 0, .int .u8 0, .int .u8 0, .int .i64 0, .str [], .nilSlice, .nilSlice, .int .i64 0, .int .i64 0, .int .i64 0, .int .i64 0]):=by kernel_rfl
theorem Bv1:Tryz.prog.cellsOf 36=1:=by kernel_rfl
theorem Cs6:Br Tryz.prog 36=some false:=by kernel_rfl
theorem Bv2:Tryz.prog.cellsOf 45=36:=by kernel_rfl
theorem Cs7:Br Tryz.prog 45=some true:=by kernel_rfl
theorem Bv3:Tryz.prog.cellsOf 47=27:=by kernel_rfl
theorem Cs8:Br Tryz.prog 47=some true:=by kernel_rfl
theorem Bv4:Tryz.prog.cellsOf 48=1:=by kernel_rfl
theorem Cs9:Br Tryz.prog 48=some false:=by kernel_rfl
theorem Bv5:Tryz.prog.cellsOf 49=1:=by kernel_rfl
theorem Ct0:Br Tryz.prog 49=some false:=by kernel_rfl
theorem Bv6:Tryz.prog.cellsOf 50=1:=by kernel_rfl
theorem Ct1:Br Tryz.prog 50=some false:=by kernel_rfl
theorem Bv7:Tryz.prog.cellsOf 51=1:=by kernel_rfl
theorem Ct2:Br Tryz.prog 51=some false:=by kernel_rfl
theorem Bv8:Tryz.prog.cellsOf 53=87:=by kernel_rfl
theorem Ct3:Br Tryz.prog 53=some true:=by kernel_rfl
theorem Bm1:Tryz.prog.cellsOf 110=10:=by kernel_rfl
theorem Bv9:(Tryz.prog.info? 110).isSome=true:=by kernel_rfl
theorem Ci1:Br Tryz.prog 110=some true:=by kernel_rfl
theorem Bw0:Ax Tryz.prog 110=some (.agg [.str [], .int .u8 0, .int .u8 0, .int .i64 0, .str [], .nilSlice, .nilSlice, .int .i64 0, .int .i64 0, .int .i64 0]):=by kernel_rfl
theorem Bm2:Tryz.prog.cellsOf 123=47:=by kernel_rfl
theorem Bw1:(Tryz.prog.info? 123).isSome=true:=by kernel_rfl
theorem Ci2:Br Tryz.prog 123=some true:=by kernel_rfl
theorem Bw2:Ax Tryz.prog 123=some (.agg [.nilSlice, .int .u8 0, .int .u8 0, .int .i64 0, .str [], .nilSlice, .nilSlice, .int .i64 0, .int .i64 0, .int .i64 0, .int .u8 0, .int .u8 0, .int .i64 0, .str [], .nilSlice, .nilSlice, .int .i64 0, .int .i64 0, .int .i64 0, .int .u8 0, .int .u8 0, .int .i64 0, .str [], .nilSlice, .nilSlice, .int .i64 0, .int .i64 0, .int .i64 0, .int .u8 0, .int .u8 0, .int .i64 0, .str [], .nilSlice, .nilSlice, .int .i64 0, .int .i64 0, .int .i64 0, .int .u8 0, .int .u8 0, .int .i64 0, .str [], .nilSlice, .nilSlice, .int .i64 0, .int .i64 0, .int .i64 0, .int .i64 0]):=by kernel_rfl
theorem Bm3:Tryz.prog.cellsOf 126=1:=by kernel_rfl
theorem Ci3:Br Tryz.prog 126=some false:=by kernel_rfl
theorem Bm4:Tryz.prog.cellsOf 128=2:=by kernel_rfl
theorem Bw3:(Tryz.prog.info? 128).isSome=true:=by kernel_rfl
theorem Ci4:Br Tryz.prog 128=some true:=by kernel_rfl
theorem Bw4:Ax Tryz.prog 128=some (.agg [.nilSlice, .nilSlice]):=by kernel_rfl
theorem Bm5:Tryz.prog.cellsOf 196=1:=by kernel_rfl
theorem Ci5:Br Tryz.prog 196=some false:=by kernel_rfl
theorem Bm6:Tryz.prog.cellsOf 198=2:=by kernel_rfl
theorem Bw5:(Tryz.prog.info? 198).isSome=true:=by kernel_rfl
theorem Ci6:Br Tryz.prog 198=some true:=by kernel_rfl
theorem Bw6:Ax Tryz.prog 198=some (.agg [.int .u8 0, .nilSlice]):=by kernel_rfl
theorem Bm7:Tryz.prog.cellsOf 222=10:=by kernel_rfl
theorem Bw7:(Tryz.prog.info? 222).isSome=true:=by kernel_rfl
theorem Ci7:Br Tryz.prog 222=some true:=by kernel_rfl
theorem Bw8:Ax Tryz.prog 222=some (.agg [.nilSlice, .int .u8 0, .int .u8 0, .int .i64 0, .str [], .nilSlice, .nilSlice, .int .i64 0, .int .i64 0, .int .i64 0]):=by kernel_rfl
attribute [go_sem] Tryz.underlying0 Tryz.underlying1
attribute [go_sem] Ch4 Cy8 Tryz.underlying2 Tryz.underlying3
attribute [go_sem] Ch5 Cy9 Tryz.underlying4 Tryz.underlying5
attribute [go_sem] Tryz.underlying6 Tryz.eqGuardType7
attribute [go_sem] Tryz.stoodInHeld7 Tryz.underlying7 Tryz.eqGuardType8 Tryz.stoodInHeld8 Tryz.underlying8
attribute [go_sem] Ch6 Cr7 Cz0 Tryz.underlying9 Tryz.underlying10
attribute [go_sem] Tryz.underlying11 Tryz.underlying12
attribute [go_sem] Tryz.eqGuardType13 Tryz.stoodInHeld13 Tryz.underlying13
attribute [go_sem] Tryz.eqGuardType14 Tryz.stoodInHeld14 Tryz.underlying14 Tryz.underlying15
attribute [go_sem] Tryz.underlying16 Tryz.underlying17
attribute [go_sem] Tryz.eqGuardType18 Tryz.stoodInHeld18 Tryz.underlying18
attribute [go_sem] Tryz.eqGuardType19 Tryz.stoodInHeld19 Tryz.underlying19 Tryz.underlying20
attribute [go_sem] Tryz.underlying21 Bu3 Cr8 Tryz.underlying22
attribute [go_sem] Bu4 Cr9 Tryz.underlying23 Bu5 Cs0 Tryz.underlying24
attribute [go_sem] Bu6 Cs1 Tryz.underlying25 Bu7 Cs2 Tryz.underlying26
attribute [go_sem] Bu8 Cs3 Tryz.underlying27 Tryz.eqGuardType28
attribute [go_sem] Tryz.stoodInHeld28 Tryz.underlying28 Bu9 Ch7 Cs4 Tryz.eqGuardType29 Tryz.stoodInHeld29 Ch8 Tryz.underlying29
attribute [go_sem] Tryz.underlying30 Tryz.eqGuardType31
attribute [go_sem] Tryz.stoodInHeld31 Tryz.underlying31 Bv0 Ch9 Cs5 Tryz.eqGuardType32 Tryz.stoodInHeld32 Ci0 Tryz.underlying32
attribute [go_sem] Tryz.underlying33 Tryz.underlying34
attribute [go_sem] Tryz.underlying35 Bv1 Cs6 Tryz.underlying36
attribute [go_sem] Tryz.underlying37 Tryz.underlying38
attribute [go_sem] Tryz.underlying39 Tryz.underlying40
attribute [go_sem] Tryz.underlying41 Tryz.underlying42
attribute [go_sem] Tryz.underlying43 Tryz.eqGuardType44
attribute [go_sem] Tryz.stoodInHeld44 Tryz.underlying44 Bv2 Cs7 Tryz.eqGuardType45 Tryz.stoodInHeld45 Tryz.underlying45
attribute [go_sem] Tryz.eqGuardType46 Tryz.stoodInHeld46 Tryz.underlying46 Bv3
attribute [go_sem] Cs8 Tryz.eqGuardType47 Tryz.stoodInHeld47 Tryz.underlying47 Bv4 Cs9 Tryz.underlying48
attribute [go_sem] Bv5 Ct0 Tryz.underlying49 Bv6 Ct1 Tryz.underlying50
attribute [go_sem] Bv7 Ct2 Tryz.underlying51 Tryz.eqGuardType52
attribute [go_sem] Tryz.stoodInHeld52 Tryz.underlying52 Bv8 Ct3 Tryz.eqGuardType53 Tryz.stoodInHeld53 Tryz.underlying53
attribute [go_sem] Tryz.eqGuardType54 Tryz.stoodInHeld54 Tryz.underlying54
attribute [go_sem] Tryz.eqGuardType55 Tryz.stoodInHeld55 Tryz.underlying55 Tryz.underlying56
attribute [go_sem] Tryz.underlying57 Tryz.underlying58
attribute [go_sem] Tryz.underlying59 Tryz.underlying60
attribute [go_sem] Tryz.underlying61 Tryz.underlying62
attribute [go_sem] Tryz.underlying63 Tryz.underlying64
attribute [go_sem] Tryz.underlying65 Tryz.underlying66
attribute [go_sem] Tryz.underlying67 Tryz.underlying68
attribute [go_sem] Tryz.underlying69 Tryz.underlying70
attribute [go_sem] Tryz.underlying71 Tryz.underlying72
attribute [go_sem] Tryz.underlying73 Tryz.underlying74
attribute [go_sem] Tryz.underlying75 Tryz.underlying76
attribute [go_sem] Tryz.underlying77 Tryz.underlying78
attribute [go_sem] Tryz.underlying79 Tryz.eqGuardType80
attribute [go_sem] Tryz.stoodInHeld80 Tryz.underlying80 Tryz.eqGuardType81 Tryz.stoodInHeld81 Tryz.underlying81
attribute [go_sem] Tryz.underlying82 Tryz.underlying83
attribute [go_sem] Tryz.underlying84 Tryz.underlying85
attribute [go_sem] Tryz.underlying86 Tryz.underlying87
attribute [go_sem] Tryz.underlying88 Tryz.underlying89
attribute [go_sem] Tryz.underlying90 Tryz.underlying91
attribute [go_sem] Tryz.underlying92 Tryz.underlying93
attribute [go_sem] Tryz.underlying94 Tryz.underlying95
attribute [go_sem] Tryz.underlying96 Tryz.underlying97
attribute [go_sem] Tryz.underlying98 Tryz.underlying99
attribute [go_sem] Tryz.underlying100 Tryz.underlying101
attribute [go_sem] Tryz.underlying102 Tryz.underlying103
attribute [go_sem] Tryz.underlying104 Tryz.underlying105
attribute [go_sem] Tryz.underlying106 Tryz.underlying107
attribute [go_sem] Tryz.underlying108 Tryz.eqGuardType109
attribute [go_sem] Tryz.stoodInHeld109 Tryz.underlying109 Bm1 Bv9 Ci1 Tryz.eqGuardType110 Tryz.stoodInHeld110 Bw0 Tryz.underlying110
attribute [go_sem] Tryz.underlying111 Tryz.underlying112
attribute [go_sem] Tryz.underlying113 Tryz.underlying114
attribute [go_sem] Tryz.eqGuardType115 Tryz.underlying115
attribute [go_sem] Tryz.underlying116 Tryz.underlying117
attribute [go_sem] Tryz.underlying118 Tryz.underlying119
attribute [go_sem] Tryz.underlying120 Tryz.underlying121
attribute [go_sem] Tryz.eqGuardType122 Tryz.stoodInHeld122 Tryz.underlying122 Bm2 Bw1 Ci2 Tryz.eqGuardType123 Tryz.stoodInHeld123
attribute [go_sem] Bw2 Tryz.underlying123 Tryz.underlying124
attribute [go_sem] Tryz.underlying125 Bm3 Ci3 Tryz.underlying126
attribute [go_sem] Tryz.eqGuardType127 Tryz.stoodInHeld127 Tryz.underlying127 Bm4 Bw3 Ci4 Tryz.eqGuardType128 Tryz.stoodInHeld128
attribute [go_sem] Bw4 Tryz.underlying128 Tryz.underlying129
attribute [go_sem] Tryz.underlying130 Tryz.eqGuardType131 Tryz.stoodInHeld131 Tryz.underlying131
attribute [go_sem] Tryz.eqGuardType132 Tryz.stoodInHeld132 Tryz.underlying132
attribute [go_sem] Tryz.underlying133 Tryz.underlying134
attribute [go_sem] Tryz.underlying135 Tryz.underlying136
attribute [go_sem] Tryz.underlying137 Tryz.underlying138
attribute [go_sem] Tryz.underlying139 Tryz.underlying140
attribute [go_sem] Tryz.underlying141 Tryz.underlying142
attribute [go_sem] Tryz.underlying143 Tryz.eqGuardType144 Tryz.stoodInHeld144 Tryz.underlying144
attribute [go_sem] Tryz.eqGuardType145 Tryz.stoodInHeld145 Tryz.underlying145
attribute [go_sem] Tryz.underlying146 Tryz.underlying147
attribute [go_sem] Tryz.underlying148 Tryz.underlying149
attribute [go_sem] Tryz.underlying150 Tryz.underlying151
attribute [go_sem] Tryz.underlying152 Tryz.eqGuardType153 Tryz.stoodInHeld153 Tryz.underlying153
attribute [go_sem] Tryz.eqGuardType154 Tryz.stoodInHeld154 Tryz.underlying154
attribute [go_sem] Tryz.underlying155 Tryz.underlying156
attribute [go_sem] Tryz.underlying157 Tryz.eqGuardType158 Tryz.stoodInHeld158 Tryz.underlying158
attribute [go_sem] Tryz.eqGuardType159 Tryz.stoodInHeld159 Tryz.underlying159
attribute [go_sem] Tryz.eqGuardType160 Tryz.stoodInHeld160 Tryz.underlying160 Tryz.eqGuardType161 Tryz.stoodInHeld161
attribute [go_sem] Tryz.underlying161 Tryz.underlying162
attribute [go_sem] Tryz.underlying163 Tryz.underlying164
attribute [go_sem] Tryz.underlying165 Tryz.eqGuardType166 Tryz.underlying166
attribute [go_sem] Tryz.underlying167 Tryz.underlying168
attribute [go_sem] Tryz.underlying169 Tryz.underlying170
attribute [go_sem] Tryz.underlying171 Tryz.underlying172
attribute [go_sem] Tryz.underlying173 Tryz.underlying174
attribute [go_sem] Tryz.underlying175 Tryz.underlying176
attribute [go_sem] Tryz.underlying177 Tryz.underlying178
attribute [go_sem] Tryz.underlying179 Tryz.underlying180
attribute [go_sem] Tryz.underlying181 Tryz.underlying182
attribute [go_sem] Tryz.underlying183 Tryz.underlying184
attribute [go_sem] Tryz.underlying185 Tryz.underlying186
attribute [go_sem] Tryz.underlying187 Tryz.underlying188
attribute [go_sem] Tryz.underlying189 Tryz.underlying190
attribute [go_sem] Tryz.underlying191 Tryz.underlying192
attribute [go_sem] Tryz.underlying193 Tryz.underlying194
attribute [go_sem] Tryz.underlying195 Bm5 Ci5 Tryz.underlying196
attribute [go_sem] Tryz.eqGuardType197 Tryz.stoodInHeld197 Tryz.underlying197 Bm6 Bw5 Ci6
attribute [go_sem] Tryz.eqGuardType198 Tryz.stoodInHeld198 Bw6 Tryz.underlying198 Tryz.underlying199
attribute [go_sem] Tryz.underlying200 Tryz.underlying201
attribute [go_sem] Tryz.underlying202 Tryz.underlying203
attribute [go_sem] Tryz.underlying204 Tryz.underlying205
attribute [go_sem] Tryz.underlying206 Tryz.underlying207
attribute [go_sem] Tryz.underlying208 Tryz.underlying209
attribute [go_sem] Tryz.underlying210 Tryz.underlying211
attribute [go_sem] Tryz.underlying212 Tryz.underlying213
attribute [go_sem] Tryz.underlying214 Tryz.underlying215
attribute [go_sem] Tryz.underlying216 Tryz.underlying217
attribute [go_sem] Tryz.underlying218 Tryz.underlying219
attribute [go_sem] Tryz.underlying220 Tryz.eqGuardType221 Tryz.stoodInHeld221
attribute [go_sem] Tryz.underlying221 Bm7 Bw7 Ci7 Tryz.eqGuardType222 Tryz.stoodInHeld222 Bw8 Tryz.underlying222
attribute [go_sem] Tryz.underlying223 Tryz.underlying224
attribute [go_sem] Tryz.underlying225 Tryz.underlying226
attribute [go_sem] Tryz.underlying227 Tryz.underlying228
attribute [go_sem] Tryz.underlying229 Tryz.underlying230
attribute [go_sem] Tryz.underlying231 Tryz.underlying232
attribute [go_sem] Tryz.underlying233 Tryz.underlying234
attribute [go_sem] Tryz.underlying235 Tryz.underlying236
attribute [go_sem] Tryz.underlying237 Tryz.underlying238
attribute [go_sem] Tryz.underlying239 Tryz.underlying240
attribute [go_sem] Tryz.eqGuardType241 Tryz.stoodInHeld241 Tryz.underlying241
attribute [go_sem] Tryz.eqGuardType242 Tryz.stoodInHeld242 Tryz.underlying242 Tryz.underlying243
attribute [go_sem] Tryz.underlying244 Tryz.underlying245
attribute [go_sem] Tryz.underlying246 Tryz.underlying247
attribute [go_sem] Tryz.underlying248 Tryz.underlying249
attribute [go_sem] Tryz.underlying250 Tryz.eqGuardType251 Tryz.stoodInHeld251
attribute [go_sem] Tryz.underlying251 Tryz.eqGuardType252 Tryz.stoodInHeld252 Tryz.underlying252
attribute [go_sem] Tryz.underlying253 Tryz.underlying254
attribute [go_sem] Tryz.underlying255 Tryz.underlying256
attribute [go_sem] Tryz.underlying257 Tryz.underlying258
attribute [go_sem] Tryz.underlying259 Tryz.underlying260
attribute [go_sem] Tryz.underlying261 Tryz.underlying262
attribute [go_sem] Tryz.underlying263 Tryz.underlying264
attribute [go_sem] Tryz.underlying265 Tryz.underlying266
attribute [go_sem] Tryz.underlying267 Tryz.underlying268
attribute [go_sem] Tryz.underlying269 Tryz.underlying270
attribute [go_sem] Tryz.underlying271 Tryz.underlying272
attribute [go_sem] Tryz.underlying273 Tryz.underlying274
attribute [go_sem] Tryz.underlying275 Tryz.underlying276
attribute [go_sem] Tryz.underlying277 Tryz.underlying278
attribute [go_sem] Tryz.underlying279 Tryz.underlying280
attribute [go_sem] Tryz.underlying281 Tryz.underlying282
attribute [go_sem] Tryz.underlying283 Tryz.underlying284
attribute [go_sem] Tryz.eqGuardType285 Tryz.underlying285 Tryz.underlying286
attribute [go_sem] Tryz.underlying287 Tryz.underlying288
attribute [go_sem] Tryz.underlying289 Tryz.underlying290
attribute [go_sem] Tryz.underlying291 Tryz.underlying292
attribute [go_sem] Tryz.underlying293 Tryz.underlying294
attribute [go_sem] Tryz.underlying295 Tryz.eqGuardType296 Tryz.stoodInHeld296
attribute [go_sem] Tryz.underlying296 Tryz.eqGuardType297 Tryz.stoodInHeld297 Tryz.underlying297
attribute [go_sem] Tryz.underlying298 Tryz.underlying299
attribute [go_sem] Tryz.eqGuardType300 Tryz.stoodInHeld300 Tryz.underlying300
attribute [go_sem] Tryz.eqGuardType301 Tryz.stoodInHeld301 Tryz.underlying301 Tryz.underlying302
attribute [go_sem] Tryz.underlying303 Tryz.underlying304
attribute [go_sem] Tryz.underlying305 Tryz.underlying306
attribute [go_sem] Tryz.underlying307 Tryz.underlying308
attribute [go_sem] Tryz.eqGuardType309 Tryz.stoodInHeld309 Tryz.underlying309
attribute [go_sem] Tryz.eqGuardType310 Tryz.stoodInHeld310 Tryz.underlying310 Tryz.underlying311
attribute [go_sem] Tryz.underlying312 Tryz.underlying313
attribute [go_sem] Tryz.underlying314 Tryz.underlying315
attribute [go_sem] Tryz.underlying316 Tryz.underlying317
attribute [go_sem] Tryz.underlying318 Tryz.underlying319
attribute [go_sem] Tryz.underlying320 Tryz.underlying321
attribute [go_sem] Tryz.eqGuardType322 Tryz.stoodInHeld322 Tryz.underlying322
attribute [go_sem] Tryz.eqGuardType323 Tryz.stoodInHeld323 Tryz.underlying323 Tryz.underlying324
attribute [go_sem] Tryz.eqGuardType325 Tryz.stoodInHeld325 Tryz.underlying325
attribute [go_sem] Tryz.eqGuardType326 Tryz.stoodInHeld326 Tryz.underlying326 Tryz.underlying327
attribute [go_sem] Tryz.eqGuardType328 Tryz.stoodInHeld328 Tryz.underlying328
attribute [go_sem] Tryz.eqGuardType329 Tryz.stoodInHeld329 Tryz.underlying329 Tryz.underlying330
attribute [go_sem] Tryz.underlying331 Tryz.underlying332
attribute [go_sem] Tryz.underlying333 Tryz.underlying334
attribute [go_sem] Tryz.eqGuardType335 Tryz.stoodInHeld335 Tryz.underlying335
attribute [go_sem] Tryz.eqGuardType336 Tryz.stoodInHeld336 Tryz.underlying336 Tryz.eqGuardType337
attribute [go_sem] Tryz.underlying337 Tryz.eqGuardType338 Tryz.stoodInHeld338 Tryz.underlying338
attribute [go_sem] Tryz.eqGuardType339 Tryz.stoodInHeld339 Tryz.underlying339
attribute [go_sem] Tryz.underlying340 Tryz.underlying341
attribute [go_sem] Tryz.underlying342 Tryz.underlying343
attribute [go_sem] Tryz.underlying344 Tryz.underlying345
attribute [go_sem] Tryz.eqGuardType346 Tryz.stoodInHeld346 Tryz.underlying346 Tryz.eqGuardType347 Tryz.stoodInHeld347
attribute [go_sem] Tryz.underlying347 Tryz.underlying348 Tryz.results0 Tryz.results1 Tryz.results2 Tryz.results3 Tryz.results4
attribute [go_sem] Tryz.results5 Tryz.results6 Tryz.results7 Tryz.results8 Tryz.results9 Tryz.results10 Tryz.results11 Tryz.results12 Tryz.results13 Tryz.results14 Tryz.results15 Tryz.results16
attribute [go_sem] Tryz.results17 Tryz.results18 Tryz.results19 Tryz.results20 Tryz.results21 Tryz.results22 Tryz.results23 Tryz.results24 Tryz.results25 Tryz.results26 Tryz.results27 Tryz.results28
attribute [go_sem] Tryz.results29 Tryz.results30 Tryz.results31 Tryz.results32 Tryz.results33 Tryz.results34 Tryz.results35 Tryz.results36 Tryz.results37 Tryz.results38 Tryz.results39 Tryz.results40
attribute [go_sem] Tryz.results41 Tryz.results42 Tryz.results43 Tryz.results44 Tryz.results45 Tryz.results46 Tryz.results47 Tryz.results48 Tryz.results49 Tryz.results50 Tryz.results51 Tryz.results52
attribute [go_sem] Tryz.results53 Tryz.results54 Tryz.results55 Tryz.results56 Tryz.results57 Tryz.results58 Tryz.results59 Tryz.results60 Tryz.results61 Tryz.results62 Tryz.results63 Tryz.results64
attribute [go_sem] Tryz.results65 Tryz.results66 Tryz.results67 Tryz.results68 Tryz.results69 Tryz.results70 Tryz.results71 Tryz.results72 Tryz.results73 Tryz.results74 Tryz.results75 Tryz.results76
attribute [go_sem] Tryz.results77 Tryz.results78 Tryz.results79 Tryz.results80 Tryz.results81 Tryz.results82 Tryz.results83 Tryz.results84 Tryz.results85 Tryz.results86 Tryz.results87 Tryz.results88
attribute [go_sem] Tryz.results89 Tryz.results90 Tryz.results91 Tryz.results92 Tryz.results93 Tryz.results94 Tryz.results95 Tryz.results96 Tryz.results97 Tryz.results98 Tryz.results99 Tryz.results100
attribute [go_sem] Tryz.results101 Tryz.results102 Tryz.results103 Tryz.results104 Tryz.results105 Tryz.results106 Tryz.results107 Tryz.results108 Tryz.results109 Tryz.results110 Tryz.results111 Tryz.results112
attribute [go_sem] Tryz.results113 Tryz.results114 Tryz.results115 Tryz.results116 Tryz.results117 Tryz.results118 Tryz.results119 Tryz.results120 Tryz.results121 Tryz.results122 Tryz.results123 Tryz.results124
attribute [go_sem] Tryz.results125 Tryz.results126 Tryz.results127 Tryz.results128 Tryz.results129 Tryz.results130 Tryz.results131 Tryz.results132 Tryz.results133 Tryz.results134 Tryz.results135 Tryz.results136
attribute [go_sem] Tryz.results137 Tryz.results138 Tryz.results139 Tryz.results140 Tryz.results141 Tryz.results142 Tryz.results143 Tryz.results144 Tryz.results145 Tryz.results146 Tryz.results147 Tryz.results148
attribute [go_sem] Tryz.results149 Tryz.results150 Tryz.results151 Tryz.results152 Tryz.results153 Tryz.results154 Tryz.results155 Tryz.results156 Tryz.results157 Tryz.results158 Tryz.results159 Tryz.results160
attribute [go_sem] Tryz.results161 Tryz.results162 Tryz.results163 Tryz.results164 Tryz.results165 Tryz.results166 Tryz.results167 Tryz.results168 Tryz.results169 Tryz.results170 Tryz.results171 Tryz.results172
attribute [go_sem] Tryz.results173 Tryz.results174 Tryz.results175 Tryz.results176 Tryz.results177 Tryz.results178 Tryz.results179 Tryz.results180 Tryz.results181 Tryz.results182 Tryz.results183 Tryz.results184
attribute [go_sem] Tryz.results185 Tryz.results186 Tryz.results187 Tryz.results188 Tryz.results189 Tryz.results190 Tryz.results191 Tryz.results192 Tryz.results193 Tryz.results194 Tryz.results195 Tryz.results196
attribute [go_sem] Tryz.results197 Tryz.results198 Tryz.results199 Tryz.results200 Tryz.results201 Tryz.results202 Tryz.results203 Tryz.results204 Tryz.results205 Tryz.results206 Tryz.results207 Tryz.results208
attribute [go_sem] Tryz.results209 Tryz.results210 Tryz.results211 Tryz.results212 Tryz.results213 Tryz.results214 Tryz.results215 Tryz.results216 Tryz.results217 Tryz.results218 Tryz.results219 Tryz.results220
attribute [go_sem] Tryz.results221 Tryz.results222 Tryz.results223 Tryz.results224 Tryz.results225 Tryz.results226 Tryz.results227 Tryz.results228 Tryz.results229 Tryz.results230 Tryz.results231 Tryz.results232
attribute [go_sem] Tryz.results233 Tryz.results234 Tryz.results235 Tryz.results236 Tryz.results237 Tryz.results238 Tryz.results239 Tryz.results240 Tryz.results241 Tryz.results242 Tryz.results243 Tryz.results244
attribute [go_sem] Tryz.results245 Tryz.results246 Tryz.results247 Tryz.results248 Tryz.results249 Tryz.results250 Tryz.results251 Tryz.results252 Tryz.results253 Tryz.results254 Tryz.results255 Tryz.results256
attribute [go_sem] Tryz.results257 Tryz.results258 Tryz.results259 Tryz.results260 Tryz.results261 Tryz.results262 Tryz.results263 Tryz.results264 Tryz.results265 Tryz.results266 Tryz.results267 Tryz.results268
attribute [go_sem] Tryz.results269 Tryz.results270 Tryz.results271 Tryz.results272 Tryz.results273 Tryz.results274 Tryz.results275 Tryz.results276 Tryz.results277 Tryz.results278 Tryz.results279 Tryz.results280
attribute [go_sem] Tryz.results281 Tryz.results282 Tryz.results283 Tryz.results284 Tryz.results285 Tryz.results286 Tryz.results287 Tryz.results288 Tryz.results289 Tryz.results290 Tryz.results291 Tryz.results292
attribute [go_sem] Tryz.results293 Tryz.results294 Tryz.results295 Tryz.results296 Tryz.results297 Tryz.results298 Tryz.results299 Tryz.results300 Tryz.results301 Tryz.results302 Tryz.results303 Tryz.results304
attribute [go_sem] Tryz.results305 Tryz.results306 Tryz.results307 Tryz.results308 Tryz.results309 Tryz.results310 Tryz.results311 Tryz.results312 Tryz.results313 Tryz.results314 Tryz.results315 Tryz.results316
attribute [go_sem] Tryz.results317 Tryz.results318 Tryz.results319 Tryz.results320 Tryz.results321 Tryz.results322 Tryz.results323 Tryz.results324 Tryz.results325 Tryz.results326 Tryz.results327 Tryz.results328
attribute [go_sem] Tryz.results329 Tryz.results330 Tryz.results331 Tryz.results332 Tryz.results333 Tryz.results334 Tryz.results335 Tryz.results336 Tryz.results337 Tryz.results338 Tryz.results339 Tryz.results340
attribute [go_sem] Tryz.results341 Tryz.results342 Tryz.results343 Tryz.results344 Tryz.results345 Tryz.results346 Tryz.results347 Tryz.results348 Tryz.results349 Tryz.results350 Tryz.results351 Tryz.results352
attribute [go_sem] Tryz.results353 Tryz.results354
end Go.Dl

-- General plain laws: cells of lists of structs, positions, texts of integers, pieces.
namespace Go.Dl
open Go Go.Proofs
set_option maxRecDepth 10000
section
variable {α:Type} {c:α->List DVal} {k:Nat}
theorem Bf (hk: ∀x,(c x).length=k) (l:List α):(l.flatMap c).length=l.length*k:=by
 induction l with
 | nil=>simp
 | cons x l ih=>simp [List.flatMap_cons,ih,hk,Nat.add_mul];omega
theorem Zl (hk: ∀x,(c x).length=k): ∀(l:List α) (i:Nat),(l.flatMap c).drop (i*k)=(l.drop i).flatMap c
 | l,0=>by simp
 | [],i+1=>by simp
 | x::l,i+1=>by
  rw[List.flatMap_cons,show(i+1)*k=(c x).length+i*k by rw[hk,Nat.add_mul];omega,List.drop_append,List.drop_succ_cons,<-Zl hk l i];simp
theorem Ci (hk: ∀x,(c x).length=k) (l:List α) (i:Nat) (h:i<l.length):((l.flatMap c).drop (i*k)).take k=c l[i]:=by
 rw[Zl hk,List.drop_eq_getElem_cons h,List.flatMap_cons,List.take_append_of_le_length (by rw[hk];omega),List.take_of_length_le (by rw[hk];omega)]
theorem Ce (hk: ∀x,(c x).length=k) (l:List α) (i:Nat) (h:i<l.length) (j:Nat) (hj:j<k):(l.flatMap c)[i*k+j]? =(c l[i])[j]? :=by
 rw[<-Ci hk l i h,List.getElem?_take,if_pos hj,List.getElem?_drop]
end
end Go.Dl

-- THE DATA LEVEL, PART J: slices that are built up beside other memory of the call's own that nobody asks for any more.
namespace Go.Dl
open Go Go.RowKit
def Sub (H H':Aa):Prop:= ∀r o,H r=some o->H' r=some o
theorem Sub.refl (H:Aa):Sub H H:=fun _ _ h=>h
theorem Sub.trans {H H' H'':Aa} (h:Sub H H') (k:Sub H' H''):Sub H H'':=fun r o x=>k r o (h r o x)
theorem Sub.lo {H H':Aa} (h:Sub H H') {r:Nat} (hr:H' r=none):H r=none:=by
 cases e:H r with
 | none=>rfl
 | some o=>rw[h r o e] at hr;cases hr
theorem Sub.up {H H':Aa} (h:Sub H H') {r:Nat} (hr:H r=none) (x:Option DObj):Sub H (upd H' r x):=fun b o hb=>by
 have:b≠r:=fun e=>by rw[e,hr] at hb;cases hb
 simp only[upd,if_neg this];exact h b o hb
theorem Sub.new {H H':Aa} (h:Sub H H') {r:Nat} (hr:H' r=none) (x:Option DObj):Sub H (upd H' r x):=h.up (h.lo hr) x
section
end
end Go.Dl

-- Chapter 2: tokens: the plain laws, part 1: the words, the symbols, what a line yields.
namespace Go.Dl
open Go
set_option maxRecDepth 10000
def Cz1:List (List UInt8):= [[97,98,111,114,116],
 [97,98,115],
 [97,99,99,101,112,116],
 [97,99,99,101,115,115],
 [97,108,105,97,115,101,100],
 [97,108,108],
 [97,110,100],
 [97,114,114,97,121],
 [98,101,103,105,110],
 [98,111,100,121],
 [99,97,115,101],
 [99,111,110,115,116,97,110,116],
 [100,101,99,108,97,114,101],
 [100,101,108,97,121],
 [100,111],
 [101,108,115,101],
 [101,108,115,105,102],
 [101,110,100],
 [101,110,116,114,121],
 [101,120,99,101,112,116,105,111,110],
 [101,120,105,116],
 [102,111,114],
 [102,117,110,99,116,105,111,110],
 [103,101,110,101,114,105,99],
 [105,102],
 [105,110],
 [105,115],
 [108,105,109,105,116,101,100],
 [108,111,111,112],
 [109,111,100],
 [110,101,119],
 [110,111,116],
 [110,117,108,108],
 [111,102],
 [111,114],
 [111,116,104,101,114,115],
 [111,117,116],
 [112,97,99,107,97,103,101],
 [112,114,97,103,109,97],
 [112,114,105,118,97,116,101],
 [112,114,111,99,101,100,117,114,101],
 [112,114,111,116,101,99,116,101,100],
 [114,97,105,115,101],
 [114,97,110,103,101],
 [114,101,99,111,114,100],
 [114,101,109],
 [114,101,110,97,109,101,115],
 [114,101,113,117,101,117,101],
 [114,101,116,117,114,110],
 [114,101,118,101,114,115,101],
 [115,101,108,101,99,116],
 [115,101,112,97,114,97,116,101],
 [115,117,98,116,121,112,101],
 [116,97,115,107],
 [116,101,114,109,105,110,97,116,101],
 [116,104,101,110],
 [116,121,112,101],
 [117,110,116,105,108],
 [117,115,101],
 [119,104,101,110],
 [119,104,105,108,101],
 [119,105,116,104],
 [120,111,114]]
def Dg5 (s:List UInt8):Bool:=decide (s∈Cz1)
structure Tok where
 kind:Int
 line:Int
 text:List UInt8
 n:Int
 deriving DecidableEq,Inhabited
def Dg6:Tok:=⟨0,0,[],0⟩
end Go.Dl

-- Names and reserved words (chapter 2), for the seats of chapters 3, 4, 5.
namespace Go.Dl
open Go Go.Proofs Go.RowKit
set_option maxRecDepth 100000
variable {H Hn:Aa}
attribute [go_sem] List.getElem?_toArray List.getElem?_cons_zero List.getElem?_cons_succ List.append_eq
section
end
section
end
structure GX (G:Nat->DVal):Prop where
 space:G 0= .vptr (Lib.asciiSpaceTab.map fun z=> .int .u8 z) 0
section
end
section
end
end Go.Dl

-- Chapter 3: expressions: the plain laws, part 1: trees.
namespace Go.Dl
open Go
set_option maxRecDepth 10000
mutual
inductive Ex where
 | mk (kind oper n:Int) (s:List UInt8) (l:List Ex) (a:List As) (line ent t:Int)
inductive As where
 | mk (c:List Ch) (e:Ex)
inductive Ch where
 | mk (kind:Int) (l:List Ex)
end
def Ex.kind:Ex->Int | .mk k _ _ _ _ _ _ _ _=>k
def Ex.oper:Ex->Int | .mk _ o _ _ _ _ _ _ _=>o
def Ex.n:Ex->Int | .mk _ _ n _ _ _ _ _ _=>n
def Ex.s:Ex->List UInt8 | .mk _ _ _ s _ _ _ _ _=>s
def Ex.l:Ex->List Ex | .mk _ _ _ _ l _ _ _ _=>l
def Ex.a:Ex->List As | .mk _ _ _ _ _ a _ _ _=>a
def Ex.line:Ex->Int | .mk _ _ _ _ _ _ li _ _=>li
def Ex.ent:Ex->Int | .mk _ _ _ _ _ _ _ en _=>en
def Ex.t:Ex->Int | .mk _ _ _ _ _ _ _ _ t=>t
def As.c:As->List Ch | .mk c _=>c
def As.e:As->Ex | .mk _ e=>e
def Ch.kind:Ch->Int | .mk k _=>k
def Ch.l:Ch->List Ex | .mk _ l=>l
def ex0:Ex:= .mk 0 0 0 [] [] [] 0 0 0
instance:Inhabited Ex:=⟨ex0⟩
instance:Inhabited As:=⟨.mk [] ex0⟩
instance:Inhabited Ch:=⟨.mk 0 []⟩
mutual
def Ra:Ex->Nat
 | .mk _ _ _ _ l a _ _ _=>1+An7 l+Ae9 a
def An7:List Ex->Nat
 | []=>0
 | x::l=>Ra x+An7 l
def Bw9:As->Nat
 | .mk c e=>Af0 c+Ra e
def Ae9:List As->Nat
 | []=>0
 | x::l=>Bw9 x+Ae9 l
def Cm7:Ch->Nat
 | .mk _ l=>An7 l
def Af0:List Ch->Nat
 | []=>0
 | x::l=>Cm7 x+Af0 l
end
def Lw (x:As):List Ex:=x.c.flatMap Ch.l++ [x.e]
def Bu (e:Ex):List Ex:=e.l++e.a.flatMap Lw
def Pw (l:List Ex):Nat:=(l.map Ra).sum
theorem Sw: ∀l:List Ex,An7 l=Pw l
 | []=>rfl
 | x::l=>by rw[An7,Sw l,Pw,Pw,List.map_cons,List.sum_cons]
theorem Jx (l m:List Ex):Pw (l++m)=Pw l+Pw m:=by simp [Pw]
theorem Wl: ∀l:List Ch,Af0 l=Pw (l.flatMap Ch.l)
 | []=>rfl
 | .mk k x::l=>by rw[Af0,Cm7,Wl l,Sw,List.flatMap_cons,Jx];rfl
theorem Bm8 (x:As):Bw9 x=Pw (Lw x):=by
 cases x;rw[Bw9,Wl,Lw,Jx];simp [Pw,As.c,As.e]
theorem Wm: ∀l:List As,Ae9 l=Pw (l.flatMap Lw)
 | []=>rfl
 | x::l=>by rw[Ae9,Bm8,Wm l,List.flatMap_cons,Jx]
theorem Bm9 (e:Ex):Ra e=1+Pw (Bu e):=by
 cases e;rw[Ra,Sw,Wm,Bu,Jx,Nat.add_assoc];rfl
theorem Bx0 {l:List Ex} {x:Ex} (h:x∈l):Ra x<=Pw l:=by
 induction l with
 | nil=>cases h
 | cons y l ih=>
  rw[Pw,List.map_cons,List.sum_cons];rcases List.mem_cons.1 h with rfl | h
  ·omega
  ·have:=ih h;unfold Pw at this;omega
theorem An8 {e x:Ex} (h:x∈Bu e):Ra x<Ra e:=by
 rw[Bm9 e];have:=Bx0 h;omega
theorem Ud {e x:Ex} (h:x∈e.l):x∈Bu e:=List.mem_append_left _ h
theorem Rb (a:As):a.e∈Lw a:=List.mem_append_right _ (by simp)
theorem Ex.ind {p:Ex->Prop} (h: ∀e,(∀x∈Bu e,p x)->p e) (e:Ex):p e:=by
 have key: ∀n e,Ra e<n->p e:=by
  intro n
  induction n with
  | zero=>intro e he;omega
  | succ n ih=>
   intro e he;refine h e fun x hx=>ih x ?_;have:=An8 hx;omega
 exact key _ e (Nat.lt_succ_self _)
def Ct4 (e:Ex):Bool:=decide (3<=e.kind)&&decide (e.kind<=8)
def Cz2:List As->Bool
 | a::b::r=>(a.c.isEmpty || !b.c.isEmpty)&&Cz2 (b::r)
 | _=>true
def Cz3:List Ch->Bool
 | [c]=>decide (c.kind=1)&&(match c.l with | [x]=>decide (x.kind=3) | _=>false)
 | _=>false
mutual
def Bb:Ex->Ex->Bool
 | .mk k o n s l a _ _ _,f=>decide (k=f.kind)&&decide (o=f.oper)&&decide (n=f.n)&&decide (s=f.s)&&Ew l f.l&&Ft a f.a
def Ew:List Ex->List Ex->Bool
 | [],[]=>true
 | x::l,y::m=>Bb x y&&Ew l m
 | _,_=>false
def Kz:As->As->Bool
 | .mk c e,y=>Dy c y.c&&Bb e y.e
def Ft:List As->List As->Bool
 | [],[]=>true
 | x::l,y::m=>Kz x y&&Ft l m
 | _,_=>false
def Jy:Ch->Ch->Bool
 | .mk k l,y=>decide (k=y.kind)&&Ew l y.l
def Dy:List Ch->List Ch->Bool
 | [],[]=>true
 | x::l,y::m=>Jy x y&&Dy l m
 | _,_=>false
end
theorem An9 (e f:Ex):Bb e f=(decide (e.kind=f.kind)&&decide (e.oper=f.oper)&&decide (e.n=f.n)&&decide (e.s=f.s)&&Ew e.l f.l&&Ft e.a f.a):=by
 cases e;rw[Bb];rfl
end Go.Dl

-- Chapter 3: expressions: the plain laws, part 2: reading.
namespace Go.Dl
open Go
set_option maxRecDepth 10000
inductive Res (α:Type) where
 | bot
 | fail (k:Nat)
 | ok (x:α) (k:Nat)
def Res.then {α β:Type}:Res α->(α->Nat->Res β)->Res β
 | .bot,_=> .bot
 | .fail k,_=> .fail k
 | .ok x k,f=>f x k
structure PS where
 expr:Nat->Res Ex
 rest:Ex->Nat->Res Ex
 restL:Nat->Ex->Nat->Res Ex
 relation:Ex->Nat->Res Ex
 simple:Nat->Res Ex
 addL:Ex->Nat->Res Ex
 term:Nat->Res Ex
 mulL:Ex->Nat->Res Ex
 factor:Nat->Res Ex
 primary:Nat->Res Ex
 paren:Nat->Res Ex
 assoc:Nat->Res As
 assocsL:List As->Nat->Res (List As)
 choice:Nat->Res Ch
 choicesL:List Ch->Nat->Res (List Ch)
 arg:Nat->Res As
 argsL:List As->Nat->Res (List As)
 name:Nat->Res Ex
 nameL:Int->Ex->Nat->Res Ex
def Cz4:PS:=⟨fun _=> .bot,fun _ _=> .bot,fun _ _ _=> .bot,fun _ _=> .bot,fun _=> .bot,fun _ _=> .bot,fun _=> .bot,fun _ _=> .bot,fun _=> .bot,fun _=> .bot,fun _=> .bot,fun _=> .bot,fun _ _=> .bot,fun _=> .bot,fun _ _=> .bot,fun _=> .bot,fun _ _=> .bot,fun _=> .bot,fun _ _ _=> .bot⟩
def Cm8:List UInt8:= [116,104,101,110]
def Cm9:List UInt8:= [101,108,115,101]
def wIf:List UInt8:= [105,102]
def wIn:List UInt8:= [105,110]
def Ct5:List UInt8:= [110,111,116]
def Dg7:List UInt8:= [97,108,108]
def Cz5:List UInt8:= [110,117,108,108]
def Ci8:List UInt8:= [111,116,104,101,114,115]
def Ct6:List UInt8:= [97,110,100]
def wOr:List UInt8:= [111,114]
def Cz6:List UInt8:= [120,111,114]
def Cz7:List UInt8:= [109,111,100]
def Cz8:List UInt8:= [114,101,109]
def Dg8:List UInt8:= [97,98,115]
def Ao0:List UInt8:= [40]
def Bx1:List UInt8:= [41]
def Bx2:List UInt8:= [44]
def Cz9:List UInt8:= [124]
def Ct7:List UInt8:= [46]
def Bx3:List UInt8:= [46,46]
def Bx4:List UInt8:= [39]
def Af1:List UInt8:= [61,62]
def Dg9:List (List (List UInt8)):= [[],[[43]],[[45]],[[42]],[[47]],[Cz7],[Cz8],[[61]],[[47,61]],[[60]],[[60,61]],[[62]],[[62,61]],[Ct6],[wOr],[Cz6],[Ct6,Cm8],[wOr,Cm9],[[43]],[[45]],[Dg8],[Ct5]]
def Bx5 (o:Nat):List (List UInt8):=Dg9.getD o []
section
variable (l:List Tok)
def tk (k:Nat):Tok:=l.getD k Dg6
def Bx6 (s:List UInt8):Int:=if Dg5 s then 2 else 4
def isW (k:Nat):List (List UInt8)->Bool
 | []=>true
 | s::r=>decide ((tk l k).kind=Bx6 s)&&decide ((tk l k).text=s)&&isW (k+1) r
def opF (want k:Nat):List Nat->Nat×Nat
 | []=>(0,k)
 | o::r=>if isW l k (Bx5 o) then(if want≠0/\o≠want then(0,k) else(o,k+(Bx5 o).length)) else opF want k r
def Ci9 (o:Nat) (a b:Ex):Ex:= .mk 12 o 0 [] [a,b] [] a.line 0 0
def Da0 (o:Nat) (line:Int) (x:Ex):Ex:=if o=0 then x else .mk 11 o 0 [] [x] [] line 0 0
def Ao1 {α:Type} (s:List UInt8) (k:Nat) (f:Nat->Res α):Res α:=if isW l k [s] then f (k+1) else .fail k
def Bx7 {α:Type} (k:Nat) (f:List UInt8->Nat->Res α):Res α:=if(tk l k).kind=1 then f (tk l k).text (k+1) else .fail k
def Dh0 (line:Int) (a:List As):Ex:=match a with
 | [x]=>if x.c= [] then x.e else .mk 9 0 0 [] [] a line 0 0
 | _=> .mk 9 0 0 [] [] a line 0 0
def Bx8:List Nat:= [17,16,15,14,13]
def Ct8:List Nat:= [12,11,10,9,8,7]
def Cj0:List Nat:= [19,18]
def Ct9:List Nat:= [2,1]
def Cu0:List Nat:= [6,5,4,3]
def Cu1:List Nat:= [21,20]
def inK (x:Ex) (kind:Int) (k:Nat) (p:PS):Res Ex:=
 (p.simple k).then fun y k=>if isW l k [Bx3] then(p.simple (k+1)).then fun z k=> .ok (.mk kind 0 0 [] [x,y,z] [] x.line 0 0) k
  else if Ct4 y then .ok (.mk kind 0 0 [] [x,y] [] x.line 0 0) k else .fail k
def Da1 (p:PS):PS where
 expr k:=(p.simple k).then fun x k=>p.rest x k
 rest x k:=(p.relation x k).then fun x k=>p.restL (opF l 0 k Bx8).1 x k
 restL o x k:=if o=0 then .ok x k else
  let q:=opF l o k Bx8
  if q.1=0 then .ok x k else(p.simple q.2).then fun y k=>(p.relation y k).then fun y k=>p.restL o (Ci9 o x y) k
 relation x k:=
  let q:=opF l 0 k Ct8
  if q.1≠0 then(p.simple q.2).then fun y k=> .ok (Ci9 q.1 x y) k
  else if isW l k [wIn] then inK l x 13 (k+1) p
  else if isW l k [Ct5,wIn] then inK l x 14 (k+2) p
  else .ok x k
 simple k:=
  let q:=opF l 0 k Cj0
  (p.term q.2).then fun x k'=>p.addL (Da0 q.1 (tk l k).line x) k'
 addL x k:=
  let q:=opF l 0 k Ct9
  if q.1=0 then .ok x k else(p.term q.2).then fun y k=>p.addL (Ci9 q.1 x y) k
 term k:=(p.factor k).then fun x k=>p.mulL x k
 mulL x k:=
  let q:=opF l 0 k Cu0
  if q.1=0 then .ok x k else(p.factor q.2).then fun y k=>p.mulL (Ci9 q.1 x y) k
 factor k:=
  let q:=opF l 0 k Cu1
  (p.primary q.2).then fun x k'=> .ok (Da0 q.1 (tk l k).line x) k'
 primary k:=
  if(tk l k).kind=3 then .ok (.mk 1 0 (tk l k).n [] [] [] (tk l k).line 0 0) (k+1)
  else if isW l k [Cz5] then .ok (.mk 2 0 0 [] [] [] (tk l k).line 0 0) (k+1)
  else if isW l k [Ao0] then p.paren k
  else p.name k
 paren k:=Ao1 l Ao0 k fun k1=>
  if isW l k1 [wIf] then(p.expr (k1+1)).then fun a k=>Ao1 l Cm8 k fun k=>(p.expr k).then fun b k=>Ao1 l Cm9 k fun k=>(p.expr k).then fun c k'=>Ao1 l Bx1 k' fun k'=> .ok (.mk 10 0 0 [] [a,b,c] [] (tk l (k1-1)).line 0 0) k'
  else(p.assoc k1).then fun a k=>(p.assocsL [a] k).then fun az k=>Ao1 l Bx1 k fun k=> .ok (Dh0 (tk l (k1-1)).line az) k
 assoc k:=(p.choice k).then fun c k=>
  if c.kind=1/\isW l k [Cz9]=false/\isW l k [Af1]=false then .ok (.mk [] (c.l.getD 0 ex0)) k
  else if c.kind=3 then Ao1 l Af1 k fun k=>(p.expr k).then fun e k=> .ok (.mk [c] e) k
  else(p.choicesL [c] k).then fun cs k=>Ao1 l Af1 k fun k=>(p.expr k).then fun e k=> .ok (.mk cs e) k
 assocsL az k:=if isW l k [Bx2] then(p.assoc (k+1)).then fun a k=>p.assocsL (az++ [a]) k else .ok az k
 choice k:=if isW l k [Ci8] then .ok (.mk 3 []) (k+1) else
  (p.simple k).then fun x k=>if isW l k [Bx3] then(p.simple (k+1)).then fun y k=> .ok (.mk 2 [x,y]) k
   else(p.rest x k).then fun x k=> .ok (.mk 1 [x]) k
 choicesL cs k:=if isW l k [Cz9] then(p.choice (k+1)).then fun c k=>p.choicesL (cs++ [c]) k else .ok cs k
 arg k:=if(tk l k).kind=1/\isW l (k+1) [Af1]=true then(p.expr (k+2)).then fun e k'=> .ok (.mk [.mk 1 [.mk 3 0 0 (tk l k).text [] [] (tk l k).line 0 0]] e) k'
  else(p.expr k).then fun e k=> .ok (.mk [] e) k
 argsL az k:=if isW l k [Bx2] then(p.arg (k+1)).then fun a k=>p.argsL (az++ [a]) k else .ok az k
 name k:=Bx7 l k fun s k1=>p.nameL (tk l k).line (.mk 3 0 0 s [] [] (tk l k).line 0 0) k1
 nameL line x k:=
  if isW l k [Ct7,Dg7] then p.nameL line (.mk 5 0 0 [] [x] [] line 0 0) (k+2)
  else if isW l k [Ct7] then Bx7 l (k+1) fun s k=>p.nameL line (.mk 4 0 0 s [x] [] line 0 0) k
  else if isW l k [Ao0] then(p.arg (k+1)).then fun a k=>(p.argsL [a] k).then fun az k=>Ao1 l Bx1 k fun k=>p.nameL line (.mk 7 0 0 [] [x] az line 0 0) k
  else if isW l k [Bx4,Ao0] then(p.paren (k+1)).then fun y k=>p.nameL line (.mk 8 0 0 [] [x,y] [] line 0 0) k
  else if isW l k [Bx4] then Bx7 l (k+1) fun s k=>p.nameL line (.mk 6 0 0 s [x] [] line 0 0) k
  else .ok x k
def P:Nat->PS
 | 0=>Cz4
 | n+1=>Da1 l (P n)
end
end Go.Dl

-- Chapter 3: expressions as data.
namespace Go.Dl
open Go Go.Proofs
set_option maxRecDepth 100000
mutual
def dEx:Ex->List DVal
 | .mk k o n s l a li en t=> [.int .u8 k, .int .u8 o, .int .i64 n, .str s, .vslice (Bx9 l) l.length, .vslice (Cj1 a) a.length, .int .i64 li, .int .i64 en, .int .i64 t]
def Bx9:List Ex->List DVal
 | []=> []
 | x::l=>dEx x++Bx9 l
def dAs:As->List DVal
 | .mk c e=> .vslice (Cj2 c) c.length::dEx e
def Cj1:List As->List DVal
 | []=> []
 | x::l=>dAs x++Cj1 l
def dCh:Ch->List DVal
 | .mk k l=> [.int .u8 k, .vslice (Bx9 l) l.length]
def Cj2:List Ch->List DVal
 | []=> []
 | x::l=>dCh x++Cj2 l
end
theorem Sx: ∀l:List Ex,Bx9 l=l.flatMap dEx
 | []=>rfl
 | x::l=>by rw[Bx9,Sx l,List.flatMap_cons]
theorem Zm: ∀l:List As,Cj1 l=l.flatMap dAs
 | []=>rfl
 | x::l=>by rw[Cj1,Zm l,List.flatMap_cons]
theorem Zn: ∀l:List Ch,Cj2 l=l.flatMap dCh
 | []=>rfl
 | x::l=>by rw[Cj2,Zn l,List.flatMap_cons]
theorem By0 (k o n:Int) (s:List UInt8) (l:List Ex) (a:List As) (li en t:Int):dEx (.mk k o n s l a li en t)= [.int .u8 k, .int .u8 o, .int .i64 n, .str s, .vslice (l.flatMap dEx) l.length, .vslice (a.flatMap dAs) a.length, .int .i64 li, .int .i64 en, .int .i64 t]:=by
 rw[dEx,Sx,Zm]
theorem Ni (e:Ex):dEx e= [.int .u8 e.kind, .int .u8 e.oper, .int .i64 e.n, .str e.s, .vslice (e.l.flatMap dEx) e.l.length, .vslice (e.a.flatMap dAs) e.a.length, .int .i64 e.line, .int .i64 e.ent, .int .i64 e.t]:=by
 cases e;rw[By0];rfl
theorem Wn (x:As):dAs x= .vslice (x.c.flatMap dCh) x.c.length::dEx x.e:=by
 cases x;rw[dAs,Zn];rfl
theorem Wo (x:Ch):dCh x= [.int .u8 x.kind, .vslice (x.l.flatMap dEx) x.l.length]:=by
 cases x;rw[dCh,Sx];rfl
theorem Bt (e:Ex):(dEx e).length=9:=by rw[Ni];rfl
theorem Fo (e:As):(dAs e).length=10:=by rw[Wn,List.length_cons,Bt]
theorem Er (e:Ch):(dCh e).length=2:=by rw[Wo];rfl
theorem Cn0 (e:Ex):(dEx e).take 9=dEx e:=List.take_of_length_le (by rw[Bt];decide)
theorem Da2 (e:As):(dAs e).take 10=dAs e:=List.take_of_length_le (by rw[Fo];decide)
theorem Da3 (e:Ch):(dCh e).take 2=dCh e:=List.take_of_length_le (by rw[Er];decide)
theorem Jz (e:Ex):(dEx e).all (fun d=>d.one)=true:=by rw[Ni];rfl
theorem Cj3 (e:As):(dAs e).all (fun d=>d.one)=true:=by rw[Wn,List.all_cons,Jz];rfl
theorem Cj4 (e:Ch):(dCh e).all (fun d=>d.one)=true:=by rw[Wo];rfl
theorem Da4 (e:Ex):(dEx e)[0]? =some (.int .u8 e.kind):=by rw[Ni];rfl
theorem Da5 (e:Ex):(dEx e)[1]? =some (.int .u8 e.oper):=by rw[Ni];rfl
theorem Da6 (e:Ex):(dEx e)[2]? =some (.int .i64 e.n):=by rw[Ni];rfl
theorem Da7 (e:Ex):(dEx e)[3]? =some (.str e.s):=by rw[Ni];rfl
theorem Da8 (e:Ex):(dEx e)[4]? =some (.vslice (e.l.flatMap dEx) e.l.length):=by rw[Ni];rfl
theorem Da9 (e:Ex):(dEx e)[5]? =some (.vslice (e.a.flatMap dAs) e.a.length):=by rw[Ni];rfl
theorem Cn1 (e:As):(dAs e)[0]? =some (.vslice (e.c.flatMap dCh) e.c.length):=by rw[Wn];rfl
theorem Ao2 (e:As):((dAs e).drop 1).take 9=dEx e.e:=by rw[Wn];exact Cn0 _
theorem Cn2 (e:Ch):(dCh e)[0]? =some (.int .u8 e.kind):=by rw[Wo];rfl
theorem Cn3 (e:Ch):(dCh e)[1]? =some (.vslice (e.l.flatMap dEx) e.l.length):=by rw[Wo];rfl
def dAl (l:List As):DVal:= .vslice (l.flatMap dAs) l.length
def dCl (l:List Ch):DVal:= .vslice (l.flatMap dCh) l.length
attribute [go_sem] Bt Fo Er Cn0 Da2 Da3 Jz Cj3 Cj4 Da4 Da5 Da6 Da7 Da8 Da9 Cn1 Ao2 Cn2 Cn3 List.append_nil
section
end
end Go.Dl

-- Chapter 3: slices of trees: the library's functions.
namespace Go.Dl
open Go Go.Proofs
set_option maxRecDepth 100000
mutual
def Jm:Ex->Nat
 | .mk _ _ _ _ l a _ _ _=>1+Sy l+La a
def Sy:List Ex->Nat
 | []=>0
 | x::l=>Jm x+Sy l
def Wp:As->Nat
 | .mk c e=>Hx c+Jm e
def La:List As->Nat
 | []=>0
 | x::l=>Wp x+La l
def Ao3:Ch->Nat
 | .mk _ l=>1+Sy l
def Hx:List Ch->Nat
 | []=>0
 | x::l=>Ao3 x+Hx l
end
theorem Ao4 (e:Ex):1<=Jm e:=by cases e;rw[Jm];omega
theorem By1 (a:As):1<=Wp a:=by cases a;rw[Wp];have:=Ao4 (‹Ex›);omega
theorem By2 (c:Ch):1<=Ao3 c:=by cases c;rw[Ao3];omega
theorem Ux (e:Ex):Jm e=1+Sy e.l+La e.a:=by cases e;rw[Jm];rfl
theorem Af2 (a:As):Wp a=Hx a.c+Jm a.e:=by cases a;rw[Wp];rfl
theorem Rc (c:Ch):Ao3 c=1+Sy c.l:=by cases c;rw[Ao3];rfl
theorem Nj: ∀ {l:List Ex} {x:Ex},x∈l->Jm x<=Sy l
 | y::l,x,h=>by
  rw[Sy];rcases List.mem_cons.1 h with rfl | h
  ·omega
  ·have:=Nj h;omega
theorem Ok: ∀ {l:List As} {x:As},x∈l->Wp x<=La l
 | y::l,x,h=>by
  rw[La];rcases List.mem_cons.1 h with rfl | h
  ·omega
  ·have:=Ok h;omega
theorem Iw: ∀ {l:List Ch} {x:Ch},x∈l->Ao3 x<=Hx l
 | y::l,x,h=>by
  rw[Hx];rcases List.mem_cons.1 h with rfl | h
  ·omega
  ·have:=Iw h;omega
theorem Nk: ∀l:List Ex,l.length<=Sy l
 | []=>Nat.le_refl _
 | x::l=>by rw[Sy,List.length_cons];have:=Nk l;have:=Ao4 x;omega
theorem Sz: ∀l:List As,l.length<=La l
 | []=>Nat.le_refl _
 | x::l=>by rw[La,List.length_cons];have:=Sz l;have:=By1 x;omega
theorem Ta: ∀l:List Ch,l.length<=Hx l
 | []=>Nat.le_refl _
 | x::l=>by rw[Hx,List.length_cons];have:=Ta l;have:=By2 x;omega
theorem Cu2 {e x:Ex} (h:x∈e.l):Jm x<Jm e:=by have:=Nj h;rw[Ux e];omega
theorem Cu3 {e:Ex} {a:As} (h:a∈e.a):Wp a<Jm e:=by have:=Ok h;rw[Ux e];omega
end Go.Dl

-- Chapter 3: May, MayArgs, MayChoices, Size.
namespace Go.Dl
open Go Go.Proofs
set_option maxRecDepth 100000
mutual
def okE:Ex->Prop
 | .mk _ _ _ s l a _ _ _=>s.length<=9223372036854775807/\okL l/\By3 a
def okL:List Ex->Prop
 | []=>True
 | x::l=>okE x/\okL l
def okA:As->Prop
 | .mk c e=>Bn0 c/\okE e
def By3:List As->Prop
 | []=>True
 | x::l=>okA x/\By3 l
def okC:Ch->Prop
 | .mk _ l=>okL l
def Bn0:List Ch->Prop
 | []=>True
 | x::l=>okC x/\Bn0 l
end
theorem Ay0 {a:As}: ∀x∈Lw a,Jm x<=Wp a:=fun x hx=>by
 rw[Af2];rcases List.mem_append.1 hx with hx | hx
 ·obtain⟨c,hc,hx⟩:=List.mem_flatMap.1 hx;have h1:=Iw hc;have h2:=Nj hx;rw[Rc] at h1;omega
 ·rw[List.mem_singleton] at hx;subst hx;omega
theorem Wq {e x:Ex} (hx:x∈Bu e):Jm x<Jm e:=by
 rcases List.mem_append.1 hx with hx | hx
 ·exact Cu2 hx
 ·obtain⟨a,ha,hx⟩:=List.mem_flatMap.1 hx;have h1:=Cu3 ha;have h2:=Ay0 x hx;omega
section
end
end Go.Dl

-- Chapter 3: Size, Level, Same, SameArgs, SameChoices (printed by gen_ua.py).
namespace Go.Dl
open Go Go.Proofs
set_option maxRecDepth 100000
def eqF {α:Type} (p:α->α->Bool):List α->List α->Bool
 | [],[]=>true
 | x::l,y::m=>p x y&&eqF p l m
 | _,_=>false
theorem Bd1 {α:Type} {p:α->α->Bool}: ∀ {l m:List α},eqF p l m=true->l.length=m.length
 | [],[],_=>rfl
 | [],_::_,h=>by cases h
 | _::_,[],h=>by cases h
 | x::l,y::m,h=>by
  rw[eqF,Bool.and_eq_true] at h;rw[List.length_cons,List.length_cons,Bd1 h.2]
theorem Gr {α:Type} {p:α->α->Bool} {l m:List α} (h:l.length≠m.length):eqF p l m=false:=by
 cases e:eqF p l m with
 | false=>rfl
 | true=>exact absurd (Bd1 e) h
theorem El {α:Type} {p:α->α->Bool} {l m:List α} {k:Nat} (h1:k<l.length) (h2:k<m.length):eqF p (l.drop k) (m.drop k)=(p l[k] m[k]&&eqF p (l.drop (k+1)) (m.drop (k+1))):=by
 rw[List.drop_eq_getElem_cons h1,List.drop_eq_getElem_cons h2,eqF]
theorem Jf: ∀l m:List Ex,Ew l m=eqF Bb l m
 | [],[]=>by simp [Ew,eqF]
 | [],_::_=>by simp [Ew,eqF]
 | _::_,[]=>by simp [Ew,eqF]
 | x::l,y::m=>by rw[Ew,eqF,Jf l m]
theorem Px: ∀l m:List As,Ft l m=eqF Kz l m
 | [],[]=>by simp [Ft,eqF]
 | [],_::_=>by simp [Ft,eqF]
 | _::_,[]=>by simp [Ft,eqF]
 | x::l,y::m=>by rw[Ft,eqF,Px l m]
theorem Lx: ∀l m:List Ch,Dy l m=eqF Jy l m
 | [],[]=>by simp [Dy,eqF]
 | [],_::_=>by simp [Dy,eqF]
 | _::_,[]=>by simp [Dy,eqF]
 | x::l,y::m=>by rw[Dy,eqF,Lx l m]
theorem Ao5 (x y:As):Kz x y=(Dy x.c y.c&&Bb x.e y.e):=by cases x;rw[Kz];rfl
theorem Ao6 (x y:Ch):Jy x y=(decide (x.kind=y.kind)&&Ew x.l y.l):=by cases x;rw[Jy];rfl
theorem Bd2 (G:Nat->DVal) (H:Aa) (p:Ex->Ex->Bool) (l m:List Ex) (g:FuncId) (hl:l.length<=1099511627776)
  (hp: ∀x∈l,∀y∈m,∀H,Ar Tryz.prog G g ([]++ [.agg (dEx x), .agg (dEx y)]++ []) H (Cq (.bool (p x y)) H)):
  Ar Tryz.prog G 141 [.vslice (l.flatMap dEx) l.length, .vslice (m.flatMap dEx) m.length, .func (.func g) [] []] H (Cq (.bool (eqF p l m)) H):=by
 refine Ak Tryz.func141 Tryz.call141 rfl (by kernel_rfl) ?_;by_cases hlen:l.length=m.length
 ·have hlen':(l.length:Int)=(m.length:Int):=by omega
  simp(disch:=omega) only[go_sem,↓reduceIte,hlen'];obtain⟨I,hI⟩: ∃I:Nat->(Nat->DVal)->Aa->Prop,∀k env heap,I k env heap↔(env 0= .vslice (l.flatMap dEx) l.length/\env 1= .vslice (m.flatMap dEx) m.length/\env 2= .func (.func g) [] []/\env 15= .vslice (l.flatMap dEx) l.length/\env 16=dI m.length/\env 17=dI k/\k<=l.length/\eqF p l m=eqF p (l.drop k) (m.drop k)/\Sub H heap):=⟨_,fun _ _ _=>Iff.rfl⟩;refine Bq8.run I (fun k=>l.length-k) 0 ((hI _ _ _).2 ?_) ?_
  ·simp(disch:=omega) only[go_sem,↓reduceIte];(repeat' apply And.intro)<;>(try first | rfl | assumption | omega);exact Sub.refl _
  ·intro k env heap hi;obtain⟨e0,e1,e2,e15,e16,e17,hk,hsm,hsub⟩:=(hI _ _ _).1 hi;have hfl:=Bf Bt l;have hfm:=Bf Bt m;by_cases hlt:k<l.length
   ·have hlt':(k:Int)<(m.length:Int):=by omega
    have hlt2:(k:Int)<(l.length:Int):=by omega
    have hkm:k<m.length:=by omega
    have Bc:=Ci Bt l k hlt;have hgetm:=Ci Bt m k hkm;have hwd:IntKind.i64.wrap ((k:Int)+1)=((k+1:Nat):Int):=by rw[IntKind.wrap_i64];omega
    simp(disch:=omega) only[go_sem,↓reduceIte,e0,e1,e2,e15,e16,e17,hlt',hlt2,Bc,hgetm,hfl,hfm,Int.toNat_natCast];intro r8 hr8;dsimp only at hr8;simp(disch:=omega) only[go_sem,↓reduceIte,e0,e1,e2,e15,e16,e17,hlt',hlt2,Bc,hgetm,hfl,hfm,Int.toNat_natCast];intro r9 hr9;dsimp only at hr9;obtain⟨m2,m1,hr9'⟩:=Cm6.1 hr9;simp(disch:=omega) only[go_sem,↓reduceIte,e0,e1,e2,e15,e16,e17,m1,m2,Bc,hgetm,hfl,hfm,Int.toNat_natCast];refine(hp l[k] (List.getElem_mem hlt) m[k] (List.getElem_mem hkm) _).mono ?_;rintro _ H1 ⟨rfl,rfl⟩;rw[El hlt hkm] at hsm;have hs1:=(hsub.new hr8 (some (DObj.cells (dEx l[k]) 29))).new hr9 (some (DObj.cells (dEx m[k]) 29));cases hb:p l[k] m[k] with
    | true=>
     rw[hb,Bool.true_and] at hsm;simp(disch:=omega) only[go_sem,↓reduceIte,e0,e1,e2,e15,e16,e17];refine⟨k+1,_,Pn.refl _,(hI _ _ _).2 ?_,by omega⟩;simp(disch:=omega) only[go_sem,↓reduceIte,e0,e1,e2,e15,e16,e17,hwd];(repeat' apply And.intro)<;>(try first | rfl | assumption | omega)
    | false=>
     rw[hb,Bool.false_and] at hsm;simp(disch:=omega) only[go_sem,↓reduceIte,e0,e1,e2,e15,e16,e17];exact Ax1.sub hs1 (Ax1.refl ⟨by rw[hsm],rfl⟩)
   ·have:k=l.length:=by omega
    subst this;have hlt': ¬(l.length:Int)<(m.length:Int):=by omega
    simp(disch:=omega) only[go_sem,↓reduceIte,e0,e1,e2,e15,e16,e17,hlt'];refine Ax1.sub hsub (Ax1.refl ⟨?_,rfl⟩);rw[hsm,List.drop_length,hlen,List.drop_length];rfl
 ·have hlen': ¬(l.length:Int)=(m.length:Int):=by omega
  simp(disch:=omega) only[go_sem,↓reduceIte,hlen'];exact Ax1.refl ⟨by rw[Gr hlen],rfl⟩
theorem Cj5 (G:Nat->DVal) (H:Aa) (p:As->As->Bool) (l m:List As) (g:FuncId) (hl:l.length<=1099511627776)
  (hp: ∀x∈l,∀y∈m,∀H,Ar Tryz.prog G g ([]++ [.agg (dAs x), .agg (dAs y)]++ []) H (Cq (.bool (p x y)) H)):
  Ar Tryz.prog G 201 [.vslice (l.flatMap dAs) l.length, .vslice (m.flatMap dAs) m.length, .func (.func g) [] []] H (Cq (.bool (eqF p l m)) H):=by
 refine Ak Tryz.func201 Tryz.call201 rfl (by kernel_rfl) ?_;by_cases hlen:l.length=m.length
 ·have hlen':(l.length:Int)=(m.length:Int):=by omega
  simp(disch:=omega) only[go_sem,↓reduceIte,hlen'];obtain⟨I,hI⟩: ∃I:Nat->(Nat->DVal)->Aa->Prop,∀k env heap,I k env heap↔(env 0= .vslice (l.flatMap dAs) l.length/\env 1= .vslice (m.flatMap dAs) m.length/\env 2= .func (.func g) [] []/\env 15= .vslice (l.flatMap dAs) l.length/\env 16=dI m.length/\env 17=dI k/\k<=l.length/\eqF p l m=eqF p (l.drop k) (m.drop k)/\Sub H heap):=⟨_,fun _ _ _=>Iff.rfl⟩;refine Bq8.run I (fun k=>l.length-k) 0 ((hI _ _ _).2 ?_) ?_
  ·simp(disch:=omega) only[go_sem,↓reduceIte];(repeat' apply And.intro)<;>(try first | rfl | assumption | omega);exact Sub.refl _
  ·intro k env heap hi;obtain⟨e0,e1,e2,e15,e16,e17,hk,hsm,hsub⟩:=(hI _ _ _).1 hi;have hfl:=Bf Fo l;have hfm:=Bf Fo m;by_cases hlt:k<l.length
   ·have hlt':(k:Int)<(m.length:Int):=by omega
    have hlt2:(k:Int)<(l.length:Int):=by omega
    have hkm:k<m.length:=by omega
    have Bc:=Ci Fo l k hlt;have hgetm:=Ci Fo m k hkm;have hwd:IntKind.i64.wrap ((k:Int)+1)=((k+1:Nat):Int):=by rw[IntKind.wrap_i64];omega
    simp(disch:=omega) only[go_sem,↓reduceIte,e0,e1,e2,e15,e16,e17,hlt',hlt2,Bc,hgetm,hfl,hfm,Int.toNat_natCast];intro r8 hr8;dsimp only at hr8;simp(disch:=omega) only[go_sem,↓reduceIte,e0,e1,e2,e15,e16,e17,hlt',hlt2,Bc,hgetm,hfl,hfm,Int.toNat_natCast];intro r9 hr9;dsimp only at hr9;obtain⟨m2,m1,hr9'⟩:=Cm6.1 hr9;simp(disch:=omega) only[go_sem,↓reduceIte,e0,e1,e2,e15,e16,e17,m1,m2,Bc,hgetm,hfl,hfm,Int.toNat_natCast];refine(hp l[k] (List.getElem_mem hlt) m[k] (List.getElem_mem hkm) _).mono ?_;rintro _ H1 ⟨rfl,rfl⟩;rw[El hlt hkm] at hsm;have hs1:=(hsub.new hr8 (some (DObj.cells (dAs l[k]) 222))).new hr9 (some (DObj.cells (dAs m[k]) 222));cases hb:p l[k] m[k] with
    | true=>
     rw[hb,Bool.true_and] at hsm;simp(disch:=omega) only[go_sem,↓reduceIte,e0,e1,e2,e15,e16,e17];refine⟨k+1,_,Pn.refl _,(hI _ _ _).2 ?_,by omega⟩;simp(disch:=omega) only[go_sem,↓reduceIte,e0,e1,e2,e15,e16,e17,hwd];(repeat' apply And.intro)<;>(try first | rfl | assumption | omega)
    | false=>
     rw[hb,Bool.false_and] at hsm;simp(disch:=omega) only[go_sem,↓reduceIte,e0,e1,e2,e15,e16,e17];exact Ax1.sub hs1 (Ax1.refl ⟨by rw[hsm],rfl⟩)
   ·have:k=l.length:=by omega
    subst this;have hlt': ¬(l.length:Int)<(m.length:Int):=by omega
    simp(disch:=omega) only[go_sem,↓reduceIte,e0,e1,e2,e15,e16,e17,hlt'];refine Ax1.sub hsub (Ax1.refl ⟨?_,rfl⟩);rw[hsm,List.drop_length,hlen,List.drop_length];rfl
 ·have hlen': ¬(l.length:Int)=(m.length:Int):=by omega
  simp(disch:=omega) only[go_sem,↓reduceIte,hlen'];exact Ax1.refl ⟨by rw[Gr hlen],rfl⟩
theorem Cj6 (G:Nat->DVal) (H:Aa) (p:Ch->Ch->Bool) (l m:List Ch) (g:FuncId) (hl:l.length<=1099511627776)
  (hp: ∀x∈l,∀y∈m,∀H,Ar Tryz.prog G g ([]++ [.agg (dCh x), .agg (dCh y)]++ []) H (Cq (.bool (p x y)) H)):
  Ar Tryz.prog G 169 [.vslice (l.flatMap dCh) l.length, .vslice (m.flatMap dCh) m.length, .func (.func g) [] []] H (Cq (.bool (eqF p l m)) H):=by
 refine Ak Tryz.func169 Tryz.call169 rfl (by kernel_rfl) ?_;by_cases hlen:l.length=m.length
 ·have hlen':(l.length:Int)=(m.length:Int):=by omega
  simp(disch:=omega) only[go_sem,↓reduceIte,hlen'];obtain⟨I,hI⟩: ∃I:Nat->(Nat->DVal)->Aa->Prop,∀k env heap,I k env heap↔(env 0= .vslice (l.flatMap dCh) l.length/\env 1= .vslice (m.flatMap dCh) m.length/\env 2= .func (.func g) [] []/\env 15= .vslice (l.flatMap dCh) l.length/\env 16=dI m.length/\env 17=dI k/\k<=l.length/\eqF p l m=eqF p (l.drop k) (m.drop k)/\Sub H heap):=⟨_,fun _ _ _=>Iff.rfl⟩;refine Bq8.run I (fun k=>l.length-k) 0 ((hI _ _ _).2 ?_) ?_
  ·simp(disch:=omega) only[go_sem,↓reduceIte];(repeat' apply And.intro)<;>(try first | rfl | assumption | omega);exact Sub.refl _
  ·intro k env heap hi;obtain⟨e0,e1,e2,e15,e16,e17,hk,hsm,hsub⟩:=(hI _ _ _).1 hi;have hfl:=Bf Er l;have hfm:=Bf Er m;by_cases hlt:k<l.length
   ·have hlt':(k:Int)<(m.length:Int):=by omega
    have hlt2:(k:Int)<(l.length:Int):=by omega
    have hkm:k<m.length:=by omega
    have Bc:=Ci Er l k hlt;have hgetm:=Ci Er m k hkm;have hwd:IntKind.i64.wrap ((k:Int)+1)=((k+1:Nat):Int):=by rw[IntKind.wrap_i64];omega
    simp(disch:=omega) only[go_sem,↓reduceIte,e0,e1,e2,e15,e16,e17,hlt',hlt2,Bc,hgetm,hfl,hfm,Int.toNat_natCast];intro r8 hr8;dsimp only at hr8;simp(disch:=omega) only[go_sem,↓reduceIte,e0,e1,e2,e15,e16,e17,hlt',hlt2,Bc,hgetm,hfl,hfm,Int.toNat_natCast];intro r9 hr9;dsimp only at hr9;obtain⟨m2,m1,hr9'⟩:=Cm6.1 hr9;simp(disch:=omega) only[go_sem,↓reduceIte,e0,e1,e2,e15,e16,e17,m1,m2,Bc,hgetm,hfl,hfm,Int.toNat_natCast];refine(hp l[k] (List.getElem_mem hlt) m[k] (List.getElem_mem hkm) _).mono ?_;rintro _ H1 ⟨rfl,rfl⟩;rw[El hlt hkm] at hsm;have hs1:=(hsub.new hr8 (some (DObj.cells (dCh l[k]) 198))).new hr9 (some (DObj.cells (dCh m[k]) 198));cases hb:p l[k] m[k] with
    | true=>
     rw[hb,Bool.true_and] at hsm;simp(disch:=omega) only[go_sem,↓reduceIte,e0,e1,e2,e15,e16,e17];refine⟨k+1,_,Pn.refl _,(hI _ _ _).2 ?_,by omega⟩;simp(disch:=omega) only[go_sem,↓reduceIte,e0,e1,e2,e15,e16,e17,hwd];(repeat' apply And.intro)<;>(try first | rfl | assumption | omega)
    | false=>
     rw[hb,Bool.false_and] at hsm;simp(disch:=omega) only[go_sem,↓reduceIte,e0,e1,e2,e15,e16,e17];exact Ax1.sub hs1 (Ax1.refl ⟨by rw[hsm],rfl⟩)
   ·have:k=l.length:=by omega
    subst this;have hlt': ¬(l.length:Int)<(m.length:Int):=by omega
    simp(disch:=omega) only[go_sem,↓reduceIte,e0,e1,e2,e15,e16,e17,hlt'];refine Ax1.sub hsub (Ax1.refl ⟨?_,rfl⟩);rw[hsm,List.drop_length,hlen,List.drop_length];rfl
 ·have hlen': ¬(l.length:Int)=(m.length:Int):=by omega
  simp(disch:=omega) only[go_sem,↓reduceIte,hlen'];exact Ax1.refl ⟨by rw[Gr hlen],rfl⟩
def Tb (P:Program) (G:Nat->DVal) (f:FuncId) (x:Ex):Prop:= ∀y H,Ar P G f ([]++ [.agg (dEx x), .agg (dEx y)]++ []) H (Cq (.bool (Bb x y)) H)
theorem Ay1 (G:Nat->DVal) (H:Aa) (x y:Ch) (hl:x.l.length<=1099511627776) (hS: ∀e∈x.l,Tb Tryz.prog G 66 e):Ar Tryz.prog G 170 ([]++ [.agg (dCh x), .agg (dCh y)]++ []) H (Cq (.bool (Jy x y)) H):=by
 rw[Ao6,Jf];refine Ak Tryz.func170 Tryz.call170 rfl (by kernel_rfl) ?_;simp(disch:=omega) only[go_sem,↓reduceIte,DVal.cells,List.nil_append,List.append_nil];intro r2 hr2;dsimp only at hr2;simp(disch:=omega) only[go_sem,↓reduceIte,DVal.cells];intro r3 hr3;dsimp only at hr3;obtain⟨m2,m1,hr3'⟩:=Cm6.1 hr3;by_cases h1:x.kind=y.kind
 ·simp(disch:=omega) only[go_sem,↓reduceIte,m1,m2,h1];refine(Bd2 G _ Bb x.l y.l 66 hl fun e he f _ K=>hS e he f K).mono ?_;rintro _ H1 ⟨rfl,rfl⟩;simp(disch:=omega) only[go_sem,↓reduceIte];exact Ax1.sub (show Sub H _ from(by repeat (first | exact Sub.refl _ | assumption | refine Sub.up ?_ (by assumption) _))) (Ax1.refl ⟨by simp,rfl⟩)
 ·simp(disch:=omega) only[go_sem,↓reduceIte,m1,m2,h1];exact Ax1.sub (show Sub H _ from(by repeat (first | exact Sub.refl _ | assumption | refine Sub.up ?_ (by assumption) _))) (Ax1.refl ⟨by simp,rfl⟩)
theorem Zo (G:Nat->DVal) (H:Aa) (l m:List Ch) (hl:Hx l<=1099511627776) (hS: ∀e∈l.flatMap Ch.l,Tb Tryz.prog G 66 e):Ar Tryz.prog G 106 [dCl l,dCl m] H (Cq (.bool (Dy l m)) H):=by
 have hll:=Ta l;refine Ak Tryz.func106 Tryz.call106 rfl (by kernel_rfl) ?_;simp(disch:=omega) only[go_sem,↓reduceIte,dCl];refine(Cj6 G _ Jy l m 170 (by omega) fun c hc d _ K=>Ay1 G K c d (by have:=Iw hc;have:=Nk c.l;rw[Rc] at*;omega) fun e he=>hS e (List.mem_flatMap.2 ⟨c,hc,he⟩)).mono ?_;rintro _ H1 ⟨rfl,rfl⟩;simp(disch:=omega) only[go_sem,↓reduceIte];exact Ax1.refl ⟨by rw[Lx],rfl⟩
theorem Ay2 (G:Nat->DVal) (H:Aa) (x y:As) (hl:Wp x<=1099511627776) (hS: ∀e∈Lw x,Tb Tryz.prog G 66 e):Ar Tryz.prog G 202 ([]++ [.agg (dAs x), .agg (dAs y)]++ []) H (Cq (.bool (Kz x y)) H):=by
 have hb:=Af2 x;have dx:=Ao2 x;have dy:=Ao2 y;rw[Ao5];refine Ak Tryz.func202 Tryz.call202 rfl (by kernel_rfl) ?_;simp(disch:=omega) only[go_sem,↓reduceIte,DVal.cells,List.nil_append,List.append_nil];intro r2 hr2;dsimp only at hr2;simp(disch:=omega) only[go_sem,↓reduceIte,DVal.cells];intro r3 hr3;dsimp only at hr3;obtain⟨m2,m1,hr3'⟩:=Cm6.1 hr3;simp(disch:=omega) only[go_sem,↓reduceIte,m1,m2];refine(Zo G _ x.c y.c (by omega) fun e he=>hS e (List.mem_append_left _ he)).mono ?_;rintro _ H1 ⟨rfl,rfl⟩;cases h:Dy x.c y.c with
 | false=>
  simp(disch:=omega) only[go_sem,↓reduceIte,m1,m2];exact Ax1.sub (show Sub H _ from(by repeat (first | exact Sub.refl _ | assumption | refine Sub.up ?_ (by assumption) _))) (Ax1.refl ⟨by simp,rfl⟩)
 | true=>
  simp(disch:=omega) only[go_sem,↓reduceIte,m1,m2,dx,dy];refine(hS x.e (Rb x) y.e _).mono ?_;rintro _ H1 ⟨rfl,rfl⟩;simp(disch:=omega) only[go_sem,↓reduceIte];exact Ax1.sub (show Sub H _ from(by repeat (first | exact Sub.refl _ | assumption | refine Sub.up ?_ (by assumption) _))) (Ax1.refl ⟨by simp,rfl⟩)
theorem Ao7 (G:Nat->DVal) (H:Aa) (l m:List As) (hl:La l<=1099511627776) (hS: ∀e∈l.flatMap Lw,Tb Tryz.prog G 66 e):Ar Tryz.prog G 142 [dAl l,dAl m] H (Cq (.bool (Ft l m)) H):=by
 have hll:=Sz l;refine Ak Tryz.func142 Tryz.call142 rfl (by kernel_rfl) ?_;simp(disch:=omega) only[go_sem,↓reduceIte,dAl];refine(Cj5 G _ Kz l m 202 (by omega) fun a ha b _ K=>Ay2 G K a b (by have:=Ok ha;omega) fun e he=>hS e (List.mem_flatMap.2 ⟨a,ha,he⟩)).mono ?_;rintro _ H1 ⟨rfl,rfl⟩;simp(disch:=omega) only[go_sem,↓reduceIte];exact Ax1.refl ⟨by rw[Px],rfl⟩
theorem Bd3 (G:Nat->DVal): ∀x:Ex,Jm x<=1099511627776->Tb Tryz.prog G 66 x:=by
 intro x
 induction x using Ex.ind with
 | h x ih=>
  intro hb y H;have hbe:=Ux x;have hbl:=Nk x.l;have ih': ∀e∈Bu x,Tb Tryz.prog G 66 e:=fun e he=>ih e he (by have:=Wq he;omega);rw[An9,Jf];refine Ak Tryz.func66 Tryz.call66 rfl (by kernel_rfl) ?_;simp(disch:=omega) only[go_sem,↓reduceIte,DVal.cells,List.nil_append,List.append_nil];intro r2 hr2;dsimp only at hr2;simp(disch:=omega) only[go_sem,↓reduceIte,DVal.cells];intro r3 hr3;dsimp only at hr3;obtain⟨m2,m1,hr3'⟩:=Cm6.1 hr3;by_cases h1:x.kind=y.kind
  ·by_cases h2:x.oper=y.oper
   ·by_cases h3:x.n=y.n
    ·by_cases h4:x.s=y.s
     ·simp(disch:=omega) only[go_sem,↓reduceIte,m1,m2,h1,h2,h3,h4];refine(Bd2 G _ Bb x.l y.l 66 (by omega) fun e he f _ K=>ih' e (Ud he) f K).mono ?_;rintro _ H1 ⟨rfl,rfl⟩;cases h5:eqF Bb x.l y.l with
      | true=>
       simp(disch:=omega) only[go_sem,↓reduceIte,m1,m2];refine(Ao7 G _ x.a y.a (by omega) fun e he=>ih' e (List.mem_append_right _ he)).mono ?_;rintro _ H1 ⟨rfl,rfl⟩;simp(disch:=omega) only[go_sem,↓reduceIte];exact Ax1.sub (show Sub H _ from(by repeat (first | exact Sub.refl _ | assumption | refine Sub.up ?_ (by assumption) _))) (Ax1.refl ⟨by simp,rfl⟩)
      | false=>
       simp(disch:=omega) only[go_sem,↓reduceIte,m1,m2];exact Ax1.sub (show Sub H _ from(by repeat (first | exact Sub.refl _ | assumption | refine Sub.up ?_ (by assumption) _))) (Ax1.refl ⟨by simp,rfl⟩)
     ·simp(disch:=omega) only[go_sem,↓reduceIte,m1,m2,h1,h2,h3,h4];exact Ax1.sub (show Sub H _ from(by repeat (first | exact Sub.refl _ | assumption | refine Sub.up ?_ (by assumption) _))) (Ax1.refl ⟨by simp,rfl⟩)
    ·simp(disch:=omega) only[go_sem,↓reduceIte,m1,m2,h1,h2,h3];exact Ax1.sub (show Sub H _ from(by repeat (first | exact Sub.refl _ | assumption | refine Sub.up ?_ (by assumption) _))) (Ax1.refl ⟨by simp,rfl⟩)
   ·simp(disch:=omega) only[go_sem,↓reduceIte,m1,m2,h1,h2];exact Ax1.sub (show Sub H _ from(by repeat (first | exact Sub.refl _ | assumption | refine Sub.up ?_ (by assumption) _))) (Ax1.refl ⟨by simp,rfl⟩)
  ·simp(disch:=omega) only[go_sem,↓reduceIte,m1,m2,h1];exact Ax1.sub (show Sub H _ from(by repeat (first | exact Sub.refl _ | assumption | refine Sub.up ?_ (by assumption) _))) (Ax1.refl ⟨by simp,rfl⟩)
theorem Dd (G:Nat->DVal) (H:Aa) (x y:Ex) (hx:Jm x<=1099511627776):Ar Tryz.prog G 66 [.agg (dEx x), .agg (dEx y)] H (Cq (.bool (Bb x y)) H):=Bd3 G x hx y H
theorem Tc (G:Nat->DVal) (H:Aa) (l m:List Ch) (hl:Hx l<=1099511627776):Ar Tryz.prog G 106 [dCl l,dCl m] H (Cq (.bool (Dy l m)) H):=
 Zo G H l m hl fun e he=>Bd3 G e (by
  obtain⟨a,ha,he⟩:=List.mem_flatMap.1 he;have:=Nj he;have:=Iw ha;rw[Rc] at*
  omega)
end Go.Dl
