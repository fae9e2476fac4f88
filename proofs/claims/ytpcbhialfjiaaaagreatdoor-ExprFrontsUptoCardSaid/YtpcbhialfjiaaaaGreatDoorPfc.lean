/- The data level and the contracts of the functions that are reached (part 3). -/
import Derived.Test.YtpcbhialfjiaaaaGreatDoorProg
import Derived.KernelRfl
import Derived.Lib.ItoaMem
import Derived.Lib.ConvBytes
import Derived.Lib.LaidTab
import Derived.Lib.ItoaLen
import Derived.Lib.ParseIntBTie
import Derived.Lib.IndexMore
import Derived.Lib.IndexAny
import Derived.Lib.TrimByte
import Derived.Lib.Strings
import Derived.Lib.Repeat
import Derived.Lib.CountLaws
import Derived.Lib.ParseIntB
import Derived.Test.YtpcbhialfjiaaaaGreatDoorPfb
set_option linter.unusedSimpArgs false
set_option linter.unusedVariables false
set_option linter.unusedSectionVars false
-- THE DATA LEVEL, PART Z: an operation hangs on its operands alone.
namespace Go.Dl
open Go
section
variable {P:Program} {G:Nat->DVal}
theorem Ss {dst:Option Nat} {K:DK} {Q:DExit->DS->Prop} {s:DS} (op:Op) (he:Mw op=true) (h:dop P G dst K Q s op):
  ∃d,Bb dst d K s/\ ∀Q' K' s',(∀x∈op.operands,dev G s'.env x=dev G s.env x)->Ba7 G s s' op->Bb dst d K' s'->dop P G dst K' Q' s' op:=by
 have lift: ∀ {F:DK->DS->Prop},EVF dst F->F K s->(∀K' s',(∀x∈op.operands,dev G s'.env x=dev G s.env x)-> ∀Q',F K' s'->dop P G dst K' Q' s' op)->
   ∃d,Bb dst d K s/\ ∀Q' K' s',(∀x∈op.operands,dev G s'.env x=dev G s.env x)->Ba7 G s s' op->Bb dst d K' s'->dop P G dst K' Q' s' op:=by
  intro F hF hf hT;obtain⟨d,h1,h2⟩:=hF K s hf;exact⟨d,h1,fun Q' K' s' ha _ h'=>hT K' s' ha Q' (h2 K' s' h')⟩
 cases op<;>simp only[Mw] at he<;>try (cases he;done)
 case move x=>exact lift (Gd _ _) h fun K' s' ha Q' h'=>by simp only[dop];rw[ha x (by simp [Op.operands])];exact h'
 case assign x=>exact lift (Gd _ _) h fun K' s' ha Q' h'=>by simp only[dop];rw[ha x (by simp [Op.operands])];exact h'
 case pick c a b=>exact lift (Cw6 _ _ _ _) h fun K' s' ha Q' h'=>by simp only[dop];rw[ha c (by simp [Op.operands]),ha a (by simp [Op.operands]),ha b (by simp [Op.operands])];exact h'
 case build t ps=>
  exact lift (Ck3 _ _ _ _ _ _) h fun K' s' ha Q' h'=>by
   simp only[dop];rw[Ot (env:=s.env) (fun x hx=>ha x (by simpa [Op.operands] using hx))];exact h'
 case load t a=>
  obtain⟨d,h1,h2⟩:=Cw7 _ _ _ _ K s h;exact⟨d,h1,fun Q' K' s' ha hk h'=>by simp only[dop];rw[ha a (by simp [Op.operands])];exact h2 K' s' (hk a rfl).ptr h'⟩
 case nilCheck x=>exact lift (Ba4 _ _) h fun K' s' ha Q' h'=>by simp only[dop];rw[ha x (by simp [Op.operands])];exact h'
 case binOp op t x y _=>
  have hn:Fy y=false:=by simpa using he
  simp only[dop,hn,Mr] at h;exact lift (Ck6 _ _ _ _ _ _ _) h fun K' s' ha Q' h'=>by simp only[dop,hn,Mr];rw[ha x (by simp [Op.operands]),ha y (by simp [Op.operands])];exact h'
 case unOp op t x=>exact lift (Dn2 _ _ _) h fun K' s' ha Q' h'=>by simp only[dop];rw[ha x (by simp [Op.operands])];exact h'
 case convert a t x=>
  obtain⟨d,h1,h2⟩:=Cl1 _ _ _ _ _ K s h;exact⟨d,h1,fun Q' K' s' ha hk h'=>by simp only[dop];rw[ha x (by simp [Op.operands])];exact h2 K' s' (hk x rfl) h'⟩
 case makeInterface t x=>exact lift (At1 _ _ _ _) h fun K' s' ha Q' h'=>by simp only[dop];rw[ha x (by simp [Op.operands])];exact h'
 case makeFunc fn fs cs=>
  exact lift (Gd _ _) h fun K' s' ha Q' h'=>by
   simp only[dop];rw[Lu (env:=s.env) (xs:=fs.toList) (fun x hx=>ha x (by simp at hx;simp [Op.operands,hx])),Lu (env:=s.env) (xs:=cs.toList) (fun x hx=>ha x (by simp at hx;simp [Op.operands,hx]))];exact h'
 case slice t x lo hi mx=>
  obtain⟨d,h1,h2⟩:=Ck7 _ _ _ _ _ _ _ K s h;exact⟨d,h1,fun Q' K' s' ha hk h'=>by
   simp only[dop];rw[ha x (by simp [Op.operands]),Ou (x:=lo) (env:=s.env) (fun y hy=>ha y (by simp at hy;simp [Op.operands,hy])),Ou (x:=hi) (env:=s.env) (fun y hy=>ha y (by simp at hy;simp [Op.operands,hy])),Ou (x:=mx) (env:=s.env) (fun y hy=>ha y (by simp at hy;simp [Op.operands,hy]))];exact h2 K' s' (hk x rfl).ptr h'⟩
 case fieldAddr t x f=>exact lift (At2 _ _ _ _ _) h fun K' s' ha Q' h'=>by simp only[dop];rw[ha x (by simp [Op.operands])];exact h'
 case field t x f=>exact lift (Ck8 _ _ _ _ _) h fun K' s' ha Q' h'=>by simp only[dop];rw[ha x (by simp [Op.operands])];exact h'
 case indexAddr t x i=>exact lift (At3 _ _ _ _ _) h fun K' s' ha Q' h'=>by simp only[dop];rw[ha x (by simp [Op.operands]),ha i (by simp [Op.operands])];exact h'
 case index t x i=>exact lift (Ck9 _ _ _ _ _) h fun K' s' ha Q' h'=>by simp only[dop];rw[ha x (by simp [Op.operands]),ha i (by simp [Op.operands])];exact h'
 case typeAssert x t u ok=>exact lift (Ak7 _ _ _ _ _ _) h fun K' s' ha Q' h'=>by simp only[dop];rw[ha x (by simp [Op.operands])];exact h'
 case extract x i=>exact lift (Bn0 _ _ _) h fun K' s' ha Q' h'=>by simp only[dop];rw[ha x (by simp [Op.operands])];exact h'
 case call c=>
  have hargs: ∀s':DS,(∀x∈(Op.call c).operands,dev G s'.env x=dev G s.env x)->Eo G s'.env c.args.toList=Eo G s.env c.args.toList:=by
   intro s' ha;exact Lu fun x hx=>ha x (by simp at hx;simp [Op.operands,Call.operands,hx])
  simp only[dop] at h⊢
  cases hc:c.callee with
  | value f=>rw[hc] at he;cases he
  | invoke r m=>rw[hc] at he;cases he
  | builtin b=>
   rw[hc] at h he;simp only[Oj] at h⊢
   cases b<;>simp only at he<;>try (cases he;done)
   case len=>
    cases hx:Eo G s.env c.args.toList with
    | nil=>rw[hx] at h;exact h.elim
    | cons x xs=>
     cases xs with
     | cons y ys=>rw[hx] at h;exact h.elim
     | nil=>
      rw[hx] at h;obtain⟨d,h1,h2⟩:=Cl0 P x dst c.argTypes.toList K s h;exact⟨d,h1,fun Q' K' s' ha _ h'=>by rw[hargs s' ha,hx];exact h2 K' s' h'⟩
   case min=>
    obtain⟨d,h1,h2⟩:=Ig dst (Rj false (Eo G s.env c.args.toList)) K s h;exact⟨d,h1,fun Q' K' s' ha _ h'=>by rw[hargs s' ha];exact h2 K' s' h'⟩
   case max=>
    obtain⟨d,h1,h2⟩:=Ig dst (Rj true (Eo G s.env c.args.toList)) K s h;exact⟨d,h1,fun Q' K' s' ha _ h'=>by rw[hargs s' ha];exact h2 K' s' h'⟩
theorem Cc4 {dst:Option Nat} {K K':DK} {Q Q':DExit->DS->Prop} {s s':DS} (op:Op) (ha: ∀x∈op.operands,dev G s'.env x=dev G s.env x) (hh:s'.heap=s.heap)
  (hK: ∀d h,K ⟨Ev s.env dst d,h⟩->K' ⟨Ev s'.env dst d,h⟩) (hQ: ∀v h,Q (.panic v) ⟨s.env,h⟩->Q' (.panic v) ⟨s'.env,h⟩)
  (h:dop P G dst K Q s op):dop P G dst K' Q' s' op:=by
 by_cases he:Mw op=true
 ·obtain⟨d,h1,h2⟩:=Ss op he h;refine h2 Q' K' s' ha (fun a _=>by rw[hh];exact Fz) ?_;show K' ⟨Ev s'.env dst d,s'.heap⟩;rw[hh];exact hK _ _ h1
 ·have newP: ∀ {cs e},Am0 cs e dst K s->Am0 cs e dst K' s':=fun hn r hr=>by
   rw[hh] at hr⊢;exact hK _ _ (hn r hr)
  have newS: ∀ {cs e sz l c},Zy cs e sz l c dst K s->Zy cs e sz l c dst K' s':=fun hn r hr=>by
   rw[hh] at hr⊢;exact hK _ _ (hn r hr)
  have panic: ∀ {x},Sl Q s x->Sl Q' s' x:=by
   intro x hx;unfold Sl at hx⊢
   split at hx<;>try exact hx.elim
   have:=hQ _ _ hx;rw[<-hh] at this;exact this
  cases op<;>(try exact(he rfl).elim)<;>(try exact h.elim)
  case binOp op t x y t'=>
   have hn:Fy y=true:=by
    simp only[Mw] at he;cases hy:Fy y with
    | true=>rfl
    | false=>rw[hy] at he;exact absurd rfl he
   simp only[dop] at h⊢
   rw[ha x (by simp [Op.operands]),ha y (by simp [Op.operands])];rw[hn] at h⊢
   generalize dev G s.env x=dx at h⊢
   generalize dev G s.env y=dy at h⊢
   have put: ∀d,Bb dst d K s->Bb dst d K' s':=fun d h=>by unfold Bb at*;rw[hh];exact hK _ _ h
   have rest:Kp P t (Fe x || Fe y) op dst dx dy K s->Kp P t (Fe x || Fe y) op dst dx dy K' s':=fun h=>by
    obtain⟨d,h1,h2⟩:=Ck6 _ _ _ _ _ _ _ K s h;exact h2 K' s' (put d h1)
   cases dx<;>first | exact rest h | skip
   simp only[Xp] at h⊢
   refine⟨h.1,fun b hb=> ?_⟩;obtain⟨d,h1,h2⟩:=Bm8 _ _ _ K s (h.2 b hb);exact h2 K' s' (put d h1)
  case range t x=>
   simp only[dop] at h⊢
   rw[ha x (by simp [Op.operands])];generalize P.underlying t=u at h⊢
   generalize dev G s.env x=dx at h⊢
   unfold Aq6 at h⊢
   split at h<;>try exact h.elim
   exact fun r hr=>by rw[hh] at hr⊢;exact hK _ _ (h r hr)
  case next x b=>
   simp only[dop] at h⊢
   rw[ha x (by simp [Op.operands])];generalize dev G s.env x=dx at h⊢
   unfold Bt0 at h⊢
   split at h<;>try exact h.elim
   rw[hh];unfold Bi6 at h⊢
   split at h<;>try exact h.elim
   refine⟨fun hp=>by rw[hh];exact hK _ _ (h.1 hp),fun hp=> ?_⟩;have:=h.2 hp;unfold Bb at*;rw[hh];exact hK _ _ this
  case makeMap t r=>
   simp only[dop] at h⊢
   rw[Ou (x:=r) (env:=s.env) (fun y hy=>ha y (by simp at hy;simp [Op.operands,hy]))];generalize P.underlying t=u at h⊢
   generalize Kq G s.env r=v at h⊢
   unfold Qh at h⊢
   split at h<;>try exact h.elim
   all_goals exact fun r hr=>by rw[hh] at hr⊢;exact hK _ _ (h r hr)
  case lookup t x k ok=>
   simp only[dop] at h⊢
   rw[ha x (by simp [Op.operands]),ha k (by simp [Op.operands])];generalize P.underlying t=u at h⊢
   generalize dev G s.env x=dx at h⊢
   generalize dev G s.env k=dk at h⊢
   have put: ∀d,Bb dst d K s->Bb dst d K' s':=fun d h=>by unfold Bb at*;rw[hh];exact hK _ _ h
   have hF: ∀es z r,Ab0 es ok dst z r K s->Ab0 es ok dst z r K' s':=fun es z r h=>by
    unfold Ab0 at h⊢
    split at h<;>try exact h.elim
    ·obtain⟨p,h1,h2⟩:=h;exact⟨p,h1,put _ h2⟩
    ·exact put _ h
   unfold Zj at h⊢
   split at h<;>try exact h.elim
   ·refine⟨h.1,?_⟩;have h2:=h.2;rw[hh];generalize s.heap _=ob at h2⊢
    unfold Bi9 at h2⊢
    split at h2<;>try exact h2.elim
    exact hF _ _ _ h2
   ·exact⟨h.1,hF _ _ _ h.2⟩
  case mapUpdate t m k x=>
   simp only[dop] at h⊢
   rw[ha m (by simp [Op.operands]),ha k (by simp [Op.operands]),ha x (by simp [Op.operands])];generalize P.underlying t=u at h⊢
   generalize dev G s.env m=dm at h⊢
   generalize dev G s.env k=dk at h⊢
   generalize dev G s.env x=dx at h⊢
   unfold Ri at h⊢
   split at h<;>try exact h.elim
   obtain⟨h1,h2,h3⟩:=h;refine⟨h1,h2,?_⟩;rw[hh];generalize s.heap _=ob at h3⊢
   unfold Aa9 at h3⊢
   split at h3<;>try exact h3.elim
   refine⟨h3.1,?_⟩;have h4:=h3.2;unfold Tu at h4⊢
   split at h4<;>try exact h4.elim
   subst h1;rw[hh];exact hK Dc _ h4
  case insert t m k x=>
   simp only[dop] at h⊢
   rw[ha m (by simp [Op.operands]),ha k (by simp [Op.operands]),ha x (by simp [Op.operands])];generalize P.underlying t=u at h⊢
   generalize dev G s.env m=dm at h⊢
   generalize dev G s.env k=dk at h⊢
   generalize dev G s.env x=dx at h⊢
   unfold Ri at h⊢
   split at h<;>try exact h.elim
   obtain⟨h1,h2,h3⟩:=h;refine⟨h1,h2,?_⟩;rw[hh];generalize s.heap _=ob at h3⊢
   unfold Aa9 at h3⊢
   split at h3<;>try exact h3.elim
   refine⟨h3.1,?_⟩;have h4:=h3.2;unfold Tu at h4⊢
   split at h4<;>try exact h4.elim
   subst h1;rw[hh];exact hK Dc _ h4
  case alloc e=>
   simp only[dop] at h⊢
   generalize Bj P e=z at h⊢
   cases z with
   | none=>exact h.elim
   | some z=>exact newP h
  case box e x=>simp only[dop] at h⊢;rw[ha x (by simp [Op.operands])];exact newP h
  case buildSlice t n ps=>
   simp only[dop] at h⊢
   rw[Ot (env:=s.env) (fun x hx=>ha x (by simpa [Op.operands] using hx))];generalize Hw G s.env ps.toList=qs at h⊢
   generalize P.underlying t=u at h⊢
   unfold Mo at h⊢
   split at h<;>try exact h.elim
   show Tm _ _ _ _ _ _ _ _;generalize Bj P _=z at h⊢
   cases z with
   | none=>exact h.elim
   | some z=>
    obtain⟨h1,h2,h3⟩:=h;refine⟨h1,h2,?_⟩;generalize Pt _ _ _=f at h3⊢
    cases f with
    | none=>exact h3.elim
    | some f=>exact newS h3
  case store t a x=>
   simp only[dop] at h⊢
   obtain⟨h1,h2⟩:=h;refine⟨h1,?_⟩;rw[ha a (by simp [Op.operands]),ha x (by simp [Op.operands])];generalize dev G s.env a=va at h2⊢
   generalize dev G s.env x=vx at h2⊢
   unfold Aq4 at h2⊢
   split at h2<;>try exact h2.elim
   rename_i hx0 hx1 hx2 hx3
   rw[hh];generalize s.heap _=ob at h2⊢
   unfold Bs2 at h2⊢
   split at h2<;>try exact h2.elim
   obtain⟨g1,g2,g3,g4⟩:=h2;refine⟨g1,g2,g3,?_⟩;rw[hh];exact hK Dc _ g4
  case makeSlice t l c=>
   simp only[dop] at h⊢
   rw[ha l (by simp [Op.operands]),ha c (by simp [Op.operands])];generalize dev G s.env l=vl at h⊢
   generalize dev G s.env c=vc at h⊢
   generalize P.underlying t=u at h⊢
   unfold Oh at h⊢
   split at h<;>try exact h.elim
   show Xq _ _ _ _ _ _ _ _ _;generalize Bj P _=z at h⊢
   cases z with
   | none=>exact h.elim
   | some z=>
    obtain⟨h1,h2,h3,h4,h5,h6,h7⟩:=h;exact⟨h1,h2,h3,h4,h5,h6,newS h7⟩
  case panic x=>simp only[dop] at h⊢;rw[ha x (by simp [Op.operands])];exact panic h
  case call c=>
   have hargs:Eo G s'.env c.args.toList=Eo G s.env c.args.toList:=
    Lu fun x hx=>ha x (by simp at hx;simp [Op.operands,Call.operands,hx])
   simp only[dop] at h⊢
   cases hc:c.callee with
   | invoke r m=>rw[hc] at h;exact h.elim
   | value f=>
    rw[hc] at h;simp only[Oj] at h⊢
    rw[hargs,ha f (by simp [Op.operands,Call.operands,hc])];generalize dev G s.env f=vf at h⊢
    unfold Ab3 at h⊢
    split at h<;>try exact h.elim
    all_goals
     rw[hh];refine h.mono ?_;intro e H' hr;cases e with
     | ret v=>exact hK _ _ hr
     | panic v=>exact hQ _ _ hr
   | builtin b=>
    rw[hc] at h;simp only[Oj] at h⊢
    rw[hargs];generalize Eo G s.env c.args.toList=vs at h⊢
    cases b<;>(try (cases vs<;>exact h.elim))<;>(try (exfalso;refine he ?_;simp [Mw,hc];done))
    case cap=>
     cases vs with
     | nil=>exact h.elim
     | cons x vs=> ?_
     cases vs with
     | cons z vs=>exact h.elim
     | nil=> ?_
     simp only[Ic] at h⊢
     generalize c.argTypes.toList=ts at h⊢
     unfold Ch6 at h⊢
     split at h<;>try exact h.elim
     show Ch5 _ _ _ _ _;generalize P.underlying _=u at h⊢
     unfold Ch5 at h⊢
     split at h<;>try exact h.elim
     ·show K' ⟨_,s'.heap⟩;rw[hh];exact hK _ _ h
     ·intro c hc;show K' ⟨_,s'.heap⟩;rw[hh];exact hK _ _ (h c hc)
     ·intro c hc hc';show K' ⟨_,s'.heap⟩;rw[hh];exact hK _ _ (h c hc hc')
    case clear=>
     cases vs with
     | nil=>exact h.elim
     | cons x vs=> ?_
     cases vs with
     | cons z vs=>exact h.elim
     | nil=> ?_
     simp only[Ic] at h⊢
     generalize c.argTypes.toList=ts at h⊢
     unfold Ax6 at h⊢
     split at h<;>try exact h.elim
     show Aa6 _ _ _ _ _ _;generalize P.underlying _=u at h⊢
     unfold Aa6 at h⊢
     split at h<;>try exact h.elim
     generalize Bj _ _=zo at h⊢
     unfold Aq8 at h⊢
     split at h<;>try exact h.elim
     ·show K' ⟨_,s'.heap⟩;rw[hh];exact hK _ _ h
     ·refine⟨h.1,h.2.1,?_⟩;have h2:=h.2.2;rw[hh];generalize s.heap _=ob at h2⊢
      unfold Bt2 at h2⊢
      split at h2<;>try exact h2.elim
      refine⟨h2.1,h2.2.1,h2.2.2.1,?_⟩;rw[hh];exact hK _ _ h2.2.2.2
    case delete=>
     cases vs with
     | nil=>exact h.elim
     | cons x vs=> ?_
     cases vs with
     | nil=>exact h.elim
     | cons y vs=> ?_
     cases vs with
     | cons z vs=>exact h.elim
     | nil=> ?_
     simp only[Ic] at h⊢
     generalize c.argTypes.toList=ts at h⊢
     unfold Am3 at h⊢
     split at h<;>try exact h.elim
     show Tv _ _ _ _ _ _ _;generalize P.underlying _=u at h⊢
     unfold Tv at h⊢
     split at h<;>try exact h.elim
     refine⟨h.1,?_⟩;have h2:=h.2;rw[hh];generalize s.heap _=ob at h2⊢
     unfold Ab2 at h2⊢
     split at h2<;>try exact h2.elim
     unfold Ab1 at h2⊢
     split at h2<;>try exact h2.elim
     rw[hh];exact hK _ _ h2
    case append=>
     cases vs with
     | nil=>exact h.elim
     | cons x vs=> ?_
     cases vs with
     | nil=>exact h.elim
     | cons y vs=> ?_
     cases vs with
     | cons z vs=>exact h.elim
     | nil=> ?_
     simp only[Ic] at h⊢
     generalize c.argTypes.toList=ts at h⊢
     unfold Vw at h⊢
     split at h<;>try exact h.elim
     show Tt _ _ _ _ _ _ _ _ _;generalize Jl _=it at h⊢
     cases it with
     | true=>
      simp only[Tt] at h⊢
      generalize P.underlying _=u at h⊢
      unfold Ts at h⊢
      split at h<;>try exact h.elim
      generalize Bj _ _=zo at h⊢
      unfold Aa5 at h⊢
      split at h<;>try exact h.elim
      refine⟨h.1,h.2.1,fun hn=> ?_,fun hn=>⟨(h.2.2.2 hn).1,(h.2.2.2 hn).2.1,(h.2.2.2 hn).2.2.1,newS (h.2.2.2 hn).2.2.2⟩⟩;have:=h.2.2.1 hn;show K' ⟨_,s'.heap⟩;rw[hh];exact hK _ _ this
     | false=> ?_
     simp only[Tt] at h⊢
     generalize Vv _=u' at h⊢
     generalize P.underlying _=u at h⊢
     unfold Zi at h⊢
     split at h<;>try exact h.elim
     obtain⟨g1,g2,g3,g4,g5,g6⟩:=h;refine⟨g1,g2,g3,g4,g5,?_⟩;rw[hh];generalize Qg _ _ _=sc at g6⊢
     unfold Ax5 at g6⊢
     split at g6<;>try exact g6.elim
     obtain⟨k1,k2,k3⟩:=g6;refine⟨k1,k2,?_⟩;unfold Jk at k3⊢
     split at k3<;>try exact k3.elim
     ·refine⟨fun hn=> ?_,fun hn=>⟨(k3.2 hn).1,newS (k3.2 hn).2⟩⟩;have:=k3.1 hn;show K' ⟨_,s'.heap⟩;rw[hh];exact hK _ _ this
     ·refine⟨k3.1,?_⟩;have k4:=k3.2;rw[hh];generalize s.heap _=ob at k4⊢
      unfold Lq at k4⊢
      split at k4<;>try exact k4.elim
      obtain⟨m1,m2,m3⟩:=k4;refine⟨m1,fun hl=>⟨(m2 hl).1,?_⟩,fun hl=>⟨(m3 hl).1,(m3 hl).2.1,fun r' pre hr hp=> ?_⟩⟩
      ·rw[hh];exact hK _ _ (m2 hl).2
      ·rw[hh] at hr⊢;exact hK _ _ ((m3 hl).2.2 r' pre hr hp)
    case panic=>
     cases vs with
     | nil=>exact h.elim
     | cons x xs=>cases xs with
      | nil=>exact panic h
      | cons y ys=>exact h.elim
end
end Go.Dl

-- THE DATA LEVEL, PART 1: plans of regions whose order is drawn.
namespace Go.Dl
open Go
inductive Plan where
 | done
 | take (i:Nat) (p:Plan)
 | go (i:Nat) (ls:List Nat) (p:Plan)
 | alt (p q:Plan)
 deriving Inhabited
def Es:List Oper->Nat->Option Oper
 | [],_=>none
 | o::_,0=>some o
 | _::r,n+1=>Es r n
def Ue (P:Program) (G:Nat->DVal) (K:DK) (Q:DExit->DS->Prop) (dst:Option Nat) (op:Op) (s:DS):Bool->DVal->Prop
 | true, .bool true=>dop P G dst K Q s op
 | true, .bool false=>Bb dst Dc K s
 | false, .bool true=>Bb dst Dc K s
 | false, .bool false=>dop P G dst K Q s op
 | true, .tuple []=>Bb dst Dc K s
 | false, .tuple []=>Bb dst Dc K s
 | _,_=>False
def Uf (P:Program) (G:Nat->DVal) (K:DK) (Q:DExit->DS->Prop) (dst:Option Nat) (op:Op) (s:DS) (b:Bool):Option Nat->Prop
 | some g=>Ue P G K Q dst op s b (s.env g)
 | none=>False
def Dh8 (P:Program) (G:Nat->DVal) (all:List Oper) (K:DK) (Q:DExit->DS->Prop) (s:DS) (dst:Option Nat) (op:Op):Option (Nat×Bool)->Prop
 | none=>dop P G dst K Q s op
 | some (j,b)=>Uf P G K Q dst op s b (Mq all j)
def dAt (P:Program) (G:Nat->DVal) (all:List Oper) (K:DK) (Q:DExit->DS->Prop) (s:DS):Option Oper->Prop
 | some o=>Dh8 P G all K Q s o.dst o.op o.guard
 | none=>False
def Cl2 (G:Nat->DVal) (s:DS) (H':Ac):Option Operand->Prop
 | some a=>Hy s.heap H' (dev G s.env a)
 | none=>True
def Ug:Option Oper->Option Operand
 | some o=>At4 o.op
 | none=>none
def Cl3 (G:Nat->DVal) (all:List Oper) (s:DS) (H':Ac):List Nat->Prop
 | []=>True
 | l::ls=>Cl2 G s H' (Ug (Es all l))/\Cl3 G all s H' ls
def Cl4 (G:Nat->DVal) (all:List Oper) (ls:List Nat) (s:DS) (K:DK):DK:=fun s'=>Cl3 G all s s'.heap ls/\K s'
def Kt (P:Program) (G:Nat->DVal) (all:List Oper) (Q:DExit->DS->Prop):Plan->DS->Prop
 | .done,s=>Q .normal s
 | .take i p,s=>dAt P G all (Kt P G all Q p) Q s (Es all i)
 | .go i ls p,s=>dAt P G all (Cl4 G all ls s (Kt P G all Q p)) Q s (Es all i)
 | .alt p q,s=>Kt P G all Q p s/\Kt P G all Q q s
def QP (Q:DExit->DS->Prop):DExit->DS->Prop
 | .panic v,s=> ∀env,Q (.panic v) ⟨env,s.heap⟩
 | .normal,s=>Q .normal s
 | _,_=>False
def Ml (all:List Oper) (k j:Nat):Bool:=
 match Es all k with
 | some o=>o.after.any fun e=>Region.binds .any e&&e.on==j
 | none=>false
def Ad0 (all:List Oper) (j k:Nat):Bool:=
 match Es all j,Es all k with
 | some x,some y=>x.apart all.toArray y
 | _,_=>true
def Bn1 (all:List Oper) (i:Nat):Bool:=
 match Es all i with
 | some o=>Mw o.op
 | none=>false
def Wg (all:List Oper) (k:Nat) (T:List Nat):Bool:=
 match Es all k with
 | some o=>o.after.all fun e=>!Region.binds .any e || T.contains e.on
 | none=>false
def Is (all:List Oper) (j:Nat):Option Nat:=(Es all j).bind (·.dst)
def Lv:Plan->List Nat
 | .go i _ _=> [i]
 | .alt p q=>Lv p++Lv q
 | _=> []
def Am9 (all:List Oper) (T:List Nat):Plan->Bool
 | .done=>true
 | .take _ _=>true
 | p=>(List.range all.length).all fun k=>T.contains k || (Lv p).contains k || !Wg all k T
def Ba9 (all:List Oper) (T:List Nat) (l:Nat):Operand->Bool
 | .tmp t=>T.all fun m=>Is all m !=some t || Ml all l m
 | _=>true
def Cl5 (all:List Oper) (k:Nat):List Nat:=
 match Es all k with
 | some o=>(o.after.toList.filter fun e=>Region.binds .any e).map (·.on)
 | none=> []
def Zl (all:List Oper):Nat->List Nat->List Nat
 | 0,S=>S
 | k+1,S=>Zl all k (if S.contains k then Cl5 all k++S else S)
def Dr2 (all:List Oper) (i:Nat):List Nat:=Zl all (i+1) [i]
def Bu1 (all:List Oper) (T:List Nat) (i:Nat) (ls:List Nat):Bool:=
 T.all fun l=>match Ug (Es all l) with
  | none=>true
  | some a=>Ml all i l || (l !=i&&(Dr2 all i).contains l) || (ls.contains l&&Ba9 all T l a)
def Ge (all:List Oper):Plan->List Nat->Bool
 | .done,T=>(List.range all.length).all fun k=>T.contains k
 | .take i p,T=>decide (i<all.length)&&!T.contains i&&Bn1 all i&&Wg all i T&&
   ((List.range all.length).all fun k=>T.contains k || k==i || Ml all k i || Ad0 all i k)&&Am9 all (i::T) p&&Ge all p (i::T)
 | .go i ls p,T=>decide (i<all.length)&&!T.contains i&&Wg all i T&&Bu1 all T i ls&&Am9 all (i::T) p&&Ge all p (i::T)
 | .alt p q,T=>Ge all p T&&Ge all q T
section
variable {P:Program} {G:Nat->DVal} {N:Nat} {all:List Oper} {Q:DExit->DS->Prop} {s0:DS} {w0:World}
theorem Lj: ∀(all:List Oper) (j:Nat),Es all j=all[j]?
 | [],j=>by simp [Es]
 | o::r,0=>by simp [Es]
 | o::r,j+1=>by simp [Es,Lj r j]
theorem Ad1 {o:Oper} {K:DK} {s:DS}:dAt P G all K Q s (some o)↔
  (Mx all s.env o=some true/\dop P G o.dst K Q s o.op)\/(Mx all s.env o=some false/\Bb o.dst Dc K s):=by
 simp only[dAt];unfold Dh8 Mx;cases o.guard with
 | none=>simp
 | some jb=>
  obtain⟨j,b⟩:=jb;simp only;cases Mq all j with
  | none=>simp [Uf]
  | some g=>
   simp only[Uf];cases hv:s.env g<;>(try (cases b<;>simp [Ue];done))
   case bool v=>cases b<;>cases v<;>simp [Ue]
   case tuple vs=>cases vs<;>cases b<;>simp [Ue]
def Cw9 (P:Program) (G:Nat->DVal) (all:List Oper) (j:Nat) (s:DS) (d:DVal):Prop:=
 ∃o,Es all j=some o/\Mw o.op=true/\
  ((Mx all s.env o=some true/\ ∀K Q,Bb o.dst d K s->dop P G o.dst K Q s o.op)\/(Mx all s.env o=some false/\d=Dc))
def Seq (P:Program) (G:Nat->DVal) (all:List Oper):DS->List Nat->DS->Prop
 | s,[],s'=>s'=s
 | s,j::js,s'=> ∃d,Cw9 P G all j s d/\Seq P G all ⟨Ev s.env (Is all j) d,s.heap⟩ js s'
def looks (all:List Oper) (j:Nat):List Nat:=
 match Es all j with
 | some o=>o.looksAt all.toArray
 | none=> []
theorem An0 {o:Oper} {env env':Nat->DVal} (h: ∀t∈o.looksAt all.toArray,env' t=env t): ∀x∈o.op.operands,dev G env' x=dev G env x:=by
 intro x hx;cases x with
 | tmp t=>
  refine h t ?_;unfold Oper.looksAt;refine List.mem_append_left _ (List.mem_filterMap.2 ⟨.tmp t,by simpa using hx,rfl⟩)
 | _=>rfl
theorem Uh {o:Oper} {env env':Nat->DVal} (h: ∀t∈o.looksAt all.toArray,env' t=env t):Mx all env' o=Mx all env o:=by
 unfold Mx;cases hg:o.guard with
 | none=>rfl
 | some jb=>
  obtain⟨j,b⟩:=jb;simp only;cases hj:Mq all j with
  | none=>rfl
  | some g=>
   simp only;rw[h g];unfold Oper.looksAt;refine List.mem_append_right _ ?_;rw[hg];rw[Uc] at hj;simp [hj]
theorem Cw9.agree {j:Nat} {s s':DS} {d:DVal} (h:Cw9 P G all j s d) (ha: ∀t∈looks all j,s'.env t=s.env t)
  (hk: ∀o a,Es all j=some o->At4 o.op=some a->Hy s.heap s'.heap (dev G s.env a)):Cw9 P G all j s' d:=by
 obtain⟨o,ho,he,h⟩:=h;have ha': ∀t∈o.looksAt all.toArray,s'.env t=s.env t:=by
  intro t ht;exact ha t (by unfold looks;rw[ho];exact ht)
 refine⟨o,ho,he,?_⟩;rw[Uh ha'];rcases h with⟨hw,h⟩ | h
 ·refine .inl ⟨hw,fun K' Q' hp=> ?_⟩;have h1:=h (fun s1=>s1=⟨Ev s.env o.dst d,s.heap⟩) Q' rfl;obtain⟨d',hd',hall⟩:=Ss o.op he h1;refine hall Q' K' s' (An0 (all:=all) ha') ?_ ?_
  ·exact fun a hl=>hk o a ho hl
  ·unfold Bb at hd' hp⊢
   have he:Ev s.env o.dst d'=Ev s.env o.dst d:=congrArg DS.env hd';have:Ev s'.env o.dst d'=Ev s'.env o.dst d:=by
    cases hdst:o.dst with
    | none=>rfl
    | some t=>
     rw[hdst] at he;have h2:=congrFun he t;simp [Ev,upd] at h2;rw[h2]
   rw[this];exact hp
 ·exact .inr h
theorem Ui {env:Nat->DVal} {dst:Option Nat} {d:DVal} {t:Nat} (h:dst≠some t):Ev env dst d t=env t:=by
 cases dst with
 | none=>rfl
 | some k=>simp only[Ev,upd];rw[if_neg];intro e;exact h (by rw[e])
theorem An1 {env:Nat->DVal} {x y:Option Nat} {d e:DVal} (h: ∀t,x=some t->y≠some t):Ev (Ev env x d) y e=Ev (Ev env y e) x d:=by
 cases x with
 | none=>rfl
 | some i=>
  cases y with
  | none=>rfl
  | some k=>
   have hne:k≠i:=fun hh=>h i rfl (by rw[hh]);funext t;simp only[Ev,upd];by_cases h1:t=k
   ·subst h1;rw[if_pos rfl,if_neg hne,if_pos rfl]
   ·rw[if_neg h1];by_cases h2:t=i
    ·rw[if_pos h2,if_pos h2]
    ·rw[if_neg h2,if_neg h2,if_neg h1]
structure Apart (all:List Oper) (j k:Nat):Prop where
 a: ∀t,Is all j=some t->t∉looks all k
 b: ∀t,Is all j=some t->Is all k≠some t
 c: ∀t,Is all k=some t->t∉looks all j
theorem Xv {j k:Nat} {x y:Oper} (hx:Es all j=some x) (hy:Es all k=some y) (h:Ad0 all j k=true):Apart all j k:=by
 unfold Ad0 at h;rw[hx,hy] at h;obtain⟨h1,h2,h3⟩:=Oper.apart_spec h;refine⟨?_,?_,?_⟩<;>simp only[Is,looks,hx,hy,Option.bind_some]<;>assumption
theorem Seq.front: ∀ {A:List Nat} {k:Nat} {B:List Nat} {s s':DS},(∀j∈A,Apart all j k)->Seq P G all s (A++k::B) s'->Seq P G all s (k::(A++B)) s'
 | [],k,B,s,s',_,h=>h
 | j::A,k,B,s,s',hA,h=>by
  obtain⟨d,hd,h⟩:=h;obtain⟨dk,hk,h⟩:=Seq.front (fun i hi=>hA i (by simp [hi])) h;have ap:=hA j (by simp);refine⟨dk,hk.agree (fun t ht=>(Ui (fun e=>ap.a t e ht)).symm) (fun _ _ _ _=>Fz),d,hd.agree (fun t ht=>Ui (fun e=>ap.c t e ht)) (fun _ _ _ _=>Fz),?_⟩;show Seq P G all ⟨Ev (Ev s.env _ dk) _ d,s.heap⟩ (A++B) s';rw[An1 (fun t h1 h2=>ap.b t h2 h1)];exact h
theorem Seq.heap: ∀ {js:List Nat} {s s':DS},Seq P G all s js s'->s'.heap=s.heap
 | [],s,s',h=>by cases h;rfl
 | j::js,s,s',⟨d,_,h⟩=>by have:=Seq.heap h;exact this
theorem Seq.env: ∀ {js:List Nat} {s s':DS},Seq P G all s js s'-> ∀t,(∀j∈js,Is all j≠some t)->s'.env t=s.env t
 | [],s,s',h,t,_=>by cases h;rfl
 | j::js,s,s',⟨d,_,h⟩,t,ht=>by
  rw[Seq.env h t fun i hi=>ht i (by simp [hi])];exact Ui (ht j (by simp))
theorem Seq.shift {k:Option Nat} {v:DVal} {h:Ac}: ∀ {js:List Nat} {s s':DS},Seq P G all s js s'->
  (∀j∈js,∀t,k=some t->t∉looks all j)->(∀j∈js,∀t,Is all j=some t->k≠some t)->
  (∀A j B,js=A++j::B-> ∀o a,Es all j=some o->At4 o.op=some a->(∀t,a= .tmp t-> ∀m∈j::B,Is all m≠some t)/\Hy s.heap h (dev G s'.env a))->
  Seq P G all ⟨Ev s.env k v,h⟩ js ⟨Ev s'.env k v,h⟩
 | [],s,s',hs,_,_,_=>by cases hs;rfl
 | j::js,s,s',⟨d,hd,hs⟩,h1,h2,h3=>by
  refine⟨d,hd.agree (fun t ht=>Ui fun e=>h1 j (by simp) t e ht) (fun o a ho ha=> ?_),?_⟩
  ·obtain⟨g1,g2⟩:=h3 [] j js rfl o a ho ha;have:dev G s'.env a=dev G s.env a:=by
    cases a with
    | tmp t=>
     have:=Seq.env hs t fun i hi=>g1 t rfl i (by simp [hi]);simp only[dev];rw[this];exact Ui (g1 t rfl j (by simp))
    | _=>rfl
   rw[<-this];exact g2
  ·have hs':=Seq.shift (k:=k) (v:=v) (h:=h) hs (fun i hi=>h1 i (by simp [hi])) (fun i hi=>h2 i (by simp [hi])) (fun A i B e=>h3 (j::A) i B (by rw[e];rfl));show Seq P G all ⟨Ev (Ev s.env k v) (Is all j) d,h⟩ js _;rw[An1 fun t e1 e2=>h2 j (by simp) t e2 e1];exact hs'
end
end Go.Dl

-- THE DATA LEVEL, PART 2: what a plan ends with, every order that is drawn ends with.
namespace Go.Dl
open Go
section
variable {P:Program} {G:Nat->DVal} {N:Fr} {all:List Oper} {Q:DExit->DS->Prop} {s0:DS} {w0:World}
theorem Ad2 {F:Fence} {n:Nat} (hF:FOk F) {k:Nat} {o:Oper} {c:DS} {a:Act} {w:World} {K:DK} (hall:all.all (Gt N)=true) (hk:Es all k=some o) (hS:Sim G N c a w) (hE:Ext s0.heap w0 c.heap w)
  (h:dAt P G all K Q c (some o)):wpOpIn F n P all.toArray (Ks G N Q s0 w0) k (Fg G N K c w) a w:=by
 have hko:all.toArray[k]? =some o:=by rw[Lj] at hk;simpa using hk
 have hok:Gt N o=true:=by
  rw[Lj] at hk;exact List.all_eq_true.1 hall o (List.mem_of_getElem? hk)
 unfold wpOpIn;simp only[hko];have skip:Bb o.dst Dc K c->Fg G N K c w (a.put o.dst undef) w:=fun hp=>
  ⟨⟨Ev c.env o.dst Dc,c.heap⟩,hp,hS.put (Jm hok) (Ok w c.heap),Ext.refl _ _⟩
 simp only[dAt] at h;unfold Dh8 at h;cases hg:o.guard with
 | none=>
  rw[hg] at h;rw[if_pos (by simp [Region.wanted,hg])];exact Mv hF hok hS hE h
 | some jb=>
  obtain⟨j,b⟩:=jb;rw[hg] at h;simp only at h;cases hj:Mq all j with
  | none=>rw[hj] at h;exact h.elim
  | some g=>
   rw[hj] at h;simp only[Uf] at h;have hjo:(all[j]?).bind (·.dst)=some g:=by rw[<-Uc];exact hj
   obtain⟨oj,hoj,hdj⟩:=Option.bind_eq_some_iff.1 hjo;have hmem:oj∈all:=List.mem_of_getElem? hoj;have hgN:g<N:=by
    have:=List.all_eq_true.1 hall oj hmem;have:=Jm this;rw[hdj] at this;simpa [By] using this
   have hrel:=hS.tmps g hgN;have hy: ∀v,c.env g= .bool v->yielded all.toArray a.tmps j=some v:=by
    intro v hv;rw[hv] at hrel;simp only[Rel] at hrel;have h1:a.tmps[g]? =some (.bool v):=by
     rw[Array.getD_eq_getD_getElem?] at hrel;cases hq:a.tmps[g]? with
     | none=>
      have:=hS.size;rw[Array.getElem?_eq_none_iff] at hq;omega
     | some z=>rw[hq] at hrel;simpa using hrel
    simp [yielded,hoj,hdj,h1]
   by_cases hun:c.env g= .tuple []
   ·rw[hun] at h hrel;simp only[Rel,Aq] at hrel;obtain⟨xs,hxs,hx0⟩:=hrel;have hyn:yielded all.toArray a.tmps j=none:=by
     have h2: ∀z,a.tmps[g]? =some z->z= .tuple xs:=fun z hz=>by
      rw[Array.getD_eq_getD_getElem?,hz] at hxs;simpa using hxs
     unfold yielded;simp only[List.getElem?_toArray,hjo,Option.bind_some];cases hz:a.tmps[g]? with
     | none=>rfl
     | some z=>rw[h2 z hz]
    rw[if_neg (by simp [Region.wanted,hg,hyn])];exact⟨fun f _=>hF.fn f,skip (by cases b<;>exact h)⟩
   cases hv:c.env g<;>rw[hv] at h<;>(try (cases b<;>exact h.elim))
   case tuple vs=>cases vs with
    | nil=>exact absurd hv hun
    | cons _ _=>cases b<;>exact h.elim
   rename_i v
   have hy':=hy v hv;cases b<;>cases v<;>simp only[Ue] at h
   ·rw[if_pos (by simp [Region.wanted,hg,hy'])];exact Mv hF hok hS hE h
   ·rw[if_neg (by simp [Region.wanted,hg,hy'])];exact⟨fun f _=>hF.fn f,skip h⟩
   ·rw[if_neg (by simp [Region.wanted,hg,hy'])];exact⟨fun f _=>hF.fn f,skip h⟩
   ·rw[if_pos (by simp [Region.wanted,hg,hy'])];exact Mv hF hok hS hE h
structure Inv (P:Program) (G:Nat->DVal) (N:Fr) (all:List Oper) (Q:DExit->DS->Prop) (s0:DS) (w0:World)
  (T js:List Nat) (p:Plan) (c s:DS) (a:Act) (w:World) (listed:Array Bool):Prop where
 sim:Sim G N c a w
 ext:Ext s0.heap w0 c.heap w
 seq:Seq P G all c js s
 plan:Kt P G all Q p s
 ok:Ge all p T=true
 cov:Am9 all T p=true
 size:listed.size=all.length
 iff: ∀i,i<all.length->(listed.getD i true=true↔i∈T/\i∉js)
 sub: ∀i∈js,i∈T/\i<all.length
 tlt: ∀i∈T,i<all.length
 nodup:js.Nodup
 eager: ∀j∈js,Bn1 all j=true
 pair:js.Pairwise fun j k=>(Ml all k j=true\/Ad0 all j k=true)/\Ml all j k=false
 out: ∀j∈js,∀k,k<all.length->k∉T->Ml all k j=true\/Ad0 all j k=true
 deps: ∀j∈js,∀e,Ml all j e=true->e∈T/\e≠j
 clo: ∀k,k<all.length->listed.getD k true=true-> ∀e,Ml all k e=true->listed.getD e false=true
theorem Nv {i:Nat} (h:i<all.length): ∃o,Es all i=some o:=by
 rw[Lj];exact⟨all[i],by simp [h]⟩
theorem Bn2 {k e:Nat} (h:e∈Cl5 all k):Ml all k e=true:=by
 unfold Cl5 at h;unfold Ml;split at h
 ·rename_i o ho
  simp only[List.mem_map,List.mem_filter,Array.mem_toList_iff] at h;obtain⟨x,⟨hx,hb⟩,rfl⟩:=h;exact Array.any_eq_true'.2 ⟨x,hx,by simp [hb]⟩
 ·cases h
theorem Uj {listed:Array Bool} {i:Nat} (hs:listed.size=all.length) (hi: ∀e,Ml all i e=true->listed.getD e false=true)
  (hc: ∀k,k<all.length->listed.getD k true=true-> ∀e,Ml all k e=true->listed.getD e false=true): ∀(n:Nat) (S:List Nat),(∀m∈S,m=i\/listed.getD m false=true)-> ∀m∈Zl all n S,m=i\/listed.getD m false=true
 | 0,S,h=>h
 | k+1,S,h=>by
  rw[Zl];refine Uj hs hi hc k _ ?_;split
  ·rename_i hk
   intro m hm;rcases List.mem_append.1 hm with hm | hm
   ·have hd:=Bn2 hm;rcases h k (List.contains_iff_mem.1 hk) with rfl | hl
    ·exact .inr (hi m hd)
    ·have hlt:k<listed.size:=by
      rcases Nat.lt_or_ge k listed.size with h' | h'
      ·exact h'
      ·simp [Array.getElem?_eq_none h'] at hl
     refine .inr (hc k (by rw[<-hs];exact hlt) ?_ m hd);simpa [hlt] using hl
   ·exact h m hm
  ·exact h
theorem My {k:Nat} {T:List Nat} (hk:k<all.length):Wg all k T=true↔ ∀e,Ml all k e=true->e∈T:=by
 obtain⟨o,ho⟩:=Nv hk;unfold Wg Ml;rw[ho];simp only[Array.all_eq_true_iff_forall_mem,Bool.or_eq_true,Bool.not_eq_true',List.contains_iff_mem];constructor
 ·intro h e he;obtain⟨x,hx,hb⟩:=Array.any_eq_true'.1 he;simp only[Bool.and_eq_true,beq_iff_eq] at hb;rcases h x hx with h1 | h1
  ·rw[hb.1] at h1;cases h1
  ·rw[<-hb.2];exact h1
 ·intro h x hx;by_cases hb:Region.binds .any x=true
  ·exact .inr (h x.on (Array.any_eq_true'.2 ⟨x,hx,by simp [hb]⟩))
  ·exact .inl (by simpa using hb)
theorem Ov {listed:Array Bool} {k:Nat} (hs:listed.size=all.length):k∈Region.ready .any all.toArray listed↔
  k<all.length/\listed.getD k true=false/\ ∀e,Ml all k e=true->listed.getD e false=true:=by
 rw[mem_ready];constructor
 ·rintro⟨h0,o,ho,h⟩;have ho':all[k]? =some o:=by simpa using ho
  have hlt:k<all.length:=(List.getElem?_eq_some_iff.1 ho').1;refine⟨hlt,h0,fun e he=> ?_⟩;unfold Ml at he;rw[Lj,ho'] at he;obtain⟨x,hx,hb⟩:=Array.any_eq_true'.1 he;simp only[Bool.and_eq_true,beq_iff_eq] at hb;rw[<-hb.2];exact h x hx hb.1
 ·rintro⟨hlt,h0,h⟩;refine⟨h0,all[k],by simp [hlt],fun x hx hb=>h x.on ?_⟩;unfold Ml;rw[Lj,List.getElem?_eq_getElem hlt];exact Array.any_eq_true'.2 ⟨x,hx,by simp [hb]⟩
theorem Pw {listed:Array Bool} {e:Nat} (h:e<listed.size):listed.getD e false=listed.getD e true:=by
 simp [h]
theorem Inv.advance {T js:List Nat} {i:Nat} {p:Plan} {c s:DS} {a:Act} {w:World} {listed:Array Bool} (h:Inv P G N all Q s0 w0 T js (.take i p) c s a w listed):
    ∃s',Inv P G N all Q s0 w0 (i::T) (js++ [i]) p c s' a w listed:=by
  have hok:=h.ok
  simp only[Ge,Bool.and_eq_true,decide_eq_true_eq,Bool.not_eq_true',List.all_eq_true,List.mem_range,Bool.or_eq_true,List.contains_iff_mem,beq_iff_eq] at hok
  obtain⟨⟨⟨⟨⟨⟨hi,hT⟩,he⟩,hd⟩,ha⟩,hc⟩,hp⟩:=hok
  have hT':i∉T:=by intro hm;rw[List.contains_iff_mem.2 hm] at hT;cases hT
  rw[My hi] at hd
  obtain⟨o,ho⟩:=Nv hi
  have hpl:=h.plan
  simp only[Kt,ho] at hpl
  have heo:Mw o.op=true:=by unfold Bn1 at he;rw[ho] at he;exact he
  have hst: ∃d,Cw9 P G all i s d/\Kt P G all Q p ⟨Ev s.env (Is all i) d,s.heap⟩:=by
    have hdst:Is all i=o.dst:=by simp [Is,ho]
    rw[hdst]
    rcases Ad1.1 hpl with⟨hw,hdop⟩ | ⟨hw,hput⟩
    · obtain⟨d,hd1,hd2⟩:=Ss o.op heo hdop
      exact⟨d,⟨o,ho,heo, .inl ⟨hw,fun K Q hK=>hd2 Q K s (fun _ _=>rfl) (fun _ _=>Fz) hK⟩⟩,hd1⟩
    · exact⟨Dc,⟨o,ho,heo, .inr ⟨hw,rfl⟩⟩,hput⟩
  obtain⟨d,hev,hpl'⟩:=hst
  have seqApp: ∀(js:List Nat) (c:DS),Seq P G all c js s->Seq P G all c (js++ [i]) ⟨Ev s.env (Is all i) d,s.heap⟩:=by
    intro js
    induction js with
    | nil=>intro c hc;cases hc;exact⟨d,hev,rfl⟩
    | cons j js ih=>intro c hc;obtain⟨d',h1,h2⟩:=hc;exact⟨d',h1,ih _ h2⟩
  refine⟨⟨Ev s.env (Is all i) d,s.heap⟩,?_⟩
  exact {
    sim:=h.sim,ext:=h.ext,seq:=seqApp js c h.seq,plan:=hpl',ok:=hp,cov:=hc,size:=h.size
    iff:=fun k hk=>by
      rw[h.iff k hk]
      simp only[List.mem_cons,List.mem_append,List.not_mem_nil,or_false,not_or]
      constructor
      · rintro⟨h1,h2⟩
        exact⟨.inr h1,h2,fun e=>hT' (e▸h1)⟩
      · rintro⟨h1,h2,h3⟩
        exact⟨h1.resolve_left h3,h2⟩
    sub:=fun k hk=>by
      simp only[List.mem_append,List.mem_cons,List.not_mem_nil,or_false] at hk⊢
      rcases hk with hk | rfl
      · exact⟨.inr (h.sub k hk).1,(h.sub k hk).2⟩
      · exact⟨.inl rfl,hi⟩
    tlt:=fun k hk=>by
      simp only[List.mem_cons] at hk
      rcases hk with rfl | hk
      · exact hi
      · exact h.tlt k hk
    nodup:=by
      rw[List.nodup_append]
      refine⟨h.nodup,by simp,?_⟩
      intro x hx y hy e
      simp only[List.mem_cons,List.not_mem_nil,or_false] at hy
      subst hy;subst e
      exact hT' (h.sub x hx).1
    eager:=fun k hk=>by
      simp only[List.mem_append,List.mem_cons,List.not_mem_nil,or_false] at hk
      rcases hk with hk | rfl
      · exact h.eager k hk
      · exact he
    pair:=by
      rw[List.pairwise_append]
      refine⟨h.pair,by simp,?_⟩
      intro j hj k hk
      simp only[List.mem_cons,List.not_mem_nil,or_false] at hk
      subst hk
      refine⟨h.out j hj k hi hT',?_⟩
      cases hdep:Ml all j k with
      | false=>rfl
      | true=>exact(hT' (h.deps j hj k hdep).1).elim
    out:=fun j hj k hk hkT=>by
      simp only[List.mem_append,List.mem_cons,List.not_mem_nil,or_false,not_or] at hj hkT
      rcases hj with hj | rfl
      · exact h.out j hj k hk hkT.2
      · rcases ha k hk with((h1 | h1) | h1) | h1
        · exact(hkT.2 h1).elim
        · exact(hkT.1 h1).elim
        · exact .inl h1
        · exact .inr h1
    deps:=fun j hj e hde=>by
      simp only[List.mem_append,List.mem_cons,List.not_mem_nil,or_false] at hj⊢
      rcases hj with hj | rfl
      · exact⟨.inr (h.deps j hj e hde).1,(h.deps j hj e hde).2⟩
      · have:=hd e hde
        exact⟨.inr this,fun hh=>hT' (hh▸this)⟩
    clo:=h.clo }
def Bu2:Plan->Prop
 | .take _ _=>False
 | _=>True
theorem Inv.normal: ∀ {p:Plan} {T js:List Nat} {c s:DS} {a:Act} {w:World} {listed:Array Bool},Inv P G N all Q s0 w0 T js p c s a w listed->
  ∃T' js' p' s',Inv P G N all Q s0 w0 T' js' p' c s' a w listed/\Bu2 p'
 | .take i p,T,js,c,s,a,w,listed,h=>by
  obtain⟨s',h'⟩:=h.advance;exact h'.normal
 | .done,T,js,c,s,a,w,listed,h=>⟨T,js,_,s,h,trivial⟩
 | .go i ls p,T,js,c,s,a,w,listed,h=>⟨T,js,_,s,h,trivial⟩
 | .alt p q,T,js,c,s,a,w,listed,h=>⟨T,js,_,s,h,trivial⟩
theorem Wh: ∀(p:Plan) (T:List Nat) (s:DS),Ge all p T=true->Kt P G all Q p s->
  ((∀i,i<all.length->i∈T)/\Q .normal s)\/ ∃i,i<all.length/\i∉T/\ ∀e,Ml all i e=true->e∈T
 | .done,T,s,hok,h=>by
  simp only[Ge,List.all_eq_true,List.mem_range,List.contains_iff_mem] at hok;exact .inl ⟨hok,h⟩
 | .take i p,T,s,hok,h=>by
  simp only[Ge,Bool.and_eq_true,decide_eq_true_eq,Bool.not_eq_true'] at hok;obtain⟨⟨⟨⟨⟨⟨hi,hT⟩,he⟩,hd⟩,_⟩,_⟩,_⟩:=hok;exact .inr ⟨i,hi,(fun hm=>by rw[List.contains_iff_mem.2 hm] at hT;cases hT),(My hi).1 hd⟩
 | .go i ls p,T,s,hok,h=>by
  simp only[Ge,Bool.and_eq_true,decide_eq_true_eq,Bool.not_eq_true'] at hok;obtain⟨⟨⟨⟨⟨hi,hT⟩,hd⟩,_⟩,_⟩,_⟩:=hok;exact .inr ⟨i,hi,(fun hm=>by rw[List.contains_iff_mem.2 hm] at hT;cases hT),(My hi).1 hd⟩
 | .alt p q,T,s,hok,h=>by
  simp only[Ge,Bool.and_eq_true] at hok;exact Wh p T s hok.1 h.1
theorem St: ∀(p:Plan) (T:List Nat) (s:DS) (k:Nat),Ge all p T=true->Kt P G all Q p s->k∈Lv p->
  ∃ls p',Ge all (.go k ls p') T=true/\Kt P G all Q (.go k ls p') s
 | .done,T,s,k,_,_,hk=>by simp [Lv] at hk
 | .take i p,T,s,k,_,_,hk=>by simp [Lv] at hk
 | .go i ls p,T,s,k,hok,h,hk=>by
  simp only[Lv,List.mem_cons,List.not_mem_nil,or_false] at hk;subst hk;exact⟨ls,p,hok,h⟩
 | .alt p q,T,s,k,hok,h,hk=>by
  simp only[Ge,Bool.and_eq_true] at hok;simp only[Lv,List.mem_append] at hk;rcases hk with hk | hk
  ·exact St p T s k hok.1 h.1 hk
  ·exact St q T s k hok.2 h.2 hk
theorem Bn3 {p:Plan} {T:List Nat} (hc:Am9 all T p=true) (hok:Ge all p T=true) (hn:Bu2 p) {k:Nat} (hk:k<all.length) (hT:k∉T) (hd: ∀e,Ml all k e=true->e∈T):k∈Lv p:=by
 have gen:((List.range all.length).all fun k=>T.contains k || (Lv p).contains k || !Wg all k T)=true->k∈Lv p:=by
  intro h;simp only[List.all_eq_true,List.mem_range,Bool.or_eq_true,List.contains_iff_mem,Bool.not_eq_true'] at h;rcases h k hk with(h1 | h1) | h1
  ·exact(hT h1).elim
  ·exact h1
  ·rw[(My hk).2 hd] at h1;cases h1
 cases p with
 | done=>
  simp only[Ge,List.all_eq_true,List.mem_range,List.contains_iff_mem] at hok;exact(hT (hok k hk)).elim
 | take i p=>exact hn.elim
 | go i ls p=>exact gen hc
 | alt p q=>exact gen hc
theorem An2 {s:DS} {H':Ac}: ∀ {ls:List Nat},Cl3 G all s H' ls-> ∀l∈ls,Cl2 G s H' (Ug (Es all l))
 | [],_,l,hl=>by simp at hl
 | x::ls,h,l,hl=>by
  simp only[List.mem_cons] at hl;rcases hl with rfl | hl
  ·exact h.1
  ·exact An2 h.2 l hl
theorem Inv.sound {F:Fence} {n:Nat} (hF:FOk F) (hall:all.all (Gt N)=true) (hQ: ∀v env env' h,Q (.panic v) ⟨env,h⟩->Q (.panic v) ⟨env',h⟩): ∀(Ci:Nat) (U T js:List Nat) (p:Plan) (c s:DS) (a:Act) (w:World) (listed:Array Bool),
    Inv P G N all Q s0 w0 T js p c s a w listed->U.length<=Ci->(∀i,i<all.length->listed.getD i true=false->i∈U)->
    wpAnyIn F n P .any all.toArray (Ks G N Q s0 w0) Ci listed a w:=by
  intro Ci
  induction Ci with
  | zero=>
    intro U T js p c s a w listed h hU hUm
    have hnil:U= []:=List.eq_nil_of_length_eq_zero (Nat.le_zero.1 hU)
    subst hnil
    have hall1: ∀i,i<all.length->listed.getD i true=true:=by
      intro i hi
      cases hl:listed.getD i true with
      | true=>rfl
      | false=>exact absurd (hUm i hi hl) (by simp)
    have hjs:js= []:=by
      cases js with
      | nil=>rfl
      | cons j js=>
        have hs:=h.sub j (by simp)
        exact absurd (by simp) ((h.iff j hs.2).1 (hall1 j hs.2)).2
    subst hjs
    have hsc:=h.seq
    simp only[Seq] at hsc
    refine⟨?_,?_⟩
    · rw[List.eq_nil_iff_forall_not_mem]
      intro k hk
      rw[Ov h.size] at hk
      rw[hall1 k hk.1] at hk
      cases hk.2.1
    · rcases Wh p T s h.ok h.plan with⟨_,hq⟩ | ⟨i,hi,hiT,_⟩
      · subst hsc;exact⟨.normal,s,hq, .normal,h.sim,h.ext⟩
      · exact absurd ((h.iff i hi).1 (hall1 i hi)).1 hiT
  | succ Ci ih=>
    intro U T js p c s a w listed h0 hU hUm
    obtain⟨T,js,p,s,h,hnt⟩:=h0.normal
    have inList: ∀e,listed.getD e false=true->e∈T/\e∉js:=by
      intro e he
      have hlt:e<listed.size:=by
        rcases Nat.lt_or_ge e listed.size with h' | h'
        · exact h'
        · simp [Array.getElem?_eq_none h'] at he
      have:=he
      rw[Pw hlt] at this
      exact(h.iff e (by rw[<-h.size];exact hlt)).1 this
    refine⟨fun hr=> ?_,fun k hk=> ?_⟩
    · -- nothing may come up: all have
      have hno: ∀k,k∉Region.ready .any all.toArray listed:=by rw[hr];simp
      have toL: ∀e,e∈T->e∉js->e<all.length->listed.getD e false=true:=by
        intro e h1 h2 h3
        rw[Pw (by rw[h.size];exact h3)]
        exact(h.iff e h3).2 ⟨h1,h2⟩
      have unl: ∀i,i<all.length-> ¬(i∈T/\i∉js)->listed.getD i true=false:=by
        intro i hi hn
        cases hl:listed.getD i true with
        | false=>rfl
        | true=>exact(hn ((h.iff i hi).1 hl)).elim
      have hjs:js= []:=by
        cases js with
        | nil=>rfl
        | cons j js=>
          refine(hno j ((Ov h.size).2 ⟨(h.sub j (by simp)).2,unl j (h.sub j (by simp)).2 (fun hh=>hh.2 (by simp)),fun e he=> ?_⟩)).elim
          obtain⟨g1,g2⟩:=h.deps j (by simp) e he
          refine toL e g1 (fun hm=> ?_) (h.tlt e g1)
          simp only[List.mem_cons] at hm
          rcases hm with hm | hm
          · exact g2 hm
          · have:=((List.pairwise_cons.1 h.pair).1 e hm).2
            rw[he] at this;cases this
      subst hjs
      have hsc:=h.seq
      simp only[Seq] at hsc
      rcases Wh p T s h.ok h.plan with⟨_,hq⟩ | ⟨i,hi,hiT,hd⟩
      · subst hsc;exact⟨.normal,s,hq, .normal,h.sim,h.ext⟩
      · exact(hno i ((Ov h.size).2 ⟨hi,unl i hi (fun hh=>hiT hh.1),fun e he=>toL e (hd e he) (by simp) (h.tlt e (hd e he))⟩)).elim
    · rw[Ov h.size] at hk
      obtain⟨hkn,hun,hdep⟩:=hk
      obtain⟨o,ho⟩:=Nv hkn
      have hdepT: ∀e,Ml all k e=true->e∈T/\e∉js:=fun e he=>inList e (hdep e he)
      have hU':k∈U:=hUm k hkn hun
      have hUl:(U.erase k).length<=Ci:=by
        rw[List.length_erase_of_mem hU'];omega
      have hset: ∀i,i≠k->(listed.setIfInBounds k true).getD i true=listed.getD i true:=fun i hi=>getD_set_ne true (Ne.symm hi)
      have hsetk:(listed.setIfInBounds k true).getD k true=true:=by
        have:k<listed.size:=by rw[h.size];exact hkn
        simp [this]
      have hup: ∀e,listed.getD e false=true->(listed.setIfInBounds k true).getD e false=true:=by
        intro e he
        have hlt:e<listed.size:=by
          rcases Nat.lt_or_ge e listed.size with h' | h'
          · exact h'
          · simp [Array.getElem?_eq_none h'] at he
        by_cases hek:e=k
        · subst hek
          simp [hlt]
        · rw[getD_set_ne false (Ne.symm hek)];exact he
      have hclo: ∀i,i<all.length->(listed.setIfInBounds k true).getD i true=true-> ∀e,Ml all i e=true->(listed.setIfInBounds k true).getD e false=true:=by
        intro i hi hl e he
        by_cases hik:i=k
        · subst hik;exact hup e (hdep e he)
        · rw[hset i hik] at hl
          exact hup e (h.clo i hi hl e he)
      have hUm': ∀i,i<all.length->(listed.setIfInBounds k true).getD i true=false->i∈U.erase k:=by
        intro i hi hl
        by_cases hik:i=k
        · subst hik;rw[hsetk] at hl;cases hl
        · rw[hset i hik] at hl
          exact(List.mem_erase_of_ne hik).2 (hUm i hi hl)
      by_cases hkj:k∈js
      · -- it was taken before
        obtain⟨A,B,rfl⟩:=List.append_of_mem hkj
        have hpw:=List.pairwise_append.1 h.pair
        have hnd:=h.nodup
        rw[List.nodup_append] at hnd
        have apA: ∀j∈A,Apart all j k:=by
          intro j hj
          have hjlt:=(h.sub j (by simp [hj])).2
          obtain⟨x,hx⟩:=Nv hjlt
          rcases(hpw.2.2 j hj k (by simp)).1 with hd | ha
          · exact absurd (by simp [hj]) (hdepT j hd).2
          · exact Xv hx ho ha
        obtain⟨d,hev,hrest⟩:=Seq.front apA h.seq
        obtain⟨o',ho',heo,hev⟩:=hev
        rw[ho] at ho';cases ho'
        have hdst:Is all k=o.dst:=by simp [Is,ho]
        have hat:dAt P G all (fun s1=>s1=⟨Ev c.env o.dst d,c.heap⟩) Q c (some o):=by
          rw[Ad1]
          rcases hev with⟨hw,hv⟩ | ⟨hw,rfl⟩
          · exact .inl ⟨hw,hv _ _ rfl⟩
          · exact .inr ⟨hw,rfl⟩
        refine wpOpIn_mono ?_ (Ad2 hF hall ho h.sim h.ext hat)
        rintro a' w' ⟨s1,rfl,hS',hE'⟩
        refine ih (U.erase k) T (A++B) p ⟨Ev c.env o.dst d,c.heap⟩ s a' w' _ ?_ hUl hUm'
        have memE: ∀i,i∈A++B->i∈A++k::B:=fun i hi=>by
          simp only[List.mem_append,List.mem_cons] at hi⊢
          rcases hi with hi | hi
          · exact .inl hi
          · exact .inr (.inr hi)
        have subl:(A++B).Sublist (A++k::B):=List.Sublist.append (List.Sublist.refl A) (List.sublist_cons_self k B)
        have kno:k∉A++B:=by
          intro hm
          have:=h.nodup
          rw[(List.perm_middle (a:=k) (l₁:=A) (l₂:=B)).nodup_iff] at this
          exact(List.nodup_cons.1 this).1 hm
        exact {
          sim:=hS',ext:=h.ext.trans hE',seq:=by rw[hdst] at hrest;exact hrest,plan:=h.plan,ok:=h.ok,cov:=h.cov
          size:=by simp [h.size]
          iff:=fun i hi=>by
            by_cases hik:i=k
            · subst hik
              rw[hsetk]
              exact⟨fun _=>⟨(h.sub i (by simp)).1,kno⟩,fun _=>rfl⟩
            · rw[hset i hik,h.iff i hi]
              simp only[List.mem_append,List.mem_cons,not_or]
              constructor
              · rintro⟨g1,g2,g3⟩;exact⟨g1,g2,g3.2⟩
              · rintro⟨g1,g2,g3⟩;exact⟨g1,g2,hik,g3⟩
          sub:=fun i hi=>h.sub i (memE i hi)
          tlt:=h.tlt
          nodup:=h.nodup.sublist subl
          eager:=fun i hi=>h.eager i (memE i hi)
          pair:=h.pair.sublist subl
          out:=fun i hi=>h.out i (memE i hi)
          deps:=fun i hi=>h.deps i (memE i hi)
          clo:=hclo }
      · -- it is the plan's next
        have hkT:k∉T:=by
          intro hm
          have:=(h.iff k hkn).2 ⟨hm,hkj⟩
          rw[hun] at this;cases this
        have hf:=Bn3 h.cov h.ok hnt hkn hkT fun e he=>(hdepT e he).1
        obtain⟨ls,p',hok,hpl⟩:=St p T s k h.ok h.plan hf
        simp only[Ge,Bool.and_eq_true,decide_eq_true_eq,Bool.not_eq_true'] at hok
        obtain⟨⟨⟨⟨⟨_,_⟩,hd⟩,hlk⟩,hc'⟩,hp'⟩:=hok
        simp only[Kt,ho] at hpl
        have apJ: ∀j∈js,Apart all j k:=by
          intro j hj
          obtain⟨x,hx⟩:=Nv (h.sub j hj).2
          rcases h.out j hj k hkn hkT with hd | ha
          · exact absurd hj (hdepT j hd).2
          · exact Xv hx ho ha
        have hdst:Is all k=o.dst:=by simp [Is,ho]
        have hlooks:looks all k=o.looksAt all.toArray:=by simp [looks,ho]
        have agree: ∀t∈o.looksAt all.toArray,c.env t=s.env t:=by
          intro t ht
          refine(Seq.env h.seq t fun j hj e=> ?_).symm
          exact(apJ j hj).a t e (by rw[hlooks];exact ht)
        have shift: ∀d H',Cl4 G all ls s (Kt P G all Q p') ⟨Ev s.env o.dst d,H'⟩->
            (∃s1,Kt P G all Q p' s1/\Seq P G all ⟨Ev c.env o.dst d,H'⟩ js s1):=by
          intro d H' hK
          refine⟨_,hK.2,Seq.shift h.seq (fun j hj t e=> ?_) (fun j hj t e e2=> ?_) ?_⟩
          · exact(apJ j hj).c t (by rw[hdst];exact e)
          · exact(apJ j hj).b t e (by rw[hdst];exact e2)
          · intro A j B e oj a hoj hla
            have hjm:j∈js:=by rw[e];simp
            have hjT:=(h.sub j hjm).1
            unfold Bu1 at hlk
            rw[List.all_eq_true] at hlk
            have hl:=hlk j hjT
            simp only[Ug,hoj,hla,Bool.or_eq_true,Bool.and_eq_true,List.contains_iff_mem,bne_iff_ne] at hl
            rcases hl with(hl | ⟨hl1,hl2⟩) | ⟨hl1,hl2⟩
            · exact absurd hjm (hdepT j hl).2
            · rcases Uj h.size hdep h.clo (k+1) [k] (fun m hm=> .inl (by simpa using hm)) j hl2 with hh | hh
              · exact absurd hh hl1
              · exact absurd hjm (inList j hh).2
            · refine⟨fun t ht m hm hdm=> ?_,?_⟩
              · subst ht
                simp only[Ba9,List.all_eq_true,Bool.or_eq_true,bne_iff_ne] at hl2
                have hmj:m∈js:=by rw[e];exact List.mem_append_right _ hm
                rcases hl2 m (h.sub m hmj).1 with g | g
                · exact g hdm
                · simp only[List.mem_cons] at hm
                  rcases hm with rfl | hm
                  · exact(h.deps m hmj m g).2 rfl
                  · have hp:=h.pair
                    rw[e,List.pairwise_append] at hp
                    have:=(List.pairwise_cons.1 hp.2.1).1 m hm
                    rw[g] at this
                    cases this.2
              · have hkl:=An2 hK.1 j hl1
                simp only[Ug,hoj,hla,Cl2] at hkl
                rw[<-Seq.heap h.seq]
                exact hkl
        have hat:dAt P G all (fun c1=> ∃s1,Kt P G all Q p' s1/\Seq P G all c1 js s1) Q c (some o):=by
          rw[Ad1] at hpl⊢
          rw[Uh agree]
          have hheap:=Seq.heap h.seq
          rcases hpl with⟨hw,hop⟩ | ⟨hw,hput⟩
          · refine .inl ⟨hw,Cc4 o.op (An0 (all:=all) agree) hheap.symm (fun d H' hK=>shift d H' hK) (fun v H' hq=>hQ v _ _ H' hq) hop⟩
          · refine .inr ⟨hw,?_⟩
            unfold Bb at hput⊢
            rw[<-hheap]
            exact shift _ _ hput
        refine wpOpIn_mono ?_ (Ad2 hF hall ho h.sim h.ext hat)
        rintro a' w' ⟨c1,⟨s1,hp1,hseq⟩,hS',hE'⟩
        refine ih (U.erase k) (k::T) js p' c1 s1 a' w' _ ?_ hUl hUm'
        exact {
          sim:=hS',ext:=h.ext.trans hE',seq:=hseq,plan:=hp1,ok:=hp',cov:=hc'
          size:=by simp [h.size]
          iff:=fun i hi=>by
            by_cases hik:i=k
            · subst hik
              rw[hsetk]
              exact⟨fun _=>⟨by simp,hkj⟩,fun _=>rfl⟩
            · rw[hset i hik,h.iff i hi]
              simp [hik]
          sub:=fun i hi=>⟨by simp [(h.sub i hi).1],(h.sub i hi).2⟩
          tlt:=fun i hi=>by
            simp only[List.mem_cons] at hi
            rcases hi with rfl | hi
            · exact hkn
            · exact h.tlt i hi
          nodup:=h.nodup
          eager:=h.eager
          pair:=h.pair
          out:=fun i hi m hm hmT=>h.out i hi m hm (fun hh=>hmT (by simp [hh]))
          deps:=fun i hi e he=>⟨by simp [(h.deps i hi e he).1],(h.deps i hi e he).2⟩
          clo:=hclo }
theorem Cx0 {id:Nat} {ops:Array Oper} {s:DS} (hm:P.follows .mixedOrders=true) (p:Plan)
    (hp:(ops.toList.all (Gt N)&&Am9 ops.toList [] p&&Ge ops.toList p [])=true) (h:Kt P G ops.toList (QP Q) p s):DWp P G N (.region id ops true) Q s:=by
  intro F n B hF a w hS
  simp only[Bool.and_eq_true] at hp
  obtain⟨⟨hall,hc⟩,hok⟩:=hp
  have hE:Ext s.heap w s.heap { w with drawn:=w.drawn+1 }:=⟨rfl,rfl,rfl,Nat.le_refl _,fun _ _ _=>rfl,fun _ h=> .inl h,fun _ _=>rfl,fun _ _ _=>rfl⟩
  have hSH:Av { w with drawn:=w.drawn+1 } s.heap:=fun r o hr=>(hS.heap r o hr).lasts hE.lasts
  have hS':Sim G ⟨N.n,B⟩ s a { w with drawn:=w.drawn+1 }:=hS.ext hE hSH
  have key:=Inv.sound (n:=n) hF (P:=P) (G:=G) (N:=⟨N.n,B⟩) (all:=ops.toList) (Q:=QP Q) (s0:=s) (w0:=w) hall
    (fun v env env' h hq env''=>hq env'') ops.toList.length (List.range ops.toList.length) [] [] p s s a { w with drawn:=w.drawn+1 } (Array.replicate ops.size false)
    { sim:=hS',ext:=hE,seq:=rfl,plan:=h,ok:=hok,cov:=hc,size:=by simp
      iff:=fun i hi=>by
        have:i<ops.size:=by simpa using hi
        simp [this]
      sub:=by simp
      tlt:=by simp
      nodup:=by simp
      eager:=by simp
      pair:=by simp
      out:=by simp
      deps:=by simp
      clo:=fun k hk hl=>by
        have:k<ops.size:=by simpa using hk
        simp [this] at hl } (by simp) (fun i hi _=>by simpa using hi)
  have e1:ops.toList.toArray=ops:=by simp
  have e2:ops.toList.length=ops.size:=by simp
  rw[e1,e2] at key
  refine wpIn_mono (wpIn_region_any hm key) ?_
  rintro e a' w' ⟨e',s',hq,hx,hS1,hE1⟩
  refine⟨e',s',?_,hx,hS1,hE1⟩
  cases hx with
  | normal=>exact hq
  | panic d v hv=>exact hq s'.env
  | exit=>exact hq.elim
  | goto=>exact hq.elim
  | ret=>exact hq.elim
end
end Go.Dl

-- THE DATA LEVEL, PART 3: plans run by simp.
namespace Go.Dl
open Go
attribute [go_sem] Es.eq_1 Es.eq_2 Es.eq_3 Ue.eq_1 Ue.eq_2 Ue.eq_3 Ue.eq_4 Ue.eq_5 Ue.eq_6 Uf.eq_1 Dh8.eq_1 Dh8.eq_2 dAt.eq_1 Hy.eq_1 Hy.eq_2 Cl2.eq_1 Cl2.eq_2 Ug.eq_1 At4.eq_1 At4.eq_2 At4.eq_3 Cl3.eq_1 Cl3.eq_2 Kt.eq_1 Kt.eq_2 Kt.eq_3 Kt.eq_4 QP.eq_1 QP.eq_2
attribute [go_sem] Cl4
section
variable (v:DVal) (H H':Ac)
@[go_sem] theorem De5 (cs:List DVal) (o:Nat):Hy H H' (.vptr cs o)=True:=rfl
@[go_sem] theorem Cu3 (cs:List DVal) (o:Nat):Hy H H' (.vslice cs o)=True:=rfl
@[go_sem] theorem Dh9 (k:IntKind) (n:Int):Hy H H' (.int k n)=True:=rfl
@[go_sem] theorem De6 (b:Bool):Hy H H' (.bool b)=True:=rfl
@[go_sem] theorem Ch3:Hy H H' .nilSlice=True:=rfl
@[go_sem] theorem Di0 (s:List UInt8):Hy H H' (.str s)=True:=rfl
end
end Go.Dl

-- THE DATA LEVEL, PART 5: loops over iterators: a round, the statement.
namespace Go.Dl
open Go Go.RowKit
section
variable {P:Program} {G:Nat->DVal} {N:Nat} {w w':World} {Q:DExit->DS->Prop}
theorem Ih {α:Type} {f:Nat->Option α} {l:Nat} (h:f l=none) (x:Option α):upd (upd f l x) l none=f:=by
 funext i;simp only[upd];split
 ·rename_i e;subst e;exact h.symm
 ·rfl
end
end Go.Dl

-- THE DATA LEVEL, PART 6: a heap in two parts; the contract of an iterator; the loop over it.
namespace Go.Dl
open Go Go.RowKit
def Bb0 (Hi X:Ac):Ac:=fun r=>match X r with
 | some o=>some o
 | none=>Hi r
def Dn3 (Hi X:Ac):Prop:= ∀r,X r≠none->Hi r=none
def h0:Ac:=fun _=>none
theorem Bu3 (Hi:Ac):Bb0 Hi h0=Hi:=rfl
theorem Bu4 {Hi X:Ac} {r:Nat} (h:X r=none):Bb0 Hi X r=Hi r:=by simp [Bb0,h]
theorem Di1 {Hi X:Ac} {r:Nat} {o:DObj} (h:X r=some o):Bb0 Hi X r=some o:=by simp [Bb0,h]
theorem De7 {H:Ac} {r r':Nat} {o:DObj}:upd H r (some o) r'=none↔r'≠r/\r≠r'/\H r'=none:=by
 unfold upd;by_cases e:r'=r
 ·simp [e]
 ·simp [e,Ne.symm e,eq_comm]
section
end
end Go.Dl

-- THE DATA LEVEL, PART 7: own memory seen as memory that lasts; calls that only look.
namespace Go.Dl
open Go Go.RowKit
mutual
/-- The value, with block r (its cells: cs) seen as memory that lasts. -/
def fz (r:Nat) (cs:List DVal):DVal->DVal
 | .optr r' off=>if r'=r then .vptr cs off else .optr r' off
 | .oslice sz r' off len lo=>if r'=r then .vslice ((cs.drop off).take (len*sz)) len else .oslice sz r' off len lo
 | .func fn a c=> .func fn (fzs r cs a) (fzs r cs c)
 | .iface t v=> .iface t (fz r cs v)
 | .agg l=> .agg (fzs r cs l)
 | .tuple l=> .tuple (fzs r cs l)
 | .vptr l off=> .vptr (fzs r cs l) off
 | .vslice l n=> .vslice (fzs r cs l) n
 | d=>d
def fzs (r:Nat) (cs:List DVal):List DVal->List DVal
 | []=> []
 | d::ds=>fz r cs d::fzs r cs ds
end
section
variable {P:Program} {G:Nat->DVal} {w:World} {H:Ac}
theorem Cu (H:Ac) (r:Nat) (w:World):Lasts H w (upd H r none) w:=
 ⟨fun b i x hb hc=>⟨by simp only[upd];split;rfl;exact hb,hc⟩,Nat.le_refl _,fun _ _=>rfl⟩
theorem Qq (hH:Av w H) {r:Nat} {cs:List DVal} {e:TypeId} (hr:H r=some (.cells cs e)): ∃xs,Aq w (upd H r none) cs xs/\Mn w (upd H r none) r 0 xs:=by
 obtain⟨xs,hl,hh⟩:=hH.holds hr;exact⟨xs,hl.lasts (Cu H r w), .inr ⟨by simp [upd],fun i x hx=>by simpa using hh i x hx⟩⟩
theorem Mn.part {b off:Nat} {xs:List Value} (h:Mn w H b off xs) (m n:Nat):Mn w H b (off+m) ((xs.drop m).take n):=by
 rcases h with rfl | ⟨h1,h2⟩
 ·exact .inl (by simp)
 ·refine .inr ⟨h1,fun i x hx=> ?_⟩;have:xs[m+i]? =some x:=by
   rw[List.getElem?_take] at hx;split at hx
   ·simpa using hx
   ·cases hx
  have:=h2 _ x this
  rwa [<-Nat.add_assoc] at this
mutual
theorem Bn4 (hH:Av w H) {r:Nat} {cs:List DVal} {e:TypeId} (hr:H r=some (.cells cs e)): ∀(d:DVal) (v:Value),Rel w H d v->Rel w (upd H r none) (fz r cs d) v
 | .optr r' off,v,h=>by
  simp only[fz]
  split
  ·rename_i e';subst e'
   simp only[Rel] at h⊢
   obtain⟨xs,hl,hc⟩:=Qq hH hr
   exact⟨r',0,xs,by simpa using h,hc,hl⟩
  ·simpa [Rel] using h
 | .oslice sz r' off len lo,v,h=>by
  simp only[fz]
  split
  ·rename_i e';subst e'
   simp only[Rel] at h⊢
   obtain⟨o,cap,rfl,h1,h2,h3,h4⟩:=h
   obtain⟨xs,hl,hc⟩:=Qq hH hr
   refine⟨_,cap,rfl,h2,?_⟩
   by_cases h0:cap=0
   ·have:len=0:=by omega
    subst this;left;simp
   ·have ho:o=off:=h3.resolve_left h0
    subst ho
    right
    refine⟨r',o,(xs.drop o).take (len*sz),rfl,?_,(hl.drop o).take _⟩
    have:=hc.part o (len*sz)
    simpa using this
  ·exact Rel.lasts (Cu H r w) _ _ h
 | .func fn a c,v,h=>by
  simp only[Rel,fz] at h⊢
  obtain⟨xs,ys,rfl,h1,h2⟩:=h
  exact⟨xs,ys,rfl,Ow hH hr _ _ h1,Ow hH hr _ _ h2⟩
 | .iface t d,v,h=>by
  simp only[Rel,fz] at h⊢
  obtain⟨x,rfl,h1⟩:=h
  exact⟨x,rfl,Bn4 hH hr _ _ h1⟩
 | .agg l,v,h=>by
  simp only[Rel,fz] at h⊢
  obtain⟨x,rfl,h1⟩:=h
  exact⟨x,rfl,Ow hH hr _ _ h1⟩
 | .tuple l,v,h=>by
  simp only[Rel,fz] at h⊢
  obtain⟨x,rfl,h1⟩:=h
  exact⟨x,rfl,Ow hH hr _ _ h1⟩
 | .raw x,v,h=>by simp only[fz];exact Rel.lasts (Cu H r w) _ _ h
 | .bool x,v,h=>by simp only[fz];exact Rel.lasts (Cu H r w) _ _ h
 | .int x y,v,h=>by simp only[fz];exact Rel.lasts (Cu H r w) _ _ h
 | .str x,v,h=>by simp only[fz];exact Rel.lasts (Cu H r w) _ _ h
 | .nilPtr,v,h=>by simp only[fz];exact Rel.lasts (Cu H r w) _ _ h
 | .vptr l off,v,h=>by
  simp only[Rel,fz] at h⊢
  obtain⟨b,o,xs,rfl,h1,h2⟩:=h
  exact⟨b,o,xs,rfl,h1.lasts (Cu H r w),Ow hH hr _ _ h2⟩
 | .nilSlice,v,h=>by simp only[fz];exact Rel.lasts (Cu H r w) _ _ h
 | .vslice l n,v,h=>by
  simp only[Rel,fz] at h⊢
  obtain⟨a,cap,rfl,hle,h1⟩:=h
  refine⟨a,cap,rfl,hle,?_⟩
  rcases h1 with h1 | ⟨b,o,xs,rfl,h1,h2⟩
  ·subst h1;exact .inl rfl
  ·exact .inr ⟨b,o,xs,rfl,h1.lasts (Cu H r w),Ow hH hr _ _ h2⟩
 | .nilMap,v,h=>by simp only[fz];exact Rel.lasts (Cu H r w) _ _ h
 | .omap x,v,h=>by simp only[fz];exact Rel.lasts (Cu H r w) _ _ h
 | .nilFunc,v,h=>by simp only[fz];exact Rel.lasts (Cu H r w) _ _ h
 | .nilIface,v,h=>by simp only[fz];exact Rel.lasts (Cu H r w) _ _ h
theorem Ow (hH:Av w H) {r:Nat} {cs:List DVal} {e:TypeId} (hr:H r=some (.cells cs e)): ∀(ds:List DVal) (vs:List Value),Aq w H ds vs->Aq w (upd H r none) (fzs r cs ds) vs
 | [],vs,h=>by simpa [fzs,Aq] using h
 | d::ds,vs,h=>by
  simp only[fzs,Aq] at h⊢
  obtain⟨y,ys,rfl,h1,h2⟩:=h
  exact⟨y,ys,rfl,Bn4 hH hr _ _ h1,Ow hH hr _ _ h2⟩
end
def Hz (H:Ac) (v:DVal) (H':Ac) (v':DVal):Prop:= ∀w,Av w H->Av w H'/\(∀b,H' b≠none->H b≠none)/\ ∀x,Rel w H v x->Rel w H' v' x
theorem Hz.trans {H H' H'':Ac} {v v' v'':DVal} (h:Hz H v H' v') (k:Hz H' v' H'' v''):Hz H v H'' v'':=fun w hw=>by
 obtain⟨h1,h2,h3⟩:=h w hw;obtain⟨k1,k2,k3⟩:=k w h1;exact⟨k1,fun b hb=>h2 b (k2 b hb),fun x hx=>k3 x (h3 x hx)⟩
theorem Hz.fz {H:Ac} {v:DVal} {r:Nat} {cs:List DVal} {e:TypeId} (hr:H r=some (.cells cs e)):Hz H v (upd H r none) (fz r cs v):=fun w hw=>
 ⟨hw.letGo r,fun b hb=>by simp only[upd] at hb;split at hb<;>simp_all,fun x hx=>Bn4 hw hr _ _ hx⟩
theorem Hz.drop (H:Ac) (v:DVal) (r:Nat):Hz H v (upd H r none) v:=fun w hw=>
 ⟨hw.letGo r,fun b hb=>by simp only[upd] at hb;split at hb<;>simp_all,fun x hx=>Rel.lasts (Cu H r w) _ _ hx⟩
theorem Nu.ghost {R:DEnd->Ac->Prop} {v v':DVal} {H H':Ac} (g:Hz H v H' v') (h:Nu R v' H'):Nu R v H:=by
 obtain⟨v2,H2,k,hR⟩:=h;exact⟨v2,H2,g.trans k,hR⟩
theorem Nu.fz {R:DEnd->Ac->Prop} {v:DVal} {H:Ac} (r:Nat) {cs:List DVal} {e:TypeId} (hr:H r=some (.cells cs e)) (h:Nu R (fz r cs v) (upd H r none)):Nu R v H:= .ghost (.fz hr) h
theorem Nu.drop {R:DEnd->Ac->Prop} {v:DVal} {H:Ac} (r:Nat) (h:Nu R v (upd H r none)):Nu R v H:= .ghost (.drop H v r) h
theorem Ai.ghost {f:FuncId} {args:List DVal} {H:Ac} {R R':DEnd->Ac->Prop} (h:Ai P G f args H R) (hr: ∀e H',R e H'-> ∃v v' H'',e= .ret v/\Hz H' v H'' v'/\R' (.ret v') H''):Ai P G f args H R':=by
 refine⟨h.1,fun vs w hv hH hG=>(h.2 vs w hv hH hG).mono fun e w' ⟨e',H',r,k1,k2,k3⟩=> ?_⟩;obtain⟨v,v',H'',rfl,g,r'⟩:=hr _ _ r;obtain⟨g1,g2,g3⟩:=g w' k2;cases k1 with
 | ret d x hx=>exact⟨.ret v',H'',r', .ret _ _ (g3 x hx),g1,k3.os,k3.tape,k3.output,k3.size,k3.block,fun b hb=>k3.own b (g2 b hb),k3.keep,k3.fz⟩
theorem Ai.pre {f:FuncId} {args args':List DVal} {H H':Ac} {R:DEnd->Ac->Prop} (g:Hz H (.tuple args) H' (.tuple args')) (h:Ai P G f args' H' R):Ai P G f args H R:=by
 refine⟨h.1,fun vs w hv hH hG=> ?_⟩;obtain⟨g1,g2,g3⟩:=g w hH;have hl:Lasts H w H' w:=⟨fun b i x hb hc=>⟨by
  cases e:H' b with
  | none=>rfl
  | some o=>exact absurd hb (g2 b (by simp [e])),hc⟩,Nat.le_refl _,fun _ _=>rfl⟩
 have hv':Aq w H' args' vs:=by
  have:=g3 (.tuple vs.toArray) (by simp only[Rel];exact⟨_,rfl,hv⟩);simp only[Rel] at this;obtain⟨xs,h1,h2⟩:=this;cases h1;exact h2
 refine(h.2 vs w hv' g1 (hG.lasts hl)).mono fun e w' ⟨e',H'',r,k1,k2,k3⟩=>⟨e',H'',r,k1,k2,k3.os,k3.tape,k3.output,k3.size,fun b hb hn=>k3.block b hb (by
  cases e:H' b with
  | none=>rfl
  | some o=>exact absurd hn (g2 b (by simp [e]))),fun b hb=> ?_,k3.keep,fun a ha hn=>k3.fz a ha (by
  cases e:H' a.block with
  | none=>rfl
  | some o=>exact absurd hn (g2 a.block (by simp [e])))⟩
 rcases k3.own b hb with k | k
 ·exact .inl (g2 b k)
 ·exact .inr k
theorem Ai.fzArgs {f:FuncId} {args:List DVal} {H:Ac} {R:DEnd->Ac->Prop} (r:Nat) {cs:List DVal} {e:TypeId} (hr:H r=some (.cells cs e)) (h:Ai P G f (fzs r cs args) (upd H r none) R):Ai P G f args H R:=
 .pre (by have:=Hz.fz (v:= .tuple args) hr;simpa only[fz] using this) h
def Cl6:DVal->Bool
 | .bool _ | .int _ _ | .str _ | .nilPtr | .nilSlice | .nilMap | .nilFunc | .nilIface=>true
 | .tuple l=>plains l
 | .agg l=>plains l
 | _=>false
where plains:List DVal->Bool
 | []=>true
 | d::ds=>Cl6 d&&plains ds
end
attribute [go_sem] fz.eq_1 fz.eq_2 fz.eq_3 fz.eq_4 fz.eq_5 fz.eq_6 fzs.eq_1 fzs.eq_2
end Go.Dl

-- THE DATA LEVEL, PART 8: loops over iterators, ready for use.
namespace Go.Dl
open Go Go.RowKit
attribute [go_sem] Bu3
theorem Da {α:Type} (f:Nat->α) (r:Nat) (a b:α):upd (upd f r a) r b=upd f r b:=by
 funext i;simp only[upd];split<;>rfl
theorem Qr {α:Type} {r1 r2:Nat} (h:r1≠r2) (f:Nat->α) (a b:α):upd (upd f r2 b) r1 a=upd (upd f r1 a) r2 b:=by
 funext i;simp only[upd];by_cases e1:i=r1<;>by_cases e2:i=r2<;>simp_all
theorem Bb1 (xs ys:List DVal):Cz xs 0 ys=ys++xs.drop ys.length:=by simp [Cz]
theorem Bb2 (x:DVal) (xs ys:List DVal) (n:Nat):Cz (x::xs) (n+1) ys=x::Cz xs n ys:=by
 simp [Cz,Nat.add_right_comm]
attribute [go_sem] Da Bb1 Bb2
theorem Ai.fzA {P:Program} {G:Nat->DVal} {f:FuncId} {args:List DVal} {H:Ac} {R:DEnd->Ac->Prop} (r:Nat) {cs:List DVal} {e:TypeId} (hr:H r=none) (h:Ai P G f (fzs r cs args) H R):Ai P G f args (upd H r (some (.cells cs e))) R:=
 Ai.fzArgs r (Aa _ _ _) (by rw[Ih hr];exact h)
theorem Nu.fzA {R:DEnd->Ac->Prop} {v:DVal} {H:Ac} (r:Nat) {cs:List DVal} {e:TypeId} (hr:H r=none) (h:Nu R (Dl.fz r cs v) H):Nu R v (upd H r (some (.cells cs e))):=
 Nu.fz r (Aa _ _ _) (by rw[Ih hr];exact h)
theorem Nu.dropA {R:DEnd->Ac->Prop} {v:DVal} {H:Ac} (r:Nat) {o:Option DObj} (hr:H r=none) (h:Nu R v H):Nu R v (upd H r o):=
 Nu.drop r (by rw[Ih hr];exact h)
section
variable {P:Program} {G:Nat->DVal} {N:Nat} {Q:DExit->DS->Prop}
theorem Aj {id:Nat} {ops:List Oper} {s:DS} (hm:P.follows .mixedOrders=true) (p:Plan) (hp:(ops.all (Gt N)&&Am9 ops [] p&&Ge ops p [])=true) (h:Kt P G ops (QP Q) p s):dwp P G N (.region id ops.toArray true) Q s:=
 Cx0 (N:=⟨N,⟨0,[],false⟩⟩) hm p (by simpa using hp) (by simpa using h)
end
end Go.Dl

-- THE DATA LEVEL, PART 9: slices that are built up; plain lists seen as slices.
namespace Go.Dl
open Go Go.RowKit
abbrev Au (v:DVal) (H:Ac):DEnd->Ac->Prop:=fun e H'=>e= .ret v/\H'=H
def Dn4 (H:Ac) (e:TypeId) (size n:Nat) (cs:List DVal) (v:DVal) (H':Ac):Prop:=
 (n=0/\cs= []/\v= .nilSlice/\H'=H)\/ ∃r,H r=none/\cs.length=n*size/\v= .oslice size r 0 n n/\H'=upd H r (some (.cells cs e))
section
variable {P:Program} {G:Nat->DVal} {Q:DExit->DS->Prop}
theorem Cl7 {α:Type} {f:Nat->α} {r:Nat} {x:α} (h:f r=x):upd f r x=f:=by
 funext i;simp only[upd];split
 ·rename_i e;rw[e,h]
 ·rfl
theorem Xw {e:TypeId} {size bytes r off len lo n:Nat} {news:List DVal} {dst:Option Nat} {K:DK} {s:DS} {cs:List DVal} (h:len+n<=lo):
  Lq e size bytes r off len lo n news dst K s (some (.cells cs e))=(off+(len+n)*size<=cs.length/\
    K ⟨Ev s.env dst (.oslice size r off (len+n) lo),upd s.heap r (some (.cells (Cz cs (off+len*size) news) e))⟩):=by
 simp only[Lq,true_and,eq_iff_iff];exact⟨fun k=>k.1 h,fun k=>⟨fun _=>k,fun hn=>(hn h).elim⟩⟩
theorem Uk {e:TypeId} {size bytes r len lo n:Nat} {news:List DVal} {dst:Option Nat} {K:DK} {s:DS} {cs:List DVal} (hle:len<=lo) (h:lo<len+n):
  Lq e size bytes r 0 len lo n news dst K s (some (.cells cs e))=(len*size<=cs.length/\(len+n)*bytes<=35184372088832/\ ∀r',upd s.heap r none r'=none->
    K ⟨Ev s.env dst (.oslice size r' 0 (len+n) (len+n)),upd (upd s.heap r none) r' (some (.cells (cs.take (len*size)++news) e))⟩):=by
 simp only[Lq,true_and,eq_iff_iff,hle,true_or,if_true];have hn: ¬len+n<=lo:=by omega
 refine⟨fun k=> ?_,fun k=>⟨fun hh=>(hn hh).elim,fun _=> ?_⟩⟩
 ·obtain⟨k1,k2,k3⟩:=k.2 hn;refine⟨by omega,k2,fun r' hr=> ?_⟩;have:=k3 r' [] hr (fun _=>rfl);simpa using this
 ·obtain⟨k1,k2,k3⟩:=k;refine⟨by omega,k2,fun r' pre hr hp=> ?_⟩;have hpre:=hp trivial;subst hpre;have:=k3 r' hr;simpa using this
theorem Hz.slice {H:Ac} {e:TypeId} {size n lo:Nat} {cs rest:List DVal} {r:Nat} (hr:H r=none) (hl:cs.length=n*size):Hz (upd H r (some (.cells (cs++rest) e))) (.oslice size r 0 n lo) H (.vslice cs n):=by
 have:=Hz.fz (v:= .oslice size r 0 n lo) (Aa H r (some (.cells (cs++rest) e)));rw[Ih hr] at this;simp only[Dl.fz,if_pos,List.drop_zero] at this;rw[List.take_append_of_le_length (by omega),List.take_of_length_le (by omega)] at this;exact this
theorem Dn4.ghost {H H0:Ac} {e:TypeId} {size n:Nat} {cs:List DVal} {v:DVal} (hv:Dn4 H e size n cs v H0):Hz H0 v H (.vslice cs n):=by
 rcases hv with⟨rfl,rfl,rfl,rfl⟩ | ⟨r,hr,hl,rfl,rfl⟩
 ·intro w hw;refine⟨hw,fun _ h=>h,fun x hx=> ?_⟩;simp only[Rel] at hx⊢
  exact⟨none,0,hx,Nat.le_refl _, .inl (by simp)⟩
 ·have:=Hz.fz (v:= .oslice size r 0 n n) (Aa H r (some (.cells cs e)));rw[Ih hr] at this;simp only[fz,if_pos,List.drop_zero] at this;rw[List.take_of_length_le (by omega)] at this;exact this
end
def DLe (d d':DVal):Prop:= ∀(w:World) (H:Ac) (x:Value),Rel w H d x->Rel w H d' x
def Bn5 (ds ds':List DVal):Prop:= ∀(w:World) (H:Ac) (x:List Value),Aq w H ds x->Aq w H ds' x
theorem DLe.refl (d:DVal):DLe d d:=fun _ _ _ h=>h
theorem Bn5.nil:Bn5 [] []:=fun _ _ _ h=>h
theorem Bn5.refl (ds:List DVal):Bn5 ds ds:=fun _ _ _ h=>h
theorem Bn5.cons {d d':DVal} {ds ds':List DVal} (h:DLe d d') (k:Bn5 ds ds'):Bn5 (d::ds) (d'::ds'):=fun w H x hx=>by
 simp only[Aq] at hx⊢
 obtain⟨y,ys,rfl,h1,h2⟩:=hx;exact⟨y,ys,rfl,h _ _ _ h1,k _ _ _ h2⟩
theorem DLe.nil:DLe .nilSlice (.vslice [] 0):=fun w H x hx=>by
 simp only[Rel] at hx⊢
 exact⟨none,0,hx,Nat.le_refl _, .inl (by simp)⟩
theorem DLe.tuple {cs cs':List DVal} (h:Bn5 cs cs'):DLe (.tuple cs) (.tuple cs'):=fun w H x hx=>by
 simp only[Rel] at hx⊢
 obtain⟨xs,rfl,h1⟩:=hx;exact⟨xs,rfl,h _ _ _ h1⟩
theorem DLe.agg {cs cs':List DVal} (h:Bn5 cs cs'):DLe (.agg cs) (.agg cs'):=fun w H x hx=>by
 simp only[Rel] at hx⊢
 obtain⟨xs,rfl,h1⟩:=hx;exact⟨xs,rfl,h _ _ _ h1⟩
theorem Bb3 {H H':Ac} (h: ∀r o,H' r=some o->H r=some o) {b:Nat} (hb:H b=none):H' b=none:=by
 cases e:H' b with
 | none=>rfl
 | some o=>rw[h b o e] at hb;cases hb
theorem Jp {H H':Ac} (h: ∀r o,H' r=some o->H r=some o) (w:World):Lasts H w H' w:=
 ⟨fun b i x hb hc=>⟨Bb3 h hb,hc⟩,Nat.le_refl _,fun _ _=>rfl⟩
theorem Hz.sub {H H':Ac} (h: ∀r o,H' r=some o->H r=some o) (v:DVal):Hz H v H' v:=fun w hw=>
 ⟨fun r o ho=>(hw r o (h r o ho)).lasts (Jp h w),fun b hb e=>hb (Bb3 h e),fun x hx=>Rel.lasts (Jp h w) _ _ hx⟩
theorem Nu.sub {R:DEnd->Ac->Prop} {v:DVal} {H H':Ac} (h: ∀r o,H' r=some o->H r=some o) (k:Nu R v H'):Nu R v H:= .ghost (.sub h v) k
theorem Ae {α:Type} {H:Nat->Option α} {a b:Nat} {o:α} (ha:H a=none) (hb:H b=some o):b≠a:=fun e=>by rw[e,ha] at hb;cases hb
theorem Su (r:Nat) (cs:List DVal) (l m:List DVal):fzs r cs (l++m)=fzs r cs l++fzs r cs m:=by
 induction l with
 | nil=>simp [fzs]
 | cons d l ih=>simp [fzs,ih]
theorem Ai.leArgs {P:Program} {G:Nat->DVal} {f:FuncId} {args args':List DVal} {H:Ac} {R:DEnd->Ac->Prop} (g:Bn5 args args') (h:Ai P G f args' H R):Ai P G f args H R:=
 .pre (fun w hw=>⟨hw,fun _ h=>h,fun x hx=>DLe.tuple g _ _ _ hx⟩) h
theorem Cx1 {α:Type} (f:α->DVal) (h: ∀x,(f x).one=true) (l:List α):(l.map f).all (fun d=>d.one)=true:=by
 induction l with
 | nil=>rfl
 | cons x l ih=>simp [h,ih]
theorem Cl8 (l:List Int):(l.map dI).all (fun d=>d.one)=true:=Cx1 dI (fun _=>rfl) l
theorem At5 {α:Type} (f:α->DVal) (l:List α):(l.map f).take l.length=l.map f:=by
 rw[List.take_of_length_le (by simp)]
theorem Bb4 {α:Type} (p:α->Bool) (x:α):Option.all p (some x)=p x:=rfl
attribute [go_sem] Xw Uk Cl8 At5 Bb4
end Go.Dl

-- THE DATA LEVEL: the lemmas that the long simp call (simp (disch := omega) only [go_sem] in fill.py) takes besides the equations.
namespace Go.Dl
open Go
attribute [go_sem] Int.toNat_natCast Int.sub_zero Int.zero_add Int.add_zero Nat.add_sub_cancel Cb8 List.length_cons List.length_nil List.all_cons List.all_nil Bool.and_true Bool.true_and Bool.or_false Bool.false_or
attribute [go_sem] List.take_succ_cons List.take_zero List.drop_succ_cons List.drop_zero decide_true decide_false Nat.mul_one Nat.one_mul Nat.zero_add Nat.add_zero Nat.mul_zero Nat.zero_mul Bool.not_true Bool.not_false
attribute [go_sem] Option.map_some Option.map_none Nat.le_refl Nat.zero_lt_succ ne_eq not_true_eq_false not_false_eq_true Option.isSome_some Dh6 Ck2 Cb9 true_imp_iff false_imp_iff beq_self_eq_true forall_const Ba2 List.length_map
end Go.Dl

-- Facts on the types of this seat, each by the kernel. MADE BY PROGRAM (facts.py).
namespace Go.Dl
open Go Go.Proofs
theorem Cx2:Tryz.prog.cellsOf 2=1:=by kernel_rfl
theorem Di2:(Tryz.prog.info? 2).isSome=true:=by kernel_rfl
theorem Dn5:Ep Tryz.prog 2=some false:=by kernel_rfl
theorem Cx3:Tryz.prog.cellsOf 3=1:=by kernel_rfl
theorem Cx4:Tryz.prog.bytesOf 3=8:=by kernel_rfl
theorem Di3:(Tryz.prog.info? 3).isSome=true:=by kernel_rfl
theorem Dn6:Ep Tryz.prog 3=some false:=by kernel_rfl
theorem Di4:Bj Tryz.prog 3=some (.int .i64 0):=by kernel_rfl
theorem Cx5:Tryz.prog.cellsOf 4=1:=by kernel_rfl
theorem Di5:(Tryz.prog.info? 4).isSome=true:=by kernel_rfl
theorem Dn7:Ep Tryz.prog 4=some false:=by kernel_rfl
theorem Cx6:Tryz.prog.cellsOf 9=1:=by kernel_rfl
theorem Di6:(Tryz.prog.info? 9).isSome=true:=by kernel_rfl
theorem Dn8:Ep Tryz.prog 9=some false:=by kernel_rfl
theorem Di7:Bj Tryz.prog 9=some (.str []):=by kernel_rfl
theorem Cl9:Tryz.prog.cellsOf 22=1:=by kernel_rfl
theorem Cx7:(Tryz.prog.info? 22).isSome=true:=by kernel_rfl
theorem Di8:Ep Tryz.prog 22=some false:=by kernel_rfl
theorem Cm0:Tryz.prog.cellsOf 23=1:=by kernel_rfl
theorem Cx8:(Tryz.prog.info? 23).isSome=true:=by kernel_rfl
theorem Di9:Ep Tryz.prog 23=some false:=by kernel_rfl
theorem Cm1:Tryz.prog.cellsOf 24=1:=by kernel_rfl
theorem Cx9:(Tryz.prog.info? 24).isSome=true:=by kernel_rfl
theorem Dj0:Ep Tryz.prog 24=some false:=by kernel_rfl
theorem Cm2:Tryz.prog.cellsOf 25=1:=by kernel_rfl
theorem Cy0:(Tryz.prog.info? 25).isSome=true:=by kernel_rfl
theorem Dj1:Ep Tryz.prog 25=some false:=by kernel_rfl
theorem Cm3:Tryz.prog.cellsOf 27=9:=by kernel_rfl
theorem Cm4:Tryz.prog.bytesOf 27=104:=by kernel_rfl
theorem Cy1:(Tryz.prog.info? 27).isSome=true:=by kernel_rfl
theorem Dj2:Ep Tryz.prog 27=some true:=by kernel_rfl
theorem Dj3:Ik Tryz.prog 27=true:=by kernel_rfl
theorem Cy2:Bj Tryz.prog 27=some (.agg [.int .u8 0, .int .u8 0, .int .i64 0, .str [], .nilSlice, .nilSlice, .int .i64 0, .int .i64 0, .int .i64 0]):=by kernel_rfl
theorem Cm5:Tryz.prog.cellsOf 29=1:=by kernel_rfl
theorem Cy3:(Tryz.prog.info? 29).isSome=true:=by kernel_rfl
theorem Dj4:Ep Tryz.prog 29=some false:=by kernel_rfl
theorem Cm6:Tryz.prog.cellsOf 31=4:=by kernel_rfl
theorem Cm7:Tryz.prog.bytesOf 31=40:=by kernel_rfl
theorem Cy4:(Tryz.prog.info? 31).isSome=true:=by kernel_rfl
theorem Dj5:Ep Tryz.prog 31=some true:=by kernel_rfl
theorem Dj6:Ik Tryz.prog 31=true:=by kernel_rfl
theorem Cy5:Bj Tryz.prog 31=some (.agg [.int .u8 0, .int .i64 0, .str [], .int .i64 0]):=by kernel_rfl
theorem Cm8:Tryz.prog.cellsOf 32=1:=by kernel_rfl
theorem Cy6:(Tryz.prog.info? 32).isSome=true:=by kernel_rfl
theorem Dj7:Ep Tryz.prog 32=some false:=by kernel_rfl
theorem Cm9:Tryz.prog.cellsOf 36=1:=by kernel_rfl
theorem Cy7:(Tryz.prog.info? 36).isSome=true:=by kernel_rfl
theorem Dj8:Ep Tryz.prog 36=some false:=by kernel_rfl
theorem Cy8:Bj Tryz.prog 36=some (.int .i64 0):=by kernel_rfl
theorem Cn0:Tryz.prog.cellsOf 41=1:=by kernel_rfl
theorem Cy9:(Tryz.prog.info? 41).isSome=true:=by kernel_rfl
theorem Dj9:Ep Tryz.prog 41=some false:=by kernel_rfl
theorem Cn1:Tryz.prog.cellsOf 44=10:=by kernel_rfl
theorem Cn2:Tryz.prog.bytesOf 44=128:=by kernel_rfl
theorem Cz0:(Tryz.prog.info? 44).isSome=true:=by kernel_rfl
theorem Dk0:Ep Tryz.prog 44=some true:=by kernel_rfl
theorem Dk1:Ik Tryz.prog 44=true:=by kernel_rfl
theorem Cz1:Bj Tryz.prog 44=some (.agg [.nilSlice, .int .u8 0, .int .u8 0, .int .i64 0, .str [], .nilSlice, .nilSlice, .int .i64 0, .int .i64 0, .int .i64 0]):=by kernel_rfl
theorem Cn3:Tryz.prog.cellsOf 45=1:=by kernel_rfl
theorem Cz2:(Tryz.prog.info? 45).isSome=true:=by kernel_rfl
theorem Dk2:Ep Tryz.prog 45=some false:=by kernel_rfl
theorem Cz3:Bj Tryz.prog 45=some (.int .u8 0):=by kernel_rfl
theorem Cn4:Tryz.prog.cellsOf 47=2:=by kernel_rfl
theorem Cn5:Tryz.prog.bytesOf 47=32:=by kernel_rfl
theorem Cz4:(Tryz.prog.info? 47).isSome=true:=by kernel_rfl
theorem Dk3:Ep Tryz.prog 47=some true:=by kernel_rfl
theorem Dk4:Ik Tryz.prog 47=true:=by kernel_rfl
theorem Cz5:Bj Tryz.prog 47=some (.agg [.int .u8 0, .nilSlice]):=by kernel_rfl
theorem Cn6:Tryz.prog.cellsOf 67=1:=by kernel_rfl
theorem Cz6:(Tryz.prog.info? 67).isSome=true:=by kernel_rfl
theorem Dk5:Ep Tryz.prog 67=some false:=by kernel_rfl
theorem Cz7:Bj Tryz.prog 67=some (.nilFunc):=by kernel_rfl
theorem Cn7:Tryz.prog.cellsOf 73=1:=by kernel_rfl
theorem Cz8:(Tryz.prog.info? 73).isSome=true:=by kernel_rfl
theorem Dk6:Ep Tryz.prog 73=some false:=by kernel_rfl
theorem Cz9:Bj Tryz.prog 73=some (.nilFunc):=by kernel_rfl
theorem Dk7:Ik Tryz.prog 89=true:=by kernel_rfl
theorem Da0:Bj Tryz.prog 89=some (.agg [.nilSlice, .int .i64 0, .bool false]):=by kernel_rfl
theorem Da1:Ik Tryz.prog 106=true:=by kernel_rfl
theorem Cn8:Bj Tryz.prog 106=some (.agg [.nilSlice, .int .i64 0]):=by kernel_rfl
theorem Cc5:Tryz.prog.cellsOf 110=1:=by kernel_rfl
theorem Cn9:(Tryz.prog.info? 110).isSome=true:=by kernel_rfl
theorem Da2:Ik Tryz.prog 110=true:=by kernel_rfl
theorem Co0:Bj Tryz.prog 110=some (.agg [.int .i64 0]):=by kernel_rfl
theorem Cc6:Tryz.prog.cellsOf 116=1:=by kernel_rfl
theorem Co1:(Tryz.prog.info? 116).isSome=true:=by kernel_rfl
theorem Da3:Ep Tryz.prog 116=some false:=by kernel_rfl
theorem Co2:Bj Tryz.prog 116=some (.nilMap):=by kernel_rfl
theorem Da4:Ik Tryz.prog 122=true:=by kernel_rfl
theorem Co3:Bj Tryz.prog 122=some (.agg [.nilSlice]):=by kernel_rfl
theorem Cc7:Tryz.prog.cellsOf 138=1:=by kernel_rfl
theorem Co4:(Tryz.prog.info? 138).isSome=true:=by kernel_rfl
theorem Da5:Ep Tryz.prog 138=some false:=by kernel_rfl
theorem Co5:Bj Tryz.prog 138=some (.nilSlice):=by kernel_rfl
attribute [go_sem] Tryz.underlying0 Tryz.underlying1
attribute [go_sem] Cx2 Di2 Dn5 Tryz.underlying2 Cx3 Cx4 Di3 Dn6 Di4 Tryz.underlying3
attribute [go_sem] Cx5 Di5 Dn7 Tryz.underlying4 Tryz.underlying5
attribute [go_sem] Tryz.underlying6 Tryz.eqGuardType7
attribute [go_sem] Tryz.stoodInHeld7 Tryz.underlying7 Tryz.eqGuardType8 Tryz.stoodInHeld8 Tryz.underlying8
attribute [go_sem] Cx6 Di6 Dn8 Di7 Tryz.underlying9 Tryz.underlying10
attribute [go_sem] Tryz.underlying11 Tryz.underlying12
attribute [go_sem] Tryz.eqGuardType13 Tryz.stoodInHeld13 Tryz.underlying13
attribute [go_sem] Tryz.eqGuardType14 Tryz.stoodInHeld14 Tryz.underlying14 Tryz.underlying15
attribute [go_sem] Tryz.underlying16 Tryz.underlying17
attribute [go_sem] Tryz.eqGuardType18 Tryz.stoodInHeld18 Tryz.underlying18
attribute [go_sem] Tryz.eqGuardType19 Tryz.stoodInHeld19 Tryz.underlying19 Tryz.underlying20
attribute [go_sem] Tryz.underlying21 Cl9 Cx7 Di8 Tryz.underlying22
attribute [go_sem] Cm0 Cx8 Di9 Tryz.underlying23 Cm1 Cx9 Dj0 Tryz.underlying24
attribute [go_sem] Cm2 Cy0 Dj1 Tryz.underlying25 Tryz.eqGuardType26
attribute [go_sem] Tryz.stoodInHeld26 Tryz.underlying26 Cm3 Cm4 Cy1 Dj2 Dj3 Tryz.eqGuardType27 Tryz.stoodInHeld27 Cy2 Tryz.underlying27
attribute [go_sem] Tryz.underlying28 Cm5 Cy3 Dj4 Tryz.underlying29
attribute [go_sem] Tryz.eqGuardType30 Tryz.stoodInHeld30 Tryz.underlying30 Cm6 Cm7 Cy4
attribute [go_sem] Dj5 Dj6 Tryz.eqGuardType31 Tryz.stoodInHeld31 Cy5 Tryz.underlying31 Cm8 Cy6 Dj7 Tryz.underlying32
attribute [go_sem] Tryz.underlying33 Tryz.underlying34
attribute [go_sem] Tryz.underlying35 Cm9 Cy7 Dj8 Cy8 Tryz.underlying36
attribute [go_sem] Tryz.underlying37 Tryz.underlying38
attribute [go_sem] Tryz.underlying39 Tryz.underlying40
attribute [go_sem] Cn0 Cy9 Dj9 Tryz.underlying41 Tryz.underlying42
attribute [go_sem] Tryz.eqGuardType43 Tryz.stoodInHeld43 Tryz.underlying43 Cn1 Cn2 Cz0
attribute [go_sem] Dk0 Dk1 Tryz.eqGuardType44 Tryz.stoodInHeld44 Cz1 Tryz.underlying44 Cn3 Cz2 Dk2 Cz3 Tryz.underlying45
attribute [go_sem] Tryz.eqGuardType46 Tryz.stoodInHeld46 Tryz.underlying46 Cn4 Cn5 Cz4
attribute [go_sem] Dk3 Dk4 Tryz.eqGuardType47 Tryz.stoodInHeld47 Cz5 Tryz.underlying47 Tryz.underlying48
attribute [go_sem] Tryz.underlying49 Tryz.underlying50
attribute [go_sem] Tryz.underlying51 Tryz.underlying52
attribute [go_sem] Tryz.underlying53 Tryz.underlying54
attribute [go_sem] Tryz.underlying55 Tryz.underlying56
attribute [go_sem] Tryz.underlying57 Tryz.underlying58
attribute [go_sem] Tryz.underlying59 Tryz.underlying60
attribute [go_sem] Tryz.underlying61 Tryz.underlying62
attribute [go_sem] Tryz.underlying63 Tryz.underlying64
attribute [go_sem] Tryz.underlying65 Tryz.underlying66
attribute [go_sem] Cn6 Cz6 Dk5 Cz7 Tryz.underlying67 Tryz.underlying68
attribute [go_sem] Tryz.underlying69 Tryz.underlying70
attribute [go_sem] Tryz.underlying71 Tryz.underlying72
attribute [go_sem] Cn7 Cz8 Dk6 Cz9 Tryz.underlying73 Tryz.underlying74
attribute [go_sem] Tryz.underlying75 Tryz.underlying76
attribute [go_sem] Tryz.underlying77 Tryz.underlying78
attribute [go_sem] Tryz.underlying79 Tryz.underlying80
attribute [go_sem] Tryz.underlying81 Tryz.underlying82
attribute [go_sem] Tryz.underlying83 Tryz.underlying84
attribute [go_sem] Tryz.underlying85 Tryz.underlying86
attribute [go_sem] Tryz.underlying87 Tryz.eqGuardType88
attribute [go_sem] Tryz.stoodInHeld88 Tryz.underlying88 Dk7 Tryz.eqGuardType89 Tryz.stoodInHeld89 Da0 Tryz.underlying89
attribute [go_sem] Tryz.underlying90 Tryz.underlying91
attribute [go_sem] Tryz.underlying92 Tryz.underlying93
attribute [go_sem] Tryz.underlying94 Tryz.underlying95
attribute [go_sem] Tryz.underlying96 Tryz.underlying97
attribute [go_sem] Tryz.underlying98 Tryz.underlying99
attribute [go_sem] Tryz.underlying100 Tryz.underlying101
attribute [go_sem] Tryz.underlying102 Tryz.underlying103
attribute [go_sem] Tryz.underlying104 Tryz.eqGuardType105
attribute [go_sem] Tryz.stoodInHeld105 Tryz.underlying105 Da1 Tryz.eqGuardType106 Tryz.stoodInHeld106 Cn8 Tryz.underlying106
attribute [go_sem] Tryz.underlying107 Tryz.underlying108
attribute [go_sem] Tryz.eqGuardType109 Tryz.stoodInHeld109 Tryz.underlying109 Cc5 Cn9
attribute [go_sem] Da2 Tryz.eqGuardType110 Tryz.stoodInHeld110 Co0 Tryz.underlying110 Tryz.underlying111
attribute [go_sem] Tryz.underlying112 Tryz.underlying113
attribute [go_sem] Tryz.underlying114 Tryz.underlying115
attribute [go_sem] Cc6 Co1 Da3 Co2 Tryz.underlying116 Tryz.underlying117
attribute [go_sem] Tryz.underlying118 Tryz.underlying119
attribute [go_sem] Tryz.underlying120 Tryz.eqGuardType121
attribute [go_sem] Tryz.stoodInHeld121 Tryz.underlying121 Da4 Tryz.eqGuardType122 Tryz.stoodInHeld122 Co3 Tryz.underlying122
attribute [go_sem] Tryz.underlying123 Tryz.underlying124
attribute [go_sem] Tryz.underlying125 Tryz.underlying126
attribute [go_sem] Tryz.underlying127 Tryz.underlying128
attribute [go_sem] Tryz.underlying129 Tryz.underlying130
attribute [go_sem] Tryz.underlying131 Tryz.underlying132
attribute [go_sem] Tryz.underlying133 Tryz.underlying134
attribute [go_sem] Tryz.underlying135 Tryz.underlying136
attribute [go_sem] Tryz.underlying137 Cc7 Co4 Da5 Co5 Tryz.underlying138
attribute [go_sem] Tryz.underlying139 Tryz.underlying140
attribute [go_sem] Tryz.underlying141 Tryz.underlying142
attribute [go_sem] Tryz.underlying143 Tryz.underlying144
attribute [go_sem] Tryz.underlying145 Tryz.underlying146
attribute [go_sem] Tryz.underlying147 Tryz.underlying148
attribute [go_sem] Tryz.underlying149 Tryz.underlying150
attribute [go_sem] Tryz.underlying151 Tryz.underlying152
attribute [go_sem] Tryz.underlying153 Tryz.underlying154
attribute [go_sem] Tryz.underlying155 Tryz.underlying156
attribute [go_sem] Tryz.underlying157 Tryz.underlying158
attribute [go_sem] Tryz.underlying159 Tryz.underlying160
attribute [go_sem] Tryz.underlying161 Tryz.underlying162
attribute [go_sem] Tryz.underlying163 Tryz.eqGuardType164
attribute [go_sem] Tryz.underlying164 Tryz.underlying165
attribute [go_sem] Tryz.underlying166 Tryz.underlying167
attribute [go_sem] Tryz.eqGuardType168 Tryz.stoodInHeld168 Tryz.underlying168 Tryz.eqGuardType169 Tryz.stoodInHeld169
attribute [go_sem] Tryz.underlying169 Tryz.underlying170
attribute [go_sem] Tryz.underlying171 Tryz.underlying172
attribute [go_sem] Tryz.underlying173 Tryz.underlying174
attribute [go_sem] Tryz.eqGuardType175 Tryz.stoodInHeld175 Tryz.underlying175 Tryz.eqGuardType176 Tryz.stoodInHeld176
attribute [go_sem] Tryz.underlying176 Tryz.underlying177
attribute [go_sem] Tryz.eqGuardType178 Tryz.stoodInHeld178 Tryz.underlying178 Tryz.eqGuardType179 Tryz.stoodInHeld179
attribute [go_sem] Tryz.underlying179 Tryz.underlying180
attribute [go_sem] Tryz.eqGuardType181 Tryz.stoodInHeld181 Tryz.underlying181 Tryz.eqGuardType182 Tryz.stoodInHeld182
attribute [go_sem] Tryz.underlying182 Tryz.underlying183
attribute [go_sem] Tryz.underlying184 Tryz.underlying185
attribute [go_sem] Tryz.eqGuardType186 Tryz.stoodInHeld186 Tryz.underlying186 Tryz.eqGuardType187 Tryz.stoodInHeld187
attribute [go_sem] Tryz.underlying187 Tryz.eqGuardType188 Tryz.underlying188
attribute [go_sem] Tryz.eqGuardType189 Tryz.stoodInHeld189 Tryz.underlying189 Tryz.eqGuardType190
attribute [go_sem] Tryz.stoodInHeld190 Tryz.underlying190 Tryz.underlying191
attribute [go_sem] Tryz.underlying192 Tryz.underlying193
attribute [go_sem] Tryz.underlying194 Tryz.underlying195
attribute [go_sem] Tryz.underlying196 Tryz.eqGuardType197 Tryz.stoodInHeld197 Tryz.underlying197
attribute [go_sem] Tryz.eqGuardType198 Tryz.stoodInHeld198 Tryz.underlying198
attribute [go_sem] Tryz.underlying199 Tryz.results0 Tryz.results1 Tryz.results2 Tryz.results3 Tryz.results4 Tryz.results5 Tryz.results6 Tryz.results7 Tryz.results8
attribute [go_sem] Tryz.results9 Tryz.results10 Tryz.results11 Tryz.results12 Tryz.results13 Tryz.results14 Tryz.results15 Tryz.results16 Tryz.results17 Tryz.results18 Tryz.results19 Tryz.results20
attribute [go_sem] Tryz.results21 Tryz.results22 Tryz.results23 Tryz.results24 Tryz.results25 Tryz.results26 Tryz.results27 Tryz.results28 Tryz.results29 Tryz.results30 Tryz.results31 Tryz.results32
attribute [go_sem] Tryz.results33 Tryz.results34 Tryz.results35 Tryz.results36 Tryz.results37 Tryz.results38 Tryz.results39 Tryz.results40 Tryz.results41 Tryz.results42 Tryz.results43 Tryz.results44
attribute [go_sem] Tryz.results45 Tryz.results46 Tryz.results47 Tryz.results48 Tryz.results49 Tryz.results50 Tryz.results51 Tryz.results52 Tryz.results53 Tryz.results54 Tryz.results55 Tryz.results56
attribute [go_sem] Tryz.results57 Tryz.results58 Tryz.results59 Tryz.results60 Tryz.results61 Tryz.results62 Tryz.results63 Tryz.results64 Tryz.results65 Tryz.results66 Tryz.results67 Tryz.results68
attribute [go_sem] Tryz.results69 Tryz.results70 Tryz.results71 Tryz.results72 Tryz.results73 Tryz.results74 Tryz.results75 Tryz.results76 Tryz.results77 Tryz.results78 Tryz.results79 Tryz.results80
attribute [go_sem] Tryz.results81 Tryz.results82 Tryz.results83 Tryz.results84 Tryz.results85 Tryz.results86 Tryz.results87 Tryz.results88 Tryz.results89 Tryz.results90 Tryz.results91 Tryz.results92
attribute [go_sem] Tryz.results93 Tryz.results94 Tryz.results95 Tryz.results96 Tryz.results97 Tryz.results98 Tryz.results99 Tryz.results100 Tryz.results101 Tryz.results102 Tryz.results103 Tryz.results104
attribute [go_sem] Tryz.results105 Tryz.results106 Tryz.results107 Tryz.results108 Tryz.results109 Tryz.results110 Tryz.results111 Tryz.results112 Tryz.results113 Tryz.results114 Tryz.results115 Tryz.results116
attribute [go_sem] Tryz.results117 Tryz.results118 Tryz.results119 Tryz.results120 Tryz.results121 Tryz.results122 Tryz.results123 Tryz.results124 Tryz.results125 Tryz.results126 Tryz.results127 Tryz.results128
attribute [go_sem] Tryz.results129 Tryz.results130 Tryz.results131 Tryz.results132 Tryz.results133 Tryz.results134 Tryz.results135 Tryz.results136 Tryz.results137 Tryz.results138 Tryz.results139 Tryz.results140
attribute [go_sem] Tryz.results141 Tryz.results142 Tryz.results143 Tryz.results144 Tryz.results145 Tryz.results146 Tryz.results147 Tryz.results148 Tryz.results149 Tryz.results150 Tryz.results151 Tryz.results152
attribute [go_sem] Tryz.results153 Tryz.results154 Tryz.results155 Tryz.results156 Tryz.results157 Tryz.results158 Tryz.results159 Tryz.results160 Tryz.results161 Tryz.results162 Tryz.results163 Tryz.results164
attribute [go_sem] Tryz.results165 Tryz.results166 Tryz.results167 Tryz.results168 Tryz.results169 Tryz.results170 Tryz.results171 Tryz.results172 Tryz.results173 Tryz.results174 Tryz.results175 Tryz.results176
attribute [go_sem] Tryz.results177 Tryz.results178 Tryz.results179 Tryz.results180 Tryz.results181 Tryz.results182 Tryz.results183 Tryz.results184 Tryz.results185 Tryz.results186 Tryz.results187 Tryz.results188
attribute [go_sem] Tryz.results189 Tryz.results190 Tryz.results191 Tryz.results192 Tryz.results193 Tryz.results194 Tryz.results195 Tryz.results196 Tryz.results197 Tryz.results198 Tryz.results199 Tryz.results200
attribute [go_sem] Tryz.results201 Tryz.results202 Tryz.results203 Tryz.results204 Tryz.results205
end Go.Dl

-- THE LIBRARY's FUNCTIONS AT THE DATA LEVEL: what is common to all of them.
namespace Go.Dl
open Go Go.Proofs
set_option maxRecDepth 10000
section
variable {P:Program} {G:Nat->DVal}
structure Quiet (w w':World):Prop where
 os:w'.os=w.os
 tape:w'.tape=w.tape
 output:w'.output=w.output
 size:w.heap.size<=w'.heap.size
 block: ∀b,b<w.heap.size->w'.heap[b]? =w.heap[b]?
theorem Quiet.below {w w':World} (h:RowKit.Below w.heap.size w w'):Quiet w w':=⟨h.os,h.tape,h.output,h.size,h.block⟩
theorem Quiet.ext {w w':World} {H:Ac} (hH:Av w H) (h:Quiet w w'):Av w' H/\Ext H w H w':=by
 have hE:Ext H w H w':=⟨h.os,h.tape,h.output,h.size,fun b hb _=>h.block b hb,fun b hb=> .inl hb,fun b hb=>by rw[h.block b hb],fun a ha _=>by unfold World.frozen?;rw[h.block _ ha]⟩;refine⟨fun r o ho=> ?_,hE⟩;rw[h.block r (hH.lt (by simp [ho]))];exact(hH r o ho).lasts hE.lasts
theorem Cc8 {w:World} {H:Ac} {g:Nat} {cs:List DVal} {name:String} {k:IntKind} {zs:List Int} (hg:P.globalNamed name=some g) (h:Rel w H (.vptr cs 0) (.pointer (some ⟨g,0,none⟩)))
  (hcs:cs=zs.map fun z=> .int k z): ∀i z,zs[i]? =some z->w.cell? ⟨g,i,none⟩=some (.int k z):=by
 simp only[Rel] at h;obtain⟨b,o,xs,e,hc,hr⟩:=h;simp only[Value.pointer.injEq,Option.some.injEq,Addr.mk.injEq,Nat.add_zero,and_true] at e;obtain⟨rfl,rfl⟩:=e;intro i z hz;have h1:cs[i]? =some (.int k z):=by rw[hcs];simp [hz]
 obtain⟨y,hy,hrel⟩:=hr.get h1;simp only[Rel] at hrel;subst hrel;have:=hc.holds i _ hy;simpa using this
end
section
end
end Go.Dl

-- General plain laws: cells of lists of structs, positions, texts of integers, pieces.
namespace Go.Dl
open Go Go.Proofs
set_option maxRecDepth 10000
section
variable {α:Type} {c:α->List DVal} {k:Nat}
theorem An (hk: ∀x,(c x).length=k) (l:List α):(l.flatMap c).length=l.length*k:=by
 induction l with
 | nil=>simp
 | cons x l ih=>simp [List.flatMap_cons,ih,hk,Nat.add_mul];omega
theorem An3 (hk: ∀x,(c x).length=k): ∀(l:List α) (i:Nat),(l.flatMap c).drop (i*k)=(l.drop i).flatMap c
 | l,0=>by simp
 | [],i+1=>by simp
 | x::l,i+1=>by
  rw[List.flatMap_cons,show(i+1)*k=(c x).length+i*k by rw[hk,Nat.add_mul];omega,List.drop_append,List.drop_succ_cons,<-An3 hk l i];simp
theorem Bt (hk: ∀x,(c x).length=k) (l:List α) (i:Nat) (h:i<l.length):((l.flatMap c).drop (i*k)).take k=c l[i]:=by
 rw[An3 hk,List.drop_eq_getElem_cons h,List.flatMap_cons,List.take_append_of_le_length (by rw[hk];omega),List.take_of_length_le (by rw[hk];omega)]
theorem Bs (hk: ∀x,(c x).length=k) (l:List α) (i:Nat) (h:i<l.length) (j:Nat) (hj:j<k):(l.flatMap c)[i*k+j]? =(c l[i])[j]? :=by
 rw[<-Bt hk l i h,List.getElem?_take,if_pos hj,List.getElem?_drop]
end
def At6 {α:Type} (p:α->Bool) (l:List α):Int:=match l.findIdx? p with | some i=>(i:Int) | none=> -1
theorem At7 {α:Type} {p:α->Bool} {l:List α} {i:Nat} (h:i<l.length) (hp:p l[i]=true) (hn: ∀x∈l.take i,p x=false):At6 p l=i:=by
 have:l.findIdx? p=some i:=by
  rw[List.findIdx?_eq_some_iff_getElem];exact⟨h,hp,fun j hj=>by have:=hn l[j] (List.mem_take_iff_getElem.2 ⟨j,by omega,rfl⟩);simp [this]⟩
 rw[At6,this]
theorem At8 {α:Type} {p:α->Bool} {l:List α} (hn: ∀x∈l,p x=false):At6 p l= -1:=by
 have:l.findIdx? p=none:=by rw[List.findIdx?_eq_none_iff];intro x hx;rw[hn x hx]
 rw[At6,this]
theorem Ad3 {α:Type} (p:α->Bool) (l:List α):decide (0<=At6 p l)=l.any p:=by
 unfold At6;cases h:l.findIdx? p with
 | some i=>
  obtain⟨h1,h2,_⟩:=List.findIdx?_eq_some_iff_getElem.1 h;have:l.any p=true:=List.any_eq_true.2 ⟨_,List.getElem_mem h1,h2⟩;rw[this];simp
 | none=>
  rw[List.findIdx?_eq_none_iff] at h;have:l.any p=false:=by rw[List.any_eq_false];intro x hx;rw[h x hx];simp
  rw[this];rfl
theorem It {α:Type} {p:α->Prop} {l:List α} {i:Nat} (h:i<l.length) (hn: ∀x∈l.take i,p x) (hx:p l[i]): ∀x∈l.take (i+1),p x:=by
 intro x hm;rw[List.take_succ_eq_append_getElem h,List.mem_append,List.mem_singleton] at hm;rcases hm with hm | rfl
 ·exact hn x hm
 ·exact hx
theorem Lw {c d:UInt8} (h:c≠d): ¬(c.toNat:Int)=(d.toNat:Int):=fun e=>h (UInt8.toNat_inj.1 (by omega))
def Rz (l:List (List UInt8)):DVal:= .vslice (l.map .str) l.length
end Go.Dl

-- Rows of the call's own: a list of lists of ints, each in a block of its own.
namespace Go.Dl
open Go
def Ul:DVal->Bool
 | .bool _ | .int _ _ | .str _ | .nilPtr | .nilSlice | .nilMap | .nilFunc | .nilIface=>true
 | .optr _ _ | .oslice _ _ _ _ _ | .omap _=>true
 | .tuple l=>looses l
 | .agg l=>looses l
 | _=>false
where looses:List DVal->Bool
 | []=>true
 | d::ds=>Ul d&&looses ds
mutual
theorem Rm {w:World} {H H':Ac}: ∀(d:DVal) (v:Value),Ul d=true->Rel w H d v->Rel w H' d v
 | .tuple l,v,hp,h=>by
  simp only[Ul] at hp
  simp only[Rel] at h⊢
  obtain⟨x,rfl,h1⟩:=h
  exact⟨x,rfl,Jq _ _ hp h1⟩
 | .agg l,v,hp,h=>by
  simp only[Ul] at hp
  simp only[Rel] at h⊢
  obtain⟨x,rfl,h1⟩:=h
  exact⟨x,rfl,Jq _ _ hp h1⟩
 | .bool x,v,hp,h=>by simpa [Rel] using h
 | .int x y,v,hp,h=>by simpa [Rel] using h
 | .str x,v,hp,h=>by simpa [Rel] using h
 | .nilPtr,v,hp,h=>by simpa [Rel] using h
 | .nilSlice,v,hp,h=>by simpa [Rel] using h
 | .nilMap,v,hp,h=>by simpa [Rel] using h
 | .nilFunc,v,hp,h=>by simpa [Rel] using h
 | .nilIface,v,hp,h=>by simpa [Rel] using h
 | .optr _ _,v,hp,h=>by simpa [Rel] using h
 | .oslice _ _ _ _ _,v,hp,h=>by simpa [Rel] using h
 | .omap _,v,hp,h=>by simpa [Rel] using h
 | .raw _,_,hp,_=>by cases hp
 | .vptr _ _,_,hp,_=>by cases hp
 | .vslice _ _,_,hp,_=>by cases hp
 | .func _ _ _,_,hp,_=>by cases hp
 | .iface _ _,_,hp,_=>by cases hp
theorem Jq {w:World} {H H':Ac}: ∀(ds:List DVal) (vs:List Value),Ul.looses ds=true->Aq w H ds vs->Aq w H' ds vs
 | [],_,_,h=>by simpa [Aq] using h
 | d::ds,vs,hp,h=>by
  simp only[Ul.looses,Bool.and_eq_true] at hp
  simp only[Aq] at h⊢
  obtain⟨y,ys,rfl,h1,h2⟩:=h
  exact⟨y,ys,rfl,Rm d y hp.1 h1,Jq ds ys hp.2 h2⟩
end
def Bn6:DObj->Bool
 | .cells cs _=>Ul.looses cs
 | .map es=>es.all fun p=>Ul p.1&&Ul p.2
 | .loop _ _ _=>false
 | .iter _ _=>true
def De8 (H H':Ac):Prop:= ∀r o,H' r=some o->H r=some o\/Bn6 o=true
theorem De8.refl (H:Ac):De8 H H:=fun _ _ h=> .inl h
end Go.Dl

-- THE DATA LEVEL, PART J: slices that are built up beside other memory of the call's own that nobody asks for any more.
namespace Go.Dl
open Go Go.RowKit
theorem Bb5 (H:Ac) (w:World):Lasts H w h0 w:=Jp (fun r o h=>by cases h) w
def Sub (H H':Ac):Prop:= ∀r o,H r=some o->H' r=some o
theorem Sub.refl (H:Ac):Sub H H:=fun _ _ h=>h
theorem Sub.trans {H H' H'':Ac} (h:Sub H H') (k:Sub H' H''):Sub H H'':=fun r o x=>k r o (h r o x)
theorem Sub.lo {H H':Ac} (h:Sub H H') {r:Nat} (hr:H' r=none):H r=none:=by
 cases e:H r with
 | none=>rfl
 | some o=>rw[h r o e] at hr;cases hr
theorem Sub.up {H H':Ac} (h:Sub H H') {r:Nat} (hr:H r=none) (x:Option DObj):Sub H (upd H' r x):=fun b o hb=>by
 have:b≠r:=fun e=>by rw[e,hr] at hb;cases hb
 simp only[upd,if_neg this];exact h b o hb
theorem Sub.new {H H':Ac} (h:Sub H H') {r:Nat} (hr:H' r=none) (x:Option DObj):Sub H (upd H' r x):=h.up (h.lo hr) x
theorem Sub.both {H H':Ac} (h:Sub H H') (r:Nat) (x:Option DObj):Sub (upd H r x) (upd H' r x):=fun b o hb=>by
 simp only[upd] at hb⊢;split<;>rename_i e
 ·rwa [if_pos e] at hb
 ·rw[if_neg e] at hb;exact h b o hb
def Dj (H:Ac) (e:TypeId) (size n:Nat) (cs:List DVal) (v:DVal) (H':Ac):Prop:=
 (n=0/\cs= []/\v= .nilSlice/\Sub H H')\/ ∃r,H r=none/\cs.length=n*size/\v= .oslice size r 0 n n/\H' r=some (.cells cs e)/\Sub H H'
section
variable {P:Program} {G:Nat->DVal} {H H':Ac} {e:TypeId} {size n:Nat} {cs:List DVal} {v:DVal}
theorem Dj.nil (e:TypeId) (size:Nat) (h:Sub H H'):Dj H e size 0 [] .nilSlice H':= .inl ⟨rfl,rfl,rfl,h⟩
theorem Dj.sub (h:Dj H e size n cs v H'):Sub H H':=by
 rcases h with⟨_,_,_,h⟩ | ⟨_,_,_,_,_,h⟩<;>exact h
theorem Dj.keep (h:Dj H e size n cs v H') {r:Nat} {o:DObj} (hr:H r=some o):H' r=some o:=h.sub r o hr
theorem Dj.more (h:Dj H e size n cs v H') {H2:Ac} (k:Sub H' H2):Dj H e size n cs v H2:=by
 rcases h with⟨a,b,c,d⟩ | ⟨r,a,b,c,d,f⟩
 ·exact .inl ⟨a,b,c,d.trans k⟩
 ·exact .inr ⟨r,a,b,c,k _ _ d,f.trans k⟩
theorem Dj.new (h:Dj H e size n cs v H') {r:Nat} (hr:H' r=none) (x:Option DObj):Dj H e size n cs v (upd H' r x):=h.more ((Sub.refl H').up hr x)
theorem Dj.less (h:Dj H e size n cs v H') {H1:Ac} (k:Sub H1 H):Dj H1 e size n cs v H':=by
 rcases h with⟨a,b,c,d⟩ | ⟨r,a,b,c,d,f⟩
 ·exact .inl ⟨a,b,c,k.trans d⟩
 ·exact .inr ⟨r,k.lo a,b,c,d,k.trans f⟩
theorem Dj.frame (h:Dj H e size n cs v H') {r:Nat} (hr:H' r=none) (o:DObj):Dj (upd H r (some o)) e size n cs v (upd H' r (some o)):=by
 rcases h with⟨a,b,c,d⟩ | ⟨r0,a,b,c,d,f⟩
 ·exact .inl ⟨a,b,c,d.both _ _⟩
 ·have:r0≠r:=fun e=>by rw[e,hr] at d;cases d
  exact .inr ⟨r0,by simp [upd,this,a],b,c,by simp [upd,this,d],f.both _ _⟩
theorem Dj.exact (h:Dj H e size n cs v H'): ∃H1,Dn4 H e size n cs v H1/\Sub H1 H':=by
 rcases h with⟨a,b,c,d⟩ | ⟨r,a,b,c,d,f⟩
 ·exact⟨H, .inl ⟨a,b,c,rfl⟩,d⟩
 ·refine⟨_, .inr ⟨r,a,b,c,rfl⟩,fun k o hk=> ?_⟩;simp only[upd] at hk;split at hk
  ·rename_i e;subst e;cases hk;exact d
  ·exact f k o hk
theorem Dj.append {m bytes:Nat} {news:List DVal} {dst:Option Nat} {K:DK} {env:Nat->DVal} (hv:Dj H e size n cs v H') (hm:news.length=m*size) (hb:(n+m)*bytes<=35184372088832)
  (hK: ∀v' H2,Dj H e size (n+m) (cs++news) v' H2->K ⟨Ev env dst v',H2⟩):Jk e size bytes m news dst v K ⟨env,H'⟩:=by
 rcases hv with⟨rfl,rfl,rfl,hs⟩ | ⟨r,hr,hl,rfl,hc,hs⟩
 ·simp only[Jk];refine⟨fun h0=> ?_,fun h0=>⟨by simpa using hb,fun r hr=> ?_⟩⟩
  ·subst h0;have:news= []:=List.length_eq_zero_iff.1 (by omega);subst this;exact hK _ _ (.inl ⟨rfl,rfl,rfl,hs⟩)
  ·refine hK _ _ (.inr ⟨r,hs.lo hr,by simpa using hm,by simp,by rw[List.nil_append];exact Aa _ _ _,hs.new hr _⟩)
 ·simp only[Jk,true_and];rw[hc];by_cases h0:m=0
  ·subst h0;have:news= []:=List.length_eq_zero_iff.1 (by omega);subst this;rw[Xw (by omega)];refine⟨by simp [hl],?_⟩;have:=hK (.oslice size r 0 (n+0) n) H' (.inr ⟨r,hr,by simpa using hl,by simp,by simpa using hc,hs⟩);simp only[Cz,List.length_nil,List.append_nil,Nat.add_zero,List.take_append_drop];rw[Cl7 hc];simpa using this
  ·rw[Uk (by omega) (by omega)];refine⟨by omega,hb,fun r' hr'=> ?_⟩;dsimp only at hr'⊢
   by_cases e1:r'=r
   ·subst e1;refine hK _ _ (.inr ⟨r',hr,?_,rfl,?_,?_⟩)
    ·simp [hl,hm,Nat.add_mul]
    ·rw[Aa,List.take_of_length_le (by omega)]
    ·exact(hs.up hr _).up hr _
   ·have hr2:H' r'=none:=by simpa [upd,e1] using hr'
    refine hK _ _ (.inr ⟨r',hs.lo hr2,?_,rfl,?_,?_⟩)
    ·simp [hl,hm,Nat.add_mul]
    ·rw[Aa,List.take_of_length_le (by omega)]
    ·exact(hs.up hr _).up (hs.lo hr2) _
theorem Dj.appendO {r m bytes:Nat} {news:List DVal} {dst:Option Nat} {K:DK} {env:Nat->DVal} (hv:Dj H e size n cs (.oslice size r 0 n n) H') (hm:news.length=m*size) (hb:(n+m)*bytes<=35184372088832)
  (hK: ∀v' H2,Dj H e size (n+m) (cs++news) v' H2->K ⟨Ev env dst v',H2⟩):Lq e size bytes r 0 n n m news dst K ⟨env,H'⟩ (some (.cells cs e)):=by
 have h:=Dj.append hv hm hb hK;have hc:H' r=some (.cells cs e):=by
  rcases hv with⟨_,_,h,_⟩ | ⟨r',_,_,h,hc,_⟩
  ·cases h
  ·cases h;exact hc
 simp only[Jk,true_and,hc] at h;exact h
theorem Dj.ghost (hv:Dj H e size n cs v H'):Hz H' v H (.vslice cs n):=by
 obtain⟨H1,h1,h2⟩:=hv.exact;exact(Hz.sub h2 v).trans h1.ghost
theorem Dj.fin {R:DEnd->Ac->Prop} (hv:Dj H e size n cs v H') (h:R (.ret (.vslice cs n)) H):Nu R v H':= .ghost hv.ghost (.refl h)
theorem Bt4.runG {body:(DExit->DS->Prop)->DK} {Q:DExit->DS->Prop} {s:DS} {ι:Type} (I:ι->(Nat->DVal)->Ac->Prop) (μ:ι->Nat) (i:ι) (s0:DS) (hg:Ni G s s0) (h0:I i s0.env s0.heap)
  (hr: ∀i env heap,I i env heap->body (Xs (fun s1=> ∃j s2,Ni G s1 s2/\I j s2.env s2.heap/\μ j<μ i) Q) ⟨env,heap⟩):Bt4 G body Q s:=
 ⟨ι,fun i s=>I i s.env s.heap,μ,⟨i,s0,hg,h0⟩,fun i s h=>hr i s.env s.heap h⟩
theorem Dj.cell1 (h:Dj H e size n cs v H'):v.cells= [v]/\v.one=true:=by
 rcases h with⟨_,_,rfl,_⟩ | ⟨_,_,_,rfl,_⟩<;>exact⟨rfl,rfl⟩
end
end Go.Dl

-- THE DATA LEVEL, PART K: the frame of a call: what a callee makes with no memory of the caller's at hand, it makes beside it.
namespace Go.Dl
open Go
set_option maxRecDepth 10000
theorem Ai.frame {P:Program} {G:Nat->DVal} {f:FuncId} {args args':List DVal} {H:Ac} {R:DEnd->Ac->Prop} (h:Ai P G f args' h0 R)
  (hb: ∀w vs,Av w H->Aq w H args vs->Aq w h0 args' vs) (hR: ∀e X,R e X-> ∃v,e= .ret v/\Ul v=true/\De8 h0 X):Ai P G f args H (fun e H'=> ∃X,R e X/\Dn3 H X/\H'=Bb0 H X):=by
 refine⟨h.1,fun vs w hv hH hg=> ?_⟩;have hg0:GOk G w h0:=hg.lasts (Bb5 H w);refine(h.2 vs w (hb w vs hH hv) (fun r o hr=>by cases hr) hg0).mono fun x w' ⟨e',X,r,k1,k2,k3⟩=> ?_;obtain⟨v,rfl,hl,hX⟩:=hR _ _ r;have hown: ∀b,X b≠none->w.heap.size<=b:=fun b hb=>(k3.own b hb).resolve_left (fun k=>k rfl);have hd:Dn3 H X:=fun b hb=>by
  cases e1:H b with
  | none=>rfl
  | some o=>have:=hH.lt (r:=b) (by simp [e1]);have:=hown b hb;omega
 have hE:Ext H w (Bb0 H X) w':=⟨k3.os,k3.tape,k3.output,k3.size,fun b hb _=>k3.block b hb rfl,fun b hb=>by
  by_cases e1:X b=none
  ·rw[Bu4 e1] at hb;exact .inl hb
  ·exact .inr (hown b e1),k3.keep,fun a ha _=>k3.fz a ha rfl⟩
 refine⟨.ret v,Bb0 H X,⟨X,r,hd,rfl⟩,?_,?_,hE⟩
 ·cases k1 with
  | ret d x hx=>exact .ret _ _ (Rm _ _ hl hx)
 ·intro b o ho;cases e1:X b with
  | none=>
   rw[Bu4 e1] at ho;rw[k3.block b (hH.lt (by simp [ho])) rfl];exact(hH b o ho).lasts hE.lasts
  | some o'=>
   rw[Di1 e1] at ho;cases ho;have hlo:Bn6 o=true:=(hX b o e1).resolve_left (fun k=>by cases k);have hr:=k2 b o e1;cases o with
   | cells cs e=>
    obtain⟨xs,c,fz',h1,h2,h3,h4⟩:=hr;exact⟨xs,c,fz',h1,h2,Jq _ _ hlo h3,h4⟩
   | loop _ _ _=>cases hlo
   | iter _ _=>exact hr
   | map es=>
    obtain⟨ms,c,h1,h2⟩:=hr;refine⟨ms,c,h1,?_⟩;simp only[Bn6,List.all_eq_true,Bool.and_eq_true] at hlo;clear h1 e1;generalize ms.toList=l at h2
    induction es generalizing l with
    | nil=>exact h2
    | cons p es ih=>
     obtain⟨m,ms',rfl,g1,g2,g3⟩:=h2;exact⟨m,ms',rfl,Rm _ _ (hlo p (by simp)).1 g1,Rm _ _ (hlo p (by simp)).2 g2,ih (fun q hq=>hlo q (List.mem_cons_of_mem _ hq)) _ g3⟩
theorem Ai.lent {P:Program} {G:Nat->DVal} {f:FuncId} {args args':List DVal} {H:Ac} {v:DVal} (h:Ai P G f args' h0 (Au v h0))
  (hb: ∀w vs,Av w H->Aq w H args vs->Aq w h0 args' vs) (hv:Ul v=true):Ai P G f args H (Au v H):=
 (h.frame hb (fun e X hr=>⟨v,hr.1,hv,by rw[hr.2];exact .refl _⟩)).mono fun e H' ⟨X,hr,_,hH⟩=>⟨hr.1,by rw[hH,hr.2,Bu3]⟩
end Go.Dl

-- Chapter 2: tokens: the plain laws, part 1: the words, the symbols, what a line yields.
namespace Go.Dl
open Go
set_option maxRecDepth 10000
def An4:List (List UInt8):= [[97,98,111,114,116],
 [97,98,115],
 [97,99,99,101,112,116],
 [97,99,99,101,115,115],
 [97,108,105,97,115,101,100],
 [97,108,108],
 [97,110,100],
 [97,114,114,97,121],
 [98,101,103,105,110],
 [98,111,100,121],
 [99,97,115,101],
 [99,111,110,115,116,97,110,116],
 [100,101,99,108,97,114,101],
 [100,101,108,97,121],
 [100,111],
 [101,108,115,101],
 [101,108,115,105,102],
 [101,110,100],
 [101,110,116,114,121],
 [101,120,99,101,112,116,105,111,110],
 [101,120,105,116],
 [102,111,114],
 [102,117,110,99,116,105,111,110],
 [103,101,110,101,114,105,99],
 [105,102],
 [105,110],
 [105,115],
 [108,105,109,105,116,101,100],
 [108,111,111,112],
 [109,111,100],
 [110,101,119],
 [110,111,116],
 [110,117,108,108],
 [111,102],
 [111,114],
 [111,116,104,101,114,115],
 [111,117,116],
 [112,97,99,107,97,103,101],
 [112,114,97,103,109,97],
 [112,114,105,118,97,116,101],
 [112,114,111,99,101,100,117,114,101],
 [112,114,111,116,101,99,116,101,100],
 [114,97,105,115,101],
 [114,97,110,103,101],
 [114,101,99,111,114,100],
 [114,101,109],
 [114,101,110,97,109,101,115],
 [114,101,113,117,101,117,101],
 [114,101,116,117,114,110],
 [114,101,118,101,114,115,101],
 [115,101,108,101,99,116],
 [115,101,112,97,114,97,116,101],
 [115,117,98,116,121,112,101],
 [116,97,115,107],
 [116,101,114,109,105,110,97,116,101],
 [116,104,101,110],
 [116,121,112,101],
 [117,110,116,105,108],
 [117,115,101],
 [119,104,101,110],
 [119,104,105,108,101],
 [119,105,116,104],
 [120,111,114]]
def Ez (c:UInt8):Bool:=decide (65<=c.toNat)&&decide (c.toNat<=90) || decide (97<=c.toNat)&&decide (c.toNat<=122)
def Fi (c:UInt8):Bool:=decide (48<=c.toNat)&&decide (c.toNat<=57)
def Dt (c:UInt8):Bool:=Ez c || Fi c || decide (c=95)
def Dg (s:List UInt8):List UInt8:=s.takeWhile Dt
def Qc (s:List UInt8):Bool:=decide (s∈An4)
def Kh (s:List UInt8):Bool:=(match s with | c::_=>Ez c | []=>false)&&decide (s.length<=32)&&s.all Dt&&!Qc s
def Um:List (UInt8×UInt8):= [(61,62),(46,46),(58,61),(47,61),(60,61),(62,61),(60,62)]
def Bb6:List UInt8:= [40,41,44,59,58,46,39,43,45,42,47,61,60,62,124]
def Qd:List UInt8->Nat
 | []=>0
 | [a]=>if a∈Bb6 then 1 else 0
 | a::b::_=>if(a,b)∈Um then 2 else if a∈Bb6 then 1 else 0
structure Tok where
 kind:Int
 line:Int
 text:List UInt8
 n:Int
 deriving DecidableEq,Inhabited
def Za:Tok:=⟨0,0,[],0⟩
def Nk (w:List UInt8):Nat:=w.foldl (fun v c=>10*v+(c.toNat-48)) 0
def Ak8 (w:List UInt8):Option Nat:=if w.length<=10/\w.all Fi=true/\Nk w<=2147483647 then some (Nk w) else none
def Dd (s:List UInt8):Tok×Nat:=
 match s with
 | []=>(Za,0)
 | c::_=>if Ez c then(if Qc (Dg s) then(⟨2,0,Dg s,0⟩,(Dg s).length) else if Kh (Dg s) then(⟨1,0,Dg s,0⟩,(Dg s).length) else(Za,0))
  else if Fi c then(match Ak8 (Dg s) with | some v=>(⟨3,0,[],v⟩,(Dg s).length) | none=>(Za,0))
  else(⟨4,0,s.take (Qd s),0⟩,Qd s)
def Jr (s:List UInt8):Bool:=s.all fun c=>decide (32<=c.toNat)&&decide (c.toNat<=126)
def Fo (s:List UInt8):List UInt8:=s.dropWhile (· ==32)
def Jh:List UInt8->Bool
 | 45::45::_=>true
 | _=>false
def Wi:Nat->List UInt8->List (Tok×Bool)
 | 0,_=> []
 | k+1,s=>
  if Fo s= []\/Jh (Fo s)=true then(if Jr (Fo s) then [] else [(Za,false)])
  else if(Dd (Fo s)).2=0 then [((Dd (Fo s)).1,false)]
  else((Dd (Fo s)).1,true)::Wi k ((Fo s).drop (Dd (Fo s)).2)
def Kz (s:List UInt8):List (Tok×Bool):=Wi (s.length+1) s
theorem An5 (s:List UInt8):(Fo s).length<=s.length:=by
 unfold Fo;exact(List.dropWhile_sublist _).length_le
theorem Xx: ∀(k k':Nat) (s:List UInt8),s.length<k->s.length<k'->Wi k s=Wi k' s
 | 0,_,_,h,_=>by omega
 | _,0,_,_,h=>by omega
 | k+1,k'+1,s,h,h'=>by
  unfold Wi;split
  ·rfl
  ·rename_i hc
   split
   ·rfl
   ·rename_i h0
    have hl:=An5 s;have hne:Fo s≠ []:=fun e=>hc (.inl e);have hpos:0<(Fo s).length:=List.length_pos_iff.2 hne;rw[Xx k k' _ (by rw[List.length_drop];omega) (by rw[List.length_drop];omega)]
theorem Ox (s:List UInt8):Kz s=
  if Fo s= []\/Jh (Fo s)=true then(if Jr (Fo s) then [] else [(Za,false)])
  else if(Dd (Fo s)).2=0 then [((Dd (Fo s)).1,false)]
  else((Dd (Fo s)).1,true)::Kz ((Fo s).drop (Dd (Fo s)).2):=by
 unfold Kz;rw[Wi];split
 ·rfl
 ·rename_i hc
  split
  ·rfl
  ·rename_i h0
   have hl:=An5 s;have hne:Fo s≠ []:=fun e=>hc (.inl e);have hpos:0<(Fo s).length:=List.length_pos_iff.2 hne;rw[Xx s.length _ ((Fo s).drop (Dd (Fo s)).2) (by rw[List.length_drop];omega) (Nat.lt_succ_self _)]
end Go.Dl

-- Chapter 2: tokens: the plain laws, part 2: lines, errors; comments and joined texts.
namespace Go.Dl
open Go
set_option maxRecDepth 10000
theorem Bb7 (s r:List UInt8) (c:UInt8) (hc:Dt c=false):Dg (s++c::r)=Dg s:=by
 unfold Dg;rw[List.takeWhile_append];split
 ·rename_i h
  have:s.takeWhile Dt=s:=(List.takeWhile_prefix Dt).eq_of_length h;rw[this];simp [hc]
 ·rfl
theorem Bn7 (s:List UInt8):Qd s<=s.length:=by
 match s with
 | []=>exact Nat.le_refl _
 | [a]=>simp only[Qd];split<;>simp
 | a::b::s=>simp only[Qd];split<;>(try split)<;>simp
theorem Bu5 (s:List UInt8):(Dg s).length<=s.length:=(List.takeWhile_sublist _).length_le
theorem Un (s:List UInt8):(Dd s).2<=s.length:=by
 have hw:=Bu5 s
 have hs:=Bn7 s
 match s with
 | []=>exact Nat.le_refl _
 | c::s=>
  unfold Dd
  dsimp only
  split
  ·split
   ·exact hw
   ·split
    ·exact hw
    ·exact Nat.zero_le _
  ·split
   ·split
    ·exact hw
    ·exact Nat.zero_le _
   ·exact hs
theorem Cc9 (s r:List UInt8):Jr (s++r)=(Jr s&&Jr r):=by simp [Jr]
def Cf (c:UInt8):List UInt8->List UInt8->List (List UInt8)
 | [],cur=> [cur]
 | b::s,cur=>if b=c then cur::Cf c s [] else Cf c s (cur++ [b])
theorem Ad4 (c:UInt8) (w:List UInt8) (h:c∉w): ∀cur,Cf c w cur= [cur++w]:=by
 induction w with
 | nil=>intro cur;simp [Cf]
 | cons b w ih=>
  intro cur;simp only[List.mem_cons,not_or] at h;rw[Cf,if_neg (fun e=>h.1 e.symm),ih h.2];simp
theorem Ad5 (c:UInt8) (w r:List UInt8) (h:c∉w): ∀cur,Cf c (w++c::r) cur=(cur++w)::Cf c r []:=by
 induction w with
 | nil=>intro cur;simp [Cf]
 | cons b w ih=>
  intro cur;simp only[List.mem_cons,not_or] at h;rw[List.cons_append,Cf,if_neg (fun e=>h.1 e.symm),ih h.2];simp
theorem Xy (c:UInt8) (b:List UInt8): ∀(a cur:List UInt8),Cf c (a++c::b) cur=Cf c a cur++Cf c b []
 | [],cur=>by simp [Cf]
 | x::a,cur=>by
  rw[List.cons_append,Cf,Cf];split
  ·rw[Xy c b a []];rfl
  ·exact Xy c b a _
theorem Ad6 (c:UInt8): ∀(a cur:List UInt8),Cf c a cur≠ []
 | [],cur=>by simp [Cf]
 | x::a,cur=>by
  rw[Cf];split
  ·simp
  ·exact Ad6 c a _
theorem Qs (c:UInt8): ∀(a cur w:List UInt8),c∉cur->w∈Cf c a cur->c∉w
 | [],cur,w,h,hw=>by
  simp only[Cf,List.mem_singleton] at hw;rw[hw];exact h
 | x::a,cur,w,h,hw=>by
  rw[Cf] at hw;split at hw
  ·rcases List.mem_cons.1 hw with rfl | hw
   ·exact h
   ·exact Qs c a [] w (by simp) hw
  ·rename_i hx
   exact Qs c a _ w (by simp only[List.mem_append,List.mem_singleton,not_or];exact⟨h,fun e=>hx e.symm⟩) hw
def Sa:List (List UInt8)->List UInt8
 | []=> []
 | [s]=>s
 | s::t::l=>s++10::Sa (t::l)
def Eh (s:List UInt8):List (List UInt8):=Cf 10 s []
theorem Ad7: ∀ls:List (List UInt8),ls≠ []->(∀s∈ls,(10:UInt8)∉s)->Eh (Sa ls)=ls
 | [],h,_=>absurd rfl h
 | [s],_,hs=>by rw[Sa,Eh,Ad4 10 s (hs s (by simp))];rfl
 | s::t::l,_,hs=>by
  have:=Ad7 (t::l) (by simp) fun u hu=>hs u (List.mem_cons_of_mem _ hu);rw[Eh] at this⊢
  rw[Sa,Ad5 10 s _ (hs s (by simp)),this];rfl
theorem Bn8 (s:List UInt8): ∀cur,Sa (Cf 10 s cur)=cur++s:=by
 induction s with
 | nil=>intro cur;simp [Cf,Sa]
 | cons x s ih=>
  intro cur;rw[Cf];split
  ·rename_i h
   subst h;have:=ih [];cases hsp:Cf 10 s [] with
   | nil=>exact absurd hsp (Ad6 _ _ _)
   | cons t l=>rw[hsp] at this;rw[Sa,this];rfl
  ·rw[ih];simp
def Oy:List (List UInt8)->Nat->List (Tok×Bool×Int)
 | [],_=> []
 | s::ls,i=>(Kz s).map (fun p=>({ p.1 with line:=i },p.2,(i:Int)))++Oy ls (i+1)
def Bn9:List (Tok×Bool×Int)->Nat->Option (Int×Int)
 | [],_=>none
 | p::r,n=>if p.2.1=false then some (p.2.2,20) else if n=8192 then some (p.2.2,3) else Bn9 r (n+1)
def Cj (src:List UInt8):List Tok×Int×Int:=
 if 65536<src.length then([],0,3) else match Bn9 (Oy (Eh src) 1) 0 with
  | some e=>([],e.1,e.2)
  | none=>((Oy (Eh src) 1).map (·.1),0,0)
end Go.Dl

-- Chapter 2: tokens: the plain laws, part 3: the text of tokens, and the tokens of that text.
namespace Go.Dl
open Go
set_option maxRecDepth 10000
theorem Bb8 {c:UInt8} (h:Ez c=true):Dt c=true:=by simp [Dt,h]
theorem Cd0 (w:List UInt8) (c:UInt8):Nk (w++ [c])=10*Nk w+(c.toNat-48):=by simp [Nk,List.foldl_append]
theorem Bo0 {c:UInt8} (h:Fi c=true):Dt c=true:=by simp [Dt,h]
theorem Uo: ∀w:List UInt8,w.all Dt=true->Dg w=w
 | [],_=>rfl
 | c::w,h=>by
  rw[List.all_cons,Bool.and_eq_true] at h;show List.takeWhile Dt (c::w)=_;rw[List.takeWhile_cons,h.1];have:=Uo w h.2;unfold Dg at this;simp [this]
end Go.Dl

-- Chapter 2: tokens: the plain laws, part 4: the tokens of the text of tokens.
namespace Go.Dl
open Go
set_option maxRecDepth 10000
theorem Cd1 {c:UInt8} (h:Dt c=true):33<=c.toNat/\c.toNat<=126:=by
 have hu:c=95->c.toNat=95:=fun e=>by rw[e];rfl
 unfold Dt Ez Fi at h;simp only[Bool.or_eq_true,Bool.and_eq_true,decide_eq_true_eq] at h;rcases h with((h | h) | h) | h
 ·omega
 ·omega
 ·omega
 ·have:=hu h;omega
end Go.Dl

-- Chapter 2: tokens: the plain laws, part 6: numbers; a text again.
namespace Go.Dl
open Go
set_option maxRecDepth 10000
theorem Da6 {c:UInt8} (r:List UInt8) (h:c≠32):Fo (c::r)=c::r:=by
 unfold Fo;rw[List.dropWhile_cons,beq_eq_false_iff_ne.2 h];rfl
theorem Dk8 {c:UInt8} (r:List UInt8) (h:c≠45):Jh (c::r)=false:=by
 unfold Jh;split
 ·rename_i e;simp at e;exact absurd e.1 h
 ·rfl
theorem Bb9 {c:UInt8} {r:List UInt8} (h32:c≠32) (hc:Jh (c::r)=false):Kz (c::r)=if(Dd (c::r)).2=0 then [((Dd (c::r)).1,false)] else((Dd (c::r)).1,true)::Kz ((c::r).drop (Dd (c::r)).2):=by
 rw[Ox,Da6 r h32,if_neg (fun h=>h.elim (by simp) (fun h=>by rw[hc] at h;cases h))]
end Go.Dl

-- Chapter 2: tokens: the plain laws, part 7: what the library's functions say of symbols, spaces, comments.
namespace Go.Dl
open Go
set_option maxRecDepth 10000
theorem Bc0: ∀a:List UInt8,Go.Op.bytesLess a a=false
 | []=>rfl
 | x::a=>by
  unfold Go.Op.bytesLess;simp [Bc0 a]
theorem An6: ∀a b:List UInt8,Go.Op.bytesLess a b=true->Go.Op.bytesLess b a=false
 | [],[],h=>rfl
 | [],_::_,_=>rfl
 | _::_,[],h=>by cases h
 | x::a,y::b,h=>by
  unfold Go.Op.bytesLess at h⊢
  by_cases e:x=y
  ·subst e;simp only[UInt8.lt_irrefl] at h⊢
   simp at h⊢
   exact An6 a b h
  ·have hn:y≠x:=fun h=>e h.symm;simp [e,hn] at h⊢
   exact UInt8.le_of_lt h
theorem Bc1:An4.Pairwise (fun a b=>Go.Op.bytesLess a b=true):=by decide+kernel
structure halfAt (l:List (List UInt8)) (s:List UInt8) (i j:Nat):Prop where
 le:i<=j
 len:j<=l.length
 lo: ∀k w,k<i->l[k]? =some w->w≠s
 hi: ∀k w,j<k->l[k]? =some w->w≠s
theorem Bo1 (l:List (List UInt8)) (s:List UInt8):halfAt l s 0 l.length:=
 ⟨Nat.zero_le _,Nat.le_refl _,fun _ _ h=>by omega,fun k w h hk=>by rw[List.getElem?_eq_none (by omega)] at hk;cases hk⟩
theorem Bu6 {l:List (List UInt8)} {a:Nat} {b:Nat} {u v:List UInt8} (hl:l.Pairwise fun a b=>Go.Op.bytesLess a b=true) (h:a<b) (ha:l[a]? =some u) (hb:l[b]? =some v):Go.Op.bytesLess u v=true:=by
 obtain⟨h1,rfl⟩:=List.getElem?_eq_some_iff.1 ha;obtain⟨h2,rfl⟩:=List.getElem?_eq_some_iff.1 hb;exact List.pairwise_iff_getElem.1 hl a b h1 h2 h
theorem Da7 {l:List (List UInt8)} {s w:List UInt8} {i j h:Nat} (hl:l.Pairwise fun a b=>Go.Op.bytesLess a b=true) (hk:halfAt l s i j) (h2:h<j) (hw:l[h]? =some w) (hlt:Go.Op.bytesLess w s=true):halfAt l s (h+1) j:=by
 obtain⟨k1,k2,k3,k4⟩:=hk;refine⟨by omega,k2,fun k u hku hu e=> ?_,k4⟩;subst e;rcases Nat.lt_or_ge k h with hlt' | hge
 ·have:=Bu6 hl hlt' hu hw;rw[An6 _ _ this] at hlt;cases hlt
 ·have:k=h:=by omega
  subst this;rw[hw] at hu;cases hu;rw[Bc0] at hlt;cases hlt
theorem Cd2 {l:List (List UInt8)} {s w:List UInt8} {i j h:Nat} (hl:l.Pairwise fun a b=>Go.Op.bytesLess a b=true) (hk:halfAt l s i j) (h1:i<=h) (h2:h<j) (hw:l[h]? =some w) (hlt:Go.Op.bytesLess w s=false):halfAt l s i h:=by
 obtain⟨k1,k2,k3,k4⟩:=hk;refine⟨h1,by omega,k3,fun k u hku hu e=> ?_⟩;subst e;rw[Bu6 hl hku hw hu] at hlt;cases hlt
theorem Co6 {l:List (List UInt8)} {s:List UInt8} {i:Nat} (hk:halfAt l s i i):decide (s∈l)=decide (l[i]? =some s):=by
 obtain⟨_,_,k3,k4⟩:=hk;refine decide_eq_decide.2 ⟨fun h=> ?_,fun h=>List.mem_of_getElem? h⟩;obtain⟨k,hk⟩:=List.mem_iff_getElem?.1 h;rcases Nat.lt_trichotomy k i with h1 | h1 | h1
 ·exact absurd rfl (k3 k s h1 hk)
 ·rw[<-h1];exact hk
 ·exact absurd rfl (k4 k s h1 hk)
end Go.Dl

-- Chapter 2: tokens: the plain laws, part 8: a text read byte by byte, as the reference does.
namespace Go.Dl
open Go
set_option maxRecDepth 10000
def Gu (s:List UInt8) (line:Nat) (l:List Tok):List Tok×Int×Int:=
 match Bn9 (Oy (Eh s) line) l.length with
 | some e=>([],e.1,e.2)
 | none=>(l++(Oy (Eh s) line).map (·.1),0,0)
theorem Bc2 {s:List UInt8} (h:s.length<=65536):Cj s=Gu s 1 []:=by
 rw[Cj,if_neg (by omega),Gu,List.length_nil];cases Bn9 (Oy (Eh s) 1) 0 with
 | some e=>rfl
 | none=>rfl
theorem Co7 (line:Nat) (l:List Tok):Gu [] line l=(l,0,0):=by
 have e:Oy (Eh []) line= []:=rfl;rw[Gu,e];show(l++ [],(0:Int),(0:Int))=_;rw[List.append_nil]
theorem Da8 (r:List UInt8) (line:Nat) (l:List Tok):Gu (10::r) line l=Gu r (line+1) l:=by
 have e:Oy (Eh (10::r)) line=Oy (Eh r) (line+1):=by
  rw[Eh,Cf,if_pos rfl,Oy];rfl
 rw[Gu,Gu,e]
theorem Qt (c:UInt8): ∀(s cur:List UInt8),∃h t,Cf c s []=h::t/\Cf c s cur=(cur++h)::t
 | [],cur=>⟨[],[],rfl,by simp [Cf]⟩
 | x::s,cur=>by
  rw[Cf,Cf];split
  ·exact⟨[],_,rfl,by simp⟩
  ·obtain⟨h,t,e1,e2⟩:=Qt c s [x];obtain⟨h',t',e3,e4⟩:=Qt c s (cur++ [x]);rw[e1] at e3;cases e3;exact⟨x::h,t,by rw[List.nil_append,e2];rfl,by rw[e4];simp⟩
theorem Oz {c:UInt8} (r:List UInt8) (hc:c≠10): ∃h t,Eh r=h::t/\Eh (c::r)=(c::h)::t:=by
 obtain⟨h,t,e1,e2⟩:=Qt 10 r [c];exact⟨h,t,e1,by rw[Eh,Cf,if_neg hc,List.nil_append,e2];rfl⟩
theorem Qu {s h:List UInt8} {t:List (List UInt8)} (e:Eh s=h::t):(10:UInt8)∉h/\((t= []/\s=h)\/(t≠ []/\s=h++10::Sa t))/\ ∀n,n<=h.length->Eh (s.drop n)=h.drop n::t:=by
 have hm: ∀w∈Eh s,(10:UInt8)∉w:=fun w hw=>Qs 10 s [] w (by simp) hw
 have hj:Sa (Eh s)=s:=by rw[Eh,Bn8];rfl
 rw[e] at hm hj
 have h10:=hm h (by simp)
 have hd: ∀n,(10:UInt8)∉h.drop n:=fun n hx=>h10 (List.mem_of_mem_drop hx)
 match t with
 | []=>
  have hs:h=s:=hj
  subst hs
  exact⟨h10, .inl ⟨rfl,rfl⟩,fun n hn=>by rw[Eh,Ad4 10 _ (hd n)];rfl⟩
 | u::t=>
  have hs:h++10::Sa (u::t)=s:=hj
  subst hs
  refine⟨h10, .inr ⟨by simp,rfl⟩,fun n hn=> ?_⟩
  rw[List.drop_append_of_le_length hn,Eh,Ad5 10 _ _ (hd n)]
  have:=Ad7 (u::t) (by simp) fun w hw=>hm w (List.mem_cons_of_mem _ hw)
  rw[Eh] at this
  rw[this];rfl
theorem Da9 (r:List UInt8) (line:Nat) (l:List Tok):Gu (32::r) line l=Gu r line l:=by
 obtain⟨h,t,e1,e2⟩:=Oz (c:=32) r (by decide);have ey:Kz (32::h)=Kz h:=by
  have ht:Fo (32::h)=Fo h:=rfl;rw[Ox (32::h),Ox h,ht]
 have e:Oy (Eh (32::r)) line=Oy (Eh r) line:=by rw[e1,e2,Oy,Oy,ey]
 rw[Gu,Gu,e]
theorem Dk9 (s r:List UInt8) (h:s≠ []):Qd (s++10::r)=Qd s:=by
 match s,h with
 | [],h=>exact absurd rfl h
 | [a],_=>
  have:(a,(10:UInt8))∉Um:=by simp [Um]
  simp only[List.cons_append,List.nil_append,Qd,if_neg this]
 | a::b::s,_=>rfl
theorem Co8 (s r:List UInt8) (h:s≠ []):Dd (s++10::r)=Dd s:=by
 have hw:Dg (s++10::r)=Dg s:=Bb7 s r 10 rfl
 have hs:=Dk9 s r h
 have ht:(s++10::r).take (Qd s)=s.take (Qd s):=List.take_append_of_le_length (Bn7 s)
 match s,h with
 | [],h=>exact absurd rfl h
 | c::s,_=>
  unfold Dd
  rw[List.cons_append] at hw hs ht⊢
  dsimp only
  rw[hw,hs,ht]
theorem Ad8 {c:UInt8} {r:List UInt8} (line:Nat) (l:List Tok) (h10:c≠10) (h32:c≠32) (hcom:Jh (c::r)=false):
  Gu (c::r) line l=if(Dd (c::r)).2=0 then([],(line:Int),20) else if l.length=8192 then([],(line:Int),3)
   else Gu ((c::r).drop (Dd (c::r)).2) line (l++ [{ (Dd (c::r)).1 with line:=(line:Int) }]):=by
 obtain⟨h,t,e1,e2⟩:=Oz r h10
 obtain⟨_,hp,hdrop⟩:=Qu e2
 have hf:Dd (c::r)=Dd (c::h):=by
  rcases hp with⟨_,hs⟩ | ⟨_,hs⟩
  ·rw[hs]
  ·rw[hs,Co8 _ _ (by simp)]
 have hc2:Jh (c::h)=false:=by
  rcases hp with⟨_,hs⟩ | ⟨_,hs⟩
  ·rwa [hs] at hcom
  ·cases hi:Jh (c::h) with
   | false=>rfl
   | true=>
    rw[hs] at hcom
    match h with
    | []=>unfold Jh at hi;split at hi<;>simp_all
    | d::h'=>
     by_cases hh:c=45/\d=45
     ·obtain⟨rfl,rfl⟩:=hh
      exact absurd hcom (by simp [Jh])
     ·unfold Jh at hi
      split at hi
      ·rename_i h45;simp at h45;exact absurd ⟨h45.1,h45.2.1⟩ hh
      ·cases hi
 have hle:(Dd (c::h)).2<=(c::h).length:=Un _
 have hys:=Bb9 h32 hc2
 rw[hf,Gu,e2,Oy,hys]
 by_cases h0:(Dd (c::h)).2=0
 ·rw[if_pos h0,if_pos h0,List.map_cons,List.cons_append,Bn9,if_pos rfl]
 ·rw[if_neg h0,if_neg h0,List.map_cons,List.cons_append,Bn9,if_neg (by simp)]
  by_cases h8:l.length=8192
  ·rw[if_pos h8,if_pos h8]
  ·rw[if_neg h8,if_neg h8]
   have hd:=hdrop _ hle
   rw[Gu,hd,Oy,List.length_append,List.length_singleton]
   split
   ·rfl
   ·simp
theorem Co9 (r:List UInt8) (line:Nat) (l:List Tok): ∃h t,Eh (45::45::r)=h::t/\(Jr h=false->Gu (45::45::r) line l=([],(line:Int),20))/\
  (Jr h=true->Gu (45::45::r) line l=Gu ((45::45::r).drop h.length) line l):=by
 obtain⟨h1,t,e1,e2⟩:=Oz (c:=45) r (by decide);obtain⟨h2,t2,e3,e4⟩:=Oz (c:=45) (45::r) (by decide);rw[e2] at e3;cases e3;obtain⟨_,_,hdrop⟩:=Qu e4;have hy:Kz (45::45::h1)=if Jr (45::45::h1) then [] else [(Za,false)]:=by
  have ht:Fo (45::45::h1)=45::45::h1:=rfl;rw[Ox,ht,if_pos (.inr rfl)]
 refine⟨_,t,e4,fun hp=> ?_,fun hp=> ?_⟩
 ·rw[Gu,e4,Oy,hy,hp,if_neg (by simp),List.map_cons,List.cons_append,Bn9,if_pos rfl]
 ·have hd:=hdrop _ (Nat.le_refl _);rw[Gu,Gu,hd,e4,Oy,Oy,hy,hp,List.drop_length];rfl
end Go.Dl

-- Chapter 2: tokens: the plain laws, part 9: numbers by the library's reading; letters.
namespace Go.Dl
open Go
set_option maxRecDepth 10000
theorem Cd3 (c:UInt8):Fi c=true↔48<=c.toNat/\c.toNat<=57:=by simp [Fi]
theorem Dn9 {s:List UInt8}:(Dg s=s)↔s.all Dt=true:=by
 constructor
 ·intro h;have: ∀l:List UInt8,(l.takeWhile Dt).all Dt=true:=fun l=>by
   induction l with
   | nil=>rfl
   | cons c l ih=>
    rw[List.takeWhile_cons];split
    ·rename_i hc;rw[List.all_cons,hc,ih];rfl
    ·rfl
  rw[<-h];exact this s
 ·exact Uo s
theorem Db0 (s:List UInt8):Kh s=(decide (s≠ [])&&(decide (s.length<=32)&&((match s with | c::_=>Ez c | []=>false)&&(decide (Dg s=s)&&!Qc s)))):=by
 have hw:decide (Dg s=s)=s.all Dt:=by
  cases h:s.all Dt with
  | true=>exact decide_eq_true (Dn9.2 h)
  | false=>exact decide_eq_false fun e=>by rw[Dn9.1 e] at h;cases h
 rw[hw]
 unfold Kh
 match s with
 | []=>rfl
 | c::r=>
  simp only[ne_eq,reduceCtorEq,not_false_eq_true,decide_true,Bool.true_and]
  cases Ez c<;>cases decide ((c::r).length<=32)<;>cases (c::r).all Dt<;>cases Qc (c::r)<;>rfl
theorem Bu7 {s:List UInt8} {k:Nat} {c:UInt8} (h:(s.take k).all Dt=true) (hc:s[k]? =some c) (hw:Dt c=false):Dg s=s.take k:=by
 obtain⟨hk,rfl⟩:=List.getElem?_eq_some_iff.1 hc;have e:s=s.take k++s[k]::s.drop (k+1):=by rw[<-List.drop_eq_getElem_cons hk,List.take_append_drop]
 rw[show Dg s=Dg (s.take k++s[k]::s.drop (k+1)) from congrArg Dg e,Bb7 _ _ _ hw,Uo _ h]
theorem Bo2: ∀n:Fin 256,Ez (UInt8.ofNat n.1)=(decide (97<=n.1 ||| 32)&&decide (n.1 ||| 32<=122)):=by decide+kernel
end Go.Dl
