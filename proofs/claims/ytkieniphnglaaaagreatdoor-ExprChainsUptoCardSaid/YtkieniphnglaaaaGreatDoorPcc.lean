/- The data level and the contracts of the functions that are reached (part 3). -/
import Derived.Test.YtkieniphnglaaaaGreatDoorProg
import Derived.KernelRfl
import Derived.Lib.ItoaMem
import Derived.Lib.ConvBytes
import Derived.Lib.LaidTab
import Derived.Lib.ItoaLen
import Derived.Lib.ParseIntBTie
import Derived.Lib.IndexMore
import Derived.Lib.IndexAny
import Derived.Lib.TrimByte
import Derived.Lib.Strings
import Derived.Lib.Repeat
import Derived.Lib.CountLaws
import Derived.Test.YtkieniphnglaaaaGreatDoorPcb
set_option linter.unusedSimpArgs false
set_option linter.unusedVariables false
set_option linter.unusedSectionVars false
-- THE DATA LEVEL, PART Z: an operation hangs on its operands alone.
namespace Go.Dl
open Go
section
variable {P:Program} {G:Nat->DVal}
theorem Sn {dst:Option Nat} {K:DK} {Q:DExit->DS->Prop} {s:DS} (op:Op) (he:Mu op=true) (h:dop P G dst K Q s op):
  ∃d,Bb dst d K s/\ ∀Q' K' s',(∀x∈op.operands,dev G s'.env x=dev G s.env x)->Az1 G s s' op->Bb dst d K' s'->dop P G dst K' Q' s' op:=by
 have lift: ∀ {F:DK->DS->Prop},EVF dst F->F K s->(∀K' s',(∀x∈op.operands,dev G s'.env x=dev G s.env x)-> ∀Q',F K' s'->dop P G dst K' Q' s' op)->
   ∃d,Bb dst d K s/\ ∀Q' K' s',(∀x∈op.operands,dev G s'.env x=dev G s.env x)->Az1 G s s' op->Bb dst d K' s'->dop P G dst K' Q' s' op:=by
  intro F hF hf hT;obtain⟨d,h1,h2⟩:=hF K s hf;exact⟨d,h1,fun Q' K' s' ha _ h'=>hT K' s' ha Q' (h2 K' s' h')⟩
 cases op<;>simp only[Mu] at he<;>try (cases he;done)
 case move x=>exact lift (Ge _ _) h fun K' s' ha Q' h'=>by simp only[dop];rw[ha x (by simp [Op.operands])];exact h'
 case assign x=>exact lift (Ge _ _) h fun K' s' ha Q' h'=>by simp only[dop];rw[ha x (by simp [Op.operands])];exact h'
 case pick c a b=>exact lift (Da6 _ _ _ _) h fun K' s' ha Q' h'=>by simp only[dop];rw[ha c (by simp [Op.operands]),ha a (by simp [Op.operands]),ha b (by simp [Op.operands])];exact h'
 case build t ps=>
  exact lift (Cm1 _ _ _ _ _ _) h fun K' s' ha Q' h'=>by
   simp only[dop];rw[Oh (env:=s.env) (fun x hx=>ha x (by simpa [Op.operands] using hx))];exact h'
 case load t a=>
  obtain⟨d,h1,h2⟩:=Da7 _ _ _ _ K s h;exact⟨d,h1,fun Q' K' s' ha hk h'=>by simp only[dop];rw[ha a (by simp [Op.operands])];exact h2 K' s' (hk a rfl).ptr h'⟩
 case nilCheck x=>exact lift (Ay8 _ _) h fun K' s' ha Q' h'=>by simp only[dop];rw[ha x (by simp [Op.operands])];exact h'
 case binOp op t x y _=>
  have hn:Fs y=false:=by simpa using he
  simp only[dop,hn,Mp] at h;exact lift (Cm4 _ _ _ _ _ _ _) h fun K' s' ha Q' h'=>by simp only[dop,hn,Mp];rw[ha x (by simp [Op.operands]),ha y (by simp [Op.operands])];exact h'
 case unOp op t x=>exact lift (Ds2 _ _ _) h fun K' s' ha Q' h'=>by simp only[dop];rw[ha x (by simp [Op.operands])];exact h'
 case convert a t x=>
  obtain⟨d,h1,h2⟩:=Cm9 _ _ _ _ _ K s h;exact⟨d,h1,fun Q' K' s' ha hk h'=>by simp only[dop];rw[ha x (by simp [Op.operands])];exact h2 K' s' (hk x rfl) h'⟩
 case makeInterface t x=>exact lift (As5 _ _ _ _) h fun K' s' ha Q' h'=>by simp only[dop];rw[ha x (by simp [Op.operands])];exact h'
 case makeFunc fn fs cs=>
  exact lift (Ge _ _) h fun K' s' ha Q' h'=>by
   simp only[dop];rw[Lu (env:=s.env) (xs:=fs.toList) (fun x hx=>ha x (by simp at hx;simp [Op.operands,hx])),Lu (env:=s.env) (xs:=cs.toList) (fun x hx=>ha x (by simp at hx;simp [Op.operands,hx]))];exact h'
 case slice t x lo hi mx=>
  obtain⟨d,h1,h2⟩:=Cm5 _ _ _ _ _ _ _ K s h;exact⟨d,h1,fun Q' K' s' ha hk h'=>by
   simp only[dop];rw[ha x (by simp [Op.operands]),Oi (x:=lo) (env:=s.env) (fun y hy=>ha y (by simp at hy;simp [Op.operands,hy])),Oi (x:=hi) (env:=s.env) (fun y hy=>ha y (by simp at hy;simp [Op.operands,hy])),Oi (x:=mx) (env:=s.env) (fun y hy=>ha y (by simp at hy;simp [Op.operands,hy]))];exact h2 K' s' (hk x rfl).ptr h'⟩
 case fieldAddr t x f=>exact lift (As6 _ _ _ _ _) h fun K' s' ha Q' h'=>by simp only[dop];rw[ha x (by simp [Op.operands])];exact h'
 case field t x f=>exact lift (Cm6 _ _ _ _ _) h fun K' s' ha Q' h'=>by simp only[dop];rw[ha x (by simp [Op.operands])];exact h'
 case indexAddr t x i=>exact lift (As7 _ _ _ _ _) h fun K' s' ha Q' h'=>by simp only[dop];rw[ha x (by simp [Op.operands]),ha i (by simp [Op.operands])];exact h'
 case index t x i=>exact lift (Cm7 _ _ _ _ _) h fun K' s' ha Q' h'=>by simp only[dop];rw[ha x (by simp [Op.operands]),ha i (by simp [Op.operands])];exact h'
 case typeAssert x t u ok=>exact lift (Ak3 _ _ _ _ _ _) h fun K' s' ha Q' h'=>by simp only[dop];rw[ha x (by simp [Op.operands])];exact h'
 case extract x i=>exact lift (Bl1 _ _ _) h fun K' s' ha Q' h'=>by simp only[dop];rw[ha x (by simp [Op.operands])];exact h'
 case call c=>
  have hargs: ∀s':DS,(∀x∈(Op.call c).operands,dev G s'.env x=dev G s.env x)->El G s'.env c.args.toList=El G s.env c.args.toList:=by
   intro s' ha;exact Lu fun x hx=>ha x (by simp at hx;simp [Op.operands,Call.operands,hx])
  simp only[dop] at h⊢
  cases hc:c.callee with
  | value f=>rw[hc] at he;cases he
  | invoke r m=>rw[hc] at he;cases he
  | builtin b=>
   rw[hc] at h he;simp only[Oa] at h⊢
   cases b<;>simp only at he<;>try (cases he;done)
   case len=>
    cases hx:El G s.env c.args.toList with
    | nil=>rw[hx] at h;exact h.elim
    | cons x xs=>
     cases xs with
     | cons y ys=>rw[hx] at h;exact h.elim
     | nil=>
      rw[hx] at h;obtain⟨d,h1,h2⟩:=Cm8 P x dst c.argTypes.toList K s h;exact⟨d,h1,fun Q' K' s' ha _ h'=>by rw[hargs s' ha,hx];exact h2 K' s' h'⟩
   case min=>
    obtain⟨d,h1,h2⟩:=Ib dst (Ra false (El G s.env c.args.toList)) K s h;exact⟨d,h1,fun Q' K' s' ha _ h'=>by rw[hargs s' ha];exact h2 K' s' h'⟩
   case max=>
    obtain⟨d,h1,h2⟩:=Ib dst (Ra true (El G s.env c.args.toList)) K s h;exact⟨d,h1,fun Q' K' s' ha _ h'=>by rw[hargs s' ha];exact h2 K' s' h'⟩
theorem Cc2 {dst:Option Nat} {K K':DK} {Q Q':DExit->DS->Prop} {s s':DS} (op:Op) (ha: ∀x∈op.operands,dev G s'.env x=dev G s.env x) (hh:s'.heap=s.heap)
  (hK: ∀d h,K ⟨Er s.env dst d,h⟩->K' ⟨Er s'.env dst d,h⟩) (hQ: ∀v h,Q (.panic v) ⟨s.env,h⟩->Q' (.panic v) ⟨s'.env,h⟩)
  (h:dop P G dst K Q s op):dop P G dst K' Q' s' op:=by
 by_cases he:Mu op=true
 ·obtain⟨d,h1,h2⟩:=Sn op he h;refine h2 Q' K' s' ha (fun a _=>by rw[hh];exact Fy) ?_;show K' ⟨Er s'.env dst d,s'.heap⟩;rw[hh];exact hK _ _ h1
 ·have newP: ∀ {cs e},Al2 cs e dst K s->Al2 cs e dst K' s':=fun hn r hr=>by
   rw[hh] at hr⊢;exact hK _ _ (hn r hr)
  have newS: ∀ {cs e sz l c},Zn cs e sz l c dst K s->Zn cs e sz l c dst K' s':=fun hn r hr=>by
   rw[hh] at hr⊢;exact hK _ _ (hn r hr)
  have panic: ∀ {x},Sg Q s x->Sg Q' s' x:=by
   intro x hx;unfold Sg at hx⊢
   split at hx<;>try exact hx.elim
   have:=hQ _ _ hx;rw[<-hh] at this;exact this
  cases op<;>(try exact(he rfl).elim)<;>(try exact h.elim)
  case binOp op t x y t'=>
   have hn:Fs y=true:=by
    simp only[Mu] at he;cases hy:Fs y with
    | true=>rfl
    | false=>rw[hy] at he;exact absurd rfl he
   simp only[dop] at h⊢
   rw[ha x (by simp [Op.operands]),ha y (by simp [Op.operands])];rw[hn] at h⊢
   generalize dev G s.env x=dx at h⊢
   generalize dev G s.env y=dy at h⊢
   have put: ∀d,Bb dst d K s->Bb dst d K' s':=fun d h=>by unfold Bb at*;rw[hh];exact hK _ _ h
   have rest:Kl P t (Fb x || Fb y) op dst dx dy K s->Kl P t (Fb x || Fb y) op dst dx dy K' s':=fun h=>by
    obtain⟨d,h1,h2⟩:=Cm4 _ _ _ _ _ _ _ K s h;exact h2 K' s' (put d h1)
   cases dx<;>first | exact rest h | skip
   simp only[Xt] at h⊢
   refine⟨h.1,fun b hb=> ?_⟩;obtain⟨d,h1,h2⟩:=Bk9 _ _ _ K s (h.2 b hb);exact h2 K' s' (put d h1)
  case range t x=>
   simp only[dop] at h⊢
   rw[ha x (by simp [Op.operands])];generalize P.underlying t=u at h⊢
   generalize dev G s.env x=dx at h⊢
   unfold Aq0 at h⊢
   split at h<;>try exact h.elim
   exact fun r hr=>by rw[hh] at hr⊢;exact hK _ _ (h r hr)
  case next x b=>
   simp only[dop] at h⊢
   rw[ha x (by simp [Op.operands])];generalize dev G s.env x=dx at h⊢
   unfold Bs3 at h⊢
   split at h<;>try exact h.elim
   rw[hh];unfold Bg7 at h⊢
   split at h<;>try exact h.elim
   refine⟨fun hp=>by rw[hh];exact hK _ _ (h.1 hp),fun hp=> ?_⟩;have:=h.2 hp;unfold Bb at*;rw[hh];exact hK _ _ this
  case makeMap t r=>
   simp only[dop] at h⊢
   rw[Oi (x:=r) (env:=s.env) (fun y hy=>ha y (by simp at hy;simp [Op.operands,hy]))];generalize P.underlying t=u at h⊢
   generalize Km G s.env r=v at h⊢
   unfold Pt at h⊢
   split at h<;>try exact h.elim
   all_goals exact fun r hr=>by rw[hh] at hr⊢;exact hK _ _ (h r hr)
  case lookup t x k ok=>
   simp only[dop] at h⊢
   rw[ha x (by simp [Op.operands]),ha k (by simp [Op.operands])];generalize P.underlying t=u at h⊢
   generalize dev G s.env x=dx at h⊢
   generalize dev G s.env k=dk at h⊢
   have put: ∀d,Bb dst d K s->Bb dst d K' s':=fun d h=>by unfold Bb at*;rw[hh];exact hK _ _ h
   have hF: ∀es z r,Zz es ok dst z r K s->Zz es ok dst z r K' s':=fun es z r h=>by
    unfold Zz at h⊢
    split at h<;>try exact h.elim
    ·obtain⟨p,h1,h2⟩:=h;exact⟨p,h1,put _ h2⟩
    ·exact put _ h
   unfold Ze at h⊢
   split at h<;>try exact h.elim
   ·refine⟨h.1,?_⟩;have h2:=h.2;rw[hh];generalize s.heap _=ob at h2⊢
    unfold Bh0 at h2⊢
    split at h2<;>try exact h2.elim
    exact hF _ _ _ h2
   ·exact⟨h.1,hF _ _ _ h.2⟩
  case mapUpdate t m k x=>
   simp only[dop] at h⊢
   rw[ha m (by simp [Op.operands]),ha k (by simp [Op.operands]),ha x (by simp [Op.operands])];generalize P.underlying t=u at h⊢
   generalize dev G s.env m=dm at h⊢
   generalize dev G s.env k=dk at h⊢
   generalize dev G s.env x=dx at h⊢
   unfold Qz at h⊢
   split at h<;>try exact h.elim
   obtain⟨h1,h2,h3⟩:=h;refine⟨h1,h2,?_⟩;rw[hh];generalize s.heap _=ob at h3⊢
   unfold Zy at h3⊢
   split at h3<;>try exact h3.elim
   refine⟨h3.1,?_⟩;have h4:=h3.2;unfold Tw at h4⊢
   split at h4<;>try exact h4.elim
   subst h1;rw[hh];exact hK Cs _ h4
  case insert t m k x=>
   simp only[dop] at h⊢
   rw[ha m (by simp [Op.operands]),ha k (by simp [Op.operands]),ha x (by simp [Op.operands])];generalize P.underlying t=u at h⊢
   generalize dev G s.env m=dm at h⊢
   generalize dev G s.env k=dk at h⊢
   generalize dev G s.env x=dx at h⊢
   unfold Qz at h⊢
   split at h<;>try exact h.elim
   obtain⟨h1,h2,h3⟩:=h;refine⟨h1,h2,?_⟩;rw[hh];generalize s.heap _=ob at h3⊢
   unfold Zy at h3⊢
   split at h3<;>try exact h3.elim
   refine⟨h3.1,?_⟩;have h4:=h3.2;unfold Tw at h4⊢
   split at h4<;>try exact h4.elim
   subst h1;rw[hh];exact hK Cs _ h4
  case alloc e=>
   simp only[dop] at h⊢
   generalize Bh P e=z at h⊢
   cases z with
   | none=>exact h.elim
   | some z=>exact newP h
  case box e x=>simp only[dop] at h⊢;rw[ha x (by simp [Op.operands])];exact newP h
  case buildSlice t n ps=>
   simp only[dop] at h⊢
   rw[Oh (env:=s.env) (fun x hx=>ha x (by simpa [Op.operands] using hx))];generalize Ht G s.env ps.toList=qs at h⊢
   generalize P.underlying t=u at h⊢
   unfold Mm at h⊢
   split at h<;>try exact h.elim
   show To _ _ _ _ _ _ _ _;generalize Bh P _=z at h⊢
   cases z with
   | none=>exact h.elim
   | some z=>
    obtain⟨h1,h2,h3⟩:=h;refine⟨h1,h2,?_⟩;generalize Pb _ _ _=f at h3⊢
    cases f with
    | none=>exact h3.elim
    | some f=>exact newS h3
  case store t a x=>
   simp only[dop] at h⊢
   obtain⟨h1,h2⟩:=h;refine⟨h1,?_⟩;rw[ha a (by simp [Op.operands]),ha x (by simp [Op.operands])];generalize dev G s.env a=va at h2⊢
   generalize dev G s.env x=vx at h2⊢
   unfold Ap8 at h2⊢
   split at h2<;>try exact h2.elim
   rename_i hx0 hx1 hx2 hx3
   rw[hh];generalize s.heap _=ob at h2⊢
   unfold Br5 at h2⊢
   split at h2<;>try exact h2.elim
   obtain⟨g1,g2,g3,g4⟩:=h2;refine⟨g1,g2,g3,?_⟩;rw[hh];exact hK Cs _ g4
  case makeSlice t l c=>
   simp only[dop] at h⊢
   rw[ha l (by simp [Op.operands]),ha c (by simp [Op.operands])];generalize dev G s.env l=vl at h⊢
   generalize dev G s.env c=vc at h⊢
   generalize P.underlying t=u at h⊢
   unfold Ny at h⊢
   split at h<;>try exact h.elim
   show Xu _ _ _ _ _ _ _ _ _;generalize Bh P _=z at h⊢
   cases z with
   | none=>exact h.elim
   | some z=>
    obtain⟨h1,h2,h3,h4,h5,h6,h7⟩:=h;exact⟨h1,h2,h3,h4,h5,h6,newS h7⟩
  case panic x=>simp only[dop] at h⊢;rw[ha x (by simp [Op.operands])];exact panic h
  case call c=>
   have hargs:El G s'.env c.args.toList=El G s.env c.args.toList:=
    Lu fun x hx=>ha x (by simp at hx;simp [Op.operands,Call.operands,hx])
   simp only[dop] at h⊢
   cases hc:c.callee with
   | invoke r m=>rw[hc] at h;exact h.elim
   | value f=>
    rw[hc] at h;simp only[Oa] at h⊢
    rw[hargs,ha f (by simp [Op.operands,Call.operands,hc])];generalize dev G s.env f=vf at h⊢
    unfold Aa2 at h⊢
    split at h<;>try exact h.elim
    all_goals
     rw[hh];refine h.mono ?_;intro e H' hr;cases e with
     | ret v=>exact hK _ _ hr
     | panic v=>exact hQ _ _ hr
   | builtin b=>
    rw[hc] at h;simp only[Oa] at h⊢
    rw[hargs];generalize El G s.env c.args.toList=vs at h⊢
    cases b<;>(try (cases vs<;>exact h.elim))<;>(try (exfalso;refine he ?_;simp [Mu,hc];done))
    case cap=>
     cases vs with
     | nil=>exact h.elim
     | cons x vs=> ?_
     cases vs with
     | cons z vs=>exact h.elim
     | nil=> ?_
     simp only[Ia] at h⊢
     generalize c.argTypes.toList=ts at h⊢
     unfold Cj4 at h⊢
     split at h<;>try exact h.elim
     show Cj3 _ _ _ _ _;generalize P.underlying _=u at h⊢
     unfold Cj3 at h⊢
     split at h<;>try exact h.elim
     ·show K' ⟨_,s'.heap⟩;rw[hh];exact hK _ _ h
     ·intro c hc;show K' ⟨_,s'.heap⟩;rw[hh];exact hK _ _ (h c hc)
     ·intro c hc hc';show K' ⟨_,s'.heap⟩;rw[hh];exact hK _ _ (h c hc hc')
    case clear=>
     cases vs with
     | nil=>exact h.elim
     | cons x vs=> ?_
     cases vs with
     | cons z vs=>exact h.elim
     | nil=> ?_
     simp only[Ia] at h⊢
     generalize c.argTypes.toList=ts at h⊢
     unfold Aw1 at h⊢
     split at h<;>try exact h.elim
     show Zv _ _ _ _ _ _;generalize P.underlying _=u at h⊢
     unfold Zv at h⊢
     split at h<;>try exact h.elim
     generalize Bh _ _=zo at h⊢
     unfold Aq2 at h⊢
     split at h<;>try exact h.elim
     ·show K' ⟨_,s'.heap⟩;rw[hh];exact hK _ _ h
     ·refine⟨h.1,h.2.1,?_⟩;have h2:=h.2.2;rw[hh];generalize s.heap _=ob at h2⊢
      unfold Bs5 at h2⊢
      split at h2<;>try exact h2.elim
      refine⟨h2.1,h2.2.1,h2.2.2.1,?_⟩;rw[hh];exact hK _ _ h2.2.2.2
    case delete=>
     cases vs with
     | nil=>exact h.elim
     | cons x vs=> ?_
     cases vs with
     | nil=>exact h.elim
     | cons y vs=> ?_
     cases vs with
     | cons z vs=>exact h.elim
     | nil=> ?_
     simp only[Ia] at h⊢
     generalize c.argTypes.toList=ts at h⊢
     unfold Al5 at h⊢
     split at h<;>try exact h.elim
     show Tx _ _ _ _ _ _ _;generalize P.underlying _=u at h⊢
     unfold Tx at h⊢
     split at h<;>try exact h.elim
     refine⟨h.1,?_⟩;have h2:=h.2;rw[hh];generalize s.heap _=ob at h2⊢
     unfold Aa1 at h2⊢
     split at h2<;>try exact h2.elim
     unfold Aa0 at h2⊢
     split at h2<;>try exact h2.elim
     rw[hh];exact hK _ _ h2
    case append=>
     cases vs with
     | nil=>exact h.elim
     | cons x vs=> ?_
     cases vs with
     | nil=>exact h.elim
     | cons y vs=> ?_
     cases vs with
     | cons z vs=>exact h.elim
     | nil=> ?_
     simp only[Ia] at h⊢
     generalize c.argTypes.toList=ts at h⊢
     unfold Vu at h⊢
     split at h<;>try exact h.elim
     show Tv _ _ _ _ _ _ _ _ _;generalize Jo _=it at h⊢
     cases it with
     | true=>
      simp only[Tv] at h⊢
      generalize P.underlying _=u at h⊢
      unfold Tu at h⊢
      split at h<;>try exact h.elim
      generalize Bh _ _=zo at h⊢
      unfold Zu at h⊢
      split at h<;>try exact h.elim
      refine⟨h.1,h.2.1,fun hn=> ?_,fun hn=>⟨(h.2.2.2 hn).1,(h.2.2.2 hn).2.1,(h.2.2.2 hn).2.2.1,newS (h.2.2.2 hn).2.2.2⟩⟩;have:=h.2.2.1 hn;show K' ⟨_,s'.heap⟩;rw[hh];exact hK _ _ this
     | false=> ?_
     simp only[Tv] at h⊢
     generalize Vt _=u' at h⊢
     generalize P.underlying _=u at h⊢
     unfold Zd at h⊢
     split at h<;>try exact h.elim
     obtain⟨g1,g2,g3,g4,g5,g6⟩:=h;refine⟨g1,g2,g3,g4,g5,?_⟩;rw[hh];generalize Ps _ _ _=sc at g6⊢
     unfold Aw0 at g6⊢
     split at g6<;>try exact g6.elim
     obtain⟨k1,k2,k3⟩:=g6;refine⟨k1,k2,?_⟩;unfold Jn at k3⊢
     split at k3<;>try exact k3.elim
     ·refine⟨fun hn=> ?_,fun hn=>⟨(k3.2 hn).1,newS (k3.2 hn).2⟩⟩;have:=k3.1 hn;show K' ⟨_,s'.heap⟩;rw[hh];exact hK _ _ this
     ·refine⟨k3.1,?_⟩;have k4:=k3.2;rw[hh];generalize s.heap _=ob at k4⊢
      unfold Lq at k4⊢
      split at k4<;>try exact k4.elim
      obtain⟨m1,m2,m3⟩:=k4;refine⟨m1,fun hl=>⟨(m2 hl).1,?_⟩,fun hl=>⟨(m3 hl).1,(m3 hl).2.1,fun r' pre hr hp=> ?_⟩⟩
      ·rw[hh];exact hK _ _ (m2 hl).2
      ·rw[hh] at hr⊢;exact hK _ _ ((m3 hl).2.2 r' pre hr hp)
    case panic=>
     cases vs with
     | nil=>exact h.elim
     | cons x xs=>cases xs with
      | nil=>exact panic h
      | cons y ys=>exact h.elim
end
end Go.Dl

-- THE DATA LEVEL, PART 1: plans of regions whose order is drawn.
namespace Go.Dl
open Go
inductive Plan where
 | done
 | take (i:Nat) (p:Plan)
 | go (i:Nat) (ls:List Nat) (p:Plan)
 | alt (p q:Plan)
 deriving Inhabited
def En:List Oper->Nat->Option Oper
 | [],_=>none
 | o::_,0=>some o
 | _::r,n+1=>En r n
def Ug (P:Program) (G:Nat->DVal) (K:DK) (Q:DExit->DS->Prop) (dst:Option Nat) (op:Op) (s:DS):Bool->DVal->Prop
 | true, .bool true=>dop P G dst K Q s op
 | true, .bool false=>Bb dst Cs K s
 | false, .bool true=>Bb dst Cs K s
 | false, .bool false=>dop P G dst K Q s op
 | true, .tuple []=>Bb dst Cs K s
 | false, .tuple []=>Bb dst Cs K s
 | _,_=>False
def Uh (P:Program) (G:Nat->DVal) (K:DK) (Q:DExit->DS->Prop) (dst:Option Nat) (op:Op) (s:DS) (b:Bool):Option Nat->Prop
 | some g=>Ug P G K Q dst op s b (s.env g)
 | none=>False
def Dm8 (P:Program) (G:Nat->DVal) (all:List Oper) (K:DK) (Q:DExit->DS->Prop) (s:DS) (dst:Option Nat) (op:Op):Option (Nat×Bool)->Prop
 | none=>dop P G dst K Q s op
 | some (j,b)=>Uh P G K Q dst op s b (Mo all j)
def dAt (P:Program) (G:Nat->DVal) (all:List Oper) (K:DK) (Q:DExit->DS->Prop) (s:DS):Option Oper->Prop
 | some o=>Dm8 P G all K Q s o.dst o.op o.guard
 | none=>False
def Cn0 (G:Nat->DVal) (s:DS) (H':Ab):Option Operand->Prop
 | some a=>Hv s.heap H' (dev G s.env a)
 | none=>True
def Ui:Option Oper->Option Operand
 | some o=>As8 o.op
 | none=>none
def Cn1 (G:Nat->DVal) (all:List Oper) (s:DS) (H':Ab):List Nat->Prop
 | []=>True
 | l::ls=>Cn0 G s H' (Ui (En all l))/\Cn1 G all s H' ls
def Cn2 (G:Nat->DVal) (all:List Oper) (ls:List Nat) (s:DS) (K:DK):DK:=fun s'=>Cn1 G all s s'.heap ls/\K s'
def Kr (P:Program) (G:Nat->DVal) (all:List Oper) (Q:DExit->DS->Prop):Plan->DS->Prop
 | .done,s=>Q .normal s
 | .take i p,s=>dAt P G all (Kr P G all Q p) Q s (En all i)
 | .go i ls p,s=>dAt P G all (Cn2 G all ls s (Kr P G all Q p)) Q s (En all i)
 | .alt p q,s=>Kr P G all Q p s/\Kr P G all Q q s
def QP (Q:DExit->DS->Prop):DExit->DS->Prop
 | .panic v,s=> ∀env,Q (.panic v) ⟨env,s.heap⟩
 | .normal,s=>Q .normal s
 | _,_=>False
def Mj (all:List Oper) (k j:Nat):Bool:=
 match En all k with
 | some o=>o.after.any fun e=>Region.binds .any e&&e.on==j
 | none=>false
def Ab9 (all:List Oper) (j k:Nat):Bool:=
 match En all j,En all k with
 | some x,some y=>x.apart all.toArray y
 | _,_=>true
def Bl2 (all:List Oper) (i:Nat):Bool:=
 match En all i with
 | some o=>Mu o.op
 | none=>false
def We (all:List Oper) (k:Nat) (T:List Nat):Bool:=
 match En all k with
 | some o=>o.after.all fun e=>!Region.binds .any e || T.contains e.on
 | none=>false
def It (all:List Oper) (j:Nat):Option Nat:=(En all j).bind (·.dst)
def Lv:Plan->List Nat
 | .go i _ _=> [i]
 | .alt p q=>Lv p++Lv q
 | _=> []
def Am1 (all:List Oper) (T:List Nat):Plan->Bool
 | .done=>true
 | .take _ _=>true
 | p=>(List.range all.length).all fun k=>T.contains k || (Lv p).contains k || !We all k T
def Az3 (all:List Oper) (T:List Nat) (l:Nat):Operand->Bool
 | .tmp t=>T.all fun m=>It all m !=some t || Mj all l m
 | _=>true
def Cn3 (all:List Oper) (k:Nat):List Nat:=
 match En all k with
 | some o=>(o.after.toList.filter fun e=>Region.binds .any e).map (·.on)
 | none=> []
def Zg (all:List Oper):Nat->List Nat->List Nat
 | 0,S=>S
 | k+1,S=>Zg all k (if S.contains k then Cn3 all k++S else S)
def Dv8 (all:List Oper) (i:Nat):List Nat:=Zg all (i+1) [i]
def Bt4 (all:List Oper) (T:List Nat) (i:Nat) (ls:List Nat):Bool:=
 T.all fun l=>match Ui (En all l) with
  | none=>true
  | some a=>Mj all i l || (l !=i&&(Dv8 all i).contains l) || (ls.contains l&&Az3 all T l a)
def Gf (all:List Oper):Plan->List Nat->Bool
 | .done,T=>(List.range all.length).all fun k=>T.contains k
 | .take i p,T=>decide (i<all.length)&&!T.contains i&&Bl2 all i&&We all i T&&
   ((List.range all.length).all fun k=>T.contains k || k==i || Mj all k i || Ab9 all i k)&&Am1 all (i::T) p&&Gf all p (i::T)
 | .go i ls p,T=>decide (i<all.length)&&!T.contains i&&We all i T&&Bt4 all T i ls&&Am1 all (i::T) p&&Gf all p (i::T)
 | .alt p q,T=>Gf all p T&&Gf all q T
section
variable {P:Program} {G:Nat->DVal} {N:Nat} {all:List Oper} {Q:DExit->DS->Prop} {s0:DS} {w0:World}
theorem Lg: ∀(all:List Oper) (j:Nat),En all j=all[j]?
 | [],j=>by simp [En]
 | o::r,0=>by simp [En]
 | o::r,j+1=>by simp [En,Lg r j]
theorem Ac0 {o:Oper} {K:DK} {s:DS}:dAt P G all K Q s (some o)↔
  (Mv all s.env o=some true/\dop P G o.dst K Q s o.op)\/(Mv all s.env o=some false/\Bb o.dst Cs K s):=by
 simp only[dAt];unfold Dm8 Mv;cases o.guard with
 | none=>simp
 | some jb=>
  obtain⟨j,b⟩:=jb;simp only;cases Mo all j with
  | none=>simp [Uh]
  | some g=>
   simp only[Uh];cases hv:s.env g<;>(try (cases b<;>simp [Ug];done))
   case bool v=>cases b<;>cases v<;>simp [Ug]
   case tuple vs=>cases vs<;>cases b<;>simp [Ug]
def Da9 (P:Program) (G:Nat->DVal) (all:List Oper) (j:Nat) (s:DS) (d:DVal):Prop:=
 ∃o,En all j=some o/\Mu o.op=true/\
  ((Mv all s.env o=some true/\ ∀K Q,Bb o.dst d K s->dop P G o.dst K Q s o.op)\/(Mv all s.env o=some false/\d=Cs))
def Seq (P:Program) (G:Nat->DVal) (all:List Oper):DS->List Nat->DS->Prop
 | s,[],s'=>s'=s
 | s,j::js,s'=> ∃d,Da9 P G all j s d/\Seq P G all ⟨Er s.env (It all j) d,s.heap⟩ js s'
def looks (all:List Oper) (j:Nat):List Nat:=
 match En all j with
 | some o=>o.looksAt all.toArray
 | none=> []
theorem Am2 {o:Oper} {env env':Nat->DVal} (h: ∀t∈o.looksAt all.toArray,env' t=env t): ∀x∈o.op.operands,dev G env' x=dev G env x:=by
 intro x hx;cases x with
 | tmp t=>
  refine h t ?_;unfold Oper.looksAt;refine List.mem_append_left _ (List.mem_filterMap.2 ⟨.tmp t,by simpa using hx,rfl⟩)
 | _=>rfl
theorem Uj {o:Oper} {env env':Nat->DVal} (h: ∀t∈o.looksAt all.toArray,env' t=env t):Mv all env' o=Mv all env o:=by
 unfold Mv;cases hg:o.guard with
 | none=>rfl
 | some jb=>
  obtain⟨j,b⟩:=jb;simp only;cases hj:Mo all j with
  | none=>rfl
  | some g=>
   simp only;rw[h g];unfold Oper.looksAt;refine List.mem_append_right _ ?_;rw[hg];rw[Ue] at hj;simp [hj]
theorem Da9.agree {j:Nat} {s s':DS} {d:DVal} (h:Da9 P G all j s d) (ha: ∀t∈looks all j,s'.env t=s.env t)
  (hk: ∀o a,En all j=some o->As8 o.op=some a->Hv s.heap s'.heap (dev G s.env a)):Da9 P G all j s' d:=by
 obtain⟨o,ho,he,h⟩:=h;have ha': ∀t∈o.looksAt all.toArray,s'.env t=s.env t:=by
  intro t ht;exact ha t (by unfold looks;rw[ho];exact ht)
 refine⟨o,ho,he,?_⟩;rw[Uj ha'];rcases h with⟨hw,h⟩ | h
 ·refine .inl ⟨hw,fun K' Q' hp=> ?_⟩;have h1:=h (fun s1=>s1=⟨Er s.env o.dst d,s.heap⟩) Q' rfl;obtain⟨d',hd',hall⟩:=Sn o.op he h1;refine hall Q' K' s' (Am2 (all:=all) ha') ?_ ?_
  ·exact fun a hl=>hk o a ho hl
  ·unfold Bb at hd' hp⊢
   have he:Er s.env o.dst d'=Er s.env o.dst d:=congrArg DS.env hd';have:Er s'.env o.dst d'=Er s'.env o.dst d:=by
    cases hdst:o.dst with
    | none=>rfl
    | some t=>
     rw[hdst] at he;have h2:=congrFun he t;simp [Er,upd] at h2;rw[h2]
   rw[this];exact hp
 ·exact .inr h
theorem Uk {env:Nat->DVal} {dst:Option Nat} {d:DVal} {t:Nat} (h:dst≠some t):Er env dst d t=env t:=by
 cases dst with
 | none=>rfl
 | some k=>simp only[Er,upd];rw[if_neg];intro e;exact h (by rw[e])
theorem Am3 {env:Nat->DVal} {x y:Option Nat} {d e:DVal} (h: ∀t,x=some t->y≠some t):Er (Er env x d) y e=Er (Er env y e) x d:=by
 cases x with
 | none=>rfl
 | some i=>
  cases y with
  | none=>rfl
  | some k=>
   have hne:k≠i:=fun hh=>h i rfl (by rw[hh]);funext t;simp only[Er,upd];by_cases h1:t=k
   ·subst h1;rw[if_pos rfl,if_neg hne,if_pos rfl]
   ·rw[if_neg h1];by_cases h2:t=i
    ·rw[if_pos h2,if_pos h2]
    ·rw[if_neg h2,if_neg h2,if_neg h1]
structure Apart (all:List Oper) (j k:Nat):Prop where
 a: ∀t,It all j=some t->t∉looks all k
 b: ∀t,It all j=some t->It all k≠some t
 c: ∀t,It all k=some t->t∉looks all j
theorem Xz {j k:Nat} {x y:Oper} (hx:En all j=some x) (hy:En all k=some y) (h:Ab9 all j k=true):Apart all j k:=by
 unfold Ab9 at h;rw[hx,hy] at h;obtain⟨h1,h2,h3⟩:=Oper.apart_spec h;refine⟨?_,?_,?_⟩<;>simp only[It,looks,hx,hy,Option.bind_some]<;>assumption
theorem Seq.front: ∀ {A:List Nat} {k:Nat} {B:List Nat} {s s':DS},(∀j∈A,Apart all j k)->Seq P G all s (A++k::B) s'->Seq P G all s (k::(A++B)) s'
 | [],k,B,s,s',_,h=>h
 | j::A,k,B,s,s',hA,h=>by
  obtain⟨d,hd,h⟩:=h;obtain⟨dk,hk,h⟩:=Seq.front (fun i hi=>hA i (by simp [hi])) h;have ap:=hA j (by simp);refine⟨dk,hk.agree (fun t ht=>(Uk (fun e=>ap.a t e ht)).symm) (fun _ _ _ _=>Fy),d,hd.agree (fun t ht=>Uk (fun e=>ap.c t e ht)) (fun _ _ _ _=>Fy),?_⟩;show Seq P G all ⟨Er (Er s.env _ dk) _ d,s.heap⟩ (A++B) s';rw[Am3 (fun t h1 h2=>ap.b t h2 h1)];exact h
theorem Seq.heap: ∀ {js:List Nat} {s s':DS},Seq P G all s js s'->s'.heap=s.heap
 | [],s,s',h=>by cases h;rfl
 | j::js,s,s',⟨d,_,h⟩=>by have:=Seq.heap h;exact this
theorem Seq.env: ∀ {js:List Nat} {s s':DS},Seq P G all s js s'-> ∀t,(∀j∈js,It all j≠some t)->s'.env t=s.env t
 | [],s,s',h,t,_=>by cases h;rfl
 | j::js,s,s',⟨d,_,h⟩,t,ht=>by
  rw[Seq.env h t fun i hi=>ht i (by simp [hi])];exact Uk (ht j (by simp))
theorem Seq.shift {k:Option Nat} {v:DVal} {h:Ab}: ∀ {js:List Nat} {s s':DS},Seq P G all s js s'->
  (∀j∈js,∀t,k=some t->t∉looks all j)->(∀j∈js,∀t,It all j=some t->k≠some t)->
  (∀A j B,js=A++j::B-> ∀o a,En all j=some o->As8 o.op=some a->(∀t,a= .tmp t-> ∀m∈j::B,It all m≠some t)/\Hv s.heap h (dev G s'.env a))->
  Seq P G all ⟨Er s.env k v,h⟩ js ⟨Er s'.env k v,h⟩
 | [],s,s',hs,_,_,_=>by cases hs;rfl
 | j::js,s,s',⟨d,hd,hs⟩,h1,h2,h3=>by
  refine⟨d,hd.agree (fun t ht=>Uk fun e=>h1 j (by simp) t e ht) (fun o a ho ha=> ?_),?_⟩
  ·obtain⟨g1,g2⟩:=h3 [] j js rfl o a ho ha;have:dev G s'.env a=dev G s.env a:=by
    cases a with
    | tmp t=>
     have:=Seq.env hs t fun i hi=>g1 t rfl i (by simp [hi]);simp only[dev];rw[this];exact Uk (g1 t rfl j (by simp))
    | _=>rfl
   rw[<-this];exact g2
  ·have hs':=Seq.shift (k:=k) (v:=v) (h:=h) hs (fun i hi=>h1 i (by simp [hi])) (fun i hi=>h2 i (by simp [hi])) (fun A i B e=>h3 (j::A) i B (by rw[e];rfl));show Seq P G all ⟨Er (Er s.env k v) (It all j) d,h⟩ js _;rw[Am3 fun t e1 e2=>h2 j (by simp) t e2 e1];exact hs'
end
end Go.Dl

-- THE DATA LEVEL, PART 2: what a plan ends with, every order that is drawn ends with.
namespace Go.Dl
open Go
section
variable {P:Program} {G:Nat->DVal} {N:Fr} {all:List Oper} {Q:DExit->DS->Prop} {s0:DS} {w0:World}
theorem Ac1 {F:Fence} {n:Nat} (hF:FOk F) {k:Nat} {o:Oper} {c:DS} {a:Act} {w:World} {K:DK} (hall:all.all (Gt N)=true) (hk:En all k=some o) (hS:Sim G N c a w) (hE:Ext s0.heap w0 c.heap w)
  (h:dAt P G all K Q c (some o)):wpOpIn F n P all.toArray (Kp G N Q s0 w0) k (Fd G N K c w) a w:=by
 have hko:all.toArray[k]? =some o:=by rw[Lg] at hk;simpa using hk
 have hok:Gt N o=true:=by
  rw[Lg] at hk;exact List.all_eq_true.1 hall o (List.mem_of_getElem? hk)
 unfold wpOpIn;simp only[hko];have skip:Bb o.dst Cs K c->Fd G N K c w (a.put o.dst undef) w:=fun hp=>
  ⟨⟨Er c.env o.dst Cs,c.heap⟩,hp,hS.put (Jp hok) (Ob w c.heap),Ext.refl _ _⟩
 simp only[dAt] at h;unfold Dm8 at h;cases hg:o.guard with
 | none=>
  rw[hg] at h;rw[if_pos (by simp [Region.wanted,hg])];exact Mt hF hok hS hE h
 | some jb=>
  obtain⟨j,b⟩:=jb;rw[hg] at h;simp only at h;cases hj:Mo all j with
  | none=>rw[hj] at h;exact h.elim
  | some g=>
   rw[hj] at h;simp only[Uh] at h;have hjo:(all[j]?).bind (·.dst)=some g:=by rw[<-Ue];exact hj
   obtain⟨oj,hoj,hdj⟩:=Option.bind_eq_some_iff.1 hjo;have hmem:oj∈all:=List.mem_of_getElem? hoj;have hgN:g<N:=by
    have:=List.all_eq_true.1 hall oj hmem;have:=Jp this;rw[hdj] at this;simpa [Bs] using this
   have hrel:=hS.tmps g hgN;have hy: ∀v,c.env g= .bool v->yielded all.toArray a.tmps j=some v:=by
    intro v hv;rw[hv] at hrel;simp only[Rel] at hrel;have h1:a.tmps[g]? =some (.bool v):=by
     rw[Array.getD_eq_getD_getElem?] at hrel;cases hq:a.tmps[g]? with
     | none=>
      have:=hS.size;rw[Array.getElem?_eq_none_iff] at hq;omega
     | some z=>rw[hq] at hrel;simpa using hrel
    simp [yielded,hoj,hdj,h1]
   by_cases hun:c.env g= .tuple []
   ·rw[hun] at h hrel;simp only[Rel,Ap] at hrel;obtain⟨xs,hxs,hx0⟩:=hrel;have hyn:yielded all.toArray a.tmps j=none:=by
     have h2: ∀z,a.tmps[g]? =some z->z= .tuple xs:=fun z hz=>by
      rw[Array.getD_eq_getD_getElem?,hz] at hxs;simpa using hxs
     unfold yielded;simp only[List.getElem?_toArray,hjo,Option.bind_some];cases hz:a.tmps[g]? with
     | none=>rfl
     | some z=>rw[h2 z hz]
    rw[if_neg (by simp [Region.wanted,hg,hyn])];exact⟨fun f _=>hF.fn f,skip (by cases b<;>exact h)⟩
   cases hv:c.env g<;>rw[hv] at h<;>(try (cases b<;>exact h.elim))
   case tuple vs=>cases vs with
    | nil=>exact absurd hv hun
    | cons _ _=>cases b<;>exact h.elim
   rename_i v
   have hy':=hy v hv;cases b<;>cases v<;>simp only[Ug] at h
   ·rw[if_pos (by simp [Region.wanted,hg,hy'])];exact Mt hF hok hS hE h
   ·rw[if_neg (by simp [Region.wanted,hg,hy'])];exact⟨fun f _=>hF.fn f,skip h⟩
   ·rw[if_neg (by simp [Region.wanted,hg,hy'])];exact⟨fun f _=>hF.fn f,skip h⟩
   ·rw[if_pos (by simp [Region.wanted,hg,hy'])];exact Mt hF hok hS hE h
structure Inv (P:Program) (G:Nat->DVal) (N:Fr) (all:List Oper) (Q:DExit->DS->Prop) (s0:DS) (w0:World)
  (T js:List Nat) (p:Plan) (c s:DS) (a:Act) (w:World) (listed:Array Bool):Prop where
 sim:Sim G N c a w
 ext:Ext s0.heap w0 c.heap w
 seq:Seq P G all c js s
 plan:Kr P G all Q p s
 ok:Gf all p T=true
 cov:Am1 all T p=true
 size:listed.size=all.length
 iff: ∀i,i<all.length->(listed.getD i true=true↔i∈T/\i∉js)
 sub: ∀i∈js,i∈T/\i<all.length
 tlt: ∀i∈T,i<all.length
 nodup:js.Nodup
 eager: ∀j∈js,Bl2 all j=true
 pair:js.Pairwise fun j k=>(Mj all k j=true\/Ab9 all j k=true)/\Mj all j k=false
 out: ∀j∈js,∀k,k<all.length->k∉T->Mj all k j=true\/Ab9 all j k=true
 deps: ∀j∈js,∀e,Mj all j e=true->e∈T/\e≠j
 clo: ∀k,k<all.length->listed.getD k true=true-> ∀e,Mj all k e=true->listed.getD e false=true
theorem Nn {i:Nat} (h:i<all.length): ∃o,En all i=some o:=by
 rw[Lg];exact⟨all[i],by simp [h]⟩
theorem Bl3 {k e:Nat} (h:e∈Cn3 all k):Mj all k e=true:=by
 unfold Cn3 at h;unfold Mj;split at h
 ·rename_i o ho
  simp only[List.mem_map,List.mem_filter,Array.mem_toList_iff] at h;obtain⟨x,⟨hx,hb⟩,rfl⟩:=h;exact Array.any_eq_true'.2 ⟨x,hx,by simp [hb]⟩
 ·cases h
theorem Ul {listed:Array Bool} {i:Nat} (hs:listed.size=all.length) (hi: ∀e,Mj all i e=true->listed.getD e false=true)
  (hc: ∀k,k<all.length->listed.getD k true=true-> ∀e,Mj all k e=true->listed.getD e false=true): ∀(n:Nat) (S:List Nat),(∀m∈S,m=i\/listed.getD m false=true)-> ∀m∈Zg all n S,m=i\/listed.getD m false=true
 | 0,S,h=>h
 | k+1,S,h=>by
  rw[Zg];refine Ul hs hi hc k _ ?_;split
  ·rename_i hk
   intro m hm;rcases List.mem_append.1 hm with hm | hm
   ·have hd:=Bl3 hm;rcases h k (List.contains_iff_mem.1 hk) with rfl | hl
    ·exact .inr (hi m hd)
    ·have hlt:k<listed.size:=by
      rcases Nat.lt_or_ge k listed.size with h' | h'
      ·exact h'
      ·simp [Array.getElem?_eq_none h'] at hl
     refine .inr (hc k (by rw[<-hs];exact hlt) ?_ m hd);simpa [hlt] using hl
   ·exact h m hm
  ·exact h
theorem Mw {k:Nat} {T:List Nat} (hk:k<all.length):We all k T=true↔ ∀e,Mj all k e=true->e∈T:=by
 obtain⟨o,ho⟩:=Nn hk;unfold We Mj;rw[ho];simp only[Array.all_eq_true_iff_forall_mem,Bool.or_eq_true,Bool.not_eq_true',List.contains_iff_mem];constructor
 ·intro h e he;obtain⟨x,hx,hb⟩:=Array.any_eq_true'.1 he;simp only[Bool.and_eq_true,beq_iff_eq] at hb;rcases h x hx with h1 | h1
  ·rw[hb.1] at h1;cases h1
  ·rw[<-hb.2];exact h1
 ·intro h x hx;by_cases hb:Region.binds .any x=true
  ·exact .inr (h x.on (Array.any_eq_true'.2 ⟨x,hx,by simp [hb]⟩))
  ·exact .inl (by simpa using hb)
theorem Oj {listed:Array Bool} {k:Nat} (hs:listed.size=all.length):k∈Region.ready .any all.toArray listed↔
  k<all.length/\listed.getD k true=false/\ ∀e,Mj all k e=true->listed.getD e false=true:=by
 rw[mem_ready];constructor
 ·rintro⟨h0,o,ho,h⟩;have ho':all[k]? =some o:=by simpa using ho
  have hlt:k<all.length:=(List.getElem?_eq_some_iff.1 ho').1;refine⟨hlt,h0,fun e he=> ?_⟩;unfold Mj at he;rw[Lg,ho'] at he;obtain⟨x,hx,hb⟩:=Array.any_eq_true'.1 he;simp only[Bool.and_eq_true,beq_iff_eq] at hb;rw[<-hb.2];exact h x hx hb.1
 ·rintro⟨hlt,h0,h⟩;refine⟨h0,all[k],by simp [hlt],fun x hx hb=>h x.on ?_⟩;unfold Mj;rw[Lg,List.getElem?_eq_getElem hlt];exact Array.any_eq_true'.2 ⟨x,hx,by simp [hb]⟩
theorem Pe {listed:Array Bool} {e:Nat} (h:e<listed.size):listed.getD e false=listed.getD e true:=by
 simp [h]
theorem Inv.advance {T js:List Nat} {i:Nat} {p:Plan} {c s:DS} {a:Act} {w:World} {listed:Array Bool} (h:Inv P G N all Q s0 w0 T js (.take i p) c s a w listed):
    ∃s',Inv P G N all Q s0 w0 (i::T) (js++ [i]) p c s' a w listed:=by
  have hok:=h.ok
  simp only[Gf,Bool.and_eq_true,decide_eq_true_eq,Bool.not_eq_true',List.all_eq_true,List.mem_range,Bool.or_eq_true,List.contains_iff_mem,beq_iff_eq] at hok
  obtain⟨⟨⟨⟨⟨⟨hi,hT⟩,he⟩,hd⟩,ha⟩,hc⟩,hp⟩:=hok
  have hT':i∉T:=by intro hm;rw[List.contains_iff_mem.2 hm] at hT;cases hT
  rw[Mw hi] at hd
  obtain⟨o,ho⟩:=Nn hi
  have hpl:=h.plan
  simp only[Kr,ho] at hpl
  have heo:Mu o.op=true:=by unfold Bl2 at he;rw[ho] at he;exact he
  have hst: ∃d,Da9 P G all i s d/\Kr P G all Q p ⟨Er s.env (It all i) d,s.heap⟩:=by
    have hdst:It all i=o.dst:=by simp [It,ho]
    rw[hdst]
    rcases Ac0.1 hpl with⟨hw,hdop⟩ | ⟨hw,hput⟩
    · obtain⟨d,hd1,hd2⟩:=Sn o.op heo hdop
      exact⟨d,⟨o,ho,heo, .inl ⟨hw,fun K Q hK=>hd2 Q K s (fun _ _=>rfl) (fun _ _=>Fy) hK⟩⟩,hd1⟩
    · exact⟨Cs,⟨o,ho,heo, .inr ⟨hw,rfl⟩⟩,hput⟩
  obtain⟨d,hev,hpl'⟩:=hst
  have seqApp: ∀(js:List Nat) (c:DS),Seq P G all c js s->Seq P G all c (js++ [i]) ⟨Er s.env (It all i) d,s.heap⟩:=by
    intro js
    induction js with
    | nil=>intro c hc;cases hc;exact⟨d,hev,rfl⟩
    | cons j js ih=>intro c hc;obtain⟨d',h1,h2⟩:=hc;exact⟨d',h1,ih _ h2⟩
  refine⟨⟨Er s.env (It all i) d,s.heap⟩,?_⟩
  exact {
    sim:=h.sim,ext:=h.ext,seq:=seqApp js c h.seq,plan:=hpl',ok:=hp,cov:=hc,size:=h.size
    iff:=fun k hk=>by
      rw[h.iff k hk]
      simp only[List.mem_cons,List.mem_append,List.not_mem_nil,or_false,not_or]
      constructor
      · rintro⟨h1,h2⟩
        exact⟨.inr h1,h2,fun e=>hT' (e▸h1)⟩
      · rintro⟨h1,h2,h3⟩
        exact⟨h1.resolve_left h3,h2⟩
    sub:=fun k hk=>by
      simp only[List.mem_append,List.mem_cons,List.not_mem_nil,or_false] at hk⊢
      rcases hk with hk | rfl
      · exact⟨.inr (h.sub k hk).1,(h.sub k hk).2⟩
      · exact⟨.inl rfl,hi⟩
    tlt:=fun k hk=>by
      simp only[List.mem_cons] at hk
      rcases hk with rfl | hk
      · exact hi
      · exact h.tlt k hk
    nodup:=by
      rw[List.nodup_append]
      refine⟨h.nodup,by simp,?_⟩
      intro x hx y hy e
      simp only[List.mem_cons,List.not_mem_nil,or_false] at hy
      subst hy;subst e
      exact hT' (h.sub x hx).1
    eager:=fun k hk=>by
      simp only[List.mem_append,List.mem_cons,List.not_mem_nil,or_false] at hk
      rcases hk with hk | rfl
      · exact h.eager k hk
      · exact he
    pair:=by
      rw[List.pairwise_append]
      refine⟨h.pair,by simp,?_⟩
      intro j hj k hk
      simp only[List.mem_cons,List.not_mem_nil,or_false] at hk
      subst hk
      refine⟨h.out j hj k hi hT',?_⟩
      cases hdep:Mj all j k with
      | false=>rfl
      | true=>exact(hT' (h.deps j hj k hdep).1).elim
    out:=fun j hj k hk hkT=>by
      simp only[List.mem_append,List.mem_cons,List.not_mem_nil,or_false,not_or] at hj hkT
      rcases hj with hj | rfl
      · exact h.out j hj k hk hkT.2
      · rcases ha k hk with((h1 | h1) | h1) | h1
        · exact(hkT.2 h1).elim
        · exact(hkT.1 h1).elim
        · exact .inl h1
        · exact .inr h1
    deps:=fun j hj e hde=>by
      simp only[List.mem_append,List.mem_cons,List.not_mem_nil,or_false] at hj⊢
      rcases hj with hj | rfl
      · exact⟨.inr (h.deps j hj e hde).1,(h.deps j hj e hde).2⟩
      · have:=hd e hde
        exact⟨.inr this,fun hh=>hT' (hh▸this)⟩
    clo:=h.clo }
def Bt5:Plan->Prop
 | .take _ _=>False
 | _=>True
theorem Inv.normal: ∀ {p:Plan} {T js:List Nat} {c s:DS} {a:Act} {w:World} {listed:Array Bool},Inv P G N all Q s0 w0 T js p c s a w listed->
  ∃T' js' p' s',Inv P G N all Q s0 w0 T' js' p' c s' a w listed/\Bt5 p'
 | .take i p,T,js,c,s,a,w,listed,h=>by
  obtain⟨s',h'⟩:=h.advance;exact h'.normal
 | .done,T,js,c,s,a,w,listed,h=>⟨T,js,_,s,h,trivial⟩
 | .go i ls p,T,js,c,s,a,w,listed,h=>⟨T,js,_,s,h,trivial⟩
 | .alt p q,T,js,c,s,a,w,listed,h=>⟨T,js,_,s,h,trivial⟩
theorem Wf: ∀(p:Plan) (T:List Nat) (s:DS),Gf all p T=true->Kr P G all Q p s->
  ((∀i,i<all.length->i∈T)/\Q .normal s)\/ ∃i,i<all.length/\i∉T/\ ∀e,Mj all i e=true->e∈T
 | .done,T,s,hok,h=>by
  simp only[Gf,List.all_eq_true,List.mem_range,List.contains_iff_mem] at hok;exact .inl ⟨hok,h⟩
 | .take i p,T,s,hok,h=>by
  simp only[Gf,Bool.and_eq_true,decide_eq_true_eq,Bool.not_eq_true'] at hok;obtain⟨⟨⟨⟨⟨⟨hi,hT⟩,he⟩,hd⟩,_⟩,_⟩,_⟩:=hok;exact .inr ⟨i,hi,(fun hm=>by rw[List.contains_iff_mem.2 hm] at hT;cases hT),(Mw hi).1 hd⟩
 | .go i ls p,T,s,hok,h=>by
  simp only[Gf,Bool.and_eq_true,decide_eq_true_eq,Bool.not_eq_true'] at hok;obtain⟨⟨⟨⟨⟨hi,hT⟩,hd⟩,_⟩,_⟩,_⟩:=hok;exact .inr ⟨i,hi,(fun hm=>by rw[List.contains_iff_mem.2 hm] at hT;cases hT),(Mw hi).1 hd⟩
 | .alt p q,T,s,hok,h=>by
  simp only[Gf,Bool.and_eq_true] at hok;exact Wf p T s hok.1 h.1
theorem So: ∀(p:Plan) (T:List Nat) (s:DS) (k:Nat),Gf all p T=true->Kr P G all Q p s->k∈Lv p->
  ∃ls p',Gf all (.go k ls p') T=true/\Kr P G all Q (.go k ls p') s
 | .done,T,s,k,_,_,hk=>by simp [Lv] at hk
 | .take i p,T,s,k,_,_,hk=>by simp [Lv] at hk
 | .go i ls p,T,s,k,hok,h,hk=>by
  simp only[Lv,List.mem_cons,List.not_mem_nil,or_false] at hk;subst hk;exact⟨ls,p,hok,h⟩
 | .alt p q,T,s,k,hok,h,hk=>by
  simp only[Gf,Bool.and_eq_true] at hok;simp only[Lv,List.mem_append] at hk;rcases hk with hk | hk
  ·exact So p T s k hok.1 h.1 hk
  ·exact So q T s k hok.2 h.2 hk
theorem Bl4 {p:Plan} {T:List Nat} (hc:Am1 all T p=true) (hok:Gf all p T=true) (hn:Bt5 p) {k:Nat} (hk:k<all.length) (hT:k∉T) (hd: ∀e,Mj all k e=true->e∈T):k∈Lv p:=by
 have gen:((List.range all.length).all fun k=>T.contains k || (Lv p).contains k || !We all k T)=true->k∈Lv p:=by
  intro h;simp only[List.all_eq_true,List.mem_range,Bool.or_eq_true,List.contains_iff_mem,Bool.not_eq_true'] at h;rcases h k hk with(h1 | h1) | h1
  ·exact(hT h1).elim
  ·exact h1
  ·rw[(Mw hk).2 hd] at h1;cases h1
 cases p with
 | done=>
  simp only[Gf,List.all_eq_true,List.mem_range,List.contains_iff_mem] at hok;exact(hT (hok k hk)).elim
 | take i p=>exact hn.elim
 | go i ls p=>exact gen hc
 | alt p q=>exact gen hc
theorem Am4 {s:DS} {H':Ab}: ∀ {ls:List Nat},Cn1 G all s H' ls-> ∀l∈ls,Cn0 G s H' (Ui (En all l))
 | [],_,l,hl=>by simp at hl
 | x::ls,h,l,hl=>by
  simp only[List.mem_cons] at hl;rcases hl with rfl | hl
  ·exact h.1
  ·exact Am4 h.2 l hl
theorem Inv.sound {F:Fence} {n:Nat} (hF:FOk F) (hall:all.all (Gt N)=true) (hQ: ∀v env env' h,Q (.panic v) ⟨env,h⟩->Q (.panic v) ⟨env',h⟩): ∀(Dz:Nat) (U T js:List Nat) (p:Plan) (c s:DS) (a:Act) (w:World) (listed:Array Bool),
    Inv P G N all Q s0 w0 T js p c s a w listed->U.length<=Dz->(∀i,i<all.length->listed.getD i true=false->i∈U)->
    wpAnyIn F n P .any all.toArray (Kp G N Q s0 w0) Dz listed a w:=by
  intro Dz
  induction Dz with
  | zero=>
    intro U T js p c s a w listed h hU hUm
    have hnil:U= []:=List.eq_nil_of_length_eq_zero (Nat.le_zero.1 hU)
    subst hnil
    have hall1: ∀i,i<all.length->listed.getD i true=true:=by
      intro i hi
      cases hl:listed.getD i true with
      | true=>rfl
      | false=>exact absurd (hUm i hi hl) (by simp)
    have hjs:js= []:=by
      cases js with
      | nil=>rfl
      | cons j js=>
        have hs:=h.sub j (by simp)
        exact absurd (by simp) ((h.iff j hs.2).1 (hall1 j hs.2)).2
    subst hjs
    have hsc:=h.seq
    simp only[Seq] at hsc
    refine⟨?_,?_⟩
    · rw[List.eq_nil_iff_forall_not_mem]
      intro k hk
      rw[Oj h.size] at hk
      rw[hall1 k hk.1] at hk
      cases hk.2.1
    · rcases Wf p T s h.ok h.plan with⟨_,hq⟩ | ⟨i,hi,hiT,_⟩
      · subst hsc;exact⟨.normal,s,hq, .normal,h.sim,h.ext⟩
      · exact absurd ((h.iff i hi).1 (hall1 i hi)).1 hiT
  | succ Dz ih=>
    intro U T js p c s a w listed h0 hU hUm
    obtain⟨T,js,p,s,h,hnt⟩:=h0.normal
    have inList: ∀e,listed.getD e false=true->e∈T/\e∉js:=by
      intro e he
      have hlt:e<listed.size:=by
        rcases Nat.lt_or_ge e listed.size with h' | h'
        · exact h'
        · simp [Array.getElem?_eq_none h'] at he
      have:=he
      rw[Pe hlt] at this
      exact(h.iff e (by rw[<-h.size];exact hlt)).1 this
    refine⟨fun hr=> ?_,fun k hk=> ?_⟩
    · -- nothing may come up: all have
      have hno: ∀k,k∉Region.ready .any all.toArray listed:=by rw[hr];simp
      have toL: ∀e,e∈T->e∉js->e<all.length->listed.getD e false=true:=by
        intro e h1 h2 h3
        rw[Pe (by rw[h.size];exact h3)]
        exact(h.iff e h3).2 ⟨h1,h2⟩
      have unl: ∀i,i<all.length-> ¬(i∈T/\i∉js)->listed.getD i true=false:=by
        intro i hi hn
        cases hl:listed.getD i true with
        | false=>rfl
        | true=>exact(hn ((h.iff i hi).1 hl)).elim
      have hjs:js= []:=by
        cases js with
        | nil=>rfl
        | cons j js=>
          refine(hno j ((Oj h.size).2 ⟨(h.sub j (by simp)).2,unl j (h.sub j (by simp)).2 (fun hh=>hh.2 (by simp)),fun e he=> ?_⟩)).elim
          obtain⟨g1,g2⟩:=h.deps j (by simp) e he
          refine toL e g1 (fun hm=> ?_) (h.tlt e g1)
          simp only[List.mem_cons] at hm
          rcases hm with hm | hm
          · exact g2 hm
          · have:=((List.pairwise_cons.1 h.pair).1 e hm).2
            rw[he] at this;cases this
      subst hjs
      have hsc:=h.seq
      simp only[Seq] at hsc
      rcases Wf p T s h.ok h.plan with⟨_,hq⟩ | ⟨i,hi,hiT,hd⟩
      · subst hsc;exact⟨.normal,s,hq, .normal,h.sim,h.ext⟩
      · exact(hno i ((Oj h.size).2 ⟨hi,unl i hi (fun hh=>hiT hh.1),fun e he=>toL e (hd e he) (by simp) (h.tlt e (hd e he))⟩)).elim
    · rw[Oj h.size] at hk
      obtain⟨hkn,hun,hdep⟩:=hk
      obtain⟨o,ho⟩:=Nn hkn
      have hdepT: ∀e,Mj all k e=true->e∈T/\e∉js:=fun e he=>inList e (hdep e he)
      have hU':k∈U:=hUm k hkn hun
      have hUl:(U.erase k).length<=Dz:=by
        rw[List.length_erase_of_mem hU'];omega
      have hset: ∀i,i≠k->(listed.setIfInBounds k true).getD i true=listed.getD i true:=fun i hi=>getD_set_ne true (Ne.symm hi)
      have hsetk:(listed.setIfInBounds k true).getD k true=true:=by
        have:k<listed.size:=by rw[h.size];exact hkn
        simp [this]
      have hup: ∀e,listed.getD e false=true->(listed.setIfInBounds k true).getD e false=true:=by
        intro e he
        have hlt:e<listed.size:=by
          rcases Nat.lt_or_ge e listed.size with h' | h'
          · exact h'
          · simp [Array.getElem?_eq_none h'] at he
        by_cases hek:e=k
        · subst hek
          simp [hlt]
        · rw[getD_set_ne false (Ne.symm hek)];exact he
      have hclo: ∀i,i<all.length->(listed.setIfInBounds k true).getD i true=true-> ∀e,Mj all i e=true->(listed.setIfInBounds k true).getD e false=true:=by
        intro i hi hl e he
        by_cases hik:i=k
        · subst hik;exact hup e (hdep e he)
        · rw[hset i hik] at hl
          exact hup e (h.clo i hi hl e he)
      have hUm': ∀i,i<all.length->(listed.setIfInBounds k true).getD i true=false->i∈U.erase k:=by
        intro i hi hl
        by_cases hik:i=k
        · subst hik;rw[hsetk] at hl;cases hl
        · rw[hset i hik] at hl
          exact(List.mem_erase_of_ne hik).2 (hUm i hi hl)
      by_cases hkj:k∈js
      · -- it was taken before
        obtain⟨A,B,rfl⟩:=List.append_of_mem hkj
        have hpw:=List.pairwise_append.1 h.pair
        have hnd:=h.nodup
        rw[List.nodup_append] at hnd
        have apA: ∀j∈A,Apart all j k:=by
          intro j hj
          have hjlt:=(h.sub j (by simp [hj])).2
          obtain⟨x,hx⟩:=Nn hjlt
          rcases(hpw.2.2 j hj k (by simp)).1 with hd | ha
          · exact absurd (by simp [hj]) (hdepT j hd).2
          · exact Xz hx ho ha
        obtain⟨d,hev,hrest⟩:=Seq.front apA h.seq
        obtain⟨o',ho',heo,hev⟩:=hev
        rw[ho] at ho';cases ho'
        have hdst:It all k=o.dst:=by simp [It,ho]
        have hat:dAt P G all (fun s1=>s1=⟨Er c.env o.dst d,c.heap⟩) Q c (some o):=by
          rw[Ac0]
          rcases hev with⟨hw,hv⟩ | ⟨hw,rfl⟩
          · exact .inl ⟨hw,hv _ _ rfl⟩
          · exact .inr ⟨hw,rfl⟩
        refine wpOpIn_mono ?_ (Ac1 hF hall ho h.sim h.ext hat)
        rintro a' w' ⟨s1,rfl,hS',hE'⟩
        refine ih (U.erase k) T (A++B) p ⟨Er c.env o.dst d,c.heap⟩ s a' w' _ ?_ hUl hUm'
        have memE: ∀i,i∈A++B->i∈A++k::B:=fun i hi=>by
          simp only[List.mem_append,List.mem_cons] at hi⊢
          rcases hi with hi | hi
          · exact .inl hi
          · exact .inr (.inr hi)
        have subl:(A++B).Sublist (A++k::B):=List.Sublist.append (List.Sublist.refl A) (List.sublist_cons_self k B)
        have kno:k∉A++B:=by
          intro hm
          have:=h.nodup
          rw[(List.perm_middle (a:=k) (l₁:=A) (l₂:=B)).nodup_iff] at this
          exact(List.nodup_cons.1 this).1 hm
        exact {
          sim:=hS',ext:=h.ext.trans hE',seq:=by rw[hdst] at hrest;exact hrest,plan:=h.plan,ok:=h.ok,cov:=h.cov
          size:=by simp [h.size]
          iff:=fun i hi=>by
            by_cases hik:i=k
            · subst hik
              rw[hsetk]
              exact⟨fun _=>⟨(h.sub i (by simp)).1,kno⟩,fun _=>rfl⟩
            · rw[hset i hik,h.iff i hi]
              simp only[List.mem_append,List.mem_cons,not_or]
              constructor
              · rintro⟨g1,g2,g3⟩;exact⟨g1,g2,g3.2⟩
              · rintro⟨g1,g2,g3⟩;exact⟨g1,g2,hik,g3⟩
          sub:=fun i hi=>h.sub i (memE i hi)
          tlt:=h.tlt
          nodup:=h.nodup.sublist subl
          eager:=fun i hi=>h.eager i (memE i hi)
          pair:=h.pair.sublist subl
          out:=fun i hi=>h.out i (memE i hi)
          deps:=fun i hi=>h.deps i (memE i hi)
          clo:=hclo }
      · -- it is the plan's next
        have hkT:k∉T:=by
          intro hm
          have:=(h.iff k hkn).2 ⟨hm,hkj⟩
          rw[hun] at this;cases this
        have hf:=Bl4 h.cov h.ok hnt hkn hkT fun e he=>(hdepT e he).1
        obtain⟨ls,p',hok,hpl⟩:=So p T s k h.ok h.plan hf
        simp only[Gf,Bool.and_eq_true,decide_eq_true_eq,Bool.not_eq_true'] at hok
        obtain⟨⟨⟨⟨⟨_,_⟩,hd⟩,hlk⟩,hc'⟩,hp'⟩:=hok
        simp only[Kr,ho] at hpl
        have apJ: ∀j∈js,Apart all j k:=by
          intro j hj
          obtain⟨x,hx⟩:=Nn (h.sub j hj).2
          rcases h.out j hj k hkn hkT with hd | ha
          · exact absurd hj (hdepT j hd).2
          · exact Xz hx ho ha
        have hdst:It all k=o.dst:=by simp [It,ho]
        have hlooks:looks all k=o.looksAt all.toArray:=by simp [looks,ho]
        have agree: ∀t∈o.looksAt all.toArray,c.env t=s.env t:=by
          intro t ht
          refine(Seq.env h.seq t fun j hj e=> ?_).symm
          exact(apJ j hj).a t e (by rw[hlooks];exact ht)
        have shift: ∀d H',Cn2 G all ls s (Kr P G all Q p') ⟨Er s.env o.dst d,H'⟩->
            (∃s1,Kr P G all Q p' s1/\Seq P G all ⟨Er c.env o.dst d,H'⟩ js s1):=by
          intro d H' hK
          refine⟨_,hK.2,Seq.shift h.seq (fun j hj t e=> ?_) (fun j hj t e e2=> ?_) ?_⟩
          · exact(apJ j hj).c t (by rw[hdst];exact e)
          · exact(apJ j hj).b t e (by rw[hdst];exact e2)
          · intro A j B e oj a hoj hla
            have hjm:j∈js:=by rw[e];simp
            have hjT:=(h.sub j hjm).1
            unfold Bt4 at hlk
            rw[List.all_eq_true] at hlk
            have hl:=hlk j hjT
            simp only[Ui,hoj,hla,Bool.or_eq_true,Bool.and_eq_true,List.contains_iff_mem,bne_iff_ne] at hl
            rcases hl with(hl | ⟨hl1,hl2⟩) | ⟨hl1,hl2⟩
            · exact absurd hjm (hdepT j hl).2
            · rcases Ul h.size hdep h.clo (k+1) [k] (fun m hm=> .inl (by simpa using hm)) j hl2 with hh | hh
              · exact absurd hh hl1
              · exact absurd hjm (inList j hh).2
            · refine⟨fun t ht m hm hdm=> ?_,?_⟩
              · subst ht
                simp only[Az3,List.all_eq_true,Bool.or_eq_true,bne_iff_ne] at hl2
                have hmj:m∈js:=by rw[e];exact List.mem_append_right _ hm
                rcases hl2 m (h.sub m hmj).1 with g | g
                · exact g hdm
                · simp only[List.mem_cons] at hm
                  rcases hm with rfl | hm
                  · exact(h.deps m hmj m g).2 rfl
                  · have hp:=h.pair
                    rw[e,List.pairwise_append] at hp
                    have:=(List.pairwise_cons.1 hp.2.1).1 m hm
                    rw[g] at this
                    cases this.2
              · have hkl:=Am4 hK.1 j hl1
                simp only[Ui,hoj,hla,Cn0] at hkl
                rw[<-Seq.heap h.seq]
                exact hkl
        have hat:dAt P G all (fun c1=> ∃s1,Kr P G all Q p' s1/\Seq P G all c1 js s1) Q c (some o):=by
          rw[Ac0] at hpl⊢
          rw[Uj agree]
          have hheap:=Seq.heap h.seq
          rcases hpl with⟨hw,hop⟩ | ⟨hw,hput⟩
          · refine .inl ⟨hw,Cc2 o.op (Am2 (all:=all) agree) hheap.symm (fun d H' hK=>shift d H' hK) (fun v H' hq=>hQ v _ _ H' hq) hop⟩
          · refine .inr ⟨hw,?_⟩
            unfold Bb at hput⊢
            rw[<-hheap]
            exact shift _ _ hput
        refine wpOpIn_mono ?_ (Ac1 hF hall ho h.sim h.ext hat)
        rintro a' w' ⟨c1,⟨s1,hp1,hseq⟩,hS',hE'⟩
        refine ih (U.erase k) (k::T) js p' c1 s1 a' w' _ ?_ hUl hUm'
        exact {
          sim:=hS',ext:=h.ext.trans hE',seq:=hseq,plan:=hp1,ok:=hp',cov:=hc'
          size:=by simp [h.size]
          iff:=fun i hi=>by
            by_cases hik:i=k
            · subst hik
              rw[hsetk]
              exact⟨fun _=>⟨by simp,hkj⟩,fun _=>rfl⟩
            · rw[hset i hik,h.iff i hi]
              simp [hik]
          sub:=fun i hi=>⟨by simp [(h.sub i hi).1],(h.sub i hi).2⟩
          tlt:=fun i hi=>by
            simp only[List.mem_cons] at hi
            rcases hi with rfl | hi
            · exact hkn
            · exact h.tlt i hi
          nodup:=h.nodup
          eager:=h.eager
          pair:=h.pair
          out:=fun i hi m hm hmT=>h.out i hi m hm (fun hh=>hmT (by simp [hh]))
          deps:=fun i hi e he=>⟨by simp [(h.deps i hi e he).1],(h.deps i hi e he).2⟩
          clo:=hclo }
theorem Db0 {id:Nat} {ops:Array Oper} {s:DS} (hm:P.follows .mixedOrders=true) (p:Plan)
    (hp:(ops.toList.all (Gt N)&&Am1 ops.toList [] p&&Gf ops.toList p [])=true) (h:Kr P G ops.toList (QP Q) p s):DWp P G N (.region id ops true) Q s:=by
  intro F n B hF a w hS
  simp only[Bool.and_eq_true] at hp
  obtain⟨⟨hall,hc⟩,hok⟩:=hp
  have hE:Ext s.heap w s.heap { w with drawn:=w.drawn+1 }:=⟨rfl,rfl,rfl,Nat.le_refl _,fun _ _ _=>rfl,fun _ h=> .inl h,fun _ _=>rfl,fun _ _ _=>rfl⟩
  have hSH:Au { w with drawn:=w.drawn+1 } s.heap:=fun r o hr=>(hS.heap r o hr).lasts hE.lasts
  have hS':Sim G ⟨N.n,B⟩ s a { w with drawn:=w.drawn+1 }:=hS.ext hE hSH
  have key:=Inv.sound (n:=n) hF (P:=P) (G:=G) (N:=⟨N.n,B⟩) (all:=ops.toList) (Q:=QP Q) (s0:=s) (w0:=w) hall
    (fun v env env' h hq env''=>hq env'') ops.toList.length (List.range ops.toList.length) [] [] p s s a { w with drawn:=w.drawn+1 } (Array.replicate ops.size false)
    { sim:=hS',ext:=hE,seq:=rfl,plan:=h,ok:=hok,cov:=hc,size:=by simp
      iff:=fun i hi=>by
        have:i<ops.size:=by simpa using hi
        simp [this]
      sub:=by simp
      tlt:=by simp
      nodup:=by simp
      eager:=by simp
      pair:=by simp
      out:=by simp
      deps:=by simp
      clo:=fun k hk hl=>by
        have:k<ops.size:=by simpa using hk
        simp [this] at hl } (by simp) (fun i hi _=>by simpa using hi)
  have e1:ops.toList.toArray=ops:=by simp
  have e2:ops.toList.length=ops.size:=by simp
  rw[e1,e2] at key
  refine wpIn_mono (wpIn_region_any hm key) ?_
  rintro e a' w' ⟨e',s',hq,hx,hS1,hE1⟩
  refine⟨e',s',?_,hx,hS1,hE1⟩
  cases hx with
  | normal=>exact hq
  | panic d v hv=>exact hq s'.env
  | exit=>exact hq.elim
  | goto=>exact hq.elim
  | ret=>exact hq.elim
end
end Go.Dl

-- THE DATA LEVEL, PART 3: plans run by simp.
namespace Go.Dl
open Go
attribute [go_sem] En.eq_1 En.eq_2 En.eq_3 Ug.eq_1 Ug.eq_2 Ug.eq_3 Ug.eq_4 Ug.eq_5 Ug.eq_6 Uh.eq_1 Dm8.eq_1 Dm8.eq_2 dAt.eq_1 Hv.eq_1 Hv.eq_2 Cn0.eq_1 Cn0.eq_2 Ui.eq_1 As8.eq_1 As8.eq_2 As8.eq_3 Cn1.eq_1 Cn1.eq_2 Kr.eq_1 Kr.eq_2 Kr.eq_3 Kr.eq_4 QP.eq_1 QP.eq_2
attribute [go_sem] Cn2
section
variable (v:DVal) (H H':Ab)
@[go_sem] theorem Di9 (cs:List DVal) (o:Nat):Hv H H' (.vptr cs o)=True:=rfl
@[go_sem] theorem Cy3 (cs:List DVal) (o:Nat):Hv H H' (.vslice cs o)=True:=rfl
@[go_sem] theorem Dm9 (k:IntKind) (n:Int):Hv H H' (.int k n)=True:=rfl
@[go_sem] theorem Dj0 (b:Bool):Hv H H' (.bool b)=True:=rfl
@[go_sem] theorem Cj1:Hv H H' .nilSlice=True:=rfl
@[go_sem] theorem Dn0 (s:List UInt8):Hv H H' (.str s)=True:=rfl
end
end Go.Dl

-- THE DATA LEVEL, PART 5: loops over iterators: a round, the statement.
namespace Go.Dl
open Go Go.RowKit
section
variable {P:Program} {G:Nat->DVal} {N:Nat} {w w':World} {Q:DExit->DS->Prop}
theorem Ic {α:Type} {f:Nat->Option α} {l:Nat} (h:f l=none) (x:Option α):upd (upd f l x) l none=f:=by
 funext i;simp only[upd];split
 ·rename_i e;subst e;exact h.symm
 ·rfl
end
end Go.Dl

-- THE DATA LEVEL, PART 6: a heap in two parts; the contract of an iterator; the loop over it.
namespace Go.Dl
open Go Go.RowKit
def Ak4 (Hi X:Ab):Ab:=fun r=>match X r with
 | some o=>some o
 | none=>Hi r
def Db1 (Hi X:Ab):Prop:= ∀r,X r≠none->Hi r=none
def h0:Ab:=fun _=>none
theorem Bt6 (Hi:Ab):Ak4 Hi h0=Hi:=rfl
theorem As9 {Hi X:Ab} {r:Nat} (h:X r=none):Ak4 Hi X r=Hi r:=by simp [Ak4,h]
theorem Cn4 {Hi X:Ab} {r:Nat} {o:DObj} (h:X r=some o):Ak4 Hi X r=some o:=by simp [Ak4,h]
theorem Dj1 {H:Ab} {r r':Nat} {o:DObj}:upd H r (some o) r'=none↔r'≠r/\r≠r'/\H r'=none:=by
 unfold upd;by_cases e:r'=r
 ·simp [e]
 ·simp [e,Ne.symm e,eq_comm]
theorem Db1.x {Hi X:Ab} (h:Db1 Hi X) {r:Nat} (hr:Hi r≠none):X r=none:=by
 cases e:X r with
 | none=>rfl
 | some o=>exact(hr (h r (by simp [e]))).elim
section
end
end Go.Dl

-- THE DATA LEVEL, PART 7: own memory seen as memory that lasts; calls that only look.
namespace Go.Dl
open Go Go.RowKit
mutual
/-- The value, with block r (its cells: cs) seen as memory that lasts. -/
def fz (r:Nat) (cs:List DVal):DVal->DVal
 | .optr r' off=>if r'=r then .vptr cs off else .optr r' off
 | .oslice sz r' off len lo=>if r'=r then .vslice ((cs.drop off).take (len*sz)) len else .oslice sz r' off len lo
 | .func fn a c=> .func fn (fzs r cs a) (fzs r cs c)
 | .iface t v=> .iface t (fz r cs v)
 | .agg l=> .agg (fzs r cs l)
 | .tuple l=> .tuple (fzs r cs l)
 | .vptr l off=> .vptr (fzs r cs l) off
 | .vslice l n=> .vslice (fzs r cs l) n
 | d=>d
def fzs (r:Nat) (cs:List DVal):List DVal->List DVal
 | []=> []
 | d::ds=>fz r cs d::fzs r cs ds
end
section
variable {P:Program} {G:Nat->DVal} {w:World} {H:Ab}
theorem Cg (H:Ab) (r:Nat) (w:World):Lasts H w (upd H r none) w:=
 ⟨fun b i x hb hc=>⟨by simp only[upd];split;rfl;exact hb,hc⟩,Nat.le_refl _,fun _ _=>rfl⟩
theorem Qc (hH:Au w H) {r:Nat} {cs:List DVal} {e:TypeId} (hr:H r=some (.cells cs e)): ∃xs,Ap w (upd H r none) cs xs/\Ml w (upd H r none) r 0 xs:=by
 obtain⟨xs,hl,hh⟩:=hH.holds hr;exact⟨xs,hl.lasts (Cg H r w), .inr ⟨by simp [upd],fun i x hx=>by simpa using hh i x hx⟩⟩
theorem Ml.part {b off:Nat} {xs:List Value} (h:Ml w H b off xs) (m n:Nat):Ml w H b (off+m) ((xs.drop m).take n):=by
 rcases h with rfl | ⟨h1,h2⟩
 ·exact .inl (by simp)
 ·refine .inr ⟨h1,fun i x hx=> ?_⟩;have:xs[m+i]? =some x:=by
   rw[List.getElem?_take] at hx;split at hx
   ·simpa using hx
   ·cases hx
  have:=h2 _ x this
  rwa [<-Nat.add_assoc] at this
mutual
theorem Bl5 (hH:Au w H) {r:Nat} {cs:List DVal} {e:TypeId} (hr:H r=some (.cells cs e)): ∀(d:DVal) (v:Value),Rel w H d v->Rel w (upd H r none) (fz r cs d) v
 | .optr r' off,v,h=>by
  simp only[fz]
  split
  ·rename_i e';subst e'
   simp only[Rel] at h⊢
   obtain⟨xs,hl,hc⟩:=Qc hH hr
   exact⟨r',0,xs,by simpa using h,hc,hl⟩
  ·simpa [Rel] using h
 | .oslice sz r' off len lo,v,h=>by
  simp only[fz]
  split
  ·rename_i e';subst e'
   simp only[Rel] at h⊢
   obtain⟨o,cap,rfl,h1,h2,h3,h4⟩:=h
   obtain⟨xs,hl,hc⟩:=Qc hH hr
   refine⟨_,cap,rfl,h2,?_⟩
   by_cases h0:cap=0
   ·have:len=0:=by omega
    subst this;left;simp
   ·have ho:o=off:=h3.resolve_left h0
    subst ho
    right
    refine⟨r',o,(xs.drop o).take (len*sz),rfl,?_,(hl.drop o).take _⟩
    have:=hc.part o (len*sz)
    simpa using this
  ·exact Rel.lasts (Cg H r w) _ _ h
 | .func fn a c,v,h=>by
  simp only[Rel,fz] at h⊢
  obtain⟨xs,ys,rfl,h1,h2⟩:=h
  exact⟨xs,ys,rfl,Ok hH hr _ _ h1,Ok hH hr _ _ h2⟩
 | .iface t d,v,h=>by
  simp only[Rel,fz] at h⊢
  obtain⟨x,rfl,h1⟩:=h
  exact⟨x,rfl,Bl5 hH hr _ _ h1⟩
 | .agg l,v,h=>by
  simp only[Rel,fz] at h⊢
  obtain⟨x,rfl,h1⟩:=h
  exact⟨x,rfl,Ok hH hr _ _ h1⟩
 | .tuple l,v,h=>by
  simp only[Rel,fz] at h⊢
  obtain⟨x,rfl,h1⟩:=h
  exact⟨x,rfl,Ok hH hr _ _ h1⟩
 | .raw x,v,h=>by simp only[fz];exact Rel.lasts (Cg H r w) _ _ h
 | .bool x,v,h=>by simp only[fz];exact Rel.lasts (Cg H r w) _ _ h
 | .int x y,v,h=>by simp only[fz];exact Rel.lasts (Cg H r w) _ _ h
 | .str x,v,h=>by simp only[fz];exact Rel.lasts (Cg H r w) _ _ h
 | .nilPtr,v,h=>by simp only[fz];exact Rel.lasts (Cg H r w) _ _ h
 | .vptr l off,v,h=>by
  simp only[Rel,fz] at h⊢
  obtain⟨b,o,xs,rfl,h1,h2⟩:=h
  exact⟨b,o,xs,rfl,h1.lasts (Cg H r w),Ok hH hr _ _ h2⟩
 | .nilSlice,v,h=>by simp only[fz];exact Rel.lasts (Cg H r w) _ _ h
 | .vslice l n,v,h=>by
  simp only[Rel,fz] at h⊢
  obtain⟨a,cap,rfl,hle,h1⟩:=h
  refine⟨a,cap,rfl,hle,?_⟩
  rcases h1 with h1 | ⟨b,o,xs,rfl,h1,h2⟩
  ·subst h1;exact .inl rfl
  ·exact .inr ⟨b,o,xs,rfl,h1.lasts (Cg H r w),Ok hH hr _ _ h2⟩
 | .nilMap,v,h=>by simp only[fz];exact Rel.lasts (Cg H r w) _ _ h
 | .omap x,v,h=>by simp only[fz];exact Rel.lasts (Cg H r w) _ _ h
 | .nilFunc,v,h=>by simp only[fz];exact Rel.lasts (Cg H r w) _ _ h
 | .nilIface,v,h=>by simp only[fz];exact Rel.lasts (Cg H r w) _ _ h
theorem Ok (hH:Au w H) {r:Nat} {cs:List DVal} {e:TypeId} (hr:H r=some (.cells cs e)): ∀(ds:List DVal) (vs:List Value),Ap w H ds vs->Ap w (upd H r none) (fzs r cs ds) vs
 | [],vs,h=>by simpa [fzs,Ap] using h
 | d::ds,vs,h=>by
  simp only[fzs,Ap] at h⊢
  obtain⟨y,ys,rfl,h1,h2⟩:=h
  exact⟨y,ys,rfl,Bl5 hH hr _ _ h1,Ok hH hr _ _ h2⟩
end
def Hw (H:Ab) (v:DVal) (H':Ab) (v':DVal):Prop:= ∀w,Au w H->Au w H'/\(∀b,H' b≠none->H b≠none)/\ ∀x,Rel w H v x->Rel w H' v' x
theorem Hw.trans {H H' H'':Ab} {v v' v'':DVal} (h:Hw H v H' v') (k:Hw H' v' H'' v''):Hw H v H'' v'':=fun w hw=>by
 obtain⟨h1,h2,h3⟩:=h w hw;obtain⟨k1,k2,k3⟩:=k w h1;exact⟨k1,fun b hb=>h2 b (k2 b hb),fun x hx=>k3 x (h3 x hx)⟩
theorem Hw.fz {H:Ab} {v:DVal} {r:Nat} {cs:List DVal} {e:TypeId} (hr:H r=some (.cells cs e)):Hw H v (upd H r none) (fz r cs v):=fun w hw=>
 ⟨hw.letGo r,fun b hb=>by simp only[upd] at hb;split at hb<;>simp_all,fun x hx=>Bl5 hw hr _ _ hx⟩
theorem Hw.drop (H:Ab) (v:DVal) (r:Nat):Hw H v (upd H r none) v:=fun w hw=>
 ⟨hw.letGo r,fun b hb=>by simp only[upd] at hb;split at hb<;>simp_all,fun x hx=>Rel.lasts (Cg H r w) _ _ hx⟩
theorem Pm.ghost {R:DEnd->Ab->Prop} {v v':DVal} {H H':Ab} (g:Hw H v H' v') (h:Pm R v' H'):Pm R v H:=by
 obtain⟨v2,H2,k,hR⟩:=h;exact⟨v2,H2,g.trans k,hR⟩
theorem Pm.fz {R:DEnd->Ab->Prop} {v:DVal} {H:Ab} (r:Nat) {cs:List DVal} {e:TypeId} (hr:H r=some (.cells cs e)) (h:Pm R (fz r cs v) (upd H r none)):Pm R v H:= .ghost (.fz hr) h
theorem Pm.drop {R:DEnd->Ab->Prop} {v:DVal} {H:Ab} (r:Nat) (h:Pm R v (upd H r none)):Pm R v H:= .ghost (.drop H v r) h
theorem Ah.ghost {f:FuncId} {args:List DVal} {H:Ab} {R R':DEnd->Ab->Prop} (h:Ah P G f args H R) (hr: ∀e H',R e H'-> ∃v v' H'',e= .ret v/\Hw H' v H'' v'/\R' (.ret v') H''):Ah P G f args H R':=by
 refine⟨h.1,fun vs w hv hH hG=>(h.2 vs w hv hH hG).mono fun e w' ⟨e',H',r,k1,k2,k3⟩=> ?_⟩;obtain⟨v,v',H'',rfl,g,r'⟩:=hr _ _ r;obtain⟨g1,g2,g3⟩:=g w' k2;cases k1 with
 | ret d x hx=>exact⟨.ret v',H'',r', .ret _ _ (g3 x hx),g1,k3.os,k3.tape,k3.output,k3.size,k3.block,fun b hb=>k3.own b (g2 b hb),k3.keep,k3.fz⟩
theorem Ah.pre {f:FuncId} {args args':List DVal} {H H':Ab} {R:DEnd->Ab->Prop} (g:Hw H (.tuple args) H' (.tuple args')) (h:Ah P G f args' H' R):Ah P G f args H R:=by
 refine⟨h.1,fun vs w hv hH hG=> ?_⟩;obtain⟨g1,g2,g3⟩:=g w hH;have hl:Lasts H w H' w:=⟨fun b i x hb hc=>⟨by
  cases e:H' b with
  | none=>rfl
  | some o=>exact absurd hb (g2 b (by simp [e])),hc⟩,Nat.le_refl _,fun _ _=>rfl⟩
 have hv':Ap w H' args' vs:=by
  have:=g3 (.tuple vs.toArray) (by simp only[Rel];exact⟨_,rfl,hv⟩);simp only[Rel] at this;obtain⟨xs,h1,h2⟩:=this;cases h1;exact h2
 refine(h.2 vs w hv' g1 (hG.lasts hl)).mono fun e w' ⟨e',H'',r,k1,k2,k3⟩=>⟨e',H'',r,k1,k2,k3.os,k3.tape,k3.output,k3.size,fun b hb hn=>k3.block b hb (by
  cases e:H' b with
  | none=>rfl
  | some o=>exact absurd hn (g2 b (by simp [e]))),fun b hb=> ?_,k3.keep,fun a ha hn=>k3.fz a ha (by
  cases e:H' a.block with
  | none=>rfl
  | some o=>exact absurd hn (g2 a.block (by simp [e])))⟩
 rcases k3.own b hb with k | k
 ·exact .inl (g2 b k)
 ·exact .inr k
theorem Ah.fzArgs {f:FuncId} {args:List DVal} {H:Ab} {R:DEnd->Ab->Prop} (r:Nat) {cs:List DVal} {e:TypeId} (hr:H r=some (.cells cs e)) (h:Ah P G f (fzs r cs args) (upd H r none) R):Ah P G f args H R:=
 .pre (by have:=Hw.fz (v:= .tuple args) hr;simpa only[fz] using this) h
def Cn5:DVal->Bool
 | .bool _ | .int _ _ | .str _ | .nilPtr | .nilSlice | .nilMap | .nilFunc | .nilIface=>true
 | .tuple l=>plains l
 | .agg l=>plains l
 | _=>false
where plains:List DVal->Bool
 | []=>true
 | d::ds=>Cn5 d&&plains ds
end
attribute [go_sem] fz.eq_1 fz.eq_2 fz.eq_3 fz.eq_4 fz.eq_5 fz.eq_6 fzs.eq_1 fzs.eq_2
end Go.Dl

-- THE DATA LEVEL, PART 8: loops over iterators, ready for use.
namespace Go.Dl
open Go Go.RowKit
attribute [go_sem] Bt6
theorem Hj {α:Type} (f:Nat->α) (r:Nat) (a b:α):upd (upd f r a) r b=upd f r b:=by
 funext i;simp only[upd];split<;>rfl
theorem Qd {α:Type} {r1 r2:Nat} (h:r1≠r2) (f:Nat->α) (a b:α):upd (upd f r2 b) r1 a=upd (upd f r1 a) r2 b:=by
 funext i;simp only[upd];by_cases e1:i=r1<;>by_cases e2:i=r2<;>simp_all
theorem Az4 (xs ys:List DVal):Ck xs 0 ys=ys++xs.drop ys.length:=by simp [Ck]
theorem Az5 (x:DVal) (xs ys:List DVal) (n:Nat):Ck (x::xs) (n+1) ys=x::Ck xs n ys:=by
 simp [Ck,Nat.add_right_comm]
attribute [go_sem] Hj Az4 Az5
theorem Ah.fzA {P:Program} {G:Nat->DVal} {f:FuncId} {args:List DVal} {H:Ab} {R:DEnd->Ab->Prop} (r:Nat) {cs:List DVal} {e:TypeId} (hr:H r=none) (h:Ah P G f (fzs r cs args) H R):Ah P G f args (upd H r (some (.cells cs e))) R:=
 Ah.fzArgs r (Aa _ _ _) (by rw[Ic hr];exact h)
theorem Pm.fzA {R:DEnd->Ab->Prop} {v:DVal} {H:Ab} (r:Nat) {cs:List DVal} {e:TypeId} (hr:H r=none) (h:Pm R (Dl.fz r cs v) H):Pm R v (upd H r (some (.cells cs e))):=
 Pm.fz r (Aa _ _ _) (by rw[Ic hr];exact h)
theorem Pm.dropA {R:DEnd->Ab->Prop} {v:DVal} {H:Ab} (r:Nat) {o:Option DObj} (hr:H r=none) (h:Pm R v H):Pm R v (upd H r o):=
 Pm.drop r (by rw[Ic hr];exact h)
section
variable {P:Program} {G:Nat->DVal} {N:Nat} {Q:DExit->DS->Prop}
theorem An {id:Nat} {ops:List Oper} {s:DS} (hm:P.follows .mixedOrders=true) (p:Plan) (hp:(ops.all (Gt N)&&Am1 ops [] p&&Gf ops p [])=true) (h:Kr P G ops (QP Q) p s):dwp P G N (.region id ops.toArray true) Q s:=
 Db0 (N:=⟨N,⟨0,[],false⟩⟩) hm p (by simpa using hp) (by simpa using h)
end
end Go.Dl

-- THE DATA LEVEL, PART 9: slices that are built up; plain lists seen as slices.
namespace Go.Dl
open Go Go.RowKit
abbrev Bp (v:DVal) (H:Ab):DEnd->Ab->Prop:=fun e H'=>e= .ret v/\H'=H
def Cc3 (H:Ab) (e:TypeId) (size n:Nat) (cs:List DVal) (v:DVal) (H':Ab):Prop:=
 (n=0/\cs= []/\v= .nilSlice/\H'=H)\/ ∃r,H r=none/\cs.length=n*size/\v= .oslice size r 0 n n/\H'=upd H r (some (.cells cs e))
section
variable {P:Program} {G:Nat->DVal} {Q:DExit->DS->Prop}
theorem Cn6 {α:Type} {f:Nat->α} {r:Nat} {x:α} (h:f r=x):upd f r x=f:=by
 funext i;simp only[upd];split
 ·rename_i e;rw[e,h]
 ·rfl
theorem Ya {e:TypeId} {size bytes r off len lo n:Nat} {news:List DVal} {dst:Option Nat} {K:DK} {s:DS} {cs:List DVal} (h:len+n<=lo):
  Lq e size bytes r off len lo n news dst K s (some (.cells cs e))=(off+(len+n)*size<=cs.length/\
    K ⟨Er s.env dst (.oslice size r off (len+n) lo),upd s.heap r (some (.cells (Ck cs (off+len*size) news) e))⟩):=by
 simp only[Lq,true_and,eq_iff_iff];exact⟨fun k=>k.1 h,fun k=>⟨fun _=>k,fun hn=>(hn h).elim⟩⟩
theorem Um {e:TypeId} {size bytes r len lo n:Nat} {news:List DVal} {dst:Option Nat} {K:DK} {s:DS} {cs:List DVal} (hle:len<=lo) (h:lo<len+n):
  Lq e size bytes r 0 len lo n news dst K s (some (.cells cs e))=(len*size<=cs.length/\(len+n)*bytes<=35184372088832/\ ∀r',upd s.heap r none r'=none->
    K ⟨Er s.env dst (.oslice size r' 0 (len+n) (len+n)),upd (upd s.heap r none) r' (some (.cells (cs.take (len*size)++news) e))⟩):=by
 simp only[Lq,true_and,eq_iff_iff,hle,true_or,if_true];have hn: ¬len+n<=lo:=by omega
 refine⟨fun k=> ?_,fun k=>⟨fun hh=>(hn hh).elim,fun _=> ?_⟩⟩
 ·obtain⟨k1,k2,k3⟩:=k.2 hn;refine⟨by omega,k2,fun r' hr=> ?_⟩;have:=k3 r' [] hr (fun _=>rfl);simpa using this
 ·obtain⟨k1,k2,k3⟩:=k;refine⟨by omega,k2,fun r' pre hr hp=> ?_⟩;have hpre:=hp trivial;subst hpre;have:=k3 r' hr;simpa using this
theorem Hw.slice {H:Ab} {e:TypeId} {size n lo:Nat} {cs rest:List DVal} {r:Nat} (hr:H r=none) (hl:cs.length=n*size):Hw (upd H r (some (.cells (cs++rest) e))) (.oslice size r 0 n lo) H (.vslice cs n):=by
 have:=Hw.fz (v:= .oslice size r 0 n lo) (Aa H r (some (.cells (cs++rest) e)));rw[Ic hr] at this;simp only[Dl.fz,if_pos,List.drop_zero] at this;rw[List.take_append_of_le_length (by omega),List.take_of_length_le (by omega)] at this;exact this
theorem Cc3.ghost {H H0:Ab} {e:TypeId} {size n:Nat} {cs:List DVal} {v:DVal} (hv:Cc3 H e size n cs v H0):Hw H0 v H (.vslice cs n):=by
 rcases hv with⟨rfl,rfl,rfl,rfl⟩ | ⟨r,hr,hl,rfl,rfl⟩
 ·intro w hw;refine⟨hw,fun _ h=>h,fun x hx=> ?_⟩;simp only[Rel] at hx⊢
  exact⟨none,0,hx,Nat.le_refl _, .inl (by simp)⟩
 ·have:=Hw.fz (v:= .oslice size r 0 n n) (Aa H r (some (.cells cs e)));rw[Ic hr] at this;simp only[fz,if_pos,List.drop_zero] at this;rw[List.take_of_length_le (by omega)] at this;exact this
end
def DLe (d d':DVal):Prop:= ∀(w:World) (H:Ab) (x:Value),Rel w H d x->Rel w H d' x
def Bl6 (ds ds':List DVal):Prop:= ∀(w:World) (H:Ab) (x:List Value),Ap w H ds x->Ap w H ds' x
theorem DLe.refl (d:DVal):DLe d d:=fun _ _ _ h=>h
theorem Bl6.nil:Bl6 [] []:=fun _ _ _ h=>h
theorem Bl6.refl (ds:List DVal):Bl6 ds ds:=fun _ _ _ h=>h
theorem Bl6.cons {d d':DVal} {ds ds':List DVal} (h:DLe d d') (k:Bl6 ds ds'):Bl6 (d::ds) (d'::ds'):=fun w H x hx=>by
 simp only[Ap] at hx⊢
 obtain⟨y,ys,rfl,h1,h2⟩:=hx;exact⟨y,ys,rfl,h _ _ _ h1,k _ _ _ h2⟩
theorem DLe.nil:DLe .nilSlice (.vslice [] 0):=fun w H x hx=>by
 simp only[Rel] at hx⊢
 exact⟨none,0,hx,Nat.le_refl _, .inl (by simp)⟩
theorem DLe.tuple {cs cs':List DVal} (h:Bl6 cs cs'):DLe (.tuple cs) (.tuple cs'):=fun w H x hx=>by
 simp only[Rel] at hx⊢
 obtain⟨xs,rfl,h1⟩:=hx;exact⟨xs,rfl,h _ _ _ h1⟩
theorem DLe.agg {cs cs':List DVal} (h:Bl6 cs cs'):DLe (.agg cs) (.agg cs'):=fun w H x hx=>by
 simp only[Rel] at hx⊢
 obtain⟨xs,rfl,h1⟩:=hx;exact⟨xs,rfl,h _ _ _ h1⟩
theorem Ik.trans {G:Nat->DVal} {s s' s'':DS} (h:Ik G s s') (k:Ik G s' s''):Ik G s s'':=fun w hH hG=>by
 obtain⟨h1,h2,h3,h4⟩:=h w hH hG;obtain⟨k1,k2,k3,k4⟩:=k w h1 h3;exact⟨k1,fun b hb=>h2 b (k2 b hb),k3,fun i x hx=>k4 i x (h4 i x hx)⟩
theorem Ac2 {H H':Ab} (h: ∀r o,H' r=some o->H r=some o) {b:Nat} (hb:H b=none):H' b=none:=by
 cases e:H' b with
 | none=>rfl
 | some o=>rw[h b o e] at hb;cases hb
theorem Fg {H H':Ab} (h: ∀r o,H' r=some o->H r=some o) (w:World):Lasts H w H' w:=
 ⟨fun b i x hb hc=>⟨Ac2 h hb,hc⟩,Nat.le_refl _,fun _ _=>rfl⟩
theorem Hw.sub {H H':Ab} (h: ∀r o,H' r=some o->H r=some o) (v:DVal):Hw H v H' v:=fun w hw=>
 ⟨fun r o ho=>(hw r o (h r o ho)).lasts (Fg h w),fun b hb e=>hb (Ac2 h e),fun x hx=>Rel.lasts (Fg h w) _ _ hx⟩
theorem Pm.sub {R:DEnd->Ab->Prop} {v:DVal} {H H':Ab} (h: ∀r o,H' r=some o->H r=some o) (k:Pm R v H'):Pm R v H:= .ghost (.sub h v) k
theorem Ik.sub {G:Nat->DVal} {s:DS} {H':Ab} (h: ∀r o,H' r=some o->s.heap r=some o):Ik G s ⟨s.env,H'⟩:=fun w hH hG=>
 ⟨fun r o ho=>(hH r o (h r o ho)).lasts (Fg h w),fun b hb e=>hb (Ac2 h e),hG.lasts (Fg h w),fun i x hx=>Rel.lasts (Fg h w) _ _ hx⟩
theorem Af {α:Type} {H:Nat->Option α} {a b:Nat} {o:α} (ha:H a=none) (hb:H b=some o):b≠a:=fun e=>by rw[e,ha] at hb;cases hb
theorem Sp (r:Nat) (cs:List DVal) (l m:List DVal):fzs r cs (l++m)=fzs r cs l++fzs r cs m:=by
 induction l with
 | nil=>simp [fzs]
 | cons d l ih=>simp [fzs,ih]
theorem Ah.leArgs {P:Program} {G:Nat->DVal} {f:FuncId} {args args':List DVal} {H:Ab} {R:DEnd->Ab->Prop} (g:Bl6 args args') (h:Ah P G f args' H R):Ah P G f args H R:=
 .pre (fun w hw=>⟨hw,fun _ h=>h,fun x hx=>DLe.tuple g _ _ _ hx⟩) h
theorem Az6 {α:Type} (p:α->Bool) (x:α):Option.all p (some x)=p x:=rfl
attribute [go_sem] Ya Um Az6
end Go.Dl

-- THE DATA LEVEL: the lemmas that the long simp call (simp (disch := omega) only [go_sem] in fill.py) takes besides the equations.
namespace Go.Dl
open Go
attribute [go_sem] Int.toNat_natCast Int.sub_zero Int.zero_add Int.add_zero Nat.add_sub_cancel Cb6 List.length_cons List.length_nil List.all_cons List.all_nil Bool.and_true Bool.true_and Bool.or_false Bool.false_or
attribute [go_sem] List.take_succ_cons List.take_zero List.drop_succ_cons List.drop_zero decide_true decide_false Nat.mul_one Nat.one_mul Nat.zero_add Nat.add_zero Nat.mul_zero Nat.zero_mul Bool.not_true Bool.not_false
attribute [go_sem] Option.map_some Option.map_none Nat.le_refl Nat.zero_lt_succ ne_eq not_true_eq_false not_false_eq_true Option.isSome_some Dm6 Cm0 Cb7 true_imp_iff false_imp_iff beq_self_eq_true forall_const List.length_map
end Go.Dl

-- Facts on the types of this seat, each by the kernel. MADE BY PROGRAM (facts.py).
namespace Go.Dl
open Go Go.Proofs
theorem Db2:Tryz.prog.cellsOf 2=1:=by kernel_rfl
theorem Dn1:(Tryz.prog.info? 2).isSome=true:=by kernel_rfl
theorem Ds3:Es Tryz.prog 2=some false:=by kernel_rfl
theorem Db3:Tryz.prog.cellsOf 3=1:=by kernel_rfl
theorem Dn2:(Tryz.prog.info? 3).isSome=true:=by kernel_rfl
theorem Ds4:Es Tryz.prog 3=some false:=by kernel_rfl
theorem Dn3:Bh Tryz.prog 3=some (.int .i64 0):=by kernel_rfl
theorem Db4:Tryz.prog.cellsOf 9=1:=by kernel_rfl
theorem Dn4:(Tryz.prog.info? 9).isSome=true:=by kernel_rfl
theorem Ds5:Es Tryz.prog 9=some false:=by kernel_rfl
theorem Dn5:Bh Tryz.prog 9=some (.str []):=by kernel_rfl
theorem Cn7:Tryz.prog.cellsOf 22=1:=by kernel_rfl
theorem Db5:(Tryz.prog.info? 22).isSome=true:=by kernel_rfl
theorem Dn6:Es Tryz.prog 22=some false:=by kernel_rfl
theorem Db6:Bh Tryz.prog 22=some (.int .u8 0):=by kernel_rfl
theorem Cn8:Tryz.prog.cellsOf 25=1:=by kernel_rfl
theorem Cn9:Tryz.prog.bytesOf 25=24:=by kernel_rfl
theorem Db7:(Tryz.prog.info? 25).isSome=true:=by kernel_rfl
theorem Dn7:Es Tryz.prog 25=some false:=by kernel_rfl
theorem Db8:Bh Tryz.prog 25=some (.nilSlice):=by kernel_rfl
theorem Co0:Tryz.prog.cellsOf 26=1:=by kernel_rfl
theorem Db9:(Tryz.prog.info? 26).isSome=true:=by kernel_rfl
theorem Dn8:Es Tryz.prog 26=some false:=by kernel_rfl
theorem Dc0:Bh Tryz.prog 26=some (.nilSlice):=by kernel_rfl
theorem Co1:Tryz.prog.cellsOf 29=1:=by kernel_rfl
theorem Dc1:(Tryz.prog.info? 29).isSome=true:=by kernel_rfl
theorem Dn9:Es Tryz.prog 29=some false:=by kernel_rfl
theorem Co2:Tryz.prog.cellsOf 31=4:=by kernel_rfl
theorem Co3:Tryz.prog.bytesOf 31=40:=by kernel_rfl
theorem Dc2:(Tryz.prog.info? 31).isSome=true:=by kernel_rfl
theorem Do0:Es Tryz.prog 31=some true:=by kernel_rfl
theorem Do1:Jc Tryz.prog 31=true:=by kernel_rfl
theorem Dc3:Bh Tryz.prog 31=some (.agg [.int .u8 0, .int .i64 0, .str [], .int .i64 0]):=by kernel_rfl
theorem Co4:Tryz.prog.cellsOf 32=1:=by kernel_rfl
theorem Dc4:(Tryz.prog.info? 32).isSome=true:=by kernel_rfl
theorem Do2:Es Tryz.prog 32=some false:=by kernel_rfl
theorem Co5:Tryz.prog.cellsOf 33=1:=by kernel_rfl
theorem Dc5:(Tryz.prog.info? 33).isSome=true:=by kernel_rfl
theorem Do3:Es Tryz.prog 33=some false:=by kernel_rfl
theorem Co6:Tryz.prog.cellsOf 34=1:=by kernel_rfl
theorem Dc6:(Tryz.prog.info? 34).isSome=true:=by kernel_rfl
theorem Do4:Es Tryz.prog 34=some false:=by kernel_rfl
theorem Co7:Tryz.prog.cellsOf 36=9:=by kernel_rfl
theorem Co8:Tryz.prog.bytesOf 36=104:=by kernel_rfl
theorem Dc7:(Tryz.prog.info? 36).isSome=true:=by kernel_rfl
theorem Do5:Es Tryz.prog 36=some true:=by kernel_rfl
theorem Do6:Jc Tryz.prog 36=true:=by kernel_rfl
theorem Dc8:Bh Tryz.prog 36=some (.agg [.int .u8 0, .int .u8 0, .int .i64 0, .str [], .nilSlice, .nilSlice, .int .i64 0, .int .i64 0, .int .i64 0]):=by kernel_rfl
theorem Co9:Tryz.prog.cellsOf 40=1:=by kernel_rfl
theorem Dc9:(Tryz.prog.info? 40).isSome=true:=by kernel_rfl
theorem Do7:Es Tryz.prog 40=some false:=by kernel_rfl
theorem Dd0:Bh Tryz.prog 40=some (.int .i64 0):=by kernel_rfl
theorem Cp0:Tryz.prog.cellsOf 48=1:=by kernel_rfl
theorem Dd1:(Tryz.prog.info? 48).isSome=true:=by kernel_rfl
theorem Do8:Es Tryz.prog 48=some false:=by kernel_rfl
theorem Cp1:Tryz.prog.cellsOf 51=10:=by kernel_rfl
theorem Cp2:Tryz.prog.bytesOf 51=128:=by kernel_rfl
theorem Dd2:(Tryz.prog.info? 51).isSome=true:=by kernel_rfl
theorem Do9:Es Tryz.prog 51=some true:=by kernel_rfl
theorem Dp0:Jc Tryz.prog 51=true:=by kernel_rfl
theorem Dd3:Bh Tryz.prog 51=some (.agg [.nilSlice, .int .u8 0, .int .u8 0, .int .i64 0, .str [], .nilSlice, .nilSlice, .int .i64 0, .int .i64 0, .int .i64 0]):=by kernel_rfl
theorem Cp3:Tryz.prog.cellsOf 52=1:=by kernel_rfl
theorem Dd4:(Tryz.prog.info? 52).isSome=true:=by kernel_rfl
theorem Dp1:Es Tryz.prog 52=some false:=by kernel_rfl
theorem Dd5:Bh Tryz.prog 52=some (.int .u8 0):=by kernel_rfl
theorem Cp4:Tryz.prog.cellsOf 54=2:=by kernel_rfl
theorem Cp5:Tryz.prog.bytesOf 54=32:=by kernel_rfl
theorem Dd6:(Tryz.prog.info? 54).isSome=true:=by kernel_rfl
theorem Dp2:Es Tryz.prog 54=some true:=by kernel_rfl
theorem Dp3:Jc Tryz.prog 54=true:=by kernel_rfl
theorem Dd7:Bh Tryz.prog 54=some (.agg [.int .u8 0, .nilSlice]):=by kernel_rfl
theorem Cc4:Tryz.prog.cellsOf 138=1:=by kernel_rfl
theorem Cp6:(Tryz.prog.info? 138).isSome=true:=by kernel_rfl
theorem Dd8:Es Tryz.prog 138=some false:=by kernel_rfl
theorem Cp7:Bh Tryz.prog 138=some (.nilFunc):=by kernel_rfl
theorem Cc5:Tryz.prog.cellsOf 149=1:=by kernel_rfl
theorem Cp8:(Tryz.prog.info? 149).isSome=true:=by kernel_rfl
theorem Dd9:Es Tryz.prog 149=some false:=by kernel_rfl
theorem Cp9:Bh Tryz.prog 149=some (.nilFunc):=by kernel_rfl
theorem De0:Jc Tryz.prog 271=true:=by kernel_rfl
theorem Cq0:Bh Tryz.prog 271=some (.agg [.nilSlice, .int .i64 0]):=by kernel_rfl
theorem Cc6:Tryz.prog.cellsOf 275=1:=by kernel_rfl
theorem Cq1:(Tryz.prog.info? 275).isSome=true:=by kernel_rfl
theorem De1:Jc Tryz.prog 275=true:=by kernel_rfl
theorem Cq2:Bh Tryz.prog 275=some (.agg [.int .i64 0]):=by kernel_rfl
theorem De2:Jc Tryz.prog 281=true:=by kernel_rfl
theorem Cq3:Bh Tryz.prog 281=some (.agg [.nilSlice]):=by kernel_rfl
theorem Cc7:Tryz.prog.cellsOf 284=1:=by kernel_rfl
theorem Cq4:(Tryz.prog.info? 284).isSome=true:=by kernel_rfl
theorem De3:Es Tryz.prog 284=some false:=by kernel_rfl
theorem Cq5:Bh Tryz.prog 284=some (.nilMap):=by kernel_rfl
attribute [go_sem] Tryz.underlying0 Tryz.underlying1
attribute [go_sem] Db2 Dn1 Ds3 Tryz.underlying2 Db3 Dn2 Ds4 Dn3 Tryz.underlying3
attribute [go_sem] Tryz.underlying4 Tryz.underlying5
attribute [go_sem] Tryz.underlying6 Tryz.eqGuardType7
attribute [go_sem] Tryz.stoodInHeld7 Tryz.underlying7 Tryz.eqGuardType8 Tryz.stoodInHeld8 Tryz.underlying8
attribute [go_sem] Db4 Dn4 Ds5 Dn5 Tryz.underlying9 Tryz.underlying10
attribute [go_sem] Tryz.underlying11 Tryz.underlying12
attribute [go_sem] Tryz.eqGuardType13 Tryz.stoodInHeld13 Tryz.underlying13
attribute [go_sem] Tryz.eqGuardType14 Tryz.stoodInHeld14 Tryz.underlying14 Tryz.underlying15
attribute [go_sem] Tryz.underlying16 Tryz.underlying17
attribute [go_sem] Tryz.eqGuardType18 Tryz.stoodInHeld18 Tryz.underlying18
attribute [go_sem] Tryz.eqGuardType19 Tryz.stoodInHeld19 Tryz.underlying19 Tryz.underlying20
attribute [go_sem] Tryz.underlying21 Cn7 Db5 Dn6 Db6 Tryz.underlying22
attribute [go_sem] Tryz.underlying23 Tryz.underlying24
attribute [go_sem] Cn8 Cn9 Db7 Dn7 Db8 Tryz.underlying25 Co0 Db9 Dn8 Dc0 Tryz.underlying26
attribute [go_sem] Tryz.underlying27 Tryz.underlying28
attribute [go_sem] Co1 Dc1 Dn9 Tryz.underlying29 Tryz.eqGuardType30
attribute [go_sem] Tryz.stoodInHeld30 Tryz.underlying30 Co2 Co3 Dc2 Do0 Do1 Tryz.eqGuardType31 Tryz.stoodInHeld31 Dc3 Tryz.underlying31
attribute [go_sem] Co4 Dc4 Do2 Tryz.underlying32 Co5 Dc5 Do3 Tryz.underlying33
attribute [go_sem] Co6 Dc6 Do4 Tryz.underlying34 Tryz.eqGuardType35
attribute [go_sem] Tryz.stoodInHeld35 Tryz.underlying35 Co7 Co8 Dc7 Do5 Do6 Tryz.eqGuardType36 Tryz.stoodInHeld36 Dc8 Tryz.underlying36
attribute [go_sem] Tryz.underlying37 Tryz.underlying38
attribute [go_sem] Tryz.underlying39 Co9 Dc9 Do7 Dd0 Tryz.underlying40
attribute [go_sem] Tryz.underlying41 Tryz.underlying42
attribute [go_sem] Tryz.underlying43 Tryz.underlying44
attribute [go_sem] Tryz.underlying45 Tryz.underlying46
attribute [go_sem] Tryz.underlying47 Cp0 Dd1 Do8 Tryz.underlying48
attribute [go_sem] Tryz.underlying49 Tryz.eqGuardType50
attribute [go_sem] Tryz.stoodInHeld50 Tryz.underlying50 Cp1 Cp2 Dd2 Do9 Dp0 Tryz.eqGuardType51 Tryz.stoodInHeld51 Dd3 Tryz.underlying51
attribute [go_sem] Cp3 Dd4 Dp1 Dd5 Tryz.underlying52 Tryz.eqGuardType53
attribute [go_sem] Tryz.stoodInHeld53 Tryz.underlying53 Cp4 Cp5 Dd6 Dp2 Dp3 Tryz.eqGuardType54 Tryz.stoodInHeld54 Dd7 Tryz.underlying54
attribute [go_sem] Tryz.underlying55 Tryz.underlying56
attribute [go_sem] Tryz.underlying57 Tryz.underlying58
attribute [go_sem] Tryz.underlying59 Tryz.underlying60
attribute [go_sem] Tryz.underlying61 Tryz.underlying62
attribute [go_sem] Tryz.underlying63 Tryz.underlying64
attribute [go_sem] Tryz.underlying65 Tryz.underlying66
attribute [go_sem] Tryz.underlying67 Tryz.underlying68
attribute [go_sem] Tryz.underlying69 Tryz.eqGuardType70
attribute [go_sem] Tryz.stoodInHeld70 Tryz.underlying70 Tryz.eqGuardType71 Tryz.stoodInHeld71 Tryz.underlying71
attribute [go_sem] Tryz.underlying72 Tryz.underlying73
attribute [go_sem] Tryz.underlying74 Tryz.underlying75
attribute [go_sem] Tryz.underlying76 Tryz.eqGuardType77
attribute [go_sem] Tryz.stoodInHeld77 Tryz.underlying77 Tryz.eqGuardType78 Tryz.stoodInHeld78 Tryz.underlying78
attribute [go_sem] Tryz.eqGuardType79 Tryz.stoodInHeld79 Tryz.underlying79
attribute [go_sem] Tryz.eqGuardType80 Tryz.stoodInHeld80 Tryz.underlying80 Tryz.underlying81
attribute [go_sem] Tryz.underlying82 Tryz.underlying83
attribute [go_sem] Tryz.underlying84 Tryz.eqGuardType85
attribute [go_sem] Tryz.stoodInHeld85 Tryz.underlying85 Tryz.eqGuardType86 Tryz.stoodInHeld86 Tryz.underlying86
attribute [go_sem] Tryz.eqGuardType87 Tryz.stoodInHeld87 Tryz.underlying87
attribute [go_sem] Tryz.eqGuardType88 Tryz.stoodInHeld88 Tryz.underlying88 Tryz.underlying89
attribute [go_sem] Tryz.underlying90 Tryz.underlying91
attribute [go_sem] Tryz.underlying92 Tryz.underlying93
attribute [go_sem] Tryz.underlying94 Tryz.underlying95
attribute [go_sem] Tryz.underlying96 Tryz.underlying97
attribute [go_sem] Tryz.underlying98 Tryz.underlying99
attribute [go_sem] Tryz.underlying100 Tryz.underlying101
attribute [go_sem] Tryz.underlying102 Tryz.underlying103
attribute [go_sem] Tryz.underlying104 Tryz.underlying105
attribute [go_sem] Tryz.underlying106 Tryz.underlying107
attribute [go_sem] Tryz.underlying108 Tryz.underlying109
attribute [go_sem] Tryz.underlying110 Tryz.underlying111
attribute [go_sem] Tryz.underlying112 Tryz.underlying113
attribute [go_sem] Tryz.underlying114 Tryz.underlying115
attribute [go_sem] Tryz.underlying116 Tryz.underlying117
attribute [go_sem] Tryz.underlying118 Tryz.underlying119
attribute [go_sem] Tryz.underlying120 Tryz.eqGuardType121
attribute [go_sem] Tryz.stoodInHeld121 Tryz.underlying121 Tryz.eqGuardType122 Tryz.stoodInHeld122 Tryz.underlying122
attribute [go_sem] Tryz.underlying123 Tryz.underlying124
attribute [go_sem] Tryz.underlying125 Tryz.underlying126
attribute [go_sem] Tryz.underlying127 Tryz.underlying128
attribute [go_sem] Tryz.underlying129 Tryz.underlying130
attribute [go_sem] Tryz.underlying131 Tryz.underlying132
attribute [go_sem] Tryz.underlying133 Tryz.underlying134
attribute [go_sem] Tryz.underlying135 Tryz.underlying136
attribute [go_sem] Tryz.underlying137 Cc4 Cp6 Dd8 Cp7 Tryz.underlying138
attribute [go_sem] Tryz.underlying139 Tryz.underlying140
attribute [go_sem] Tryz.underlying141 Tryz.underlying142
attribute [go_sem] Tryz.underlying143 Tryz.underlying144
attribute [go_sem] Tryz.underlying145 Tryz.underlying146
attribute [go_sem] Tryz.underlying147 Tryz.underlying148
attribute [go_sem] Cc5 Cp8 Dd9 Cp9 Tryz.underlying149 Tryz.underlying150
attribute [go_sem] Tryz.underlying151 Tryz.underlying152
attribute [go_sem] Tryz.underlying153 Tryz.underlying154
attribute [go_sem] Tryz.underlying155 Tryz.eqGuardType156
attribute [go_sem] Tryz.stoodInHeld156 Tryz.underlying156 Tryz.eqGuardType157 Tryz.stoodInHeld157 Tryz.underlying157
attribute [go_sem] Tryz.underlying158 Tryz.underlying159
attribute [go_sem] Tryz.underlying160 Tryz.underlying161
attribute [go_sem] Tryz.underlying162 Tryz.underlying163
attribute [go_sem] Tryz.underlying164 Tryz.underlying165
attribute [go_sem] Tryz.underlying166 Tryz.underlying167
attribute [go_sem] Tryz.underlying168 Tryz.underlying169
attribute [go_sem] Tryz.underlying170 Tryz.underlying171
attribute [go_sem] Tryz.underlying172 Tryz.underlying173
attribute [go_sem] Tryz.underlying174 Tryz.underlying175
attribute [go_sem] Tryz.underlying176 Tryz.underlying177
attribute [go_sem] Tryz.underlying178 Tryz.underlying179
attribute [go_sem] Tryz.underlying180 Tryz.underlying181
attribute [go_sem] Tryz.underlying182 Tryz.underlying183
attribute [go_sem] Tryz.eqGuardType184 Tryz.stoodInHeld184 Tryz.underlying184
attribute [go_sem] Tryz.eqGuardType185 Tryz.stoodInHeld185 Tryz.underlying185 Tryz.underlying186
attribute [go_sem] Tryz.underlying187 Tryz.underlying188
attribute [go_sem] Tryz.underlying189 Tryz.eqGuardType190
attribute [go_sem] Tryz.underlying190 Tryz.underlying191
attribute [go_sem] Tryz.underlying192 Tryz.underlying193
attribute [go_sem] Tryz.underlying194 Tryz.underlying195
attribute [go_sem] Tryz.underlying196 Tryz.underlying197
attribute [go_sem] Tryz.underlying198 Tryz.eqGuardType199 Tryz.stoodInHeld199 Tryz.underlying199
attribute [go_sem] Tryz.eqGuardType200 Tryz.stoodInHeld200 Tryz.underlying200
attribute [go_sem] Tryz.underlying201 Tryz.underlying202
attribute [go_sem] Tryz.underlying203 Tryz.underlying204
attribute [go_sem] Tryz.underlying205 Tryz.eqGuardType206 Tryz.stoodInHeld206 Tryz.underlying206
attribute [go_sem] Tryz.eqGuardType207 Tryz.stoodInHeld207 Tryz.underlying207
attribute [go_sem] Tryz.underlying208 Tryz.eqGuardType209 Tryz.stoodInHeld209 Tryz.underlying209
attribute [go_sem] Tryz.eqGuardType210 Tryz.stoodInHeld210 Tryz.underlying210
attribute [go_sem] Tryz.underlying211 Tryz.underlying212
attribute [go_sem] Tryz.underlying213 Tryz.underlying214
attribute [go_sem] Tryz.underlying215 Tryz.underlying216
attribute [go_sem] Tryz.eqGuardType217 Tryz.stoodInHeld217 Tryz.underlying217 Tryz.eqGuardType218 Tryz.stoodInHeld218
attribute [go_sem] Tryz.underlying218 Tryz.underlying219
attribute [go_sem] Tryz.underlying220 Tryz.underlying221
attribute [go_sem] Tryz.underlying222 Tryz.underlying223
attribute [go_sem] Tryz.underlying224 Tryz.underlying225
attribute [go_sem] Tryz.underlying226 Tryz.underlying227
attribute [go_sem] Tryz.eqGuardType228 Tryz.stoodInHeld228 Tryz.underlying228 Tryz.eqGuardType229 Tryz.stoodInHeld229
attribute [go_sem] Tryz.underlying229 Tryz.underlying230
attribute [go_sem] Tryz.underlying231 Tryz.underlying232
attribute [go_sem] Tryz.underlying233 Tryz.underlying234
attribute [go_sem] Tryz.underlying235 Tryz.underlying236
attribute [go_sem] Tryz.underlying237 Tryz.underlying238
attribute [go_sem] Tryz.underlying239 Tryz.underlying240
attribute [go_sem] Tryz.underlying241 Tryz.underlying242
attribute [go_sem] Tryz.underlying243 Tryz.underlying244
attribute [go_sem] Tryz.underlying245 Tryz.underlying246
attribute [go_sem] Tryz.underlying247 Tryz.underlying248
attribute [go_sem] Tryz.underlying249 Tryz.underlying250
attribute [go_sem] Tryz.underlying251 Tryz.underlying252
attribute [go_sem] Tryz.underlying253 Tryz.underlying254
attribute [go_sem] Tryz.eqGuardType255 Tryz.stoodInHeld255 Tryz.underlying255 Tryz.eqGuardType256 Tryz.stoodInHeld256
attribute [go_sem] Tryz.underlying256 Tryz.underlying257
attribute [go_sem] Tryz.underlying258 Tryz.underlying259
attribute [go_sem] Tryz.underlying260 Tryz.underlying261
attribute [go_sem] Tryz.underlying262 Tryz.underlying263
attribute [go_sem] Tryz.underlying264 Tryz.underlying265
attribute [go_sem] Tryz.underlying266 Tryz.underlying267
attribute [go_sem] Tryz.underlying268 Tryz.underlying269
attribute [go_sem] Tryz.eqGuardType270 Tryz.stoodInHeld270 Tryz.underlying270 De0 Tryz.eqGuardType271 Tryz.stoodInHeld271
attribute [go_sem] Cq0 Tryz.underlying271 Tryz.underlying272
attribute [go_sem] Tryz.underlying273 Tryz.eqGuardType274 Tryz.stoodInHeld274 Tryz.underlying274 Cc6
attribute [go_sem] Cq1 De1 Tryz.eqGuardType275 Tryz.stoodInHeld275 Cq2 Tryz.underlying275
attribute [go_sem] Tryz.underlying276 Tryz.underlying277
attribute [go_sem] Tryz.underlying278 Tryz.underlying279
attribute [go_sem] Tryz.eqGuardType280 Tryz.stoodInHeld280 Tryz.underlying280 De2 Tryz.eqGuardType281 Tryz.stoodInHeld281
attribute [go_sem] Cq3 Tryz.underlying281 Tryz.underlying282
attribute [go_sem] Tryz.underlying283 Cc7 Cq4 De3 Cq5 Tryz.underlying284
attribute [go_sem] Tryz.underlying285 Tryz.underlying286
attribute [go_sem] Tryz.underlying287 Tryz.underlying288
attribute [go_sem] Tryz.underlying289 Tryz.underlying290
attribute [go_sem] Tryz.underlying291 Tryz.underlying292
attribute [go_sem] Tryz.underlying293 Tryz.eqGuardType294 Tryz.stoodInHeld294 Tryz.underlying294
attribute [go_sem] Tryz.eqGuardType295 Tryz.stoodInHeld295 Tryz.underlying295
attribute [go_sem] Tryz.eqGuardType296 Tryz.stoodInHeld296 Tryz.underlying296 Tryz.eqGuardType297 Tryz.stoodInHeld297
attribute [go_sem] Tryz.underlying297 Tryz.underlying298
attribute [go_sem] Tryz.underlying299 Tryz.underlying300
attribute [go_sem] Tryz.underlying301 Tryz.eqGuardType302 Tryz.underlying302
attribute [go_sem] Tryz.underlying303 Tryz.underlying304
attribute [go_sem] Tryz.underlying305 Tryz.underlying306
attribute [go_sem] Tryz.underlying307 Tryz.underlying308
attribute [go_sem] Tryz.underlying309 Tryz.underlying310
attribute [go_sem] Tryz.underlying311 Tryz.underlying312
attribute [go_sem] Tryz.underlying313 Tryz.underlying314
attribute [go_sem] Tryz.eqGuardType315 Tryz.stoodInHeld315 Tryz.underlying315
attribute [go_sem] Tryz.eqGuardType316 Tryz.stoodInHeld316 Tryz.underlying316 Tryz.underlying317
attribute [go_sem] Tryz.underlying318 Tryz.underlying319
attribute [go_sem] Tryz.underlying320 Tryz.underlying321
attribute [go_sem] Tryz.underlying322 Tryz.underlying323
attribute [go_sem] Tryz.underlying324 Tryz.underlying325
attribute [go_sem] Tryz.underlying326 Tryz.underlying327
attribute [go_sem] Tryz.underlying328 Tryz.underlying329
attribute [go_sem] Tryz.underlying330 Tryz.underlying331
attribute [go_sem] Tryz.underlying332 Tryz.underlying333
attribute [go_sem] Tryz.underlying334 Tryz.underlying335
attribute [go_sem] Tryz.underlying336 Tryz.underlying337
attribute [go_sem] Tryz.underlying338 Tryz.underlying339
attribute [go_sem] Tryz.underlying340 Tryz.underlying341
attribute [go_sem] Tryz.underlying342 Tryz.underlying343
attribute [go_sem] Tryz.underlying344 Tryz.underlying345
attribute [go_sem] Tryz.underlying346 Tryz.underlying347
attribute [go_sem] Tryz.underlying348 Tryz.underlying349
attribute [go_sem] Tryz.underlying350 Tryz.underlying351
attribute [go_sem] Tryz.underlying352 Tryz.underlying353
attribute [go_sem] Tryz.underlying354 Tryz.underlying355
attribute [go_sem] Tryz.underlying356 Tryz.underlying357
attribute [go_sem] Tryz.underlying358 Tryz.underlying359
attribute [go_sem] Tryz.underlying360 Tryz.underlying361
attribute [go_sem] Tryz.underlying362 Tryz.underlying363
attribute [go_sem] Tryz.underlying364 Tryz.underlying365
attribute [go_sem] Tryz.underlying366 Tryz.underlying367
attribute [go_sem] Tryz.underlying368 Tryz.underlying369
attribute [go_sem] Tryz.underlying370 Tryz.underlying371
attribute [go_sem] Tryz.underlying372 Tryz.underlying373
attribute [go_sem] Tryz.underlying374 Tryz.underlying375
attribute [go_sem] Tryz.underlying376 Tryz.underlying377
attribute [go_sem] Tryz.underlying378 Tryz.underlying379
attribute [go_sem] Tryz.eqGuardType380 Tryz.underlying380 Tryz.underlying381
attribute [go_sem] Tryz.underlying382 Tryz.underlying383
attribute [go_sem] Tryz.eqGuardType384 Tryz.stoodInHeld384 Tryz.underlying384
attribute [go_sem] Tryz.eqGuardType385 Tryz.stoodInHeld385 Tryz.underlying385 Tryz.underlying386
attribute [go_sem] Tryz.underlying387 Tryz.underlying388
attribute [go_sem] Tryz.underlying389 Tryz.eqGuardType390 Tryz.stoodInHeld390
attribute [go_sem] Tryz.underlying390 Tryz.eqGuardType391 Tryz.stoodInHeld391 Tryz.underlying391
attribute [go_sem] Tryz.underlying392 Tryz.eqGuardType393 Tryz.stoodInHeld393
attribute [go_sem] Tryz.underlying393 Tryz.eqGuardType394 Tryz.stoodInHeld394 Tryz.underlying394
attribute [go_sem] Tryz.underlying395 Tryz.eqGuardType396 Tryz.stoodInHeld396
attribute [go_sem] Tryz.underlying396 Tryz.eqGuardType397 Tryz.stoodInHeld397 Tryz.underlying397
attribute [go_sem] Tryz.underlying398 Tryz.underlying399
attribute [go_sem] Tryz.underlying400 Tryz.eqGuardType401 Tryz.stoodInHeld401
attribute [go_sem] Tryz.underlying401 Tryz.eqGuardType402 Tryz.stoodInHeld402 Tryz.underlying402
attribute [go_sem] Tryz.eqGuardType403 Tryz.underlying403
attribute [go_sem] Tryz.eqGuardType404 Tryz.stoodInHeld404 Tryz.underlying404 Tryz.eqGuardType405 Tryz.stoodInHeld405
attribute [go_sem] Tryz.underlying405 Tryz.underlying406
attribute [go_sem] Tryz.underlying407 Tryz.underlying408
attribute [go_sem] Tryz.underlying409 Tryz.underlying410
attribute [go_sem] Tryz.eqGuardType411 Tryz.stoodInHeld411 Tryz.underlying411 Tryz.eqGuardType412 Tryz.stoodInHeld412
attribute [go_sem] Tryz.underlying412 Tryz.results0 Tryz.results1 Tryz.results2 Tryz.results3 Tryz.results4 Tryz.results5 Tryz.results6 Tryz.results7 Tryz.results8 Tryz.results9 Tryz.results10
attribute [go_sem] Tryz.results11 Tryz.results12 Tryz.results13 Tryz.results14 Tryz.results15 Tryz.results16 Tryz.results17 Tryz.results18 Tryz.results19 Tryz.results20 Tryz.results21 Tryz.results22
attribute [go_sem] Tryz.results23 Tryz.results24 Tryz.results25 Tryz.results26 Tryz.results27 Tryz.results28 Tryz.results29 Tryz.results30 Tryz.results31 Tryz.results32 Tryz.results33 Tryz.results34
attribute [go_sem] Tryz.results35 Tryz.results36 Tryz.results37 Tryz.results38 Tryz.results39 Tryz.results40 Tryz.results41 Tryz.results42 Tryz.results43 Tryz.results44 Tryz.results45 Tryz.results46
attribute [go_sem] Tryz.results47 Tryz.results48 Tryz.results49 Tryz.results50 Tryz.results51 Tryz.results52 Tryz.results53 Tryz.results54 Tryz.results55 Tryz.results56 Tryz.results57 Tryz.results58
attribute [go_sem] Tryz.results59 Tryz.results60 Tryz.results61 Tryz.results62 Tryz.results63 Tryz.results64 Tryz.results65 Tryz.results66 Tryz.results67 Tryz.results68 Tryz.results69 Tryz.results70
attribute [go_sem] Tryz.results71 Tryz.results72 Tryz.results73 Tryz.results74 Tryz.results75 Tryz.results76 Tryz.results77 Tryz.results78 Tryz.results79 Tryz.results80 Tryz.results81 Tryz.results82
attribute [go_sem] Tryz.results83 Tryz.results84 Tryz.results85 Tryz.results86 Tryz.results87 Tryz.results88 Tryz.results89 Tryz.results90 Tryz.results91 Tryz.results92 Tryz.results93 Tryz.results94
attribute [go_sem] Tryz.results95 Tryz.results96 Tryz.results97 Tryz.results98 Tryz.results99 Tryz.results100 Tryz.results101 Tryz.results102 Tryz.results103 Tryz.results104 Tryz.results105 Tryz.results106
attribute [go_sem] Tryz.results107 Tryz.results108 Tryz.results109 Tryz.results110 Tryz.results111 Tryz.results112 Tryz.results113 Tryz.results114 Tryz.results115 Tryz.results116 Tryz.results117 Tryz.results118
attribute [go_sem] Tryz.results119 Tryz.results120 Tryz.results121 Tryz.results122 Tryz.results123 Tryz.results124 Tryz.results125 Tryz.results126 Tryz.results127 Tryz.results128 Tryz.results129 Tryz.results130
attribute [go_sem] Tryz.results131 Tryz.results132 Tryz.results133 Tryz.results134 Tryz.results135 Tryz.results136 Tryz.results137 Tryz.results138 Tryz.results139 Tryz.results140 Tryz.results141 Tryz.results142
attribute [go_sem] Tryz.results143 Tryz.results144 Tryz.results145 Tryz.results146 Tryz.results147 Tryz.results148 Tryz.results149 Tryz.results150 Tryz.results151 Tryz.results152 Tryz.results153 Tryz.results154
attribute [go_sem] Tryz.results155 Tryz.results156 Tryz.results157 Tryz.results158 Tryz.results159 Tryz.results160 Tryz.results161 Tryz.results162 Tryz.results163 Tryz.results164 Tryz.results165 Tryz.results166
attribute [go_sem] Tryz.results167 Tryz.results168 Tryz.results169 Tryz.results170 Tryz.results171 Tryz.results172 Tryz.results173 Tryz.results174 Tryz.results175 Tryz.results176 Tryz.results177 Tryz.results178
attribute [go_sem] Tryz.results179 Tryz.results180 Tryz.results181 Tryz.results182 Tryz.results183 Tryz.results184 Tryz.results185 Tryz.results186 Tryz.results187 Tryz.results188 Tryz.results189 Tryz.results190
attribute [go_sem] Tryz.results191 Tryz.results192 Tryz.results193 Tryz.results194 Tryz.results195 Tryz.results196 Tryz.results197 Tryz.results198 Tryz.results199 Tryz.results200 Tryz.results201 Tryz.results202
attribute [go_sem] Tryz.results203 Tryz.results204 Tryz.results205 Tryz.results206 Tryz.results207 Tryz.results208 Tryz.results209 Tryz.results210 Tryz.results211 Tryz.results212 Tryz.results213 Tryz.results214
attribute [go_sem] Tryz.results215 Tryz.results216 Tryz.results217 Tryz.results218 Tryz.results219 Tryz.results220 Tryz.results221 Tryz.results222 Tryz.results223 Tryz.results224 Tryz.results225 Tryz.results226
attribute [go_sem] Tryz.results227 Tryz.results228 Tryz.results229 Tryz.results230 Tryz.results231 Tryz.results232 Tryz.results233 Tryz.results234 Tryz.results235 Tryz.results236 Tryz.results237 Tryz.results238
attribute [go_sem] Tryz.results239 Tryz.results240 Tryz.results241 Tryz.results242 Tryz.results243 Tryz.results244 Tryz.results245 Tryz.results246 Tryz.results247 Tryz.results248 Tryz.results249 Tryz.results250
attribute [go_sem] Tryz.results251 Tryz.results252 Tryz.results253 Tryz.results254 Tryz.results255 Tryz.results256 Tryz.results257 Tryz.results258 Tryz.results259 Tryz.results260 Tryz.results261 Tryz.results262
attribute [go_sem] Tryz.results263 Tryz.results264 Tryz.results265 Tryz.results266 Tryz.results267 Tryz.results268 Tryz.results269 Tryz.results270 Tryz.results271 Tryz.results272 Tryz.results273 Tryz.results274
attribute [go_sem] Tryz.results275 Tryz.results276 Tryz.results277 Tryz.results278 Tryz.results279 Tryz.results280 Tryz.results281 Tryz.results282 Tryz.results283 Tryz.results284 Tryz.results285 Tryz.results286
attribute [go_sem] Tryz.results287 Tryz.results288 Tryz.results289 Tryz.results290 Tryz.results291 Tryz.results292 Tryz.results293 Tryz.results294 Tryz.results295 Tryz.results296 Tryz.results297 Tryz.results298
attribute [go_sem] Tryz.results299 Tryz.results300 Tryz.results301 Tryz.results302 Tryz.results303 Tryz.results304 Tryz.results305 Tryz.results306 Tryz.results307 Tryz.results308 Tryz.results309 Tryz.results310
attribute [go_sem] Tryz.results311 Tryz.results312 Tryz.results313 Tryz.results314 Tryz.results315 Tryz.results316 Tryz.results317 Tryz.results318 Tryz.results319 Tryz.results320 Tryz.results321 Tryz.results322
attribute [go_sem] Tryz.results323 Tryz.results324 Tryz.results325 Tryz.results326 Tryz.results327 Tryz.results328 Tryz.results329 Tryz.results330 Tryz.results331 Tryz.results332 Tryz.results333 Tryz.results334
attribute [go_sem] Tryz.results335 Tryz.results336 Tryz.results337 Tryz.results338 Tryz.results339 Tryz.results340 Tryz.results341 Tryz.results342 Tryz.results343 Tryz.results344 Tryz.results345 Tryz.results346
attribute [go_sem] Tryz.results347 Tryz.results348 Tryz.results349 Tryz.results350 Tryz.results351 Tryz.results352 Tryz.results353 Tryz.results354 Tryz.results355 Tryz.results356 Tryz.results357 Tryz.results358
attribute [go_sem] Tryz.results359 Tryz.results360 Tryz.results361 Tryz.results362 Tryz.results363 Tryz.results364 Tryz.results365 Tryz.results366 Tryz.results367 Tryz.results368 Tryz.results369 Tryz.results370
attribute [go_sem] Tryz.results371 Tryz.results372 Tryz.results373 Tryz.results374 Tryz.results375 Tryz.results376 Tryz.results377 Tryz.results378 Tryz.results379 Tryz.results380 Tryz.results381 Tryz.results382
attribute [go_sem] Tryz.results383 Tryz.results384 Tryz.results385 Tryz.results386 Tryz.results387 Tryz.results388 Tryz.results389 Tryz.results390 Tryz.results391 Tryz.results392 Tryz.results393 Tryz.results394
attribute [go_sem] Tryz.results395 Tryz.results396 Tryz.results397 Tryz.results398 Tryz.results399 Tryz.results400 Tryz.results401 Tryz.results402 Tryz.results403 Tryz.results404 Tryz.results405 Tryz.results406
attribute [go_sem] Tryz.results407 Tryz.results408 Tryz.results409 Tryz.results410 Tryz.results411 Tryz.results412 Tryz.results413 Tryz.results414 Tryz.results415 Tryz.results416 Tryz.results417 Tryz.results418
attribute [go_sem] Tryz.results419 Tryz.results420 Tryz.results421 Tryz.results422 Tryz.results423 Tryz.results424 Tryz.results425 Tryz.results426 Tryz.results427 Tryz.results428 Tryz.results429 Tryz.results430
attribute [go_sem] Tryz.results431 Tryz.results432 Tryz.results433 Tryz.results434 Tryz.results435 Tryz.results436 Tryz.results437 Tryz.results438 Tryz.results439 Tryz.results440 Tryz.results441 Tryz.results442
attribute [go_sem] Tryz.results443 Tryz.results444 Tryz.results445 Tryz.results446 Tryz.results447 Tryz.results448 Tryz.results449 Tryz.results450 Tryz.results451 Tryz.results452 Tryz.results453 Tryz.results454
attribute [go_sem] Tryz.results455 Tryz.results456 Tryz.results457 Tryz.results458 Tryz.results459 Tryz.results460 Tryz.results461 Tryz.results462 Tryz.results463 Tryz.results464 Tryz.results465 Tryz.results466
attribute [go_sem] Tryz.results467 Tryz.results468 Tryz.results469
end Go.Dl

-- THE LIBRARY's FUNCTIONS AT THE DATA LEVEL: what is common to all of them.
namespace Go.Dl
open Go Go.Proofs
set_option maxRecDepth 10000
section
variable {P:Program} {G:Nat->DVal}
structure Quiet (w w':World):Prop where
 os:w'.os=w.os
 tape:w'.tape=w.tape
 output:w'.output=w.output
 size:w.heap.size<=w'.heap.size
 block: ∀b,b<w.heap.size->w'.heap[b]? =w.heap[b]?
theorem Quiet.below {w w':World} (h:RowKit.Below w.heap.size w w'):Quiet w w':=⟨h.os,h.tape,h.output,h.size,h.block⟩
theorem Quiet.ext {w w':World} {H:Ab} (hH:Au w H) (h:Quiet w w'):Au w' H/\Ext H w H w':=by
 have hE:Ext H w H w':=⟨h.os,h.tape,h.output,h.size,fun b hb _=>h.block b hb,fun b hb=> .inl hb,fun b hb=>by rw[h.block b hb],fun a ha _=>by unfold World.frozen?;rw[h.block _ ha]⟩;refine⟨fun r o ho=> ?_,hE⟩;rw[h.block r (hH.lt (by simp [ho]))];exact(hH r o ho).lasts hE.lasts
theorem Cc8 {w:World} {H:Ab} {g:Nat} {cs:List DVal} {name:String} {k:IntKind} {zs:List Int} (hg:P.globalNamed name=some g) (h:Rel w H (.vptr cs 0) (.pointer (some ⟨g,0,none⟩)))
  (hcs:cs=zs.map fun z=> .int k z): ∀i z,zs[i]? =some z->w.cell? ⟨g,i,none⟩=some (.int k z):=by
 simp only[Rel] at h;obtain⟨b,o,xs,e,hc,hr⟩:=h;simp only[Value.pointer.injEq,Option.some.injEq,Addr.mk.injEq,Nat.add_zero,and_true] at e;obtain⟨rfl,rfl⟩:=e;intro i z hz;have h1:cs[i]? =some (.int k z):=by rw[hcs];simp [hz]
 obtain⟨y,hy,hrel⟩:=hr.get h1;simp only[Rel] at hrel;subst hrel;have:=hc.holds i _ hy;simpa using this
end
section
end
end Go.Dl

-- General plain laws: cells of lists of structs, positions, texts of integers, pieces.
namespace Go.Dl
open Go Go.Proofs
set_option maxRecDepth 10000
section
variable {α:Type} {c:α->List DVal} {k:Nat}
theorem Bj (hk: ∀x,(c x).length=k) (l:List α):(l.flatMap c).length=l.length*k:=by
 induction l with
 | nil=>simp
 | cons x l ih=>simp [List.flatMap_cons,ih,hk,Nat.add_mul];omega
theorem Am5 (hk: ∀x,(c x).length=k): ∀(l:List α) (i:Nat),(l.flatMap c).drop (i*k)=(l.drop i).flatMap c
 | l,0=>by simp
 | [],i+1=>by simp
 | x::l,i+1=>by
  rw[List.flatMap_cons,show(i+1)*k=(c x).length+i*k by rw[hk,Nat.add_mul];omega,List.drop_append,List.drop_succ_cons,<-Am5 hk l i];simp
theorem Df (hk: ∀x,(c x).length=k) (l:List α) (i:Nat) (h:i<l.length):((l.flatMap c).drop (i*k)).take k=c l[i]:=by
 rw[Am5 hk,List.drop_eq_getElem_cons h,List.flatMap_cons,List.take_append_of_le_length (by rw[hk];omega),List.take_of_length_le (by rw[hk];omega)]
theorem Ie (hk: ∀x,(c x).length=k) (l:List α) (i:Nat) (h:i<l.length) (j:Nat) (hj:j<k):(l.flatMap c)[i*k+j]? =(c l[i])[j]? :=by
 rw[<-Df hk l i h,List.getElem?_take,if_pos hj,List.getElem?_drop]
end
def Az7 {α:Type} (p:α->Bool) (l:List α):Int:=match l.findIdx? p with | some i=>(i:Int) | none=> -1
theorem Bt7 {α:Type} {p:α->Bool} {l:List α} {i:Nat} (h:i<l.length) (hp:p l[i]=true) (hn: ∀x∈l.take i,p x=false):Az7 p l=i:=by
 have:l.findIdx? p=some i:=by
  rw[List.findIdx?_eq_some_iff_getElem];exact⟨h,hp,fun j hj=>by have:=hn l[j] (List.mem_take_iff_getElem.2 ⟨j,by omega,rfl⟩);simp [this]⟩
 rw[Az7,this]
theorem Bt8 {α:Type} {p:α->Bool} {l:List α} (hn: ∀x∈l,p x=false):Az7 p l= -1:=by
 have:l.findIdx? p=none:=by rw[List.findIdx?_eq_none_iff];intro x hx;rw[hn x hx]
 rw[Az7,this]
theorem Az8 {α:Type} (p:α->Bool) (l:List α):decide (0<=Az7 p l)=l.any p:=by
 unfold Az7;cases h:l.findIdx? p with
 | some i=>
  obtain⟨h1,h2,_⟩:=List.findIdx?_eq_some_iff_getElem.1 h;have:l.any p=true:=List.any_eq_true.2 ⟨_,List.getElem_mem h1,h2⟩;rw[this];simp
 | none=>
  rw[List.findIdx?_eq_none_iff] at h;have:l.any p=false:=by rw[List.any_eq_false];intro x hx;rw[h x hx];simp
  rw[this];rfl
theorem Np {α:Type} {p:α->Prop} {l:List α} {i:Nat} (h:i<l.length) (hn: ∀x∈l.take i,p x) (hx:p l[i]): ∀x∈l.take (i+1),p x:=by
 intro x hm;rw[List.take_succ_eq_append_getElem h,List.mem_append,List.mem_singleton] at hm;rcases hm with hm | rfl
 ·exact hn x hm
 ·exact hx
theorem Lw {c d:UInt8} (h:c≠d): ¬(c.toNat:Int)=(d.toNat:Int):=fun e=>h (UInt8.toNat_inj.1 (by omega))
def Rv (l:List (List UInt8)):DVal:= .vslice (l.map .str) l.length
end Go.Dl

-- Rows of the call's own: a list of lists of ints, each in a block of its own.
namespace Go.Dl
open Go
def loose:DVal->Bool
 | .bool _ | .int _ _ | .str _ | .nilPtr | .nilSlice | .nilMap | .nilFunc | .nilIface=>true
 | .optr _ _ | .oslice _ _ _ _ _ | .omap _=>true
 | .tuple l=>looses l
 | .agg l=>looses l
 | _=>false
where looses:List DVal->Bool
 | []=>true
 | d::ds=>loose d&&looses ds
mutual
theorem Re {w:World} {H H':Ab}: ∀(d:DVal) (v:Value),loose d=true->Rel w H d v->Rel w H' d v
 | .tuple l,v,hp,h=>by
  simp only[loose] at hp
  simp only[Rel] at h⊢
  obtain⟨x,rfl,h1⟩:=h
  exact⟨x,rfl,Js _ _ hp h1⟩
 | .agg l,v,hp,h=>by
  simp only[loose] at hp
  simp only[Rel] at h⊢
  obtain⟨x,rfl,h1⟩:=h
  exact⟨x,rfl,Js _ _ hp h1⟩
 | .bool x,v,hp,h=>by simpa [Rel] using h
 | .int x y,v,hp,h=>by simpa [Rel] using h
 | .str x,v,hp,h=>by simpa [Rel] using h
 | .nilPtr,v,hp,h=>by simpa [Rel] using h
 | .nilSlice,v,hp,h=>by simpa [Rel] using h
 | .nilMap,v,hp,h=>by simpa [Rel] using h
 | .nilFunc,v,hp,h=>by simpa [Rel] using h
 | .nilIface,v,hp,h=>by simpa [Rel] using h
 | .optr _ _,v,hp,h=>by simpa [Rel] using h
 | .oslice _ _ _ _ _,v,hp,h=>by simpa [Rel] using h
 | .omap _,v,hp,h=>by simpa [Rel] using h
 | .raw _,_,hp,_=>by cases hp
 | .vptr _ _,_,hp,_=>by cases hp
 | .vslice _ _,_,hp,_=>by cases hp
 | .func _ _ _,_,hp,_=>by cases hp
 | .iface _ _,_,hp,_=>by cases hp
theorem Js {w:World} {H H':Ab}: ∀(ds:List DVal) (vs:List Value),loose.looses ds=true->Ap w H ds vs->Ap w H' ds vs
 | [],_,_,h=>by simpa [Ap] using h
 | d::ds,vs,hp,h=>by
  simp only[loose.looses,Bool.and_eq_true] at hp
  simp only[Ap] at h⊢
  obtain⟨y,ys,rfl,h1,h2⟩:=h
  exact⟨y,ys,rfl,Re d y hp.1 h1,Js ds ys hp.2 h2⟩
end
theorem Bl7 {l:List DVal}:loose.looses l=true↔ ∀d∈l,loose d=true:=by
 induction l with
 | nil=>simp [loose.looses]
 | cons d l ih=>simp [loose.looses,ih]
def At0:DObj->Bool
 | .cells cs _=>loose.looses cs
 | .map es=>es.all fun p=>loose p.1&&loose p.2
 | .loop _ _ _=>false
 | .iter _ _=>true
def Az9 (H H':Ab):Prop:= ∀r o,H' r=some o->H r=some o\/At0 o=true
theorem Az9.refl (H:Ab):Az9 H H:=fun _ _ h=> .inl h
theorem Az9.upd {H H':Ab} (h:Az9 H H') {r:Nat} {o:DObj} (ho:At0 o=true):Az9 H (upd H' r (some o)):=fun b p hb=>by
 simp only[Dl.upd] at hb;split at hb
 ·cases hb;exact .inr ho
 ·exact h b p hb
end Go.Dl

-- THE DATA LEVEL, PART J: slices that are built up beside other memory of the call's own that nobody asks for any more.
namespace Go.Dl
open Go Go.RowKit
theorem Ba0 (H:Ab) (w:World):Lasts H w h0 w:=Fg (fun r o h=>by cases h) w
def Sub (H H':Ab):Prop:= ∀r o,H r=some o->H' r=some o
theorem Sub.refl (H:Ab):Sub H H:=fun _ _ h=>h
theorem Sub.trans {H H' H'':Ab} (h:Sub H H') (k:Sub H' H''):Sub H H'':=fun r o x=>k r o (h r o x)
theorem Sub.lo {H H':Ab} (h:Sub H H') {r:Nat} (hr:H' r=none):H r=none:=by
 cases e:H r with
 | none=>rfl
 | some o=>rw[h r o e] at hr;cases hr
theorem Sub.up {H H':Ab} (h:Sub H H') {r:Nat} (hr:H r=none) (x:Option DObj):Sub H (upd H' r x):=fun b o hb=>by
 have:b≠r:=fun e=>by rw[e,hr] at hb;cases hb
 simp only[upd,if_neg this];exact h b o hb
theorem Sub.new {H H':Ab} (h:Sub H H') {r:Nat} (hr:H' r=none) (x:Option DObj):Sub H (upd H' r x):=h.up (h.lo hr) x
theorem Sub.both {H H':Ab} (h:Sub H H') (r:Nat) (x:Option DObj):Sub (upd H r x) (upd H' r x):=fun b o hb=>by
 simp only[upd] at hb⊢;split<;>rename_i e
 ·rwa [if_pos e] at hb
 ·rw[if_neg e] at hb;exact h b o hb
def Ea (H:Ab) (e:TypeId) (size n:Nat) (cs:List DVal) (v:DVal) (H':Ab):Prop:=
 (n=0/\cs= []/\v= .nilSlice/\Sub H H')\/ ∃r,H r=none/\cs.length=n*size/\v= .oslice size r 0 n n/\H' r=some (.cells cs e)/\Sub H H'
section
variable {P:Program} {G:Nat->DVal} {H H':Ab} {e:TypeId} {size n:Nat} {cs:List DVal} {v:DVal}
theorem Ea.nil (e:TypeId) (size:Nat) (h:Sub H H'):Ea H e size 0 [] .nilSlice H':= .inl ⟨rfl,rfl,rfl,h⟩
theorem Ea.sub (h:Ea H e size n cs v H'):Sub H H':=by
 rcases h with⟨_,_,_,h⟩ | ⟨_,_,_,_,_,h⟩<;>exact h
theorem Ea.keep (h:Ea H e size n cs v H') {r:Nat} {o:DObj} (hr:H r=some o):H' r=some o:=h.sub r o hr
theorem Ea.more (h:Ea H e size n cs v H') {H2:Ab} (k:Sub H' H2):Ea H e size n cs v H2:=by
 rcases h with⟨a,b,c,d⟩ | ⟨r,a,b,c,d,f⟩
 ·exact .inl ⟨a,b,c,d.trans k⟩
 ·exact .inr ⟨r,a,b,c,k _ _ d,f.trans k⟩
theorem Ea.new (h:Ea H e size n cs v H') {r:Nat} (hr:H' r=none) (x:Option DObj):Ea H e size n cs v (upd H' r x):=h.more ((Sub.refl H').up hr x)
theorem Ea.less (h:Ea H e size n cs v H') {H1:Ab} (k:Sub H1 H):Ea H1 e size n cs v H':=by
 rcases h with⟨a,b,c,d⟩ | ⟨r,a,b,c,d,f⟩
 ·exact .inl ⟨a,b,c,k.trans d⟩
 ·exact .inr ⟨r,k.lo a,b,c,d,k.trans f⟩
theorem Ea.frame (h:Ea H e size n cs v H') {r:Nat} (hr:H' r=none) (o:DObj):Ea (upd H r (some o)) e size n cs v (upd H' r (some o)):=by
 rcases h with⟨a,b,c,d⟩ | ⟨r0,a,b,c,d,f⟩
 ·exact .inl ⟨a,b,c,d.both _ _⟩
 ·have:r0≠r:=fun e=>by rw[e,hr] at d;cases d
  exact .inr ⟨r0,by simp [upd,this,a],b,c,by simp [upd,this,d],f.both _ _⟩
theorem Ea.exact (h:Ea H e size n cs v H'): ∃H1,Cc3 H e size n cs v H1/\Sub H1 H':=by
 rcases h with⟨a,b,c,d⟩ | ⟨r,a,b,c,d,f⟩
 ·exact⟨H, .inl ⟨a,b,c,rfl⟩,d⟩
 ·refine⟨_, .inr ⟨r,a,b,c,rfl⟩,fun k o hk=> ?_⟩;simp only[upd] at hk;split at hk
  ·rename_i e;subst e;cases hk;exact d
  ·exact f k o hk
theorem Ea.append {m bytes:Nat} {news:List DVal} {dst:Option Nat} {K:DK} {env:Nat->DVal} (hv:Ea H e size n cs v H') (hm:news.length=m*size) (hb:(n+m)*bytes<=35184372088832)
  (hK: ∀v' H2,Ea H e size (n+m) (cs++news) v' H2->K ⟨Er env dst v',H2⟩):Jn e size bytes m news dst v K ⟨env,H'⟩:=by
 rcases hv with⟨rfl,rfl,rfl,hs⟩ | ⟨r,hr,hl,rfl,hc,hs⟩
 ·simp only[Jn];refine⟨fun h0=> ?_,fun h0=>⟨by simpa using hb,fun r hr=> ?_⟩⟩
  ·subst h0;have:news= []:=List.length_eq_zero_iff.1 (by omega);subst this;exact hK _ _ (.inl ⟨rfl,rfl,rfl,hs⟩)
  ·refine hK _ _ (.inr ⟨r,hs.lo hr,by simpa using hm,by simp,by rw[List.nil_append];exact Aa _ _ _,hs.new hr _⟩)
 ·simp only[Jn,true_and];rw[hc];by_cases h0:m=0
  ·subst h0;have:news= []:=List.length_eq_zero_iff.1 (by omega);subst this;rw[Ya (by omega)];refine⟨by simp [hl],?_⟩;have:=hK (.oslice size r 0 (n+0) n) H' (.inr ⟨r,hr,by simpa using hl,by simp,by simpa using hc,hs⟩);simp only[Ck,List.length_nil,List.append_nil,Nat.add_zero,List.take_append_drop];rw[Cn6 hc];simpa using this
  ·rw[Um (by omega) (by omega)];refine⟨by omega,hb,fun r' hr'=> ?_⟩;dsimp only at hr'⊢
   by_cases e1:r'=r
   ·subst e1;refine hK _ _ (.inr ⟨r',hr,?_,rfl,?_,?_⟩)
    ·simp [hl,hm,Nat.add_mul]
    ·rw[Aa,List.take_of_length_le (by omega)]
    ·exact(hs.up hr _).up hr _
   ·have hr2:H' r'=none:=by simpa [upd,e1] using hr'
    refine hK _ _ (.inr ⟨r',hs.lo hr2,?_,rfl,?_,?_⟩)
    ·simp [hl,hm,Nat.add_mul]
    ·rw[Aa,List.take_of_length_le (by omega)]
    ·exact(hs.up hr _).up (hs.lo hr2) _
theorem Ea.appendO {r m bytes:Nat} {news:List DVal} {dst:Option Nat} {K:DK} {env:Nat->DVal} (hv:Ea H e size n cs (.oslice size r 0 n n) H') (hm:news.length=m*size) (hb:(n+m)*bytes<=35184372088832)
  (hK: ∀v' H2,Ea H e size (n+m) (cs++news) v' H2->K ⟨Er env dst v',H2⟩):Lq e size bytes r 0 n n m news dst K ⟨env,H'⟩ (some (.cells cs e)):=by
 have h:=Ea.append hv hm hb hK;have hc:H' r=some (.cells cs e):=by
  rcases hv with⟨_,_,h,_⟩ | ⟨r',_,_,h,hc,_⟩
  ·cases h
  ·cases h;exact hc
 simp only[Jn,true_and,hc] at h;exact h
theorem Ea.ghost (hv:Ea H e size n cs v H'):Hw H' v H (.vslice cs n):=by
 obtain⟨H1,h1,h2⟩:=hv.exact;exact(Hw.sub h2 v).trans h1.ghost
theorem Ea.fin {R:DEnd->Ab->Prop} (hv:Ea H e size n cs v H') (h:R (.ret (.vslice cs n)) H):Pm R v H':= .ghost hv.ghost (.refl h)
theorem Ik.fzSlot {env:Nat->DVal} {k:Nat} (hv:Ea H e size n cs (env k) H'):Ik G ⟨env,H'⟩ ⟨upd env k (.vslice cs n),H⟩:=fun w hH hG=>by
 obtain⟨h1,h2,h3⟩:=hv.ghost w hH;refine⟨h1,h2,hG.lasts (Fg hv.sub w),fun i x hx=> ?_⟩;by_cases e:i=k
 ·subst e;simp only[Aa];exact h3 x hx
 ·simp only[upd,if_neg e];exact Rel.lasts (Fg hv.sub w) _ _ hx
theorem Bs7.runG {body:(DExit->DS->Prop)->DK} {Q:DExit->DS->Prop} {s:DS} {ι:Type} (I:ι->(Nat->DVal)->Ab->Prop) (μ:ι->Nat) (i:ι) (s0:DS) (hg:Ik G s s0) (h0:I i s0.env s0.heap)
  (hr: ∀i env heap,I i env heap->body (Xw (fun s1=> ∃j s2,Ik G s1 s2/\I j s2.env s2.heap/\μ j<μ i) Q) ⟨env,heap⟩):Bs7 G body Q s:=
 ⟨ι,fun i s=>I i s.env s.heap,μ,⟨i,s0,hg,h0⟩,fun i s h=>hr i s.env s.heap h⟩
theorem Ea.cell1 (h:Ea H e size n cs v H'):v.cells= [v]/\v.one=true:=by
 rcases h with⟨_,_,rfl,_⟩ | ⟨_,_,_,rfl,_⟩<;>exact⟨rfl,rfl⟩
end
end Go.Dl

-- THE DATA LEVEL, PART K: the frame of a call: what a callee makes with no memory of the caller's at hand, it makes beside it.
namespace Go.Dl
open Go
set_option maxRecDepth 10000
theorem Ah.frame {P:Program} {G:Nat->DVal} {f:FuncId} {args args':List DVal} {H:Ab} {R:DEnd->Ab->Prop} (h:Ah P G f args' h0 R)
  (hb: ∀w vs,Au w H->Ap w H args vs->Ap w h0 args' vs) (hR: ∀e X,R e X-> ∃v,e= .ret v/\loose v=true/\Az9 h0 X):Ah P G f args H (fun e H'=> ∃X,R e X/\Db1 H X/\H'=Ak4 H X):=by
 refine⟨h.1,fun vs w hv hH hg=> ?_⟩;have hg0:GOk G w h0:=hg.lasts (Ba0 H w);refine(h.2 vs w (hb w vs hH hv) (fun r o hr=>by cases hr) hg0).mono fun x w' ⟨e',X,r,k1,k2,k3⟩=> ?_;obtain⟨v,rfl,hl,hX⟩:=hR _ _ r;have hown: ∀b,X b≠none->w.heap.size<=b:=fun b hb=>(k3.own b hb).resolve_left (fun k=>k rfl);have hd:Db1 H X:=fun b hb=>by
  cases e1:H b with
  | none=>rfl
  | some o=>have:=hH.lt (r:=b) (by simp [e1]);have:=hown b hb;omega
 have hE:Ext H w (Ak4 H X) w':=⟨k3.os,k3.tape,k3.output,k3.size,fun b hb _=>k3.block b hb rfl,fun b hb=>by
  by_cases e1:X b=none
  ·rw[As9 e1] at hb;exact .inl hb
  ·exact .inr (hown b e1),k3.keep,fun a ha _=>k3.fz a ha rfl⟩
 refine⟨.ret v,Ak4 H X,⟨X,r,hd,rfl⟩,?_,?_,hE⟩
 ·cases k1 with
  | ret d x hx=>exact .ret _ _ (Re _ _ hl hx)
 ·intro b o ho;cases e1:X b with
  | none=>
   rw[As9 e1] at ho;rw[k3.block b (hH.lt (by simp [ho])) rfl];exact(hH b o ho).lasts hE.lasts
  | some o'=>
   rw[Cn4 e1] at ho;cases ho;have hlo:At0 o=true:=(hX b o e1).resolve_left (fun k=>by cases k);have hr:=k2 b o e1;cases o with
   | cells cs e=>
    obtain⟨xs,c,fz',h1,h2,h3,h4⟩:=hr;exact⟨xs,c,fz',h1,h2,Js _ _ hlo h3,h4⟩
   | loop _ _ _=>cases hlo
   | iter _ _=>exact hr
   | map es=>
    obtain⟨ms,c,h1,h2⟩:=hr;refine⟨ms,c,h1,?_⟩;simp only[At0,List.all_eq_true,Bool.and_eq_true] at hlo;clear h1 e1;generalize ms.toList=l at h2
    induction es generalizing l with
    | nil=>exact h2
    | cons p es ih=>
     obtain⟨m,ms',rfl,g1,g2,g3⟩:=h2;exact⟨m,ms',rfl,Re _ _ (hlo p (by simp)).1 g1,Re _ _ (hlo p (by simp)).2 g2,ih (fun q hq=>hlo q (List.mem_cons_of_mem _ hq)) _ g3⟩
theorem Ah.lent {P:Program} {G:Nat->DVal} {f:FuncId} {args args':List DVal} {H:Ab} {v:DVal} (h:Ah P G f args' h0 (Bp v h0))
  (hb: ∀w vs,Au w H->Ap w H args vs->Ap w h0 args' vs) (hv:loose v=true):Ah P G f args H (Bp v H):=
 (h.frame hb (fun e X hr=>⟨v,hr.1,hv,by rw[hr.2];exact .refl _⟩)).mono fun e H' ⟨X,hr,_,hH⟩=>⟨hr.1,by rw[hH,hr.2,Bt6]⟩
end Go.Dl

-- Chapter 2: tokens: the plain laws, part 1: the words, the symbols, what a line yields.
namespace Go.Dl
open Go
set_option maxRecDepth 10000
def Am6:List (List UInt8):= [[97,98,111,114,116],
 [97,98,115],
 [97,99,99,101,112,116],
 [97,99,99,101,115,115],
 [97,108,105,97,115,101,100],
 [97,108,108],
 [97,110,100],
 [97,114,114,97,121],
 [98,101,103,105,110],
 [98,111,100,121],
 [99,97,115,101],
 [99,111,110,115,116,97,110,116],
 [100,101,99,108,97,114,101],
 [100,101,108,97,121],
 [100,111],
 [101,108,115,101],
 [101,108,115,105,102],
 [101,110,100],
 [101,110,116,114,121],
 [101,120,99,101,112,116,105,111,110],
 [101,120,105,116],
 [102,111,114],
 [102,117,110,99,116,105,111,110],
 [103,101,110,101,114,105,99],
 [105,102],
 [105,110],
 [105,115],
 [108,105,109,105,116,101,100],
 [108,111,111,112],
 [109,111,100],
 [110,101,119],
 [110,111,116],
 [110,117,108,108],
 [111,102],
 [111,114],
 [111,116,104,101,114,115],
 [111,117,116],
 [112,97,99,107,97,103,101],
 [112,114,97,103,109,97],
 [112,114,105,118,97,116,101],
 [112,114,111,99,101,100,117,114,101],
 [112,114,111,116,101,99,116,101,100],
 [114,97,105,115,101],
 [114,97,110,103,101],
 [114,101,99,111,114,100],
 [114,101,109],
 [114,101,110,97,109,101,115],
 [114,101,113,117,101,117,101],
 [114,101,116,117,114,110],
 [114,101,118,101,114,115,101],
 [115,101,108,101,99,116],
 [115,101,112,97,114,97,116,101],
 [115,117,98,116,121,112,101],
 [116,97,115,107],
 [116,101,114,109,105,110,97,116,101],
 [116,104,101,110],
 [116,121,112,101],
 [117,110,116,105,108],
 [117,115,101],
 [119,104,101,110],
 [119,104,105,108,101],
 [119,105,116,104],
 [120,111,114]]
def Eu (c:UInt8):Bool:=decide (65<=c.toNat)&&decide (c.toNat<=90) || decide (97<=c.toNat)&&decide (c.toNat<=122)
def Ff (c:UInt8):Bool:=decide (48<=c.toNat)&&decide (c.toNat<=57)
def Dm (c:UInt8):Bool:=Eu c || Ff c || decide (c=95)
def Cz (s:List UInt8):List UInt8:=s.takeWhile Dm
def Sq (s:List UInt8):Bool:=decide (s∈Am6)
def Lx (s:List UInt8):Bool:=(match s with | c::_=>Eu c | []=>false)&&decide (s.length<=32)&&s.all Dm&&!Sq s
def Un:List (UInt8×UInt8):= [(61,62),(46,46),(58,61),(47,61),(60,61),(62,61),(60,62)]
def Ba1:List UInt8:= [40,41,44,59,58,46,39,43,45,42,47,61,60,62,124]
def Pn:List UInt8->Nat
 | []=>0
 | [a]=>if a∈Ba1 then 1 else 0
 | a::b::_=>if(a,b)∈Un then 2 else if a∈Ba1 then 1 else 0
structure Tok where
 kind:Int
 line:Int
 text:List UInt8
 n:Int
 deriving DecidableEq,Inhabited
def Wg:Tok:=⟨0,0,[],0⟩
def Nd (w:List UInt8):Nat:=w.foldl (fun v c=>10*v+(c.toNat-48)) 0
def Ak5 (w:List UInt8):Option Nat:=if w.length<=10/\w.all Ff=true/\Nd w<=2147483647 then some (Nd w) else none
def Ct (s:List UInt8):Tok×Nat:=
 match s with
 | []=>(Wg,0)
 | c::_=>if Eu c then(if Sq (Cz s) then(⟨2,0,Cz s,0⟩,(Cz s).length) else if Lx (Cz s) then(⟨1,0,Cz s,0⟩,(Cz s).length) else(Wg,0))
  else if Ff c then(match Ak5 (Cz s) with | some v=>(⟨3,0,[],v⟩,(Cz s).length) | none=>(Wg,0))
  else(⟨4,0,s.take (Pn s),0⟩,Pn s)
def Jt (s:List UInt8):Bool:=s.all fun c=>decide (32<=c.toNat)&&decide (c.toNat<=126)
def Fj (s:List UInt8):List UInt8:=s.dropWhile (· ==32)
def Jk:List UInt8->Bool
 | 45::45::_=>true
 | _=>false
def Wh:Nat->List UInt8->List (Tok×Bool)
 | 0,_=> []
 | k+1,s=>
  if Fj s= []\/Jk (Fj s)=true then(if Jt (Fj s) then [] else [(Wg,false)])
  else if(Ct (Fj s)).2=0 then [((Ct (Fj s)).1,false)]
  else((Ct (Fj s)).1,true)::Wh k ((Fj s).drop (Ct (Fj s)).2)
def Kx (s:List UInt8):List (Tok×Bool):=Wh (s.length+1) s
theorem Am7 (s:List UInt8):(Fj s).length<=s.length:=by
 unfold Fj;exact(List.dropWhile_sublist _).length_le
theorem Yb: ∀(k k':Nat) (s:List UInt8),s.length<k->s.length<k'->Wh k s=Wh k' s
 | 0,_,_,h,_=>by omega
 | _,0,_,_,h=>by omega
 | k+1,k'+1,s,h,h'=>by
  unfold Wh;split
  ·rfl
  ·rename_i hc
   split
   ·rfl
   ·rename_i h0
    have hl:=Am7 s;have hne:Fj s≠ []:=fun e=>hc (.inl e);have hpos:0<(Fj s).length:=List.length_pos_iff.2 hne;rw[Yb k k' _ (by rw[List.length_drop];omega) (by rw[List.length_drop];omega)]
theorem Ol (s:List UInt8):Kx s=
  if Fj s= []\/Jk (Fj s)=true then(if Jt (Fj s) then [] else [(Wg,false)])
  else if(Ct (Fj s)).2=0 then [((Ct (Fj s)).1,false)]
  else((Ct (Fj s)).1,true)::Kx ((Fj s).drop (Ct (Fj s)).2):=by
 unfold Kx;rw[Wh];split
 ·rfl
 ·rename_i hc
  split
  ·rfl
  ·rename_i h0
   have hl:=Am7 s;have hne:Fj s≠ []:=fun e=>hc (.inl e);have hpos:0<(Fj s).length:=List.length_pos_iff.2 hne;rw[Yb s.length _ ((Fj s).drop (Ct (Fj s)).2) (by rw[List.length_drop];omega) (Nat.lt_succ_self _)]
end Go.Dl

-- Chapter 2: tokens: the plain laws, part 2: lines, errors; comments and joined texts.
namespace Go.Dl
open Go
set_option maxRecDepth 10000
theorem Ba2 (s r:List UInt8) (c:UInt8) (hc:Dm c=false):Cz (s++c::r)=Cz s:=by
 unfold Cz;rw[List.takeWhile_append];split
 ·rename_i h
  have:s.takeWhile Dm=s:=(List.takeWhile_prefix Dm).eq_of_length h;rw[this];simp [hc]
 ·rfl
theorem Bl8 (s:List UInt8):Pn s<=s.length:=by
 match s with
 | []=>exact Nat.le_refl _
 | [a]=>simp only[Pn];split<;>simp
 | a::b::s=>simp only[Pn];split<;>(try split)<;>simp
theorem Bt9 (s:List UInt8):(Cz s).length<=s.length:=(List.takeWhile_sublist _).length_le
theorem Uo (s:List UInt8):(Ct s).2<=s.length:=by
 have hw:=Bt9 s
 have hs:=Bl8 s
 match s with
 | []=>exact Nat.le_refl _
 | c::s=>
  unfold Ct
  dsimp only
  split
  ·split
   ·exact hw
   ·split
    ·exact hw
    ·exact Nat.zero_le _
  ·split
   ·split
    ·exact hw
    ·exact Nat.zero_le _
   ·exact hs
theorem Cc9 (s r:List UInt8):Jt (s++r)=(Jt s&&Jt r):=by simp [Jt]
def Bw (c:UInt8):List UInt8->List UInt8->List (List UInt8)
 | [],cur=> [cur]
 | b::s,cur=>if b=c then cur::Bw c s [] else Bw c s (cur++ [b])
theorem Ac3 (c:UInt8) (w:List UInt8) (h:c∉w): ∀cur,Bw c w cur= [cur++w]:=by
 induction w with
 | nil=>intro cur;simp [Bw]
 | cons b w ih=>
  intro cur;simp only[List.mem_cons,not_or] at h;rw[Bw,if_neg (fun e=>h.1 e.symm),ih h.2];simp
theorem Ac4 (c:UInt8) (w r:List UInt8) (h:c∉w): ∀cur,Bw c (w++c::r) cur=(cur++w)::Bw c r []:=by
 induction w with
 | nil=>intro cur;simp [Bw]
 | cons b w ih=>
  intro cur;simp only[List.mem_cons,not_or] at h;rw[List.cons_append,Bw,if_neg (fun e=>h.1 e.symm),ih h.2];simp
theorem Yc (c:UInt8) (b:List UInt8): ∀(a cur:List UInt8),Bw c (a++c::b) cur=Bw c a cur++Bw c b []
 | [],cur=>by simp [Bw]
 | x::a,cur=>by
  rw[List.cons_append,Bw,Bw];split
  ·rw[Yc c b a []];rfl
  ·exact Yc c b a _
theorem Ac5 (c:UInt8): ∀(a cur:List UInt8),Bw c a cur≠ []
 | [],cur=>by simp [Bw]
 | x::a,cur=>by
  rw[Bw];split
  ·simp
  ·exact Ac5 c a _
theorem Qe (c:UInt8): ∀(a cur w:List UInt8),c∉cur->w∈Bw c a cur->c∉w
 | [],cur,w,h,hw=>by
  simp only[Bw,List.mem_singleton] at hw;rw[hw];exact h
 | x::a,cur,w,h,hw=>by
  rw[Bw] at hw;split at hw
  ·rcases List.mem_cons.1 hw with rfl | hw
   ·exact h
   ·exact Qe c a [] w (by simp) hw
  ·rename_i hx
   exact Qe c a _ w (by simp only[List.mem_append,List.mem_singleton,not_or];exact⟨h,fun e=>hx e.symm⟩) hw
def Rw:List (List UInt8)->List UInt8
 | []=> []
 | [s]=>s
 | s::t::l=>s++10::Rw (t::l)
def Ed (s:List UInt8):List (List UInt8):=Bw 10 s []
theorem Ac6: ∀ls:List (List UInt8),ls≠ []->(∀s∈ls,(10:UInt8)∉s)->Ed (Rw ls)=ls
 | [],h,_=>absurd rfl h
 | [s],_,hs=>by rw[Rw,Ed,Ac3 10 s (hs s (by simp))];rfl
 | s::t::l,_,hs=>by
  have:=Ac6 (t::l) (by simp) fun u hu=>hs u (List.mem_cons_of_mem _ hu);rw[Ed] at this⊢
  rw[Rw,Ac4 10 s _ (hs s (by simp)),this];rfl
theorem Bl9 (s:List UInt8): ∀cur,Rw (Bw 10 s cur)=cur++s:=by
 induction s with
 | nil=>intro cur;simp [Bw,Rw]
 | cons x s ih=>
  intro cur;rw[Bw];split
  ·rename_i h
   subst h;have:=ih [];cases hsp:Bw 10 s [] with
   | nil=>exact absurd hsp (Ac5 _ _ _)
   | cons t l=>rw[hsp] at this;rw[Rw,this];rfl
  ·rw[ih];simp
def Om:List (List UInt8)->Nat->List (Tok×Bool×Int)
 | [],_=> []
 | s::ls,i=>(Kx s).map (fun p=>({ p.1 with line:=i },p.2,(i:Int)))++Om ls (i+1)
def Bm0:List (Tok×Bool×Int)->Nat->Option (Int×Int)
 | [],_=>none
 | p::r,n=>if p.2.1=false then some (p.2.2,20) else if n=8192 then some (p.2.2,3) else Bm0 r (n+1)
def Bg (src:List UInt8):List Tok×Int×Int:=
 if 65536<src.length then([],0,3) else match Bm0 (Om (Ed src) 1) 0 with
  | some e=>([],e.1,e.2)
  | none=>((Om (Ed src) 1).map (·.1),0,0)
end Go.Dl

-- Chapter 2: tokens: the plain laws, part 3: the text of tokens, and the tokens of that text.
namespace Go.Dl
open Go
set_option maxRecDepth 10000
theorem Ba3 {c:UInt8} (h:Eu c=true):Dm c=true:=by simp [Dm,h]
theorem Cd0 (w:List UInt8) (c:UInt8):Nd (w++ [c])=10*Nd w+(c.toNat-48):=by simp [Nd,List.foldl_append]
theorem Bm1 {c:UInt8} (h:Ff c=true):Dm c=true:=by simp [Dm,h]
theorem Up: ∀w:List UInt8,w.all Dm=true->Cz w=w
 | [],_=>rfl
 | c::w,h=>by
  rw[List.all_cons,Bool.and_eq_true] at h;show List.takeWhile Dm (c::w)=_;rw[List.takeWhile_cons,h.1];have:=Up w h.2;unfold Cz at this;simp [this]
end Go.Dl

-- Chapter 2: tokens: the plain laws, part 4: the tokens of the text of tokens.
namespace Go.Dl
open Go
set_option maxRecDepth 10000
theorem Cd1 {c:UInt8} (h:Dm c=true):33<=c.toNat/\c.toNat<=126:=by
 have hu:c=95->c.toNat=95:=fun e=>by rw[e];rfl
 unfold Dm Eu Ff at h;simp only[Bool.or_eq_true,Bool.and_eq_true,decide_eq_true_eq] at h;rcases h with((h | h) | h) | h
 ·omega
 ·omega
 ·omega
 ·have:=hu h;omega
end Go.Dl

-- Chapter 2: tokens: the plain laws, part 6: numbers; a text again.
namespace Go.Dl
open Go
set_option maxRecDepth 10000
theorem De4 {c:UInt8} (r:List UInt8) (h:c≠32):Fj (c::r)=c::r:=by
 unfold Fj;rw[List.dropWhile_cons,beq_eq_false_iff_ne.2 h];rfl
theorem Dp4 {c:UInt8} (r:List UInt8) (h:c≠45):Jk (c::r)=false:=by
 unfold Jk;split
 ·rename_i e;simp at e;exact absurd e.1 h
 ·rfl
theorem Ba4 {c:UInt8} {r:List UInt8} (h32:c≠32) (hc:Jk (c::r)=false):Kx (c::r)=if(Ct (c::r)).2=0 then [((Ct (c::r)).1,false)] else((Ct (c::r)).1,true)::Kx ((c::r).drop (Ct (c::r)).2):=by
 rw[Ol,De4 r h32,if_neg (fun h=>h.elim (by simp) (fun h=>by rw[hc] at h;cases h))]
end Go.Dl

-- Chapter 2: tokens: the plain laws, part 7: what the library's functions say of symbols, spaces, comments.
namespace Go.Dl
open Go
set_option maxRecDepth 10000
theorem Ba5: ∀a:List UInt8,Go.Op.bytesLess a a=false
 | []=>rfl
 | x::a=>by
  unfold Go.Op.bytesLess;simp [Ba5 a]
theorem Am8: ∀a b:List UInt8,Go.Op.bytesLess a b=true->Go.Op.bytesLess b a=false
 | [],[],h=>rfl
 | [],_::_,_=>rfl
 | _::_,[],h=>by cases h
 | x::a,y::b,h=>by
  unfold Go.Op.bytesLess at h⊢
  by_cases e:x=y
  ·subst e;simp only[UInt8.lt_irrefl] at h⊢
   simp at h⊢
   exact Am8 a b h
  ·have hn:y≠x:=fun h=>e h.symm;simp [e,hn] at h⊢
   exact UInt8.le_of_lt h
theorem Ba6:Am6.Pairwise (fun a b=>Go.Op.bytesLess a b=true):=by decide+kernel
structure halfAt (l:List (List UInt8)) (s:List UInt8) (i j:Nat):Prop where
 le:i<=j
 len:j<=l.length
 lo: ∀k w,k<i->l[k]? =some w->w≠s
 hi: ∀k w,j<k->l[k]? =some w->w≠s
theorem Bm2 (l:List (List UInt8)) (s:List UInt8):halfAt l s 0 l.length:=
 ⟨Nat.zero_le _,Nat.le_refl _,fun _ _ h=>by omega,fun k w h hk=>by rw[List.getElem?_eq_none (by omega)] at hk;cases hk⟩
theorem Bu0 {l:List (List UInt8)} {a:Nat} {b:Nat} {u v:List UInt8} (hl:l.Pairwise fun a b=>Go.Op.bytesLess a b=true) (h:a<b) (ha:l[a]? =some u) (hb:l[b]? =some v):Go.Op.bytesLess u v=true:=by
 obtain⟨h1,rfl⟩:=List.getElem?_eq_some_iff.1 ha;obtain⟨h2,rfl⟩:=List.getElem?_eq_some_iff.1 hb;exact List.pairwise_iff_getElem.1 hl a b h1 h2 h
theorem De5 {l:List (List UInt8)} {s w:List UInt8} {i j h:Nat} (hl:l.Pairwise fun a b=>Go.Op.bytesLess a b=true) (hk:halfAt l s i j) (h2:h<j) (hw:l[h]? =some w) (hlt:Go.Op.bytesLess w s=true):halfAt l s (h+1) j:=by
 obtain⟨k1,k2,k3,k4⟩:=hk;refine⟨by omega,k2,fun k u hku hu e=> ?_,k4⟩;subst e;rcases Nat.lt_or_ge k h with hlt' | hge
 ·have:=Bu0 hl hlt' hu hw;rw[Am8 _ _ this] at hlt;cases hlt
 ·have:k=h:=by omega
  subst this;rw[hw] at hu;cases hu;rw[Ba5] at hlt;cases hlt
theorem Cd2 {l:List (List UInt8)} {s w:List UInt8} {i j h:Nat} (hl:l.Pairwise fun a b=>Go.Op.bytesLess a b=true) (hk:halfAt l s i j) (h1:i<=h) (h2:h<j) (hw:l[h]? =some w) (hlt:Go.Op.bytesLess w s=false):halfAt l s i h:=by
 obtain⟨k1,k2,k3,k4⟩:=hk;refine⟨h1,by omega,k3,fun k u hku hu e=> ?_⟩;subst e;rw[Bu0 hl hku hw hu] at hlt;cases hlt
theorem Cq6 {l:List (List UInt8)} {s:List UInt8} {i:Nat} (hk:halfAt l s i i):decide (s∈l)=decide (l[i]? =some s):=by
 obtain⟨_,_,k3,k4⟩:=hk;refine decide_eq_decide.2 ⟨fun h=> ?_,fun h=>List.mem_of_getElem? h⟩;obtain⟨k,hk⟩:=List.mem_iff_getElem?.1 h;rcases Nat.lt_trichotomy k i with h1 | h1 | h1
 ·exact absurd rfl (k3 k s h1 hk)
 ·rw[<-h1];exact hk
 ·exact absurd rfl (k4 k s h1 hk)
end Go.Dl

-- Chapter 2: tokens: the plain laws, part 8: a text read byte by byte, as the reference does.
namespace Go.Dl
open Go
set_option maxRecDepth 10000
def Gu (s:List UInt8) (line:Nat) (l:List Tok):List Tok×Int×Int:=
 match Bm0 (Om (Ed s) line) l.length with
 | some e=>([],e.1,e.2)
 | none=>(l++(Om (Ed s) line).map (·.1),0,0)
theorem Ba7 {s:List UInt8} (h:s.length<=65536):Bg s=Gu s 1 []:=by
 rw[Bg,if_neg (by omega),Gu,List.length_nil];cases Bm0 (Om (Ed s) 1) 0 with
 | some e=>rfl
 | none=>rfl
theorem Cq7 (line:Nat) (l:List Tok):Gu [] line l=(l,0,0):=by
 have e:Om (Ed []) line= []:=rfl;rw[Gu,e];show(l++ [],(0:Int),(0:Int))=_;rw[List.append_nil]
theorem De6 (r:List UInt8) (line:Nat) (l:List Tok):Gu (10::r) line l=Gu r (line+1) l:=by
 have e:Om (Ed (10::r)) line=Om (Ed r) (line+1):=by
  rw[Ed,Bw,if_pos rfl,Om];rfl
 rw[Gu,Gu,e]
theorem Qf (c:UInt8): ∀(s cur:List UInt8),∃h t,Bw c s []=h::t/\Bw c s cur=(cur++h)::t
 | [],cur=>⟨[],[],rfl,by simp [Bw]⟩
 | x::s,cur=>by
  rw[Bw,Bw];split
  ·exact⟨[],_,rfl,by simp⟩
  ·obtain⟨h,t,e1,e2⟩:=Qf c s [x];obtain⟨h',t',e3,e4⟩:=Qf c s (cur++ [x]);rw[e1] at e3;cases e3;exact⟨x::h,t,by rw[List.nil_append,e2];rfl,by rw[e4];simp⟩
theorem On {c:UInt8} (r:List UInt8) (hc:c≠10): ∃h t,Ed r=h::t/\Ed (c::r)=(c::h)::t:=by
 obtain⟨h,t,e1,e2⟩:=Qf 10 r [c];exact⟨h,t,e1,by rw[Ed,Bw,if_neg hc,List.nil_append,e2];rfl⟩
theorem Qg {s h:List UInt8} {t:List (List UInt8)} (e:Ed s=h::t):(10:UInt8)∉h/\((t= []/\s=h)\/(t≠ []/\s=h++10::Rw t))/\ ∀n,n<=h.length->Ed (s.drop n)=h.drop n::t:=by
 have hm: ∀w∈Ed s,(10:UInt8)∉w:=fun w hw=>Qe 10 s [] w (by simp) hw
 have hj:Rw (Ed s)=s:=by rw[Ed,Bl9];rfl
 rw[e] at hm hj
 have h10:=hm h (by simp)
 have hd: ∀n,(10:UInt8)∉h.drop n:=fun n hx=>h10 (List.mem_of_mem_drop hx)
 match t with
 | []=>
  have hs:h=s:=hj
  subst hs
  exact⟨h10, .inl ⟨rfl,rfl⟩,fun n hn=>by rw[Ed,Ac3 10 _ (hd n)];rfl⟩
 | u::t=>
  have hs:h++10::Rw (u::t)=s:=hj
  subst hs
  refine⟨h10, .inr ⟨by simp,rfl⟩,fun n hn=> ?_⟩
  rw[List.drop_append_of_le_length hn,Ed,Ac4 10 _ _ (hd n)]
  have:=Ac6 (u::t) (by simp) fun w hw=>hm w (List.mem_cons_of_mem _ hw)
  rw[Ed] at this
  rw[this];rfl
theorem De7 (r:List UInt8) (line:Nat) (l:List Tok):Gu (32::r) line l=Gu r line l:=by
 obtain⟨h,t,e1,e2⟩:=On (c:=32) r (by decide);have ey:Kx (32::h)=Kx h:=by
  have ht:Fj (32::h)=Fj h:=rfl;rw[Ol (32::h),Ol h,ht]
 have e:Om (Ed (32::r)) line=Om (Ed r) line:=by rw[e1,e2,Om,Om,ey]
 rw[Gu,Gu,e]
theorem Dp5 (s r:List UInt8) (h:s≠ []):Pn (s++10::r)=Pn s:=by
 match s,h with
 | [],h=>exact absurd rfl h
 | [a],_=>
  have:(a,(10:UInt8))∉Un:=by simp [Un]
  simp only[List.cons_append,List.nil_append,Pn,if_neg this]
 | a::b::s,_=>rfl
theorem Cq8 (s r:List UInt8) (h:s≠ []):Ct (s++10::r)=Ct s:=by
 have hw:Cz (s++10::r)=Cz s:=Ba2 s r 10 rfl
 have hs:=Dp5 s r h
 have ht:(s++10::r).take (Pn s)=s.take (Pn s):=List.take_append_of_le_length (Bl8 s)
 match s,h with
 | [],h=>exact absurd rfl h
 | c::s,_=>
  unfold Ct
  rw[List.cons_append] at hw hs ht⊢
  dsimp only
  rw[hw,hs,ht]
theorem Ac7 {c:UInt8} {r:List UInt8} (line:Nat) (l:List Tok) (h10:c≠10) (h32:c≠32) (hcom:Jk (c::r)=false):
  Gu (c::r) line l=if(Ct (c::r)).2=0 then([],(line:Int),20) else if l.length=8192 then([],(line:Int),3)
   else Gu ((c::r).drop (Ct (c::r)).2) line (l++ [{ (Ct (c::r)).1 with line:=(line:Int) }]):=by
 obtain⟨h,t,e1,e2⟩:=On r h10
 obtain⟨_,hp,hdrop⟩:=Qg e2
 have hf:Ct (c::r)=Ct (c::h):=by
  rcases hp with⟨_,hs⟩ | ⟨_,hs⟩
  ·rw[hs]
  ·rw[hs,Cq8 _ _ (by simp)]
 have hc2:Jk (c::h)=false:=by
  rcases hp with⟨_,hs⟩ | ⟨_,hs⟩
  ·rwa [hs] at hcom
  ·cases hi:Jk (c::h) with
   | false=>rfl
   | true=>
    rw[hs] at hcom
    match h with
    | []=>unfold Jk at hi;split at hi<;>simp_all
    | d::h'=>
     by_cases hh:c=45/\d=45
     ·obtain⟨rfl,rfl⟩:=hh
      exact absurd hcom (by simp [Jk])
     ·unfold Jk at hi
      split at hi
      ·rename_i h45;simp at h45;exact absurd ⟨h45.1,h45.2.1⟩ hh
      ·cases hi
 have hle:(Ct (c::h)).2<=(c::h).length:=Uo _
 have hys:=Ba4 h32 hc2
 rw[hf,Gu,e2,Om,hys]
 by_cases h0:(Ct (c::h)).2=0
 ·rw[if_pos h0,if_pos h0,List.map_cons,List.cons_append,Bm0,if_pos rfl]
 ·rw[if_neg h0,if_neg h0,List.map_cons,List.cons_append,Bm0,if_neg (by simp)]
  by_cases h8:l.length=8192
  ·rw[if_pos h8,if_pos h8]
  ·rw[if_neg h8,if_neg h8]
   have hd:=hdrop _ hle
   rw[Gu,hd,Om,List.length_append,List.length_singleton]
   split
   ·rfl
   ·simp
theorem Cq9 (r:List UInt8) (line:Nat) (l:List Tok): ∃h t,Ed (45::45::r)=h::t/\(Jt h=false->Gu (45::45::r) line l=([],(line:Int),20))/\
  (Jt h=true->Gu (45::45::r) line l=Gu ((45::45::r).drop h.length) line l):=by
 obtain⟨h1,t,e1,e2⟩:=On (c:=45) r (by decide);obtain⟨h2,t2,e3,e4⟩:=On (c:=45) (45::r) (by decide);rw[e2] at e3;cases e3;obtain⟨_,_,hdrop⟩:=Qg e4;have hy:Kx (45::45::h1)=if Jt (45::45::h1) then [] else [(Wg,false)]:=by
  have ht:Fj (45::45::h1)=45::45::h1:=rfl;rw[Ol,ht,if_pos (.inr rfl)]
 refine⟨_,t,e4,fun hp=> ?_,fun hp=> ?_⟩
 ·rw[Gu,e4,Om,hy,hp,if_neg (by simp),List.map_cons,List.cons_append,Bm0,if_pos rfl]
 ·have hd:=hdrop _ (Nat.le_refl _);rw[Gu,Gu,hd,e4,Om,Om,hy,hp,List.drop_length];rfl
end Go.Dl
