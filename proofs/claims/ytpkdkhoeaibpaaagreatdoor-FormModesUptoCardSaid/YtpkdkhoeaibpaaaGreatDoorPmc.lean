/- The data level and the contracts of the functions that are reached (part 3). -/
import Derived.RecoverIn
import Derived.Test.YtpkdkhoeaibpaaaGreatDoorPmb
set_option linter.unusedSimpArgs false
set_option linter.unusedVariables false
set_option linter.unusedSectionVars false
-- THE DATA LEVEL, PART Z: an operation hangs on its operands alone.
namespace Go.Dl
open Go
section
variable {P:Program} {G:Nat->DVal}
theorem Kf {dst:Option Nat} {K:DK} {Q:DExit->DS->Prop} {s:DS} (op:Op) (he:Fq op=true) (h:dop P G dst K Q s op):
  ∃d,Af dst d K s/\ ∀Q' K' s',(∀x∈op.operands,dev G s'.env x=dev G s.env x)->Wx G s s' op->Af dst d K' s'->dop P G dst K' Q' s' op:=by
 have lift: ∀ {F:DK->DS->Prop},EVF dst F->F K s->(∀K' s',(∀x∈op.operands,dev G s'.env x=dev G s.env x)-> ∀Q',F K' s'->dop P G dst K' Q' s' op)->
   ∃d,Af dst d K s/\ ∀Q' K' s',(∀x∈op.operands,dev G s'.env x=dev G s.env x)->Wx G s s' op->Af dst d K' s'->dop P G dst K' Q' s' op:=by
  intro F hF hf hT;obtain⟨d,h1,h2⟩:=hF K s hf;exact⟨d,h1,fun Q' K' s' ha _ h'=>hT K' s' ha Q' (h2 K' s' h')⟩
 cases op<;>simp only[Fq] at he<;>try (cases he;done)
 case move x=>exact lift (Bx _ _) h fun K' s' ha Q' h'=>by simp only[dop];rw[ha x (by simp [Op.operands])];exact h'
 case assign x=>exact lift (Bx _ _) h fun K' s' ha Q' h'=>by simp only[dop];rw[ha x (by simp [Op.operands])];exact h'
 case pick c a b=>exact lift (Bc3 _ _ _ _) h fun K' s' ha Q' h'=>by simp only[dop];rw[ha c (by simp [Op.operands]),ha a (by simp [Op.operands]),ha b (by simp [Op.operands])];exact h'
 case build t ps=>
  exact lift (At2 _ _ _ _ _ _) h fun K' s' ha Q' h'=>by
   simp only[dop];rw[Hb (env:=s.env) (fun x hx=>ha x (by simpa [Op.operands] using hx))];exact h'
 case load t a=>
  obtain⟨d,h1,h2⟩:=Bc4 _ _ _ _ K s h;exact⟨d,h1,fun Q' K' s' ha hk h'=>by simp only[dop];rw[ha a (by simp [Op.operands])];exact h2 K' s' (hk a rfl).ptr h'⟩
 case nilCheck x=>exact lift (Wu _ _) h fun K' s' ha Q' h'=>by simp only[dop];rw[ha x (by simp [Op.operands])];exact h'
 case binOp op t x y _=>
  have hn:Bo y=false:=by simpa using he
  simp only[dop,hn,Ef] at h;exact lift (At5 _ _ _ _ _ _ _) h fun K' s' ha Q' h'=>by simp only[dop,hn,Ef];rw[ha x (by simp [Op.operands]),ha y (by simp [Op.operands])];exact h'
 case unOp op t x=>exact lift (Bo0 _ _ _) h fun K' s' ha Q' h'=>by simp only[dop];rw[ha x (by simp [Op.operands])];exact h'
 case convert a t x=>
  obtain⟨d,h1,h2⟩:=Au0 _ _ _ _ _ K s h;exact⟨d,h1,fun Q' K' s' ha hk h'=>by simp only[dop];rw[ha x (by simp [Op.operands])];exact h2 K' s' (hk x rfl) h'⟩
 case makeInterface t x=>exact lift (Ub _ _ _ _) h fun K' s' ha Q' h'=>by simp only[dop];rw[ha x (by simp [Op.operands])];exact h'
 case makeFunc fn fs cs=>
  exact lift (Bx _ _) h fun K' s' ha Q' h'=>by
   simp only[dop];rw[Fb (env:=s.env) (xs:=fs.toList) (fun x hx=>ha x (by simp at hx;simp [Op.operands,hx])),Fb (env:=s.env) (xs:=cs.toList) (fun x hx=>ha x (by simp at hx;simp [Op.operands,hx]))];exact h'
 case slice t x lo hi mx=>
  obtain⟨d,h1,h2⟩:=At6 _ _ _ _ _ _ _ K s h;exact⟨d,h1,fun Q' K' s' ha hk h'=>by
   simp only[dop];rw[ha x (by simp [Op.operands]),Hc (x:=lo) (env:=s.env) (fun y hy=>ha y (by simp at hy;simp [Op.operands,hy])),Hc (x:=hi) (env:=s.env) (fun y hy=>ha y (by simp at hy;simp [Op.operands,hy])),Hc (x:=mx) (env:=s.env) (fun y hy=>ha y (by simp at hy;simp [Op.operands,hy]))];exact h2 K' s' (hk x rfl).ptr h'⟩
 case fieldAddr t x f=>exact lift (Uc _ _ _ _ _) h fun K' s' ha Q' h'=>by simp only[dop];rw[ha x (by simp [Op.operands])];exact h'
 case field t x f=>exact lift (At7 _ _ _ _ _) h fun K' s' ha Q' h'=>by simp only[dop];rw[ha x (by simp [Op.operands])];exact h'
 case indexAddr t x i=>exact lift (Ud _ _ _ _ _) h fun K' s' ha Q' h'=>by simp only[dop];rw[ha x (by simp [Op.operands]),ha i (by simp [Op.operands])];exact h'
 case index t x i=>exact lift (At8 _ _ _ _ _) h fun K' s' ha Q' h'=>by simp only[dop];rw[ha x (by simp [Op.operands]),ha i (by simp [Op.operands])];exact h'
 case typeAssert x t u ok=>exact lift (Rh _ _ _ _ _ _) h fun K' s' ha Q' h'=>by simp only[dop];rw[ha x (by simp [Op.operands])];exact h'
 case extract x i=>exact lift (Ab0 _ _ _) h fun K' s' ha Q' h'=>by simp only[dop];rw[ha x (by simp [Op.operands])];exact h'
 case call c=>
  have hargs: ∀s':DS,(∀x∈(Op.call c).operands,dev G s'.env x=dev G s.env x)->Az G s'.env c.args.toList=Az G s.env c.args.toList:=by
   intro s' ha;exact Fb fun x hx=>ha x (by simp at hx;simp [Op.operands,Call.operands,hx])
  simp only[dop] at h⊢
  cases hc:c.callee with
  | value f=>rw[hc] at he;cases he
  | invoke r m=>rw[hc] at he;cases he
  | builtin b=>
   rw[hc] at h he;simp only[Fk] at h⊢
   cases b<;>simp only at he<;>try (cases he;done)
   case len=>
    cases hx:Az G s.env c.args.toList with
    | nil=>rw[hx] at h;exact h.elim
    | cons x xs=>
     cases xs with
     | cons y ys=>rw[hx] at h;exact h.elim
     | nil=>
      rw[hx] at h;obtain⟨d,h1,h2⟩:=At9 P x dst c.argTypes.toList K s h;exact⟨d,h1,fun Q' K' s' ha _ h'=>by rw[hargs s' ha,hx];exact h2 K' s' h'⟩
   case min=>
    obtain⟨d,h1,h2⟩:=Cm dst (Cn false (Az G s.env c.args.toList)) K s h;exact⟨d,h1,fun Q' K' s' ha _ h'=>by rw[hargs s' ha];exact h2 K' s' h'⟩
   case max=>
    obtain⟨d,h1,h2⟩:=Cm dst (Cn true (Az G s.env c.args.toList)) K s h;exact⟨d,h1,fun Q' K' s' ha _ h'=>by rw[hargs s' ha];exact h2 K' s' h'⟩
theorem An8 {dst:Option Nat} {K K':DK} {Q Q':DExit->DS->Prop} {s s':DS} (op:Op) (ha: ∀x∈op.operands,dev G s'.env x=dev G s.env x) (hh:s'.heap=s.heap)
  (hK: ∀d h,K ⟨Bm s.env dst d,h⟩->K' ⟨Bm s'.env dst d,h⟩) (hQ: ∀v h,Q (.panic v) ⟨s.env,h⟩->Q' (.panic v) ⟨s'.env,h⟩)
  (h:dop P G dst K Q s op):dop P G dst K' Q' s' op:=by
 by_cases he:Fq op=true
 ·obtain⟨d,h1,h2⟩:=Kf op he h;refine h2 Q' K' s' ha (fun a _=>by rw[hh];exact Fs) ?_;show K' ⟨Bm s'.env dst d,s'.heap⟩;rw[hh];exact hK _ _ h1
 ·have newP: ∀ {cs e},Ok cs e dst K s->Ok cs e dst K' s':=fun hn r hr=>by
   rw[hh] at hr⊢;exact hK _ _ (hn r hr)
  have newS: ∀ {cs e sz l c},Nb cs e sz l c dst K s->Nb cs e sz l c dst K' s':=fun hn r hr=>by
   rw[hh] at hr⊢;exact hK _ _ (hn r hr)
  have panic: ∀ {x},Ie Q s x->Ie Q' s' x:=by
   intro x hx;unfold Ie at hx⊢
   split at hx<;>try exact hx.elim
   have:=hQ _ _ hx;rw[<-hh] at this;exact this
  cases op<;>(try exact(he rfl).elim)<;>(try exact h.elim)
  case binOp op t x y t'=>
   have hn:Bo y=true:=by
    simp only[Fq] at he;cases hy:Bo y with
    | true=>rfl
    | false=>rw[hy] at he;exact absurd rfl he
   simp only[dop] at h⊢
   rw[ha x (by simp [Op.operands]),ha y (by simp [Op.operands])];rw[hn] at h⊢
   generalize dev G s.env x=dx at h⊢
   generalize dev G s.env y=dy at h⊢
   have put: ∀d,Af dst d K s->Af dst d K' s':=fun d h=>by unfold Af at*;rw[hh];exact hK _ _ h
   have rest:Dc P t (Ax x || Ax y) op dst dx dy K s->Dc P t (Ax x || Ax y) op dst dx dy K' s':=fun h=>by
    obtain⟨d,h1,h2⟩:=At5 _ _ _ _ _ _ _ K s h;exact h2 K' s' (put d h1)
   cases dx<;>first | exact rest h | skip
   simp only[Jl] at h⊢
   refine⟨h.1,fun b hb=> ?_⟩;obtain⟨d,h1,h2⟩:=Aa8 _ _ _ K s (h.2 b hb);exact h2 K' s' (put d h1)
  case range t x=>
   simp only[dop] at h⊢
   rw[ha x (by simp [Op.operands])];generalize P.underlying t=u at h⊢
   generalize dev G s.env x=dx at h⊢
   unfold Oo at h⊢
   split at h<;>try exact h.elim
   exact fun r hr=>by rw[hh] at hr⊢;exact hK _ _ (h r hr)
  case next x b=>
   simp only[dop] at h⊢
   rw[ha x (by simp [Op.operands])];generalize dev G s.env x=dx at h⊢
   unfold Rr at h⊢
   split at h<;>try exact h.elim
   rw[hh];unfold Sx at h⊢
   split at h<;>try exact h.elim
   refine⟨fun hp=>by rw[hh];exact hK _ _ (h.1 hp),fun hp=> ?_⟩;have:=h.2 hp;unfold Af at*;rw[hh];exact hK _ _ this
  case makeMap t r=>
   simp only[dop] at h⊢
   rw[Hc (x:=r) (env:=s.env) (fun y hy=>ha y (by simp at hy;simp [Op.operands,hy]))];generalize P.underlying t=u at h⊢
   generalize Ee G s.env r=v at h⊢
   unfold Gf at h⊢
   split at h<;>try exact h.elim
   all_goals exact fun r hr=>by rw[hh] at hr⊢;exact hK _ _ (h r hr)
  case lookup t x k ok=>
   simp only[dop] at h⊢
   rw[ha x (by simp [Op.operands]),ha k (by simp [Op.operands])];generalize P.underlying t=u at h⊢
   generalize dev G s.env x=dx at h⊢
   generalize dev G s.env k=dk at h⊢
   have put: ∀d,Af dst d K s->Af dst d K' s':=fun d h=>by unfold Af at*;rw[hh];exact hK _ _ h
   have hF: ∀es z r,Jy es ok dst z r K s->Jy es ok dst z r K' s':=fun es z r h=>by
    unfold Jy at h⊢
    split at h<;>try exact h.elim
    ·obtain⟨p,h1,h2⟩:=h;exact⟨p,h1,put _ h2⟩
    ·exact put _ h
   unfold Kv at h⊢
   split at h<;>try exact h.elim
   ·refine⟨h.1, ?_⟩;have h2:=h.2;rw[hh];generalize s.heap _=ob at h2⊢
    unfold Yx at h2⊢
    split at h2<;>try exact h2.elim
    exact hF _ _ _ h2
   ·exact⟨h.1,hF _ _ _ h.2⟩
  case mapUpdate t m k x=>
   simp only[dop] at h⊢
   rw[ha m (by simp [Op.operands]),ha k (by simp [Op.operands]),ha x (by simp [Op.operands])];generalize P.underlying t=u at h⊢
   generalize dev G s.env m=dm at h⊢
   generalize dev G s.env k=dk at h⊢
   generalize dev G s.env x=dx at h⊢
   unfold Fj at h⊢
   split at h<;>try exact h.elim
   obtain⟨h1,h2,h3⟩:=h;refine⟨h1,h2, ?_⟩;rw[hh];generalize s.heap _=ob at h3⊢
   unfold Ku at h3⊢
   split at h3<;>try exact h3.elim
   refine⟨h3.1, ?_⟩;have h4:=h3.2;unfold Kt at h4⊢
   split at h4<;>try exact h4.elim
   subst h1;rw[hh];exact hK Aw _ h4
  case insert t m k x=>
   simp only[dop] at h⊢
   rw[ha m (by simp [Op.operands]),ha k (by simp [Op.operands]),ha x (by simp [Op.operands])];generalize P.underlying t=u at h⊢
   generalize dev G s.env m=dm at h⊢
   generalize dev G s.env k=dk at h⊢
   generalize dev G s.env x=dx at h⊢
   unfold Fj at h⊢
   split at h<;>try exact h.elim
   obtain⟨h1,h2,h3⟩:=h;refine⟨h1,h2, ?_⟩;rw[hh];generalize s.heap _=ob at h3⊢
   unfold Ku at h3⊢
   split at h3<;>try exact h3.elim
   refine⟨h3.1, ?_⟩;have h4:=h3.2;unfold Kt at h4⊢
   split at h4<;>try exact h4.elim
   subst h1;rw[hh];exact hK Aw _ h4
  case alloc e=>
   simp only[dop] at h⊢
   generalize Ah P e=z at h⊢
   cases z with
   | none=>exact h.elim
   | some z=>exact newP h
  case box e x=>simp only[dop] at h⊢;rw[ha x (by simp [Op.operands])];exact newP h
  case buildSlice t n ps=>
   simp only[dop] at h⊢
   rw[Hb (env:=s.env) (fun x hx=>ha x (by simpa [Op.operands] using hx))];generalize Ce G s.env ps.toList=qs at h⊢
   generalize P.underlying t=u at h⊢
   unfold Cs at h⊢
   split at h<;>try exact h.elim
   show Gr _ _ _ _ _ _ _ _;generalize Ah P _=z at h⊢
   cases z with
   | none=>exact h.elim
   | some z=>
    obtain⟨h1,h2,h3⟩:=h;refine⟨h1,h2, ?_⟩;generalize Dd _ _ _=f at h3⊢
    cases f with
    | none=>exact h3.elim
    | some f=>exact newS h3
  case store t a x=>
   simp only[dop] at h⊢
   obtain⟨h1,h2⟩:=h;refine⟨h1, ?_⟩;rw[ha a (by simp [Op.operands]),ha x (by simp [Op.operands])];generalize dev G s.env a=va at h2⊢
   generalize dev G s.env x=vx at h2⊢
   unfold Ma at h2⊢
   split at h2<;>try exact h2.elim
   rename_i hx0 hx1 hx2 hx3
   rw[hh];generalize s.heap _=ob at h2⊢
   unfold Sw at h2⊢
   split at h2<;>try exact h2.elim
   obtain⟨g1,g2,g3,g4⟩:=h2;refine⟨g1,g2,g3, ?_⟩;rw[hh];exact hK Aw _ g4
  case makeSlice t l c=>
   simp only[dop] at h⊢
   rw[ha l (by simp [Op.operands]),ha c (by simp [Op.operands])];generalize dev G s.env l=vl at h⊢
   generalize dev G s.env c=vc at h⊢
   generalize P.underlying t=u at h⊢
   unfold Dn at h⊢
   split at h<;>try exact h.elim
   show Ia _ _ _ _ _ _ _ _ _;generalize Ah P _=z at h⊢
   cases z with
   | none=>exact h.elim
   | some z=>
    obtain⟨h1,h2,h3,h4,h5,h6,h7⟩:=h;exact⟨h1,h2,h3,h4,h5,h6,newS h7⟩
  case panic x=>simp only[dop] at h⊢;rw[ha x (by simp [Op.operands])];exact panic h
  case call c=>
   have hargs:Az G s'.env c.args.toList=Az G s.env c.args.toList:=
    Fb fun x hx=>ha x (by simp at hx;simp [Op.operands,Call.operands,hx])
   simp only[dop] at h⊢
   cases hc:c.callee with
   | invoke r m=>rw[hc] at h;exact h.elim
   | value f=>
    rw[hc] at h;simp only[Fk] at h⊢
    rw[hargs,ha f (by simp [Op.operands,Call.operands,hc])];generalize dev G s.env f=vf at h⊢
    unfold Mc at h⊢
    split at h<;>try exact h.elim
    all_goals
     rw[hh];refine h.mono ?_;intro e H' hr;cases e with
     | ret v=>exact hK _ _ hr
     | panic v=>exact hQ _ _ hr
   | builtin b=>
    rw[hc] at h;simp only[Fk] at h⊢
    rw[hargs];generalize Az G s.env c.args.toList=vs at h⊢
    cases b<;>(try (cases vs<;>exact h.elim))<;>(try (exfalso;refine he ?_;simp [Fq,hc];done))
    case cap=>
     cases vs with
     | nil=>exact h.elim
     | cons x vs=> ?_
     cases vs with
     | cons z vs=>exact h.elim
     | nil=> ?_
     simp only[Cd] at h⊢
     generalize c.argTypes.toList=ts at h⊢
     unfold Aq8 at h⊢
     split at h<;>try exact h.elim
     show Aq7 _ _ _ _ _;generalize P.underlying _=u at h⊢
     unfold Aq7 at h⊢
     split at h<;>try exact h.elim
     ·show K' ⟨_,s'.heap⟩;rw[hh];exact hK _ _ h
     ·intro c hc;show K' ⟨_,s'.heap⟩;rw[hh];exact hK _ _ (h c hc)
     ·intro c hc hc';show K' ⟨_,s'.heap⟩;rw[hh];exact hK _ _ (h c hc hc')
    case clear=>
     cases vs with
     | nil=>exact h.elim
     | cons x vs=> ?_
     cases vs with
     | cons z vs=>exact h.elim
     | nil=> ?_
     simp only[Cd] at h⊢
     generalize c.argTypes.toList=ts at h⊢
     unfold Vs at h⊢
     split at h<;>try exact h.elim
     show Ov _ _ _ _ _ _;generalize P.underlying _=u at h⊢
     unfold Ov at h⊢
     split at h<;>try exact h.elim
     generalize Ah _ _=zo at h⊢
     unfold Ta at h⊢
     split at h<;>try exact h.elim
     ·show K' ⟨_,s'.heap⟩;rw[hh];exact hK _ _ h
     ·refine⟨h.1,h.2.1, ?_⟩;have h2:=h.2.2;rw[hh];generalize s.heap _=ob at h2⊢
      unfold Ae4 at h2⊢
      split at h2<;>try exact h2.elim
      refine⟨h2.1,h2.2.1,h2.2.2.1, ?_⟩;rw[hh];exact hK _ _ h2.2.2.2
    case delete=>
     cases vs with
     | nil=>exact h.elim
     | cons x vs=> ?_
     cases vs with
     | nil=>exact h.elim
     | cons y vs=> ?_
     cases vs with
     | cons z vs=>exact h.elim
     | nil=> ?_
     simp only[Cd] at h⊢
     generalize c.argTypes.toList=ts at h⊢
     unfold Rt at h⊢
     split at h<;>try exact h.elim
     show Kw _ _ _ _ _ _ _;generalize P.underlying _=u at h⊢
     unfold Kw at h⊢
     split at h<;>try exact h.elim
     refine⟨h.1, ?_⟩;have h2:=h.2;rw[hh];generalize s.heap _=ob at h2⊢
     unfold Ox at h2⊢
     split at h2<;>try exact h2.elim
     unfold Ow at h2⊢
     split at h2<;>try exact h2.elim
     rw[hh];exact hK _ _ h2
    case append=>
     cases vs with
     | nil=>exact h.elim
     | cons x vs=> ?_
     cases vs with
     | nil=>exact h.elim
     | cons y vs=> ?_
     cases vs with
     | cons z vs=>exact h.elim
     | nil=> ?_
     simp only[Cd] at h⊢
     generalize c.argTypes.toList=ts at h⊢
     unfold Ge at h⊢
     split at h<;>try exact h.elim
     show Ic _ _ _ _ _ _ _ _ _;generalize Df _=it at h⊢
     cases it with
     | true=>
      simp only[Ic] at h⊢
      generalize P.underlying _=u at h⊢
      unfold Ks at h⊢
      split at h<;>try exact h.elim
      generalize Ah _ _=zo at h⊢
      unfold Ou at h⊢
      split at h<;>try exact h.elim
      refine⟨h.1,h.2.1,fun hn=> ?_,fun hn=>⟨(h.2.2.2 hn).1,(h.2.2.2 hn).2.1,(h.2.2.2 hn).2.2.1,newS (h.2.2.2 hn).2.2.2⟩⟩;have:=h.2.2.1 hn;show K' ⟨_,s'.heap⟩;rw[hh];exact hK _ _ this
     | false=> ?_
     simp only[Ic] at h⊢
     generalize Jx _=u' at h⊢
     generalize P.underlying _=u at h⊢
     unfold Kr at h⊢
     split at h<;>try exact h.elim
     obtain⟨g1,g2,g3,g4,g5,g6⟩:=h;refine⟨g1,g2,g3,g4,g5, ?_⟩;rw[hh];generalize Ey _ _ _=sc at g6⊢
     unfold Ot at g6⊢
     split at g6<;>try exact g6.elim
     obtain⟨k1,k2,k3⟩:=g6;refine⟨k1,k2, ?_⟩;unfold Gd at k3⊢
     split at k3<;>try exact k3.elim
     ·refine⟨fun hn=> ?_,fun hn=>⟨(k3.2 hn).1,newS (k3.2 hn).2⟩⟩;have:=k3.1 hn;show K' ⟨_,s'.heap⟩;rw[hh];exact hK _ _ this
     ·refine⟨k3.1, ?_⟩;have k4:=k3.2;rw[hh];generalize s.heap _=ob at k4⊢
      unfold Kq at k4⊢
      split at k4<;>try exact k4.elim
      obtain⟨m1,m2,m3⟩:=k4;refine⟨m1,fun hl=>⟨(m2 hl).1, ?_⟩,fun hl=>⟨(m3 hl).1,(m3 hl).2.1,fun r' pre hr hp=> ?_⟩⟩
      ·rw[hh];exact hK _ _ (m2 hl).2
      ·rw[hh] at hr⊢;exact hK _ _ ((m3 hl).2.2 r' pre hr hp)
    case panic=>
     cases vs with
     | nil=>exact h.elim
     | cons x xs=>cases xs with
      | nil=>exact panic h
      | cons y ys=>exact h.elim
end
end Go.Dl

-- THE DATA LEVEL, PART 1: plans of regions whose order is drawn.
namespace Go.Dl
open Go
inductive Plan where
 | done
 | take (i:Nat) (p:Plan)
 | go (i:Nat) (ls:List Nat) (p:Plan)
 | alt (p q:Plan)
 deriving Inhabited
def As:List Oper->Nat->Option Oper
 | [],_=>none
 | o::_,0=>some o
 | _::r,n+1=>As r n
def Le (P:Program) (G:Nat->DVal) (K:DK) (Q:DExit->DS->Prop) (dst:Option Nat) (op:Op) (s:DS):Bool->DVal->Prop
 | true, .bool true=>dop P G dst K Q s op
 | true, .bool false=>Af dst Aw K s
 | false, .bool true=>Af dst Aw K s
 | false, .bool false=>dop P G dst K Q s op
 | true, .tuple []=>Af dst Aw K s
 | false, .tuple []=>Af dst Aw K s
 | _,_=>False
def Gk (P:Program) (G:Nat->DVal) (K:DK) (Q:DExit->DS->Prop) (dst:Option Nat) (op:Op) (s:DS) (b:Bool):Option Nat->Prop
 | some g=>Le P G K Q dst op s b (s.env g)
 | none=>False
def An9 (P:Program) (G:Nat->DVal) (all:List Oper) (K:DK) (Q:DExit->DS->Prop) (s:DS) (dst:Option Nat) (op:Op):Option (Nat×Bool)->Prop
 | none=>dop P G dst K Q s op
 | some (j,b)=>Gk P G K Q dst op s b (Fl all j)
def dAt (P:Program) (G:Nat->DVal) (all:List Oper) (K:DK) (Q:DExit->DS->Prop) (s:DS):Option Oper->Prop
 | some o=>An9 P G all K Q s o.dst o.op o.guard
 | none=>False
def Au1 (G:Nat->DVal) (s:DS) (H':Aa):Option Operand->Prop
 | some a=>Cf s.heap H' (dev G s.env a)
 | none=>True
def Hd:Option Oper->Option Operand
 | some o=>Ue o.op
 | none=>none
def Af4 (G:Nat->DVal) (all:List Oper) (s:DS) (H':Aa):List Nat->Prop
 | []=>True
 | l::ls=>Au1 G s H' (Hd (As all l))/\Af4 G all s H' ls
def Af5 (G:Nat->DVal) (all:List Oper) (ls:List Nat) (s:DS) (K:DK):DK:=fun s'=>Af4 G all s s'.heap ls/\K s'
def Cz (P:Program) (G:Nat->DVal) (all:List Oper) (Q:DExit->DS->Prop):Plan->DS->Prop
 | .done,s=>Q .normal s
 | .take i p,s=>dAt P G all (Cz P G all Q p) Q s (As all i)
 | .go i ls p,s=>dAt P G all (Af5 G all ls s (Cz P G all Q p)) Q s (As all i)
 | .alt p q,s=>Cz P G all Q p s/\Cz P G all Q q s
def QP (Q:DExit->DS->Prop):DExit->DS->Prop
 | .panic v,s=> ∀env,Q (.panic v) ⟨env,s.heap⟩
 | .normal,s=>Q .normal s
 | _,_=>False
def Fh (all:List Oper) (k j:Nat):Bool:=
 match As all k with
 | some o=>o.after.any fun e=>Region.binds .any e&&e.on==j
 | none=>false
def Pp (all:List Oper) (j k:Nat):Bool:=
 match As all j,As all k with
 | some x,some y=>x.apart all.toArray y
 | _,_=>true
def Ab1 (all:List Oper) (i:Nat):Bool:=
 match As all i with
 | some o=>Fq o.op
 | none=>false
def Mn (all:List Oper) (k:Nat) (T:List Nat):Bool:=
 match As all k with
 | some o=>o.after.all fun e=>!Region.binds .any e || T.contains e.on
 | none=>false
def Da (all:List Oper) (j:Nat):Option Nat:=(As all j).bind (·.dst)
def Fc:Plan->List Nat
 | .go i _ _=> [i]
 | .alt p q=>Fc p++Fc q
 | _=> []
def Pq (all:List Oper) (T:List Nat):Plan->Bool
 | .done=>true
 | .take _ _=>true
 | p=>(List.range all.length).all fun k=>T.contains k || (Fc p).contains k || !Mn all k T
def Wz (all:List Oper) (T:List Nat) (l:Nat):Operand->Bool
 | .tmp t=>T.all fun m=>Da all m !=some t || Fh all l m
 | _=>true
def Au2 (all:List Oper) (k:Nat):List Nat:=
 match As all k with
 | some o=>(o.after.toList.filter fun e=>Region.binds .any e).map (·.on)
 | none=> []
def Ob (all:List Oper):Nat->List Nat->List Nat
 | 0,S=>S
 | k+1,S=>Ob all k (if S.contains k then Au2 all k++S else S)
def Bt9 (all:List Oper) (i:Nat):List Nat:=Ob all (i+1) [i]
def Af6 (all:List Oper) (T:List Nat) (i:Nat) (ls:List Nat):Bool:=
 T.all fun l=>match Hd (As all l) with
  | none=>true
  | some a=>Fh all i l || (l !=i&&(Bt9 all i).contains l) || (ls.contains l&&Wz all T l a)
def Bu (all:List Oper):Plan->List Nat->Bool
 | .done,T=>(List.range all.length).all fun k=>T.contains k
 | .take i p,T=>decide (i<all.length)&&!T.contains i&&Ab1 all i&&Mn all i T&&
   ((List.range all.length).all fun k=>T.contains k || k==i || Fh all k i || Pp all i k)&&Pq all (i::T) p&&Bu all p (i::T)
 | .go i ls p,T=>decide (i<all.length)&&!T.contains i&&Mn all i T&&Af6 all T i ls&&Pq all (i::T) p&&Bu all p (i::T)
 | .alt p q,T=>Bu all p T&&Bu all q T
section
variable {P:Program} {G:Nat->DVal} {N:Nat} {all:List Oper} {Q:DExit->DS->Prop} {s0:DS} {w0:World}
theorem Eu: ∀(all:List Oper) (j:Nat),As all j=all[j]?
 | [],j=>by simp [As]
 | o::r,0=>by simp [As]
 | o::r,j+1=>by simp [As,Eu r j]
theorem Pr {o:Oper} {K:DK} {s:DS}:dAt P G all K Q s (some o)↔
  (Ft all s.env o=some true/\dop P G o.dst K Q s o.op)\/(Ft all s.env o=some false/\Af o.dst Aw K s):=by
 simp only[dAt];unfold An9 Ft;cases o.guard with
 | none=>simp
 | some jb=>
  obtain⟨j,b⟩:=jb;simp only;cases Fl all j with
  | none=>simp [Gk]
  | some g=>
   simp only[Gk];cases hv:s.env g<;>(try (cases b<;>simp [Le];done))
   case bool v=>cases b<;>cases v<;>simp [Le]
   case tuple vs=>cases vs<;>cases b<;>simp [Le]
def Bc6 (P:Program) (G:Nat->DVal) (all:List Oper) (j:Nat) (s:DS) (d:DVal):Prop:=
 ∃o,As all j=some o/\Fq o.op=true/\
  ((Ft all s.env o=some true/\ ∀K Q,Af o.dst d K s->dop P G o.dst K Q s o.op)\/(Ft all s.env o=some false/\d=Aw))
def Seq (P:Program) (G:Nat->DVal) (all:List Oper):DS->List Nat->DS->Prop
 | s,[],s'=>s'=s
 | s,j::js,s'=> ∃d,Bc6 P G all j s d/\Seq P G all ⟨Bm s.env (Da all j) d,s.heap⟩ js s'
def looks (all:List Oper) (j:Nat):List Nat:=
 match As all j with
 | some o=>o.looksAt all.toArray
 | none=> []
theorem Rz {o:Oper} {env env':Nat->DVal} (h: ∀t∈o.looksAt all.toArray,env' t=env t): ∀x∈o.op.operands,dev G env' x=dev G env x:=by
 intro x hx;cases x with
 | tmp t=>
  refine h t ?_;unfold Oper.looksAt;refine List.mem_append_left _ (List.mem_filterMap.2 ⟨.tmp t,by simpa using hx,rfl⟩)
 | _=>rfl
theorem Lf {o:Oper} {env env':Nat->DVal} (h: ∀t∈o.looksAt all.toArray,env' t=env t):Ft all env' o=Ft all env o:=by
 unfold Ft;cases hg:o.guard with
 | none=>rfl
 | some jb=>
  obtain⟨j,b⟩:=jb;simp only;cases hj:Fl all j with
  | none=>rfl
  | some g=>
   simp only;rw[h g];unfold Oper.looksAt;refine List.mem_append_right _ ?_;rw[hg];rw[Ld] at hj;simp [hj]
theorem Bc6.agree {j:Nat} {s s':DS} {d:DVal} (h:Bc6 P G all j s d) (ha: ∀t∈looks all j,s'.env t=s.env t)
  (hk: ∀o a,As all j=some o->Ue o.op=some a->Cf s.heap s'.heap (dev G s.env a)):Bc6 P G all j s' d:=by
 obtain⟨o,ho,he,h⟩:=h;have ha': ∀t∈o.looksAt all.toArray,s'.env t=s.env t:=by
  intro t ht;exact ha t (by unfold looks;rw[ho];exact ht)
 refine⟨o,ho,he, ?_⟩;rw[Lf ha'];rcases h with⟨hw,h⟩ | h
 ·refine .inl ⟨hw,fun K' Q' hp=> ?_⟩;have h1:=h (fun s1=>s1=⟨Bm s.env o.dst d,s.heap⟩) Q' rfl;obtain⟨d',hd',hall⟩:=Kf o.op he h1;refine hall Q' K' s' (Rz (all:=all) ha') ?_ ?_
  ·exact fun a hl=>hk o a ho hl
  ·unfold Af at hd' hp⊢
   have he:Bm s.env o.dst d'=Bm s.env o.dst d:=congrArg DS.env hd';have:Bm s'.env o.dst d'=Bm s'.env o.dst d:=by
    cases hdst:o.dst with
    | none=>rfl
    | some t=>
     rw[hdst] at he;have h2:=congrFun he t;simp [Bm,upd] at h2;rw[h2]
   rw[this];exact hp
 ·exact .inr h
theorem Lg {env:Nat->DVal} {dst:Option Nat} {d:DVal} {t:Nat} (h:dst≠some t):Bm env dst d t=env t:=by
 cases dst with
 | none=>rfl
 | some k=>simp only[Bm,upd];rw[if_neg];intro e;exact h (by rw[e])
theorem Sa {env:Nat->DVal} {x y:Option Nat} {d e:DVal} (h: ∀t,x=some t->y≠some t):Bm (Bm env x d) y e=Bm (Bm env y e) x d:=by
 cases x with
 | none=>rfl
 | some i=>
  cases y with
  | none=>rfl
  | some k=>
   have hne:k≠i:=fun hh=>h i rfl (by rw[hh]);funext t;simp only[Bm,upd];by_cases h1:t=k
   ·subst h1;rw[if_pos rfl,if_neg hne,if_pos rfl]
   ·rw[if_neg h1];by_cases h2:t=i
    ·rw[if_pos h2,if_pos h2]
    ·rw[if_neg h2,if_neg h2,if_neg h1]
structure Apart (all:List Oper) (j k:Nat):Prop where
 a: ∀t,Da all j=some t->t∉looks all k
 b: ∀t,Da all j=some t->Da all k≠some t
 c: ∀t,Da all k=some t->t∉looks all j
theorem Nk {j k:Nat} {x y:Oper} (hx:As all j=some x) (hy:As all k=some y) (h:Pp all j k=true):Apart all j k:=by
 unfold Pp at h;rw[hx,hy] at h;obtain⟨h1,h2,h3⟩:=Oper.apart_spec h;refine⟨?_, ?_, ?_⟩<;>simp only[Da,looks,hx,hy,Option.bind_some]<;>assumption
theorem Seq.front: ∀ {A:List Nat} {k:Nat} {B:List Nat} {s s':DS},(∀j∈A,Apart all j k)->Seq P G all s (A++k::B) s'->Seq P G all s (k::(A++B)) s'
 | [],k,B,s,s',_,h=>h
 | j::A,k,B,s,s',hA,h=>by
  obtain⟨d,hd,h⟩:=h;obtain⟨dk,hk,h⟩:=Seq.front (fun i hi=>hA i (by simp [hi])) h;have ap:=hA j (by simp);refine⟨dk,hk.agree (fun t ht=>(Lg (fun e=>ap.a t e ht)).symm) (fun _ _ _ _=>Fs),d,hd.agree (fun t ht=>Lg (fun e=>ap.c t e ht)) (fun _ _ _ _=>Fs), ?_⟩;show Seq P G all ⟨Bm (Bm s.env _ dk) _ d,s.heap⟩ (A++B) s';rw[Sa (fun t h1 h2=>ap.b t h2 h1)];exact h
theorem Seq.heap: ∀ {js:List Nat} {s s':DS},Seq P G all s js s'->s'.heap=s.heap
 | [],s,s',h=>by cases h;rfl
 | j::js,s,s',⟨d,_,h⟩=>by have:=Seq.heap h;exact this
theorem Seq.env: ∀ {js:List Nat} {s s':DS},Seq P G all s js s'-> ∀t,(∀j∈js,Da all j≠some t)->s'.env t=s.env t
 | [],s,s',h,t,_=>by cases h;rfl
 | j::js,s,s',⟨d,_,h⟩,t,ht=>by
  rw[Seq.env h t fun i hi=>ht i (by simp [hi])];exact Lg (ht j (by simp))
theorem Seq.shift {k:Option Nat} {v:DVal} {h:Aa}: ∀ {js:List Nat} {s s':DS},Seq P G all s js s'->
  (∀j∈js,∀t,k=some t->t∉looks all j)->(∀j∈js,∀t,Da all j=some t->k≠some t)->
  (∀A j B,js=A++j::B-> ∀o a,As all j=some o->Ue o.op=some a->(∀t,a= .tmp t-> ∀m∈j::B,Da all m≠some t)/\Cf s.heap h (dev G s'.env a))->
  Seq P G all ⟨Bm s.env k v,h⟩ js ⟨Bm s'.env k v,h⟩
 | [],s,s',hs,_,_,_=>by cases hs;rfl
 | j::js,s,s',⟨d,hd,hs⟩,h1,h2,h3=>by
  refine⟨d,hd.agree (fun t ht=>Lg fun e=>h1 j (by simp) t e ht) (fun o a ho ha=> ?_), ?_⟩
  ·obtain⟨g1,g2⟩:=h3 [] j js rfl o a ho ha;have:dev G s'.env a=dev G s.env a:=by
    cases a with
    | tmp t=>
     have:=Seq.env hs t fun i hi=>g1 t rfl i (by simp [hi]);simp only[dev];rw[this];exact Lg (g1 t rfl j (by simp))
    | _=>rfl
   rw[<-this];exact g2
  ·have hs':=Seq.shift (k:=k) (v:=v) (h:=h) hs (fun i hi=>h1 i (by simp [hi])) (fun i hi=>h2 i (by simp [hi])) (fun A i B e=>h3 (j::A) i B (by rw[e];rfl));show Seq P G all ⟨Bm (Bm s.env k v) (Da all j) d,h⟩ js _;rw[Sa fun t e1 e2=>h2 j (by simp) t e2 e1];exact hs'
end
end Go.Dl

-- THE DATA LEVEL, PART 2: what a plan ends with, every order that is drawn ends with.
namespace Go.Dl
open Go
section
variable {P:Program} {G:Nat->DVal} {N:Fr} {all:List Oper} {Q:DExit->DS->Prop} {s0:DS} {w0:World}
theorem Ps {F:Fence} {n:Nat} (hF:FOk F) {k:Nat} {o:Oper} {c:DS} {a:Act} {w:World} {K:DK} (hall:all.all (Cb N)=true) (hk:As all k=some o) (hS:Sim G N c a w) (hE:Ext s0.heap w0 c.heap w)
  (h:dAt P G all K Q c (some o)):wpOpIn F n P all.toArray (Ek G N Q s0 w0) k (Bn G N K c w) a w:=by
 have hko:all.toArray[k]? =some o:=by rw[Eu] at hk;simpa using hk
 have hok:Cb N o=true:=by
  rw[Eu] at hk;exact List.all_eq_true.1 hall o (List.mem_of_getElem? hk)
 unfold wpOpIn;simp only[hko];have skip:Af o.dst Aw K c->Bn G N K c w (a.put o.dst undef) w:=fun hp=>
  ⟨⟨Bm c.env o.dst Aw,c.heap⟩,hp,hS.put (Dq hok) (Gv w c.heap),Ext.refl _ _⟩
 simp only[dAt] at h;unfold An9 at h;cases hg:o.guard with
 | none=>
  rw[hg] at h;rw[if_pos (by simp [Region.wanted,hg])];exact Fp hF hok hS hE h
 | some jb=>
  obtain⟨j,b⟩:=jb;rw[hg] at h;simp only at h;cases hj:Fl all j with
  | none=>rw[hj] at h;exact h.elim
  | some g=>
   rw[hj] at h;simp only[Gk] at h;have hjo:(all[j]?).bind (·.dst)=some g:=by rw[<-Ld];exact hj
   obtain⟨oj,hoj,hdj⟩:=Option.bind_eq_some_iff.1 hjo;have hmem:oj∈all:=List.mem_of_getElem? hoj;have hgN:g<N:=by
    have:=List.all_eq_true.1 hall oj hmem;have:=Dq this;rw[hdj] at this;simpa [Al] using this
   have hrel:=hS.tmps g hgN;have hy: ∀v,c.env g= .bool v->yielded all.toArray a.tmps j=some v:=by
    intro v hv;rw[hv] at hrel;simp only[Rel] at hrel;have h1:a.tmps[g]? =some (.bool v):=by
     rw[Array.getD_eq_getD_getElem?] at hrel;cases hq:a.tmps[g]? with
     | none=>
      have:=hS.size;rw[Array.getElem?_eq_none_iff] at hq;omega
     | some z=>rw[hq] at hrel;simpa using hrel
    simp [yielded,hoj,hdj,h1]
   by_cases hun:c.env g= .tuple []
   ·rw[hun] at h hrel;simp only[Rel,Ab] at hrel;obtain⟨xs,hxs,hx0⟩:=hrel;have hyn:yielded all.toArray a.tmps j=none:=by
     have h2: ∀z,a.tmps[g]? =some z->z= .tuple xs:=fun z hz=>by
      rw[Array.getD_eq_getD_getElem?,hz] at hxs;simpa using hxs
     unfold yielded;simp only[List.getElem?_toArray,hjo,Option.bind_some];cases hz:a.tmps[g]? with
     | none=>rfl
     | some z=>rw[h2 z hz]
    rw[if_neg (by simp [Region.wanted,hg,hyn])];exact⟨fun f _=>hF.fn f,skip (by cases b<;>exact h)⟩
   cases hv:c.env g<;>rw[hv] at h<;>(try (cases b<;>exact h.elim))
   case tuple vs=>cases vs with
    | nil=>exact absurd hv hun
    | cons _ _=>cases b<;>exact h.elim
   rename_i v
   have hy':=hy v hv;cases b<;>cases v<;>simp only[Le] at h
   ·rw[if_pos (by simp [Region.wanted,hg,hy'])];exact Fp hF hok hS hE h
   ·rw[if_neg (by simp [Region.wanted,hg,hy'])];exact⟨fun f _=>hF.fn f,skip h⟩
   ·rw[if_neg (by simp [Region.wanted,hg,hy'])];exact⟨fun f _=>hF.fn f,skip h⟩
   ·rw[if_pos (by simp [Region.wanted,hg,hy'])];exact Fp hF hok hS hE h
structure Inv (P:Program) (G:Nat->DVal) (N:Fr) (all:List Oper) (Q:DExit->DS->Prop) (s0:DS) (w0:World)
  (T js:List Nat) (p:Plan) (c s:DS) (a:Act) (w:World) (listed:Array Bool):Prop where
 sim:Sim G N c a w
 ext:Ext s0.heap w0 c.heap w
 seq:Seq P G all c js s
 plan:Cz P G all Q p s
 ok:Bu all p T=true
 cov:Pq all T p=true
 size:listed.size=all.length
 iff: ∀i,i<all.length->(listed.getD i true=true↔i∈T/\i∉js)
 sub: ∀i∈js,i∈T/\i<all.length
 tlt: ∀i∈T,i<all.length
 nodup:js.Nodup
 eager: ∀j∈js,Ab1 all j=true
 pair:js.Pairwise fun j k=>(Fh all k j=true\/Pp all j k=true)/\Fh all j k=false
 out: ∀j∈js,∀k,k<all.length->k∉T->Fh all k j=true\/Pp all j k=true
 deps: ∀j∈js,∀e,Fh all j e=true->e∈T/\e≠j
 clo: ∀k,k<all.length->listed.getD k true=true-> ∀e,Fh all k e=true->listed.getD e false=true
theorem Gl {i:Nat} (h:i<all.length): ∃o,As all i=some o:=by
 rw[Eu];exact⟨all[i],by simp [h]⟩
theorem Ab2 {k e:Nat} (h:e∈Au2 all k):Fh all k e=true:=by
 unfold Au2 at h;unfold Fh;split at h
 ·rename_i o ho
  simp only[List.mem_map,List.mem_filter,Array.mem_toList_iff] at h;obtain⟨x,⟨hx,hb⟩,rfl⟩:=h;exact Array.any_eq_true'.2 ⟨x,hx,by simp [hb]⟩
 ·cases h
theorem Lh {listed:Array Bool} {i:Nat} (hs:listed.size=all.length) (hi: ∀e,Fh all i e=true->listed.getD e false=true)
  (hc: ∀k,k<all.length->listed.getD k true=true-> ∀e,Fh all k e=true->listed.getD e false=true): ∀(n:Nat) (S:List Nat),(∀m∈S,m=i\/listed.getD m false=true)-> ∀m∈Ob all n S,m=i\/listed.getD m false=true
 | 0,S,h=>h
 | k+1,S,h=>by
  rw[Ob];refine Lh hs hi hc k _ ?_;split
  ·rename_i hk
   intro m hm;rcases List.mem_append.1 hm with hm | hm
   ·have hd:=Ab2 hm;rcases h k (List.contains_iff_mem.1 hk) with rfl | hl
    ·exact .inr (hi m hd)
    ·have hlt:k<listed.size:=by
      rcases Nat.lt_or_ge k listed.size with h' | h'
      ·exact h'
      ·simp [Array.getElem?_eq_none h'] at hl
     refine .inr (hc k (by rw[<-hs];exact hlt) ?_ m hd);simpa [hlt] using hl
   ·exact h m hm
  ·exact h
theorem Fu {k:Nat} {T:List Nat} (hk:k<all.length):Mn all k T=true↔ ∀e,Fh all k e=true->e∈T:=by
 obtain⟨o,ho⟩:=Gl hk;unfold Mn Fh;rw[ho];simp only[Array.all_eq_true_iff_forall_mem,Bool.or_eq_true,Bool.not_eq_true',List.contains_iff_mem];constructor
 ·intro h e he;obtain⟨x,hx,hb⟩:=Array.any_eq_true'.1 he;simp only[Bool.and_eq_true,beq_iff_eq] at hb;rcases h x hx with h1 | h1
  ·rw[hb.1] at h1;cases h1
  ·rw[<-hb.2];exact h1
 ·intro h x hx;by_cases hb:Region.binds .any x=true
  ·exact .inr (h x.on (Array.any_eq_true'.2 ⟨x,hx,by simp [hb]⟩))
  ·exact .inl (by simpa using hb)
theorem He {listed:Array Bool} {k:Nat} (hs:listed.size=all.length):k∈Region.ready .any all.toArray listed↔
  k<all.length/\listed.getD k true=false/\ ∀e,Fh all k e=true->listed.getD e false=true:=by
 rw[mem_ready];constructor
 ·rintro⟨h0,o,ho,h⟩;have ho':all[k]? =some o:=by simpa using ho
  have hlt:k<all.length:=(List.getElem?_eq_some_iff.1 ho').1;refine⟨hlt,h0,fun e he=> ?_⟩;unfold Fh at he;rw[Eu,ho'] at he;obtain⟨x,hx,hb⟩:=Array.any_eq_true'.1 he;simp only[Bool.and_eq_true,beq_iff_eq] at hb;rw[<-hb.2];exact h x hx hb.1
 ·rintro⟨hlt,h0,h⟩;refine⟨h0,all[k],by simp [hlt],fun x hx hb=>h x.on ?_⟩;unfold Fh;rw[Eu,List.getElem?_eq_getElem hlt];exact Array.any_eq_true'.2 ⟨x,hx,by simp [hb]⟩
theorem Hs {listed:Array Bool} {e:Nat} (h:e<listed.size):listed.getD e false=listed.getD e true:=by
 simp [h]
theorem Inv.advance {T js:List Nat} {i:Nat} {p:Plan} {c s:DS} {a:Act} {w:World} {listed:Array Bool} (h:Inv P G N all Q s0 w0 T js (.take i p) c s a w listed):
    ∃s',Inv P G N all Q s0 w0 (i::T) (js++ [i]) p c s' a w listed:=by
  have hok:=h.ok
  simp only[Bu,Bool.and_eq_true,decide_eq_true_eq,Bool.not_eq_true',List.all_eq_true,List.mem_range,Bool.or_eq_true,List.contains_iff_mem,beq_iff_eq] at hok
  obtain⟨⟨⟨⟨⟨⟨hi,hT⟩,he⟩,hd⟩,ha⟩,hc⟩,hp⟩:=hok
  have hT':i∉T:=by intro hm;rw[List.contains_iff_mem.2 hm] at hT;cases hT
  rw[Fu hi] at hd
  obtain⟨o,ho⟩:=Gl hi
  have hpl:=h.plan
  simp only[Cz,ho] at hpl
  have heo:Fq o.op=true:=by unfold Ab1 at he;rw[ho] at he;exact he
  have hst: ∃d,Bc6 P G all i s d/\Cz P G all Q p ⟨Bm s.env (Da all i) d,s.heap⟩:=by
    have hdst:Da all i=o.dst:=by simp [Da,ho]
    rw[hdst]
    rcases Pr.1 hpl with⟨hw,hdop⟩ | ⟨hw,hput⟩
    · obtain⟨d,hd1,hd2⟩:=Kf o.op heo hdop
      exact⟨d,⟨o,ho,heo, .inl ⟨hw,fun K Q hK=>hd2 Q K s (fun _ _=>rfl) (fun _ _=>Fs) hK⟩⟩,hd1⟩
    · exact⟨Aw,⟨o,ho,heo, .inr ⟨hw,rfl⟩⟩,hput⟩
  obtain⟨d,hev,hpl'⟩:=hst
  have seqApp: ∀(js:List Nat) (c:DS),Seq P G all c js s->Seq P G all c (js++ [i]) ⟨Bm s.env (Da all i) d,s.heap⟩:=by
    intro js
    induction js with
    | nil=>intro c hc;cases hc;exact⟨d,hev,rfl⟩
    | cons j js ih=>intro c hc;obtain⟨d',h1,h2⟩:=hc;exact⟨d',h1,ih _ h2⟩
  refine⟨⟨Bm s.env (Da all i) d,s.heap⟩, ?_⟩
  exact {
    sim:=h.sim,ext:=h.ext,seq:=seqApp js c h.seq,plan:=hpl',ok:=hp,cov:=hc,size:=h.size
    iff:=fun k hk=>by
      rw[h.iff k hk]
      simp only[List.mem_cons,List.mem_append,List.not_mem_nil,or_false,not_or]
      constructor
      · rintro⟨h1,h2⟩
        exact⟨.inr h1,h2,fun e=>hT' (e▸h1)⟩
      · rintro⟨h1,h2,h3⟩
        exact⟨h1.resolve_left h3,h2⟩
    sub:=fun k hk=>by
      simp only[List.mem_append,List.mem_cons,List.not_mem_nil,or_false] at hk⊢
      rcases hk with hk | rfl
      · exact⟨.inr (h.sub k hk).1,(h.sub k hk).2⟩
      · exact⟨.inl rfl,hi⟩
    tlt:=fun k hk=>by
      simp only[List.mem_cons] at hk
      rcases hk with rfl | hk
      · exact hi
      · exact h.tlt k hk
    nodup:=by
      rw[List.nodup_append]
      refine⟨h.nodup,by simp, ?_⟩
      intro x hx y hy e
      simp only[List.mem_cons,List.not_mem_nil,or_false] at hy
      subst hy;subst e
      exact hT' (h.sub x hx).1
    eager:=fun k hk=>by
      simp only[List.mem_append,List.mem_cons,List.not_mem_nil,or_false] at hk
      rcases hk with hk | rfl
      · exact h.eager k hk
      · exact he
    pair:=by
      rw[List.pairwise_append]
      refine⟨h.pair,by simp, ?_⟩
      intro j hj k hk
      simp only[List.mem_cons,List.not_mem_nil,or_false] at hk
      subst hk
      refine⟨h.out j hj k hi hT', ?_⟩
      cases hdep:Fh all j k with
      | false=>rfl
      | true=>exact(hT' (h.deps j hj k hdep).1).elim
    out:=fun j hj k hk hkT=>by
      simp only[List.mem_append,List.mem_cons,List.not_mem_nil,or_false,not_or] at hj hkT
      rcases hj with hj | rfl
      · exact h.out j hj k hk hkT.2
      · rcases ha k hk with((h1 | h1) | h1) | h1
        · exact(hkT.2 h1).elim
        · exact(hkT.1 h1).elim
        · exact .inl h1
        · exact .inr h1
    deps:=fun j hj e hde=>by
      simp only[List.mem_append,List.mem_cons,List.not_mem_nil,or_false] at hj⊢
      rcases hj with hj | rfl
      · exact⟨.inr (h.deps j hj e hde).1,(h.deps j hj e hde).2⟩
      · have:=hd e hde
        exact⟨.inr this,fun hh=>hT' (hh▸this)⟩
    clo:=h.clo }
def Af7:Plan->Prop
 | .take _ _=>False
 | _=>True
theorem Inv.normal: ∀ {p:Plan} {T js:List Nat} {c s:DS} {a:Act} {w:World} {listed:Array Bool},Inv P G N all Q s0 w0 T js p c s a w listed->
  ∃T' js' p' s',Inv P G N all Q s0 w0 T' js' p' c s' a w listed/\Af7 p'
 | .take i p,T,js,c,s,a,w,listed,h=>by
  obtain⟨s',h'⟩:=h.advance;exact h'.normal
 | .done,T,js,c,s,a,w,listed,h=>⟨T,js,_,s,h,trivial⟩
 | .go i ls p,T,js,c,s,a,w,listed,h=>⟨T,js,_,s,h,trivial⟩
 | .alt p q,T,js,c,s,a,w,listed,h=>⟨T,js,_,s,h,trivial⟩
theorem Mo: ∀(p:Plan) (T:List Nat) (s:DS),Bu all p T=true->Cz P G all Q p s->
  ((∀i,i<all.length->i∈T)/\Q .normal s)\/ ∃i,i<all.length/\i∉T/\ ∀e,Fh all i e=true->e∈T
 | .done,T,s,hok,h=>by
  simp only[Bu,List.all_eq_true,List.mem_range,List.contains_iff_mem] at hok;exact .inl ⟨hok,h⟩
 | .take i p,T,s,hok,h=>by
  simp only[Bu,Bool.and_eq_true,decide_eq_true_eq,Bool.not_eq_true'] at hok;obtain⟨⟨⟨⟨⟨⟨hi,hT⟩,he⟩,hd⟩,_⟩,_⟩,_⟩:=hok;exact .inr ⟨i,hi,(fun hm=>by rw[List.contains_iff_mem.2 hm] at hT;cases hT),(Fu hi).1 hd⟩
 | .go i ls p,T,s,hok,h=>by
  simp only[Bu,Bool.and_eq_true,decide_eq_true_eq,Bool.not_eq_true'] at hok;obtain⟨⟨⟨⟨⟨hi,hT⟩,hd⟩,_⟩,_⟩,_⟩:=hok;exact .inr ⟨i,hi,(fun hm=>by rw[List.contains_iff_mem.2 hm] at hT;cases hT),(Fu hi).1 hd⟩
 | .alt p q,T,s,hok,h=>by
  simp only[Bu,Bool.and_eq_true] at hok;exact Mo p T s hok.1 h.1
theorem Kg: ∀(p:Plan) (T:List Nat) (s:DS) (k:Nat),Bu all p T=true->Cz P G all Q p s->k∈Fc p->
  ∃ls p',Bu all (.go k ls p') T=true/\Cz P G all Q (.go k ls p') s
 | .done,T,s,k,_,_,hk=>by simp [Fc] at hk
 | .take i p,T,s,k,_,_,hk=>by simp [Fc] at hk
 | .go i ls p,T,s,k,hok,h,hk=>by
  simp only[Fc,List.mem_cons,List.not_mem_nil,or_false] at hk;subst hk;exact⟨ls,p,hok,h⟩
 | .alt p q,T,s,k,hok,h,hk=>by
  simp only[Bu,Bool.and_eq_true] at hok;simp only[Fc,List.mem_append] at hk;rcases hk with hk | hk
  ·exact Kg p T s k hok.1 h.1 hk
  ·exact Kg q T s k hok.2 h.2 hk
theorem Ab3 {p:Plan} {T:List Nat} (hc:Pq all T p=true) (hok:Bu all p T=true) (hn:Af7 p) {k:Nat} (hk:k<all.length) (hT:k∉T) (hd: ∀e,Fh all k e=true->e∈T):k∈Fc p:=by
 have gen:((List.range all.length).all fun k=>T.contains k || (Fc p).contains k || !Mn all k T)=true->k∈Fc p:=by
  intro h;simp only[List.all_eq_true,List.mem_range,Bool.or_eq_true,List.contains_iff_mem,Bool.not_eq_true'] at h;rcases h k hk with(h1 | h1) | h1
  ·exact(hT h1).elim
  ·exact h1
  ·rw[(Fu hk).2 hd] at h1;cases h1
 cases p with
 | done=>
  simp only[Bu,List.all_eq_true,List.mem_range,List.contains_iff_mem] at hok;exact(hT (hok k hk)).elim
 | take i p=>exact hn.elim
 | go i ls p=>exact gen hc
 | alt p q=>exact gen hc
theorem Sb {s:DS} {H':Aa}: ∀ {ls:List Nat},Af4 G all s H' ls-> ∀l∈ls,Au1 G s H' (Hd (As all l))
 | [],_,l,hl=>by simp at hl
 | x::ls,h,l,hl=>by
  simp only[List.mem_cons] at hl;rcases hl with rfl | hl
  ·exact h.1
  ·exact Sb h.2 l hl
theorem Inv.sound {F:Fence} {n:Nat} (hF:FOk F) (hall:all.all (Cb N)=true) (hQ: ∀v env env' h,Q (.panic v) ⟨env,h⟩->Q (.panic v) ⟨env',h⟩): ∀(fuel:Nat) (U T js:List Nat) (p:Plan) (c s:DS) (a:Act) (w:World) (listed:Array Bool),
    Inv P G N all Q s0 w0 T js p c s a w listed->U.length<=fuel->(∀i,i<all.length->listed.getD i true=false->i∈U)->
    wpAnyIn F n P .any all.toArray (Ek G N Q s0 w0) fuel listed a w:=by
  intro fuel
  induction fuel with
  | zero=>
    intro U T js p c s a w listed h hU hUm
    have hnil:U= []:=List.eq_nil_of_length_eq_zero (Nat.le_zero.1 hU)
    subst hnil
    have hall1: ∀i,i<all.length->listed.getD i true=true:=by
      intro i hi
      cases hl:listed.getD i true with
      | true=>rfl
      | false=>exact absurd (hUm i hi hl) (by simp)
    have hjs:js= []:=by
      cases js with
      | nil=>rfl
      | cons j js=>
        have hs:=h.sub j (by simp)
        exact absurd (by simp) ((h.iff j hs.2).1 (hall1 j hs.2)).2
    subst hjs
    have hsc:=h.seq
    simp only[Seq] at hsc
    refine⟨?_, ?_⟩
    · rw[List.eq_nil_iff_forall_not_mem]
      intro k hk
      rw[He h.size] at hk
      rw[hall1 k hk.1] at hk
      cases hk.2.1
    · rcases Mo p T s h.ok h.plan with⟨_,hq⟩ | ⟨i,hi,hiT,_⟩
      · subst hsc;exact⟨.normal,s,hq, .normal,h.sim,h.ext⟩
      · exact absurd ((h.iff i hi).1 (hall1 i hi)).1 hiT
  | succ fuel ih=>
    intro U T js p c s a w listed h0 hU hUm
    obtain⟨T,js,p,s,h,hnt⟩:=h0.normal
    have inList: ∀e,listed.getD e false=true->e∈T/\e∉js:=by
      intro e he
      have hlt:e<listed.size:=by
        rcases Nat.lt_or_ge e listed.size with h' | h'
        · exact h'
        · simp [Array.getElem?_eq_none h'] at he
      have:=he
      rw[Hs hlt] at this
      exact(h.iff e (by rw[<-h.size];exact hlt)).1 this
    refine⟨fun hr=> ?_,fun k hk=> ?_⟩
    · -- nothing may come up: all have
      have hno: ∀k,k∉Region.ready .any all.toArray listed:=by rw[hr];simp
      have toL: ∀e,e∈T->e∉js->e<all.length->listed.getD e false=true:=by
        intro e h1 h2 h3
        rw[Hs (by rw[h.size];exact h3)]
        exact(h.iff e h3).2 ⟨h1,h2⟩
      have unl: ∀i,i<all.length-> ¬(i∈T/\i∉js)->listed.getD i true=false:=by
        intro i hi hn
        cases hl:listed.getD i true with
        | false=>rfl
        | true=>exact(hn ((h.iff i hi).1 hl)).elim
      have hjs:js= []:=by
        cases js with
        | nil=>rfl
        | cons j js=>
          refine(hno j ((He h.size).2 ⟨(h.sub j (by simp)).2,unl j (h.sub j (by simp)).2 (fun hh=>hh.2 (by simp)),fun e he=> ?_⟩)).elim
          obtain⟨g1,g2⟩:=h.deps j (by simp) e he
          refine toL e g1 (fun hm=> ?_) (h.tlt e g1)
          simp only[List.mem_cons] at hm
          rcases hm with hm | hm
          · exact g2 hm
          · have:=((List.pairwise_cons.1 h.pair).1 e hm).2
            rw[he] at this;cases this
      subst hjs
      have hsc:=h.seq
      simp only[Seq] at hsc
      rcases Mo p T s h.ok h.plan with⟨_,hq⟩ | ⟨i,hi,hiT,hd⟩
      · subst hsc;exact⟨.normal,s,hq, .normal,h.sim,h.ext⟩
      · exact(hno i ((He h.size).2 ⟨hi,unl i hi (fun hh=>hiT hh.1),fun e he=>toL e (hd e he) (by simp) (h.tlt e (hd e he))⟩)).elim
    · rw[He h.size] at hk
      obtain⟨hkn,hun,hdep⟩:=hk
      obtain⟨o,ho⟩:=Gl hkn
      have hdepT: ∀e,Fh all k e=true->e∈T/\e∉js:=fun e he=>inList e (hdep e he)
      have hU':k∈U:=hUm k hkn hun
      have hUl:(U.erase k).length<=fuel:=by
        rw[List.length_erase_of_mem hU'];omega
      have hset: ∀i,i≠k->(listed.setIfInBounds k true).getD i true=listed.getD i true:=fun i hi=>getD_set_ne true (Ne.symm hi)
      have hsetk:(listed.setIfInBounds k true).getD k true=true:=by
        have:k<listed.size:=by rw[h.size];exact hkn
        simp [this]
      have hup: ∀e,listed.getD e false=true->(listed.setIfInBounds k true).getD e false=true:=by
        intro e he
        have hlt:e<listed.size:=by
          rcases Nat.lt_or_ge e listed.size with h' | h'
          · exact h'
          · simp [Array.getElem?_eq_none h'] at he
        by_cases hek:e=k
        · subst hek
          simp [hlt]
        · rw[getD_set_ne false (Ne.symm hek)];exact he
      have hclo: ∀i,i<all.length->(listed.setIfInBounds k true).getD i true=true-> ∀e,Fh all i e=true->(listed.setIfInBounds k true).getD e false=true:=by
        intro i hi hl e he
        by_cases hik:i=k
        · subst hik;exact hup e (hdep e he)
        · rw[hset i hik] at hl
          exact hup e (h.clo i hi hl e he)
      have hUm': ∀i,i<all.length->(listed.setIfInBounds k true).getD i true=false->i∈U.erase k:=by
        intro i hi hl
        by_cases hik:i=k
        · subst hik;rw[hsetk] at hl;cases hl
        · rw[hset i hik] at hl
          exact(List.mem_erase_of_ne hik).2 (hUm i hi hl)
      by_cases hkj:k∈js
      · -- it was taken before
        obtain⟨A,B,rfl⟩:=List.append_of_mem hkj
        have hpw:=List.pairwise_append.1 h.pair
        have hnd:=h.nodup
        rw[List.nodup_append] at hnd
        have apA: ∀j∈A,Apart all j k:=by
          intro j hj
          have hjlt:=(h.sub j (by simp [hj])).2
          obtain⟨x,hx⟩:=Gl hjlt
          rcases(hpw.2.2 j hj k (by simp)).1 with hd | ha
          · exact absurd (by simp [hj]) (hdepT j hd).2
          · exact Nk hx ho ha
        obtain⟨d,hev,hrest⟩:=Seq.front apA h.seq
        obtain⟨o',ho',heo,hev⟩:=hev
        rw[ho] at ho';cases ho'
        have hdst:Da all k=o.dst:=by simp [Da,ho]
        have hat:dAt P G all (fun s1=>s1=⟨Bm c.env o.dst d,c.heap⟩) Q c (some o):=by
          rw[Pr]
          rcases hev with⟨hw,hv⟩ | ⟨hw,rfl⟩
          · exact .inl ⟨hw,hv _ _ rfl⟩
          · exact .inr ⟨hw,rfl⟩
        refine wpOpIn_mono ?_ (Ps hF hall ho h.sim h.ext hat)
        rintro a' w' ⟨s1,rfl,hS',hE'⟩
        refine ih (U.erase k) T (A++B) p ⟨Bm c.env o.dst d,c.heap⟩ s a' w' _ ?_ hUl hUm'
        have memE: ∀i,i∈A++B->i∈A++k::B:=fun i hi=>by
          simp only[List.mem_append,List.mem_cons] at hi⊢
          rcases hi with hi | hi
          · exact .inl hi
          · exact .inr (.inr hi)
        have subl:(A++B).Sublist (A++k::B):=List.Sublist.append (List.Sublist.refl A) (List.sublist_cons_self k B)
        have kno:k∉A++B:=by
          intro hm
          have:=h.nodup
          rw[(List.perm_middle (a:=k) (l₁:=A) (l₂:=B)).nodup_iff] at this
          exact(List.nodup_cons.1 this).1 hm
        exact {
          sim:=hS',ext:=h.ext.trans hE',seq:=by rw[hdst] at hrest;exact hrest,plan:=h.plan,ok:=h.ok,cov:=h.cov
          size:=by simp [h.size]
          iff:=fun i hi=>by
            by_cases hik:i=k
            · subst hik
              rw[hsetk]
              exact⟨fun _=>⟨(h.sub i (by simp)).1,kno⟩,fun _=>rfl⟩
            · rw[hset i hik,h.iff i hi]
              simp only[List.mem_append,List.mem_cons,not_or]
              constructor
              · rintro⟨g1,g2,g3⟩;exact⟨g1,g2,g3.2⟩
              · rintro⟨g1,g2,g3⟩;exact⟨g1,g2,hik,g3⟩
          sub:=fun i hi=>h.sub i (memE i hi)
          tlt:=h.tlt
          nodup:=h.nodup.sublist subl
          eager:=fun i hi=>h.eager i (memE i hi)
          pair:=h.pair.sublist subl
          out:=fun i hi=>h.out i (memE i hi)
          deps:=fun i hi=>h.deps i (memE i hi)
          clo:=hclo }
      · -- it is the plan's next
        have hkT:k∉T:=by
          intro hm
          have:=(h.iff k hkn).2 ⟨hm,hkj⟩
          rw[hun] at this;cases this
        have hf:=Ab3 h.cov h.ok hnt hkn hkT fun e he=>(hdepT e he).1
        obtain⟨ls,p',hok,hpl⟩:=Kg p T s k h.ok h.plan hf
        simp only[Bu,Bool.and_eq_true,decide_eq_true_eq,Bool.not_eq_true'] at hok
        obtain⟨⟨⟨⟨⟨_,_⟩,hd⟩,hlk⟩,hc'⟩,hp'⟩:=hok
        simp only[Cz,ho] at hpl
        have apJ: ∀j∈js,Apart all j k:=by
          intro j hj
          obtain⟨x,hx⟩:=Gl (h.sub j hj).2
          rcases h.out j hj k hkn hkT with hd | ha
          · exact absurd hj (hdepT j hd).2
          · exact Nk hx ho ha
        have hdst:Da all k=o.dst:=by simp [Da,ho]
        have hlooks:looks all k=o.looksAt all.toArray:=by simp [looks,ho]
        have agree: ∀t∈o.looksAt all.toArray,c.env t=s.env t:=by
          intro t ht
          refine(Seq.env h.seq t fun j hj e=> ?_).symm
          exact(apJ j hj).a t e (by rw[hlooks];exact ht)
        have shift: ∀d H',Af5 G all ls s (Cz P G all Q p') ⟨Bm s.env o.dst d,H'⟩->
            (∃s1,Cz P G all Q p' s1/\Seq P G all ⟨Bm c.env o.dst d,H'⟩ js s1):=by
          intro d H' hK
          refine⟨_,hK.2,Seq.shift h.seq (fun j hj t e=> ?_) (fun j hj t e e2=> ?_) ?_⟩
          · exact(apJ j hj).c t (by rw[hdst];exact e)
          · exact(apJ j hj).b t e (by rw[hdst];exact e2)
          · intro A j B e oj a hoj hla
            have hjm:j∈js:=by rw[e];simp
            have hjT:=(h.sub j hjm).1
            unfold Af6 at hlk
            rw[List.all_eq_true] at hlk
            have hl:=hlk j hjT
            simp only[Hd,hoj,hla,Bool.or_eq_true,Bool.and_eq_true,List.contains_iff_mem,bne_iff_ne] at hl
            rcases hl with(hl | ⟨hl1,hl2⟩) | ⟨hl1,hl2⟩
            · exact absurd hjm (hdepT j hl).2
            · rcases Lh h.size hdep h.clo (k+1) [k] (fun m hm=> .inl (by simpa using hm)) j hl2 with hh | hh
              · exact absurd hh hl1
              · exact absurd hjm (inList j hh).2
            · refine⟨fun t ht m hm hdm=> ?_, ?_⟩
              · subst ht
                simp only[Wz,List.all_eq_true,Bool.or_eq_true,bne_iff_ne] at hl2
                have hmj:m∈js:=by rw[e];exact List.mem_append_right _ hm
                rcases hl2 m (h.sub m hmj).1 with g | g
                · exact g hdm
                · simp only[List.mem_cons] at hm
                  rcases hm with rfl | hm
                  · exact(h.deps m hmj m g).2 rfl
                  · have hp:=h.pair
                    rw[e,List.pairwise_append] at hp
                    have:=(List.pairwise_cons.1 hp.2.1).1 m hm
                    rw[g] at this
                    cases this.2
              · have hkl:=Sb hK.1 j hl1
                simp only[Hd,hoj,hla,Au1] at hkl
                rw[<-Seq.heap h.seq]
                exact hkl
        have hat:dAt P G all (fun c1=> ∃s1,Cz P G all Q p' s1/\Seq P G all c1 js s1) Q c (some o):=by
          rw[Pr] at hpl⊢
          rw[Lf agree]
          have hheap:=Seq.heap h.seq
          rcases hpl with⟨hw,hop⟩ | ⟨hw,hput⟩
          · refine .inl ⟨hw,An8 o.op (Rz (all:=all) agree) hheap.symm (fun d H' hK=>shift d H' hK) (fun v H' hq=>hQ v _ _ H' hq) hop⟩
          · refine .inr ⟨hw, ?_⟩
            unfold Af at hput⊢
            rw[<-hheap]
            exact shift _ _ hput
        refine wpOpIn_mono ?_ (Ps hF hall ho h.sim h.ext hat)
        rintro a' w' ⟨c1,⟨s1,hp1,hseq⟩,hS',hE'⟩
        refine ih (U.erase k) (k::T) js p' c1 s1 a' w' _ ?_ hUl hUm'
        exact {
          sim:=hS',ext:=h.ext.trans hE',seq:=hseq,plan:=hp1,ok:=hp',cov:=hc'
          size:=by simp [h.size]
          iff:=fun i hi=>by
            by_cases hik:i=k
            · subst hik
              rw[hsetk]
              exact⟨fun _=>⟨by simp,hkj⟩,fun _=>rfl⟩
            · rw[hset i hik,h.iff i hi]
              simp [hik]
          sub:=fun i hi=>⟨by simp [(h.sub i hi).1],(h.sub i hi).2⟩
          tlt:=fun i hi=>by
            simp only[List.mem_cons] at hi
            rcases hi with rfl | hi
            · exact hkn
            · exact h.tlt i hi
          nodup:=h.nodup
          eager:=h.eager
          pair:=h.pair
          out:=fun i hi m hm hmT=>h.out i hi m hm (fun hh=>hmT (by simp [hh]))
          deps:=fun i hi e he=>⟨by simp [(h.deps i hi e he).1],(h.deps i hi e he).2⟩
          clo:=hclo }
theorem Bc7 {id:Nat} {ops:Array Oper} {s:DS} (hm:P.follows .mixedOrders=true) (p:Plan)
    (hp:(ops.toList.all (Cb N)&&Pq ops.toList [] p&&Bu ops.toList p [])=true) (h:Cz P G ops.toList (QP Q) p s):DWp P G N (.region id ops true) Q s:=by
  intro F n B hF a w hS
  simp only[Bool.and_eq_true] at hp
  obtain⟨⟨hall,hc⟩,hok⟩:=hp
  have hE:Ext s.heap w s.heap { w with drawn:=w.drawn+1 }:=⟨rfl,rfl,rfl,Nat.le_refl _,fun _ _ _=>rfl,fun _ h=> .inl h,fun _ _=>rfl,fun _ _ _=>rfl⟩
  have hSH:Ae { w with drawn:=w.drawn+1 } s.heap:=fun r o hr=>(hS.heap r o hr).lasts hE.lasts
  have hS':Sim G ⟨N.n,B⟩ s a { w with drawn:=w.drawn+1 }:=hS.ext hE hSH
  have key:=Inv.sound (n:=n) hF (P:=P) (G:=G) (N:=⟨N.n,B⟩) (all:=ops.toList) (Q:=QP Q) (s0:=s) (w0:=w) hall
    (fun v env env' h hq env''=>hq env'') ops.toList.length (List.range ops.toList.length) [] [] p s s a { w with drawn:=w.drawn+1 } (Array.replicate ops.size false)
    { sim:=hS',ext:=hE,seq:=rfl,plan:=h,ok:=hok,cov:=hc,size:=by simp
      iff:=fun i hi=>by
        have:i<ops.size:=by simpa using hi
        simp [this]
      sub:=by simp
      tlt:=by simp
      nodup:=by simp
      eager:=by simp
      pair:=by simp
      out:=by simp
      deps:=by simp
      clo:=fun k hk hl=>by
        have:k<ops.size:=by simpa using hk
        simp [this] at hl } (by simp) (fun i hi _=>by simpa using hi)
  have e1:ops.toList.toArray=ops:=by simp
  have e2:ops.toList.length=ops.size:=by simp
  rw[e1,e2] at key
  refine wpIn_mono (wpIn_region_any hm key) ?_
  rintro e a' w' ⟨e',s',hq,hx,hS1,hE1⟩
  refine⟨e',s', ?_,hx,hS1,hE1⟩
  cases hx with
  | normal=>exact hq
  | panic d v hv=>exact hq s'.env
  | exit=>exact hq.elim
  | goto=>exact hq.elim
  | ret=>exact hq.elim
end
end Go.Dl

-- THE DATA LEVEL, PART 3: plans run by simp.
namespace Go.Dl
open Go
attribute [go_sem] As.eq_1 As.eq_2 As.eq_3 Le.eq_1 Le.eq_2 Le.eq_3 Le.eq_4 Le.eq_5 Le.eq_6 Gk.eq_1 An9.eq_1 An9.eq_2 dAt.eq_1 Cf.eq_1 Cf.eq_2 Au1.eq_1 Au1.eq_2 Hd.eq_1 Ue.eq_1 Ue.eq_2 Ue.eq_3 Af4.eq_1 Af4.eq_2 Cz.eq_1 Cz.eq_2 Cz.eq_3 Cz.eq_4 QP.eq_1 QP.eq_2
attribute [go_sem] Af5
section
variable (v:DVal) (H H':Aa)
@[go_sem] theorem Bf7 (cs:List DVal) (o:Nat):Cf H H' (.vptr cs o)=True:=rfl
@[go_sem] theorem Ba0 (cs:List DVal) (o:Nat):Cf H H' (.vslice cs o)=True:=rfl
@[go_sem] theorem Bj5 (k:IntKind) (n:Int):Cf H H' (.int k n)=True:=rfl
@[go_sem] theorem Bf8 (b:Bool):Cf H H' (.bool b)=True:=rfl
@[go_sem] theorem Aq3:Cf H H' .nilSlice=True:=rfl
@[go_sem] theorem Bj6 (s:List UInt8):Cf H H' (.str s)=True:=rfl
end
end Go.Dl

-- THE DATA LEVEL, PART N: a call that is put off to the end, and takes up a panic there.
namespace Go.Dl
open Go
set_option maxRecDepth 10000
section
variable {P:Program} {G:Nat->DVal}
theorem Sc {fn:Func} {args:List DVal} {H:Aa} {vs:List Value} {w:World} {T:List Deferred} {st:Bool} (hA:args.length<=fn.ntmps) (hv:Ab w H args vs) (hH:Ae w H) (hG:GOk G w H):
  Sim G ⟨fn.ntmps,⟨w.heap.size,T,st⟩⟩ ⟨Cy args 0,H⟩ { tmps:=vs.toArray++Array.replicate (fn.ntmps-vs.toArray.size) undef,defers:=T } w:=by
 have hl:=hv.length;refine⟨by simp;omega,⟨[],rfl,List.nodup_nil,by simp⟩,fun i hi=> ?_,hH,hG,Nat.le_refl _⟩;have h0:=Ml args 0 i;rw[Nat.zero_add] at h0;show Rel w H (Cy args 0 i) _;rw[h0];by_cases hlt:i<args.length
 ·have h1:args[i]? =some (args.getD i Aw):=by simp [List.getD,List.getElem?_eq_getElem hlt]
  obtain⟨x,hx,hr⟩:=hv.get h1;have:(vs.toArray++Array.replicate (fn.ntmps-vs.toArray.size) undef).getD i undef=x:=by
   have hlt':i<vs.length:=by omega
   rw[Array.getD_eq_getD_getElem?,Array.getElem?_append_left (by simpa using hlt')];simp [hx]
  rw[this];exact hr
 ·have h1:args.getD i Aw=Aw:=by simp [List.getD,List.getElem?_eq_none (Nat.le_of_not_lt hlt)]
  have:(vs.toArray++Array.replicate (fn.ntmps-vs.toArray.size) undef).getD i undef=undef:=by
   rw[Array.getD_eq_getD_getElem?,Array.getElem?_append_right (by simp;omega)];simp only[Array.getElem?_replicate];split<;>rfl
  rw[h1,this];exact Gv w H
def Mp (R:Aa->Prop):DExit->DS->Prop
 | .normal,s=>R s.heap
 | .ret,s=>R s.heap
 | _,_=>False
def Io (t ty:Nat) (ps:String) (af:Array Edge):Oper:= { dst:=some t,op:= .call { callee:= .builtin .recover,args:= #[],argTypes:= #[] },type:=ty,pos:=ps,after:=af,guard:=none }
def Li (t t' ty:Nat) (ps:String) (af:Array Edge):Oper:= { dst:=some t',op:= .assign (.tmp t),type:=ty,pos:=ps,after:=af,guard:=none }
theorem Hf {N:Fr} {s:DS} {a:Act} {w:World} (hS:Sim G N s a w) (h:N.base.still=true):a.defers=N.base.late:=by
 obtain⟨Ds,h1,_,h3⟩:=hS.defers;cases Ds with
 | nil=>exact h1
 | cons D Ds=>have:=(h3 D (by simp)).1.2;rw[h] at this;cases this
theorem Ao0 {n:Nat} {ops:Array Oper} {Q:Exit->Act->List Frame->World->Prop} {i:Nat} {rest:List Nat} {a:Act} {cs:List Frame} {w:World} {o:Oper} (ho:ops[i]? =some o) (hg:o.guard=none) (hr:(execOp a.eval o).run P w= .ok .recover w) (hc:recoverD cs=none)
  (h:wpOpsSIn Fence.wide n P ops Q rest (a.put o.dst .nilIface) cs w):wpOpsSIn Fence.wide n P ops Q (i::rest) a cs w:=by
 unfold wpOpsSIn;rw[ho];refine⟨fun _ _=>trivial, ?_⟩;rw[if_pos (by simp [Region.wanted,hg]),hr,hc];exact h
theorem Au3 {n:Nat} {ops:Array Oper} {Q:Exit->Act->List Frame->World->Prop} {i:Nat} {rest:List Nat} {a:Act} {cs cs':List Frame} {w:World} {o:Oper} {v:Value} (ho:ops[i]? =some o) (hg:o.guard=none) (hr:(execOp a.eval o).run P w= .ok .recover w) (hc:recoverD cs=some (v,cs'))
  (h:wpOpsSIn Fence.wide n P ops Q rest (a.put o.dst v) cs' w):wpOpsSIn Fence.wide n P ops Q (i::rest) a cs w:=by
 unfold wpOpsSIn;rw[ho];refine⟨fun _ _=>trivial, ?_⟩;rw[if_pos (by simp [Region.wanted,hg]),hr,hc];exact h
theorem Xa {n:Nat} {ops:Array Oper} {Q:Exit->Act->List Frame->World->Prop} {i:Nat} {rest:List Nat} {a:Act} {cs:List Frame} {w:World} {o:Oper} {v:Value} (ho:ops[i]? =some o) (hg:o.guard=none) (hr:(execOp a.eval o).run P w= .ok (.value v) w)
  (h:wpOpsSIn Fence.wide n P ops Q rest (a.put o.dst v) cs w):wpOpsSIn Fence.wide n P ops Q (i::rest) a cs w:=by
 unfold wpOpsSIn;rw[ho];refine⟨fun _ _=>trivial, ?_⟩;rw[if_pos (by simp [Region.wanted,hg]),hr];exact h
theorem Xb {f:FuncId} {fn:Func} {id:Nat} {t1 t2 y1 y2:Nat} {p1 p2:String} {af1 af2:Array Edge} {c:Code} {caps:List DVal} {H:Aa} {R:Aa->Prop} {n:Nat} {vs:List Value} {w:World} {u:FrameMode} {x:DVal}
  (hf:P.funcs[f]? =some fn) (hb:fn.body=some (.seq (.region id #[Io t1 y1 p1 af1,Li t1 t2 y2 p2 af2] false) c))
  (hk:(decide (caps.length<=fn.ntmps)&&Bc fn.ntmps c&&Fg c&&decide (t1<fn.ntmps)&&decide (t2<fn.ntmps))=true) (hres:fn.results= #[])
  (hv:Ab w H caps vs) (hH:Ae w H) (hG:GOk G w H)
  (hu:(u= .returning/\x= .nilIface)\/ ∃v,u= .panicking [{ v,recovered:=false }]/\Rel w H x v)
  (h:dwp P G fn.ntmps c (Mp R) ⟨upd (upd (Cy caps 0) t1 x) t2 x,H⟩):
  CallsDIn Fence.wide n P f vs.toArray u w fun e u' w'=> ∃v H',e= .returned v/\settle u'= .returning/\R H'/\Ae w' H'/\Ext H w H' w':=by
 simp only[Bool.and_eq_true,decide_eq_true_eq] at hk;obtain⟨⟨⟨⟨hA,hok⟩,hfl⟩,ht1⟩,ht2⟩:=hk;refine callsDIn_of_wpSIn hf hb trivial fun c₀ cs hm=>wpSIn_seq (wpSIn_region ?_);have hS:=Sc (G:=G) (T:= []) (st:=true) hA hv hH hG;have key: ∀(v:Value) (u':FrameMode),settle u'= .returning->Rel w H x v->
   c.wpSIn Fence.wide n P (bodyPostS P fn c₀ cs fun e u' w'=> ∃v H',e= .returned v/\settle u'= .returning/\R H'/\Ae w' H'/\Ext H w H' w')
    (({ tmps:=vs.toArray++Array.replicate (fn.ntmps-vs.toArray.size) undef,defers:= [] }:Act).put (some t1) v |>.put (some t2) v) ({ c₀ with mode:=u' }::cs) w:=by
  intro v u' hs hx;refine wpSIn_of_wpIn rfl ?_;have hS1:=(hS.put (dst:=some t1) (by simpa [Al] using ht1) hx).put (dst:=some t2) (by simpa [Al] using ht2) hx;refine wpIn_mono (Bh (.inl rfl) c hok (.inr hfl) _ _ h _ w hS1) ?_;rintro e a' w1 ⟨e',s',hQ,hX,hS',hE⟩;have hd:=Hf hS' rfl;have hr:(results fn a'.tmps).run P w1= .ok (.tuple #[]) w1:=by
   unfold results;rw[hres];simp [Sem.run_pure]
  cases hX with
  | normal=>exact⟨hd,u',rfl,_,hr,_,s'.heap,rfl,hs,hQ,hS'.heap,hE⟩
  | ret=>exact⟨hd,u',rfl,_,hr,_,s'.heap,rfl,hs,hQ,hS'.heap,hE⟩
  | exit id=>exact hQ.elim
  | goto l=>exact hQ.elim
  | panic d v hv=>exact hQ.elim
 have hrange:List.range (#[Io t1 y1 p1 af1,Li t1 t2 y2 p2 af2]:Array Oper).size= [0,1]:=rfl;have e0:(#[Io t1 y1 p1 af1,Li t1 t2 y2 p2 af2]:Array Oper)[0]? =some (Io t1 y1 p1 af1):=rfl;have e1:(#[Io t1 y1 p1 af1,Li t1 t2 y2 p2 af2]:Array Oper)[1]? =some (Li t1 t2 y2 p2 af2):=rfl;have r0: ∀ρ w,(execOp ρ (Io t1 y1 p1 af1)).run P w= .ok .recover w:=fun ρ w=>by
  simp [execOp,Io,resolve,invoke,builtin,Sem.run_pure]
 have r1: ∀ρ w,(execOp ρ (Li t1 t2 y2 p2 af2)).run P w= .ok (.value (ρ (.tmp t1))) w:=fun ρ w=>by
  simp [execOp,Li,Sem.run_pure]
 have Av: ∀v,(({ tmps:=vs.toArray++Array.replicate (fn.ntmps-vs.toArray.size) undef,defers:= [] }:Act).put (some t1) v).eval (.tmp t1)=v:=fun v=>by
  have hsz:=hS.size;dsimp only at hsz;simp [Act.eval,Act.put,Array.getD,hsz,ht1];intro hle;simp at hsz;omega
 rw[hrange];rcases hu with⟨rfl,rfl⟩ | ⟨v,rfl,hx⟩
 ·have hr:recoverD (c₀::cs)=none:=by simp [recoverD,hm]
  have hc: { c₀ with mode:= .returning }=c₀:=by cases c₀;simp at hm;simp [hm]
  refine Ao0 e0 rfl (r0 _ _) hr (Xa e1 rfl (r1 _ _) ?_);rw[show(Io t1 y1 p1 af1).dst=some t1 from rfl,Av];have:=key .nilIface .returning rfl (by simp [Rel]);rw[hc] at this;exact this
 ·have hr:recoverD (c₀::cs)=some (v,{ c₀ with mode:= .panicking [{ v,recovered:=true }] }::cs):=by simp [recoverD,hm]
  refine Au3 e0 rfl (r0 _ _) hr (Xa e1 rfl (r1 _ _) ?_);rw[show(Io t1 y1 p1 af1).dst=some t1 from rfl,Av];exact key v _ rfl hx
theorem Xc (env:Nat->DVal): ∀l:List Operand,(Az G env l).length=l.length
 | []=>rfl
 | x::l=>by rw[Az,List.length_cons,Xc env l,List.length_cons]
def Xd (d:Nat) (g:FuncId) (caps:Array Operand) (ty:Nat) (ps:String) (af:Array Edge):Oper:= { dst:=some d,op:= .makeFunc (.func g) #[] caps,type:=ty,pos:=ps,after:=af,guard:=none }
def Ao1 (d ty:Nat) (ps:String) (af:Array Edge):Oper:= { dst:=none,op:= .defer { callee:= .value (.tmp d),args:= #[],argTypes:= #[] },type:=ty,pos:=ps,after:=af,guard:=none }
def Au4 (P:Program) (G:Nat->DVal) (rs:List ResultVar) (R:DEnd->Aa->Prop) (m t1 t2:Nat) (cc:Code) (caps:List DVal):DExit->DS->Prop
 | .normal,s=>dwp P G m cc (Mp fun H'=>Nh R H' (Br (Cl P ⟨s.env,H'⟩ rs))) ⟨upd (upd (Cy caps 0) t1 .nilIface) t2 .nilIface,s.heap⟩
 | .ret,s=>dwp P G m cc (Mp fun H'=>Nh R H' (Br (Cl P ⟨s.env,H'⟩ rs))) ⟨upd (upd (Cy caps 0) t1 .nilIface) t2 .nilIface,s.heap⟩
 | .panic v,s=>dwp P G m cc (Mp fun H'=>Nh R H' (Br (Cl P ⟨s.env,H'⟩ rs))) ⟨upd (upd (Cy caps 0) t1 v) t2 v,s.heap⟩
 | _,_=>False
theorem Xe {f g:FuncId} {fn fg:Func} {A1 A2 C cc:Code} {id id2 d t1 t2 y1 y2 y3 y4:Nat} {p1 p2 p3 p4:String} {af1 af2 af3 af4:Array Edge} {caps:Array Operand} {args:List DVal} {H:Aa} {R:DEnd->Aa->Prop}
  (hf:P.funcs[f]? =some fn) (hg:P.funcs[g]? =some fg) (hcall: ∀vs w,(callFunc f vs).run P w= .ok (.enter f vs) w) (hcallg: ∀vs w,(callFunc g vs).run P w= .ok (.enter g vs) w)
  (hb:fn.body=some (.seq A1 (.seq A2 (.seq (.region id #[Xd d g caps y1 p1 af1,Ao1 d y2 p2 af2] false) C))))
  (hbg:fg.body=some (.seq (.region id2 #[Io t1 y3 p3 af3,Li t1 t2 y4 p4 af4] false) cc))
  (hk:(decide (args.length<=fn.ntmps)&&(Bc fn.ntmps A1&&Fg A1)&&(Bc fn.ntmps A2&&Fg A2)&&(Bc fn.ntmps C&&Fg C)&&decide (d<fn.ntmps)&&caps.toList.all (Ag fn.ntmps)&&fn.results.toList.all (Ni fn.ntmps))=true)
  (hkg:(decide (caps.toList.length<=fg.ntmps)&&Bc fg.ntmps cc&&Fg cc&&decide (t1<fg.ntmps)&&decide (t2<fg.ntmps))=true) (hrg:fg.results= #[])
  (h:dwp P G fn.ntmps A1 (Bl (fun s=>dwp P G fn.ntmps A2 (Bl (fun s1=>dwp P G fn.ntmps C (Au4 P G fn.results.toList R fg.ntmps t1 t2 cc (Az G s1.env caps.toList)) ⟨upd s1.env d (.func (.func g) [] (Az G s1.env caps.toList)),s1.heap⟩) fun _ _=>False) s) fun _ _=>False) ⟨Cy args 0,H⟩):Bj P G f args H R:=by
 simp only[Bool.and_eq_true,decide_eq_true_eq] at hk;obtain⟨⟨⟨⟨⟨⟨hA,hok1,hfl1⟩,hok2,hfl2⟩,hok3,hfl3⟩,hd⟩,hcp⟩,hres⟩:=hk;refine⟨hcall,fun vs w hv hH hG=> ?_⟩;refine(callsIn_wide (n:=0)).1 (callsIn_of_wp_marks hf hb trivial ?_);have hS:=Sc (G:=G) (T:= []) (st:=true) hA hv hH hG;refine wpIn_seq (wpIn_mono (Bh (.inl rfl) A1 hok1 (.inr hfl1) _ _ h _ w hS) ?_);rintro e a0 w0 ⟨e',s0,hQ,hX,hS0,hE0⟩;cases hX<;>first | exact hQ.elim | skip
 refine wpIn_seq (wpIn_mono (Bh (.inl rfl) A2 hok2 (.inr hfl2) _ _ hQ _ w0 hS0) ?_);rintro e a1 w1 ⟨e',s1,hQ1,hX,hS1,hE1⟩;cases hX<;>first | exact hQ1.elim | skip
 have hE1:=hE0.trans hE1;have hd1:a1.defers= []:=Hf hS1 rfl;have hrc:=Fa hS1 hcp;obtain⟨cv,hcv⟩: ∃cv:List Value,cv=caps.toList.map a1.eval:=⟨_,rfl⟩;have hcv2:caps.map a1.eval=cv.toArray:=by rw[hcv,<-Array.toList_map]
 rw[<-hcv] at hrc;have hfv:Rel w1 s1.heap (.func (.func g) [] (Az G s1.env caps.toList)) (.func (.func g) #[] cv.toArray):=by
  simp only[Rel];refine⟨#[],cv.toArray,rfl, ?_, ?_⟩
  ·simp [Ab]
  ·simpa using hrc
 obtain⟨D,hD⟩: ∃D:Deferred,D= { target:= .fn (.func g) cv.toArray,args:= #[] }:=⟨_,rfl⟩;have hS2:Sim G ⟨fn.ntmps,⟨w.heap.size,[D],true⟩⟩ ⟨upd s1.env d (.func (.func g) [] (Az G s1.env caps.toList)),s1.heap⟩ ({ (a1.put (some d) (.func (.func g) #[] cv.toArray)) with defers:= [D] }) w1:=by
  have:=hS1.put (dst:=some d) (by simpa [Al] using hd) hfv;exact⟨this.size,⟨[],rfl,List.nodup_nil,by simp⟩,this.tmps,this.heap,this.glob,this.base⟩
 refine wpIn_seq ?_;have hreg: #[Xd d g caps y1 p1 af1,Ao1 d y2 p2 af2]= [Xd d g caps y1 p1 af1,Ao1 d y2 p2 af2].toArray:=rfl;rw[hreg];refine wpIn_region_lit (wpListIn_plain rfl fun K hK=> ?_);have rm:(execOp a1.eval (Xd d g caps y1 p1 af1)).run P w1= .ok (.value (.func (.func g) #[] cv.toArray)) w1:=by
  simp [execOp,Xd,Instr.makeFunc,Sem.run_pure,hcv2]
 have hsz:=hS1.size;have Av:(a1.put (some d) (.func (.func g) #[] cv.toArray)).eval (.tmp d)= .func (.func g) #[] cv.toArray:=by
  simp [Act.eval,Act.put,Array.getD,hsz,hd]
 have rd:(execOp (a1.put (some d) (.func (.func g) #[] cv.toArray)).eval (Ao1 d y2 p2 af2)).run P w1= .ok (.defer D) w1:=by
  simp [execOp,Ao1,resolve,Av,Deferred.ofValue,Sem.run_pure,hD]
 unfold Oper.wpIn;refine⟨fun _ _=>trivial, ?_⟩;rw[Oper.semAt_eq _ _ _ (by intro c;simp [Xd]),rm];refine hK _ _ (wpListIn_plain rfl fun K2 hK2=> ?_);unfold Oper.wpIn;refine⟨fun _ _=>trivial, ?_⟩;rw[show Fence.wide.round=none from rfl,Oper.semAt_none,show(Xd d g caps y1 p1 af1).dst=some d from rfl,rd];refine hK2 _ _ (wpListIn_nil ?_);have hdp:(a1.put (some d) (.func (.func g) #[] cv.toArray)).defers= []:=hd1;rw[hdp];show C.wpIn _ _ _ _ _ _;refine wpIn_mono (Bh (.inl rfl) C hok3 (.inr hfl3) _ _ hQ1 _ w1 hS2) ?_;rintro e a3 w3 ⟨e',s3,hQ3,hX3,hS3,hE3⟩;have hE3':=hE1.trans hE3;have hd3:a3.defers= [D]:=Hf hS3 rfl;have hrc3:Ab w3 s3.heap (Az G s1.env caps.toList) cv:=hrc.lasts hE3.lasts;have hinv:(invoke D.target D.args).run P w3= .ok (.enter g cv.toArray) w3:=by
  rw[hD];simp [invoke,hcallg]
 have key: ∀(u:FrameMode) (x:DVal),u≠ .run->((u= .returning/\x= .nilIface)\/ ∃v,u= .panicking [{ v,recovered:=false }]/\Rel w3 s3.heap x v)->
   dwp P G fg.ntmps cc (Mp fun H'=>Nh R H' (Br (Cl P ⟨s3.env,H'⟩ fn.results.toList))) ⟨upd (upd (Cy (Az G s1.env caps.toList) 0) t1 x) t2 x,s3.heap⟩->
   LeavesInM Fence.wide 0 P fn a3.tmps (fun e w'=> ∃e' H',R e' H'/\RelE w' H' e' e/\Ae w' H'/\Ext H w H' w') a3.defers u w3:=by
  intro u x hu0 hu hc;rw[hd3];refine⟨hu0, .inr ⟨(fun h=>by cases h), .func g,cv.toArray,g,cv.toArray,(by rw[hD]),hinv,fun _ _=>trivial, ?_⟩⟩;refine(Xb hg hbg (by rw[Xc];exact(by simp only[Bool.and_eq_true,decide_eq_true_eq] at hkg⊢;exact hkg)) hrg hrc3 hS3.heap hS3.glob hu hc).mono ?_;rintro e4 u4 w4 ⟨v4,H4,rfl,hset,hfin,hH4,hE4⟩;dsimp only;rw[hset];have hS4:=hS3.ext hE4 hH4;cases hdt:Br (Cl P ⟨s3.env,H4⟩ fn.results.toList) with
  | none=>rw[hdt] at hfin;exact hfin.elim
  | some v=>
   rw[hdt] at hfin;obtain⟨x,hx,hr⟩:=Nj (P:=P) hS4 hres hdt;obtain⟨v',H',hgg,hR⟩:=hfin;obtain⟨g1,g2,g3⟩:=hgg w4 hS4.heap;exact⟨x,hx, .ret v',H',hR, .ret v' x (g3 x hr),g1,(hE3'.trans hE4).trans ⟨rfl,rfl,rfl,Nat.le_refl _,fun _ _ _=>rfl,fun b hb=> .inl (g2 b hb),fun _ _=>rfl,fun _ _ _=>rfl⟩⟩
 cases hX3 with
 | normal=>exact key .returning .nilIface (by simp) (.inl ⟨rfl,rfl⟩) hQ3
 | ret=>exact key .returning .nilIface (by simp) (.inl ⟨rfl,rfl⟩) hQ3
 | exit id=>exact hQ3.elim
 | goto l=>exact hQ3.elim
 | panic d v hv=>exact key _ d (by simp) (.inr ⟨v,rfl,hv⟩) hQ3
end
attribute [go_sem] Mp.eq_1 Mp.eq_2 Au4.eq_1 Au4.eq_2 Au4.eq_3
end Go.Dl

-- AN INTERPRETER OF THE DATA LEVEL, PART 1: definitions. What a closed call computes is found by the kernel; blocks have numbers of the interpreter's own.
namespace Go.Dl
open Go
noncomputable section
inductive Tr (α:Type) where
 | leaf
 | node (l:Tr α) (v:Option α) (r:Tr α)
def Pt:Nat->Nat->List Bool:=
 Nat.rec (motive:=fun _=>Nat->List Bool) (fun _=> []) (fun _ ih k=>Bool.rec (motive:=fun _=>List Bool) (Nat.beq (Nat.mod k 2) 1::ih (Nat.div (Nat.sub k 1) 2)) [] (Nat.beq k 0))
def Ip (k:Nat):List Bool:=Pt k k
def Gm {α:Type} (t:Tr α):List Bool->Option α:=
 Tr.rec (motive:=fun _=>List Bool->Option α) (fun _=>none) (fun _ v _ ihl ihr p=>List.rec (motive:=fun _=>Option α) v (fun b p _=>Bool.rec (motive:=fun _=>Option α) (ihr p) (ihl p) b) p) t
def Bo1 {α R:Type} (x:α):List Bool->Tr α->(Tr α->R)->R:=
 List.rec (motive:=fun _=>Tr α->(Tr α->R)->R) (fun t κ=>Tr.rec (motive:=fun _=>R) (κ (.node .leaf (some x) .leaf)) (fun l _ r _ _=>κ (.node l (some x) r)) t)
  (fun b _ ih t κ=>Tr.rec (motive:=fun _=>R) (Bool.rec (motive:=fun _=>R) (ih .leaf fun r=>κ (.node .leaf none r)) (ih .leaf fun l=>κ (.node l none .leaf)) b)
   (fun l v r _ _=>Bool.rec (motive:=fun _=>R) (ih r fun r=>κ (.node l v r)) (ih l fun l=>κ (.node l v r)) b) t)
def Tr.get {α:Type} (t:Tr α) (k:Nat):Option α:=Gm t (Ip k)
def Tr.setK {α R:Type} (_z:R) (x:α) (_n:Nat) (t:Tr α) (k:Nat) (κ:Tr α->R):R:=Bo1 x (Ip k) t κ
structure XH where
 tr:Tr (Option DObj)
 nx:Nat
inductive Out where
 | bad
 | norm (E:Tr DVal) (H:XH)
 | exit (id:Nat) (E:Tr DVal) (H:XH)
 | ret (E:Tr DVal) (H:XH)
 | panic (v:DVal) (E:Tr DVal) (H:XH)
 | panicX (v:DVal) (H:XH)
inductive COut where
 | bad
 | cret (v:DVal) (H:XH)
 | cpanic (v:DVal) (H:XH)
def Dj {R:Type} (n:Nat) (κ:Nat->R):R:=Nat.rec (motive:=fun _=>R) (κ 0) (fun m _=>κ (Nat.succ m)) n
def Bj7 {R:Type} (n:Int) (κ:Int->R):R:=Int.rec (motive:=fun _=>R) (fun m=>Dj m fun m=>κ (.ofNat m)) (fun m=>Dj m fun m=>κ (.negSucc m)) n
def Jo {α R:Type} (l:List α):(List α->R)->R:=List.rec (motive:=fun _=>(List α->R)->R) (fun κ=>κ []) (fun x _ ih κ=>ih fun l=>κ (x::l)) l
def Au5 {R:Type} (b:Bool) (κ:Bool->R):R:=Bool.rec (motive:=fun _=>R) (κ false) (κ true) b
def Hw {α R:Type} (z:R) (κ:α->R) (o:Option α):R:=Option.rec (motive:=fun _=>R) z (fun v=>κ v) o
def Au6 {R:Type} (vs:List DVal):List DVal->(List DVal->R)->R:=
 List.rec (motive:=fun _=>List DVal->(List DVal->R)->R) (fun cs κ=>κ cs) (fun v vs ih cs κ=>List.rec (motive:=fun _=>R) (κ (v::vs)) (fun _ cs _=>ih cs fun r=>κ (v::r)) cs) vs
def Ab4 {R:Type} (vs:List DVal) (off:Nat):List DVal->(List DVal->R)->R:=
 Nat.rec (motive:=fun _=>List DVal->(List DVal->R)->R) (Au6 vs) (fun _ ih cs κ=>List.rec (motive:=fun _=>R) (κ vs) (fun c cs _=>ih cs fun r=>κ (c::r)) cs) off
def Bo2 {R:Type} (xs ys:List DVal):(List DVal->R)->R:=
 List.rec (motive:=fun _=>(List DVal->R)->R) (fun κ=>κ ys) (fun x _ ih κ=>ih fun r=>κ (x::r)) xs
def Sd {R:Type} (n:Nat):List DVal->(List DVal->R)->R:=
 Nat.rec (motive:=fun _=>List DVal->(List DVal->R)->R) (fun _ κ=>κ []) (fun _ ih cs κ=>List.rec (motive:=fun _=>R) (κ []) (fun c cs _=>ih cs fun r=>κ (c::r)) cs) n
def Af8 (n:Nat):List DVal->List DVal:=
 Nat.rec (motive:=fun _=>List DVal->List DVal) (fun cs=>cs) (fun _ ih cs=>List.rec (motive:=fun _=>List DVal) [] (fun _ cs _=>ih cs) cs) n
def Bc8 (n:Nat):List DVal->Option DVal:=
 Nat.rec (motive:=fun _=>List DVal->Option DVal) (fun cs=>List.rec (motive:=fun _=>Option DVal) none (fun c _ _=>some c) cs) (fun _ ih cs=>List.rec (motive:=fun _=>Option DVal) none (fun _ cs _=>ih cs) cs) n
def leN (n:Nat):List DVal->Bool:=
 Nat.rec (motive:=fun _=>List DVal->Bool) (fun _=>true) (fun _ ih cs=>List.rec (motive:=fun _=>Bool) false (fun _ cs _=>ih cs) cs) n
def eqN (n:Nat):List DVal->Bool:=
 Nat.rec (motive:=fun _=>List DVal->Bool) (fun cs=>List.rec (motive:=fun _=>Bool) true (fun _ _ _=>false) cs) (fun _ ih cs=>List.rec (motive:=fun _=>Bool) false (fun _ cs _=>ih cs) cs) n
def Se {R:Type} (z:R) (place:Nat->Option (Nat×Nat)) (parts:List (Nat×DVal)):List DVal->(List DVal->R)->R:=
 List.rec (motive:=fun _=>List DVal->(List DVal->R)->R) (fun cs κ=>κ cs)
  (fun p _ ih cs κ=>Hw z (fun os=>Bool.rec (motive:=fun _=>R) z (Ab4 p.2.cells os.1 cs fun cs=>ih cs κ) (eqN os.2 p.2.cells&&leN (os.1+os.2) cs)) (place p.1)) parts
def Bo3 {R:Type} (v:DVal) (κ:DVal->R):R:=
 match v with
 | .int k n=>Bj7 n fun n=>κ (.int k n)
 | .bool b=>Au5 b fun b=>κ (.bool b)
 | .optr r off=>Dj r fun r=>Dj off fun off=>κ (.optr r off)
 | .oslice sz r off len lo=>Dj r fun r=>Dj off fun off=>Dj len fun len=>Dj lo fun lo=>κ (.oslice sz r off len lo)
 | .vptr cs off=>Dj off fun off=>κ (.vptr cs off)
 | .vslice cs len=>Dj len fun len=>κ (.vslice cs len)
 | .agg cs=>Jo cs fun cs=>κ (.agg cs)
 | .str s=>Jo s fun s=>κ (.str s)
 | .tuple cs=>Jo cs fun cs=>κ (.tuple cs)
 | v=>κ v
def fvK {R:Type} (v:DVal) (κ:DVal->R):R:=
 DVal.casesOn (motive_1:=fun _=>(DVal->R)->R) v (fun v κ=>κ (.raw v)) (fun b κ=>Au5 b fun b=>κ (.bool b)) (fun k n κ=>Bj7 n fun n=>κ (.int k n)) (fun s κ=>Jo s fun s=>κ (.str s)) (fun κ=>κ .nilPtr)
  (fun cs off κ=>Dj off fun off=>κ (.vptr cs off)) (fun r off κ=>Dj r fun r=>Dj off fun off=>κ (.optr r off)) (fun κ=>κ .nilSlice) (fun cs len κ=>Dj len fun len=>κ (.vslice cs len))
  (fun sz r off len lo κ=>Dj r fun r=>Dj off fun off=>Dj len fun len=>Dj lo fun lo=>κ (.oslice sz r off len lo)) (fun κ=>κ .nilMap) (fun r κ=>κ (.omap r)) (fun f a c κ=>κ (.func f a c)) (fun κ=>κ .nilFunc)
  (fun t v κ=>κ (.iface t v)) (fun κ=>κ .nilIface) (fun cs κ=>Jo cs fun cs=>κ (.agg cs)) (fun cs κ=>Jo cs fun cs=>κ (.tuple cs)) κ
def Bf9 {α:Type} (f:α->α->Option α):Option α->Option α->Option α
 | some x,some y=>f x y
 | _,_=>none
def Jp {α:Type} (f:α->α->Option α):Tr α->Tr α->Tr α
 | .node l v r, .node l' v' r'=> .node (Jp f l l') (Bf9 f v v') (Jp f r r')
 | _,_=> .leaf
def Bg0 {α:Type} (g:α->Bool) (f:α->α->Option α):Option α->Option α->Option α->Option α
 | some z,some x,some y=>Bool.rec (motive:=fun _=>Option α) none (f x y) (g z)
 | _,_,_=>none
def Lj {α:Type} (g:α->Bool) (f:α->α->Option α):Tr α->Tr α->Tr α->Tr α
 | .node l v r, .node l1 v1 r1, .node l2 v2 r2=> .node (Lj g f l l1 l2) (Bg0 g f v v1 v2) (Lj g f r r1 r2)
 | _,_,_=> .leaf
def Hg (E:Tr DVal) (H:XH) (dst:Option Nat) (v:DVal):Out:=
 fvK v fun v=>Hw (.norm E H) (fun d=>Tr.setK .bad v 10 E d fun E=> .norm E H) dst
def Pu (E:Tr DVal) (H:XH) (dst:Option Nat) (v:DVal):Out:=Hw (.norm E H) (fun d=>Tr.setK .bad v 10 E d fun E=> .norm E H) dst
def Du (E:Tr DVal) (H:XH) (dst:Option Nat) (o:Option DVal):Out:=Hw .bad (fun v=>Pu E H dst v) o
def Bv (E:Tr DVal) (H:XH) (dst:Option Nat) (o:Option DVal):Out:=Hw .bad (fun v=>Hg E H dst v) o
def Av (H:XH) (k:Nat):Option DObj:=
 match H.tr.get k with
 | some (some o)=>some o
 | _=>none
def foK {R:Type} (o:DObj) (κ:DObj->R):R:=
 match o with
 | .cells cs e=>Jo cs fun cs=>κ (.cells cs e)
 | .map es=>Jo es fun es=>κ (.map es)
 | .iter s pos=>Dj pos fun pos=>κ (.iter s pos)
 | o=>κ o
def Pv (H:XH) (k:Nat) (o:Option DObj) (κ:XH->Out):Out:=
 match H with
 | ⟨tr,nx⟩=>match o with
  | some o=>foK o fun o=>Tr.setK .bad (some o) 24 tr k fun tr=>κ ⟨tr,nx⟩
  | none=>Tr.setK .bad none 24 tr k fun tr=>κ ⟨tr,nx⟩
def Pw (H:XH) (o:DObj) (κ:Nat->XH->Out):Out:=
 match H with
 | ⟨tr,nx⟩=>foK o fun o=>Tr.setK .bad (some o) 24 tr nx fun tr=>Dj (nx+1) fun nx'=>κ nx ⟨tr,nx'⟩
section
variable (P:Program) (gt:Nat->Option DVal)
def evK {R:Type} (z:R) (E:Tr DVal) (o:Operand) (κ:DVal->R):R:=
 match o with
 | .tmp t=>Hw z κ (E.get t)
 | .const v=>κ (Ao v)
 | .global g=>Hw z κ (gt g)
 | .func f=>κ (.func (.func f) [] [])
def Lk {R:Type} (z:R) (E:Tr DVal) (os:List Operand):(List DVal->R)->R:=
 List.rec (motive:=fun _=>(List DVal->R)->R) (fun κ=>κ []) (fun x _ ih κ=>evK gt z E x fun v=>ih fun vs=>κ (v::vs)) os
def Mq {R:Type} (z:R) (E:Tr DVal) (os:List (Nat×Operand)):(List (Nat×DVal)->R)->R:=
 List.rec (motive:=fun _=>(List (Nat×DVal)->R)->R) (fun κ=>κ []) (fun x _ ih κ=>evK gt z E x.2 fun v=>ih fun vs=>κ ((x.1,v)::vs)) os
def Uf {R:Type} (z:R) (E:Tr DVal) (o:Option Operand) (κ:Option DVal->R):R:=
 match o with
 | some x=>evK gt z E x fun v=>κ (some v)
 | none=>κ none
def Af9:DVal->DVal->DVal->Option DVal
 | .bool true,a,_=>some a
 | .bool false,_,b=>some b
 | _,_,_=>none
def Ug:Bool->Option TypeDesc->Option DVal->List (Nat×DVal)->Option DVal
 | true,some (.struct fields),some z,parts=>Se none (Sv P fields) parts z.cells fun l=>some (.agg l)
 | true,some (.array _ e),some z,parts=>Se none (Hy (P.cellsOf e)) parts z.cells fun l=>some (.agg l)
 | _,_,_,_=>none
def Uh (size:Nat) (cs:List DVal) (off:Nat):Option Bool->Option DVal
 | some true=>Bool.rec (motive:=fun _=>Option DVal) none (Sd size (Af8 off cs) fun l=>some (.agg l)) (leN (off+size) cs)
 | some false=>Bc8 off cs
 | none=>none
def Ui (size:Nat) (ag:Option Bool) (off:Nat):Option DObj->Option DVal
 | some (.cells cs _)=>Uh size cs off ag
 | _=>none
def Ag0 (size:Nat) (ag:Option Bool) (H:XH):DVal->Option DVal
 | .vptr cs off=>Uh size cs off ag
 | .optr r off=>Ui size ag off (Av H r)
 | _=>none
def Bc9:DVal->Option DVal
 | .vptr cs off=>some (.vptr cs off)
 | .optr r off=>some (.optr r off)
 | .func (.func f) a c=>some (.func (.func f) a c)
 | .iface t v=>some (.iface t v)
 | .omap r=>some (.omap r)
 | _=>none
def Ab5:Option Bool->Option Bool->Option DVal
 | some false,some b=>some (.bool b)
 | some true,some b=>some (.bool (!b))
 | _,_=>none
def Bg1 (k:IntKind) (a b:Int):BinOp->Option DVal
 | .add=>some (.int k (k.wrap (a+b)))
 | .sub=>some (.int k (k.wrap (a-b)))
 | .mul=>some (.int k (k.wrap (a*b)))
 | .quo=>if b=0 then none else some (.int k (k.wrap (a.tdiv b)))
 | .rem=>if b=0 then none else some (.int k (a.tmod b))
 | .and=>some (.int k (k.wrap (BitVec.ofInt k.bits a&&&BitVec.ofInt k.bits b).toNat))
 | .or=>some (.int k (k.wrap (BitVec.ofInt k.bits a ||| BitVec.ofInt k.bits b).toNat))
 | .xor=>some (.int k (k.wrap (BitVec.ofInt k.bits a^^^BitVec.ofInt k.bits b).toNat))
 | .andNot=>some (.int k (k.wrap (BitVec.ofInt k.bits a&&& ~~~BitVec.ofInt k.bits b).toNat))
 | .eql=>some (.bool (decide (a=b)))
 | .neq=>some (.bool (!decide (a=b)))
 | .lss=>some (.bool (decide (a<b)))
 | .leq=>some (.bool (decide (a<=b)))
 | .gtr=>some (.bool (decide (b<a)))
 | .geq=>some (.bool (decide (b<=a)))
 | _=>none
def Bo4 (op:BinOp) (k:IntKind) (a b:Int):Option DVal:=
 BinOp.casesOn (motive:=fun _=>IntKind->Int->Int->Option DVal) op
  (fun k a b=>some (.int k (k.wrap (a+b))))
  (fun k a b=>some (.int k (k.wrap (a-b))))
  (fun k a b=>some (.int k (k.wrap (a*b))))
  (fun k a b=>if b=0 then none else some (.int k (k.wrap (a.tdiv b))))
  (fun k a b=>if b=0 then none else some (.int k (a.tmod b)))
  (fun k a b=>some (.int k (k.wrap (BitVec.ofInt k.bits a&&&BitVec.ofInt k.bits b).toNat)))
  (fun k a b=>some (.int k (k.wrap (BitVec.ofInt k.bits a ||| BitVec.ofInt k.bits b).toNat)))
  (fun k a b=>some (.int k (k.wrap (BitVec.ofInt k.bits a^^^BitVec.ofInt k.bits b).toNat)))
  (fun _ _ _=>none)
  (fun _ _ _=>none)
  (fun k a b=>some (.int k (k.wrap (BitVec.ofInt k.bits a&&& ~~~BitVec.ofInt k.bits b).toNat)))
  (fun k a b=>some (.bool (decide (a=b))))
  (fun k a b=>some (.bool (!decide (a=b))))
  (fun k a b=>some (.bool (decide (a<b))))
  (fun k a b=>some (.bool (decide (a<=b))))
  (fun k a b=>some (.bool (decide (b<a))))
  (fun k a b=>some (.bool (decide (b<=a)))) k a b
def Bj8 (k:IntKind) (a b:Int) (op:BinOp):Option DVal:=Bo4 op k a b
def Ab6 (k:IntKind) (a b:Int):BinOp->Option DVal
 | .shl=>if 0<=b then some (.int k (k.wrap (a*2^(min b.toNat k.bits)))) else none
 | .shr=>if 0<=b then some (.int k (a.fdiv (2^(min b.toNat k.bits)))) else none
 | _=>none
def Ab7 (a:List UInt8):List UInt8->Bool:=
 List.rec (motive:=fun _=>List UInt8->Bool) (fun b=>List.rec (motive:=fun _=>Bool) true (fun _ _ _=>false) b)
  (fun x _ ih b=>List.rec (motive:=fun _=>Bool) false (fun y ys _=>Bool.rec (motive:=fun _=>Bool) false (ih ys) (Nat.beq x.toNat y.toNat)) b) a
def Bj9 (a b:List UInt8):BinOp->Option DVal
 | .add=>if a.length+b.length<=9223372036854775807 then some (.str (a++b)) else none
 | .eql=>some (.bool (Ab7 a b))
 | .neq=>some (.bool (!Ab7 a b))
 | .lss=>some (.bool (Go.Op.bytesLess a b))
 | .leq=>some (.bool (Go.Op.bytesLess a b || decide (a=b)))
 | .gtr=>some (.bool (!(Go.Op.bytesLess a b || decide (a=b))))
 | .geq=>some (.bool (!Go.Op.bytesLess a b))
 | _=>none
def Bk0 (t:TypeId) (c:Bool) (op:BinOp):DVal->DVal->Option DVal
 | .int k a, .int k' b=>if Ay op then Ab6 k a b op else if k=k' then Bj8 k a b op else none
 | .str a, .str b=>Bj9 a b op
 | .agg xs, .agg ys=>if Bs P t=some true/\P.eqGuardType P.depth t=false then Ab5 (Ed op) (Ht P 6 t xs ys) else none
 | x,y=>Ab5 (Ed op) (Em c (P.underlying t) x y)
def Ag1 (t:TypeId) (c:Bool) (op:BinOp):Bool->DVal->DVal->Option DVal
 | true, .vslice (_::_) _,_=>if Ba2 (P.underlying t) then Ab5 (Ed op) (some false) else none
 | true, .vslice [] _,_=>none
 | _,x,y=>Bk0 P t c op x y
def vUn:UnOp->DVal->Option DVal
 | .not, .bool b=>some (.bool (!b))
 | .neg, .int k n=>some (.int k (k.wrap (0-n)))
 | .xor, .int k n=>some (.int k (k.wrap (BitVec.ofInt k.bits (if k.signed then-1 else k.max)^^^BitVec.ofInt k.bits n).toNat))
 | _,_=>none
def Px:Option TypeDesc->Option TypeDesc->DVal->Option DVal
 | some _,some (.int k), .int _ n=>some (.int k (k.wrap n))
 | some _,some .string, .str l=>some (.str l)
 | _,_,_=>none
def Bk1:Option TypeDesc->Bool
 | some (.int .u8)=>true
 | _=>false
def Bk2 (H:XH):DVal->Option (List DVal)
 | .nilSlice=>some []
 | .vslice cs n=>if n<=cs.length then some (cs.take n) else none
 | .oslice _ r off n _=>Gs n off (Av H r)
 | _=>none
def Uj (H:XH):Option TypeDesc->Option TypeDesc->DVal->Option DVal
 | some (.slice e),some .string,x=>if Bk1 (P.underlying e) then((Bk2 H x).bind Ej).map .str else none
 | a,b,x=>Px a b x
def Mr (l:List UInt8):Option Int->Option Int->Option DVal
 | some lo,some hi=>if 0<=lo/\lo<=hi/\hi<=l.length then some (.str ((l.drop lo.toNat).take (hi.toNat-lo.toNat))) else none
 | _,_=>none
def Oc (size:Nat) (cs:List DVal) (len:Nat):Option Int->Option Int->Option DVal
 | some lo,some hi=>if 0<=lo/\lo<=hi/\hi<=len then some (.vslice ((cs.drop (lo.toNat*size)).take ((hi.toNat-lo.toNat)*size)) (hi.toNat-lo.toNat)) else none
 | _,_=>none
def Ll (size r off cap:Nat):Option Int->Option Int->Option Int->Option DVal
 | some lo,some hi,some mx=>if 0<=lo/\lo<=hi/\hi<=mx/\mx<=cap then some (.oslice size r (off+lo.toNat*size) (hi.toNat-lo.toNat) (mx.toNat-lo.toNat)) else none
 | _,_,_=>none
def Uk:Option Int->Option Int->Option DVal
 | some lo,some hi=>if lo=0/\hi=0 then some .nilSlice else none
 | _,_=>none
def Au7 (n:Nat):Option DObj->Bool
 | some (.cells cs _)=>decide (n<=cs.length)
 | _=>false
def Ul (H:XH) (lo hi:Option DVal):Option TypeDesc->DVal->Option DVal->Option DVal
 | some .string, .str l,none=>Mr l (dLo lo) (dHi l.length hi)
 | some (.slice e), .nilSlice,none=>if(P.info? e).isSome then Uk (dLo lo) (dHi 0 hi) else none
 | some (.slice e), .vslice cs len,none=>if(P.info? e).isSome then Oc (P.cellsOf e) cs len (dLo lo) (dHi len hi) else none
 | some (.slice e), .oslice sz r off len cap,none=>if(P.info? e).isSome&&sz==P.cellsOf e then Ll (P.cellsOf e) r off cap (dLo lo) (dHi len hi) (some cap) else none
 | some (.slice e), .oslice sz r off _ cap,some m=>if(P.info? e).isSome&&sz==P.cellsOf e&&hi.isSome then Ll (P.cellsOf e) r off cap (dLo lo) (dLo hi) (dLo (some m)) else none
 | some (.array n e), .optr r off,none=>if(P.info? e).isSome&&Au7 (off+n*P.cellsOf e) (Av H r) then Ll (P.cellsOf e) r off n (dLo lo) (dHi n hi) (some n) else none
 | some (.array n e), .vptr cs off,none=>if(P.info? e).isSome&&decide (off+n*P.cellsOf e<=cs.length) then Oc (P.cellsOf e) ((cs.drop off).take (n*P.cellsOf e)) n (dLo lo) (dHi n hi) else none
 | _,_,_=>none
def Nl (x:DVal):Option Field->Option DVal
 | some f=>if 0<P.cellsOf f.type then En f.offset x else none
 | none=>none
def Hh (f:Nat) (x:DVal):Option TypeDesc->Option DVal
 | some (.struct fields)=>Nl P x fields[f]?
 | _=>none
def Ag2 (size:Nat) (cs:List DVal) (off:Nat):Option Bool->Option DVal
 | some true=>Sd size (Af8 off cs) fun l=>some (.agg l)
 | some false=>Bc8 off cs
 | none=>none
def Ag3 (cs:List DVal):Option Field->Option DVal
 | some f=>Ag2 (P.cellsOf f.type) cs f.offset (Bs P f.type)
 | none=>none
def Um (f:Nat):Option TypeDesc->DVal->Option DVal
 | some (.struct fields), .agg cs=>Ag3 P cs fields[f]?
 | _,_=>none
def Hj:Option TypeDesc->DVal->DVal->Option DVal
 | some (.slice e), .vslice cs len, .int _ i=>if(P.info? e).isSome=true/\0<=i/\i<len/\leN (i.toNat*P.cellsOf e+1) cs=true then some (.vptr cs (i.toNat*P.cellsOf e)) else none
 | some (.slice e), .oslice _ r off len _, .int _ i=>if(P.info? e).isSome=true/\0<=i/\i<len then some (.optr r (off+i.toNat*P.cellsOf e)) else none
 | some (.array n e),x, .int _ i=>if(P.info? e).isSome=true/\0<=i/\i<n then En (i.toNat*P.cellsOf e) x else none
 | _,_,_=>none
def Un:Option TypeDesc->DVal->DVal->Option DVal
 | some (.array n e), .agg cs, .int _ i=>if 0<=i/\i<n then Ag2 (P.cellsOf e) cs (i.toNat*P.cellsOf e) (Bs P e) else none
 | some .string, .str l, .int _ i=>if 0<=i then l[i.toNat]?.map fun b=> .int .u8 b.toNat else none
 | _,_,_=>none
def Lm (i:Nat):DVal->Option DVal
 | .tuple vs=>vs[i]?
 | _=>none
def Ln:Option DVal->Option DVal
 | some z=>some (.tuple [z, .bool false])
 | none=>none
def Sf (v:DVal) (z:Option DVal):Bool->Bool->Option DVal
 | true,true=>some (.tuple [v, .bool true])
 | true,false=>Ln z
 | false,true=>some v
 | false,false=>none
def Fv (asserted:TypeId) (commaOk:Bool):Bool->DVal->Option DVal
 | true, .iface t v=>Sf v (Ah P asserted) commaOk (decide (t=asserted))
 | true, .nilIface=>if commaOk then Ln (Ah P asserted) else none
 | _,_=>none
def Bk3:Option TypeDesc->DVal->Option DVal
 | some .string, .str l=>some (.int .i64 l.length)
 | some (.array n _),_=>some (.int .i64 n)
 | some (.slice _), .nilSlice=>some (.int .i64 0)
 | some (.slice _), .vslice _ n=>some (.int .i64 n)
 | some (.slice _), .oslice _ _ _ n _=>some (.int .i64 n)
 | _,_=>none
def Ab8 (x:DVal):List TypeId->Option DVal
 | [t]=>Bk3 (P.underlying t) x
 | _=>none
def Ri (env:Nat->DVal) (n:Nat):List (DVal×DVal):=(List.range n).map fun i=>(env (2*i),env (2*i+1))
def Uo (ok:Bool) (v:DVal) (b:Bool):DVal:=if ok then .tuple [v, .bool b] else v
def Kh (es:List (DVal×DVal)) (ok:Bool):Option DVal->Option (Option Nat)->Option DVal
 | _,some (some i)=>es[i]?.map fun p=>Uo ok p.2 true
 | some z,some none=>some (Uo ok z false)
 | _,_=>none
def Au8 (z:Option DVal) (k:DVal) (ok:Bool):Option DObj->Option DVal
 | some (.map es)=>Kh es ok z (Bb k es 0)
 | some (.loop env n _)=>Kh (Ri env n) ok z (Bb k (Ri env n) 0)
 | _=>none
def Od (H:XH) (ok:Bool):Option TypeDesc->DVal->DVal->Option DVal
 | some (.map kt e), .omap r,k=>if Ct P (P.underlying kt) k then Au8 (Ah P e) k ok (Av H r) else none
 | some (.map kt e), .nilMap,k=>if Ct P (P.underlying kt) k then Kh [] ok (Ah P e) (some none) else none
 | _,_,_=>none
def Hk (t:TypeId) (x:DVal):Bool->Option DVal
 | true=>some (.iface t x)
 | false=>none
def Xf (E:Tr DVal) (H:XH) (dst:Option Nat) (cs:List DVal) (e:TypeId):Out:=
 Pw H (.cells cs e) fun k H=>Hg E H dst (.optr k 0)
def Xg (E:Tr DVal) (H:XH) (dst:Option Nat) (cs:List DVal) (e:TypeId) (sz len cap:Nat):Out:=
 Pw H (.cells cs e) fun k H=>Hg E H dst (.oslice sz k 0 len cap)
def Au9 (E:Tr DVal) (H:XH) (dst:Option Nat):Out:=Pw H (.map []) fun k H=>Hg E H dst (.omap k)
def Fw (E:Tr DVal) (H:XH) (dst:Option Nat) (len:Nat):Option TypeDesc->List (Nat×DVal)->Out
 | some (.slice e),parts=>Hw .bad (fun z=>Bool.rec (motive:=fun _=>Out) .bad (Se .bad (Hy (P.cellsOf e)) parts (repl len z.cells) fun cs=>Xg E H dst cs e (P.cellsOf e) len len) (decide (len*P.cellsOf e<=16777216)&&z.cells.length==P.cellsOf e)) (Ah P e)
 | _,_=> .bad
def Hl (E:Tr DVal) (H:XH) (dst:Option Nat):Option TypeDesc->DVal->DVal->Out
 | some (.slice e), .int _ l, .int _ c=>Hw .bad (fun z=>Bool.rec (motive:=fun _=>Out) .bad (Dj l.toNat fun l=>Dj c.toNat fun c=>Xg E H dst (repl c z.cells) e (P.cellsOf e) l c)
   (decide (0<=l)&&decide (l<=c)&&decide (c*(P.bytesOf e:Int)<=35184372088832)&&decide (c<9223372036854775808)&&z.cells.length==P.cellsOf e&&decide (0<P.cellsOf e))) (Ah P e)
 | _,_,_=> .bad
def Ag4 (E:Tr DVal) (H:XH) (size r off:Nat) (v:DVal):Option DObj->Out
 | some (.cells cs e)=>Bool.rec (motive:=fun _=>Out) .bad (Ab4 v.cells off cs fun cs=>Pv H r (some (.cells cs e)) fun H=> .norm E H) (eqN size v.cells&&v.cells.all (·.one)&&leN (off+size) cs)
 | _=> .bad
def Up (E:Tr DVal) (H:XH) (size:Nat):Option Nat->DVal->DVal->Out
 | none, .optr r off,v=>Ag4 E H size r off v (Av H r)
 | _,_,_=> .bad
def Ab9 (size:Nat) (H:XH):DVal->Option (Nat×List DVal)
 | .nilSlice=>some (0,[])
 | .vslice cs n=>Sd (n*size) cs fun l=>some (n,l)
 | .oslice _ r off n _=>Gc size n off (Av H r)
 | .str l=>some (l.length,l.map fun b=> .int .u8 b.toNat)
 | _=>none
def Py (E:Tr DVal) (H:XH) (dst:Option Nat) (e:TypeId) (size bytes r off len lo n:Nat) (news:List DVal):Option DObj->Out
 | some (.cells cs e')=>Bool.rec (motive:=fun _=>Out) .bad
   (Bool.rec (motive:=fun _=>Out)
    (Bool.rec (motive:=fun _=>Out) .bad
     (Pv H r none fun H=>Sd (len*size) (Af8 off cs) fun old=>Bo2 old news fun cs=>Pw H (.cells cs e) fun k H=>Hg E H dst (.oslice size k 0 (len+n) (len+n)))
     (leN (off+len*size) cs&&decide ((len+n)*bytes<=35184372088832)&&Nat.ble len lo&&Nat.beq off 0))
    (Bool.rec (motive:=fun _=>Out) .bad
     (Ab4 news (off+len*size) cs fun cs=>Pv H r (some (.cells cs e)) fun H=>Hg E H dst (.oslice size r off (len+n) lo))
     (leN (off+(len+n)*size) cs))
    (Nat.ble (len+n) lo))
   (Nat.beq e' e)
 | _=> .bad
def Sg (E:Tr DVal) (H:XH) (dst:Option Nat) (e:TypeId) (size bytes n:Nat) (news:List DVal):DVal->Out
 | .nilSlice=>Bool.rec (motive:=fun _=>Out) (Bool.rec (motive:=fun _=>Out) .bad (Xg E H dst news e size n n) (decide (n*bytes<=35184372088832))) (Hg E H dst .nilSlice) (Nat.beq n 0)
 | .oslice sz r off len lo=>Bool.rec (motive:=fun _=>Out) .bad (Py E H dst e size bytes r off len lo n news (Av H r)) (Nat.beq sz size)
 | _=> .bad
def Xh (E:Tr DVal) (H:XH) (dst:Option Nat) (e:TypeId) (size bytes:Nat) (x:DVal):Option (Nat×List DVal)->Out
 | some (n,news)=>Bool.rec (motive:=fun _=>Out) .bad (Sg E H dst e size bytes n news x) (eqN (n*size) news&&news.all (·.one))
 | none=> .bad
def Ag5 (E:Tr DVal) (H:XH) (dst:Option Nat) (x y:DVal):Option TypeDesc->Out
 | some (.slice e)=>Bool.rec (motive:=fun _=>Out) .bad (Xh E H dst e (P.cellsOf e) (P.bytesOf e) x (Ab9 (P.cellsOf e) H y))
   ((Ah P e).isSome&&(Ah P e).all (fun z=>z.cells.length=P.cellsOf e)&&decide (0<P.cellsOf e)&&decide (0<P.bytesOf e))
 | _=> .bad
def Ms (E:Tr DVal) (H:XH) (dst:Option Nat) (x y:DVal):List TypeId->Out
 | [t,t']=>Bool.rec (motive:=fun _=>Out) .bad (Ag5 P E H dst x y (P.underlying t)) (!Df (P.underlying t')&&Jx (P.underlying t'))
 | _=> .bad
def Jf (E:Tr DVal) (H:XH) (dst:Option Nat):Option TypeDesc->DVal->DVal->DVal->Out
 | some (.map kt _), .omap r,k,v=>match dst,Ct P (P.underlying kt) k&&v.one,Av H r with
  | none,true,some (.map es)=>Hw .bad (fun i=>Pv H r (some (.map (Tb es k v i))) fun H=> .norm E H) (Bb k es 0)
  | _,_,_=> .bad
 | _,_,_,_=> .bad
def Lo (E:Tr DVal) (H:XH) (dst:Option Nat):Option TypeDesc->Option DVal->Out
 | some (.map _ _),none=>Au9 E H dst
 | some (.map _ _),some (.int _ _)=>Au9 E H dst
 | _,_=> .bad
def Uq (E:Tr DVal) (H:XH) (dst:Option Nat):Option TypeDesc->DVal->Out
 | some .string, .str l=>Pw H (.iter l 0) fun k H=>Hg E H dst (.optr k 0)
 | _,_=> .bad
def Av0 (E:Tr DVal) (H:XH) (dst:Option Nat) (r:Nat):Option DObj->Out
 | some (.iter l pos)=>Bool.rec (motive:=fun _=>Out) (Hg E H dst (.tuple [.bool false]))
   (Dj (Ew l pos).1 fun c=>Dj (Ew l pos).2 fun n=>Pv H r (some (.iter l (pos+n))) fun H=>Hg E H dst (.tuple [.bool true, .int .i64 pos, .int .i32 c])) (decide (pos<l.length))
 | _=> .bad
def Ag6 (E:Tr DVal) (H:XH) (dst:Option Nat):Bool->DVal->Out
 | true, .optr r 0=>Av0 E H dst r (Av H r)
 | _,_=> .bad
def Av1 (E:Tr DVal) (dst:Option Nat):COut->Out
 | .bad=> .bad
 | .cret v H=>Hg E H dst v
 | .cpanic v H=> .panic v E H
def Ac0 (call:Nat->List DVal->XH->COut) (E:Tr DVal) (H:XH) (dst:Option Nat) (args:List DVal):DVal->Out
 | .func (.func k) first captured=>Av1 E dst (call k (first++args++captured) H)
 | _=> .bad
def Pz (E:Tr DVal) (H:XH) (dst:Option Nat) (ts:List TypeId):Builtin->List DVal->Out
 | .len,[x]=>Bv E H dst (Ab8 P x ts)
 | .append,[x,y]=>Ms P E H dst x y ts
 | .min,xs=>Bv E H dst (Cn false xs)
 | .max,xs=>Bv E H dst (Cn true xs)
 | .panic,[.iface t v]=> .panic (.iface t v) E H
 | _,_=> .bad
def Ur (call:Nat->List DVal->XH->COut) (E:Tr DVal) (H:XH) (dst:Option Nat) (c:Call):Callee->Out
 | .value f=>evK gt .bad E f fun f=>Lk gt .bad E c.args.toList fun args=>Ac0 call E H dst args f
 | .builtin b=>Lk gt .bad E c.args.toList fun args=>Pz P E H dst c.argTypes.toList b args
 | .invoke _ _=> .bad
def Us (E:Tr DVal) (H:XH):DVal->Out
 | .iface t v=> .panic (.iface t v) E H
 | _=> .bad
def Bo5 (call:Nat->List DVal->XH->COut) (E:Tr DVal) (H:XH) (dst:Option Nat):Op->Out
 | .move x=>evK gt .bad E x fun v=>Pu E H dst v
 | .assign x=>evK gt .bad E x fun v=>Pu E H dst v
 | .pick c a b=>evK gt .bad E c fun c=>evK gt .bad E a fun a=>evK gt .bad E b fun b=>Du E H dst (Af9 c a b)
 | .alloc e=>Hw .bad (fun z=>Xf E H dst (DVal.cells z) e) (Ah P e)
 | .box e x=>evK gt .bad E x fun x=>Xf E H dst x.cells e
 | .build t ps=>Mq gt .bad E ps.toList fun ps=>Bv E H dst (Ug P (Iy P t) (P.underlying t) (Ah P t) ps)
 | .buildSlice t n ps=>Mq gt .bad E ps.toList fun ps=>Fw P E H dst n (P.underlying t) ps
 | .load t a=>evK gt .bad E a fun a=>Du E H dst (Ag0 (P.cellsOf t) (Bs P t) H a)
 | .store t a x=>evK gt .bad E a fun a=>evK gt .bad E x fun x=>Bool.rec (motive:=fun _=>Out) .bad (Up E H (P.cellsOf t) dst a x) (P.info? t).isSome
 | .nilCheck x=>evK gt .bad E x fun x=>Du E H dst (Bc9 x)
 | .binOp op t x y _=>evK gt .bad E x fun vx=>evK gt .bad E y fun vy=>Bv E H dst (Ag1 P t (Ax x || Ax y) op (Bo y) vx vy)
 | .unOp op _ x=>evK gt .bad E x fun x=>Bv E H dst (vUn op x)
 | .convert src t x=>evK gt .bad E x fun x=>Bv E H dst (Uj P H (P.underlying src) (P.underlying t) x)
 | .makeInterface t x=>evK gt .bad E x fun x=>Bv E H dst (Hk t x (An (P.underlying t)))
 | .makeFunc fn fs cs=>Lk gt .bad E fs.toList fun fs=>Lk gt .bad E cs.toList fun cs=>Hg E H dst (.func fn fs cs)
 | .makeMap t r=>Uf gt .bad E r fun r=>Lo E H dst (P.underlying t) r
 | .lookup t x k ok=>evK gt .bad E x fun x=>evK gt .bad E k fun k=>Bv E H dst (Od P H ok (P.underlying t) x k)
 | .mapUpdate t m k x=>evK gt .bad E m fun m=>evK gt .bad E k fun k=>evK gt .bad E x fun x=>Jf P E H dst (P.underlying t) m k x
 | .insert t m k x=>evK gt .bad E m fun m=>evK gt .bad E k fun k=>evK gt .bad E x fun x=>Jf P E H dst (P.underlying t) m k x
 | .makeSlice t l c=>evK gt .bad E l fun l=>evK gt .bad E c fun c=>Hl P E H dst (P.underlying t) l c
 | .slice t x lo hi mx=>evK gt .bad E x fun x=>Uf gt .bad E lo fun lo=>Uf gt .bad E hi fun hi=>Uf gt .bad E mx fun mx=>Bv E H dst (Ul P H lo hi (P.underlying t) x mx)
 | .fieldAddr t x f=>evK gt .bad E x fun x=>Bv E H dst (Hh P f x (P.underlying t))
 | .field t x f=>evK gt .bad E x fun x=>Du E H dst (Um P f (P.underlying t) x)
 | .indexAddr t x i=>evK gt .bad E x fun x=>evK gt .bad E i fun i=>Bv E H dst (Hj P (P.underlying t) x i)
 | .index t x i=>evK gt .bad E x fun x=>evK gt .bad E i fun i=>Bv E H dst (Un P (P.underlying t) x i)
 | .typeAssert x _ t ok=>evK gt .bad E x fun x=>Du E H dst (Fv P t ok (An (P.underlying t)) x)
 | .extract x i=>evK gt .bad E x fun x=>Du E H dst (Lm i x)
 | .panic x=>evK gt .bad E x fun x=>Us E H x
 | .range t x=>evK gt .bad E x fun x=>Uq E H dst (P.underlying t) x
 | .next x b=>evK gt .bad E x fun x=>Ag6 E H dst b x
 | .call c=>Ur P gt call E H dst c c.callee
 | _=> .bad
def xop (call:Nat->List DVal->XH->COut) (E:Tr DVal) (H:XH) (dst:Option Nat) (op:Op):Out:=
 Op.casesOn (motive:=fun _=>Program->(Nat->Option DVal)->(Nat->List DVal->XH->COut)->Tr DVal->XH->Option Nat->Out) op
  (fun x P gt call E H dst=>evK gt .bad E x fun v=>Pu E H dst v)
  (fun x P gt call E H dst=>evK gt .bad E x fun v=>Pu E H dst v)
  (fun c a b P gt call E H dst=>evK gt .bad E c fun c=>evK gt .bad E a fun a=>evK gt .bad E b fun b=>Du E H dst (Af9 c a b))
  (fun e P gt call E H dst=>Hw .bad (fun z=>Xf E H dst (DVal.cells z) e) (Ah P e))
  (fun e x P gt call E H dst=>evK gt .bad E x fun x=>Xf E H dst x.cells e)
  (fun t ps P gt call E H dst=>Mq gt .bad E ps.toList fun ps=>Bv E H dst (Ug P (Iy P t) (P.underlying t) (Ah P t) ps))
  (fun t n ps P gt call E H dst=>Mq gt .bad E ps.toList fun ps=>Fw P E H dst n (P.underlying t) ps)
  (fun t m k x P gt call E H dst=>evK gt .bad E m fun m=>evK gt .bad E k fun k=>evK gt .bad E x fun x=>Jf P E H dst (P.underlying t) m k x)
  (fun t a P gt call E H dst=>evK gt .bad E a fun a=>Du E H dst (Ag0 (P.cellsOf t) (Bs P t) H a))
  (fun t a x P gt call E H dst=>evK gt .bad E a fun a=>evK gt .bad E x fun x=>Bool.rec (motive:=fun _=>Out) .bad (Up E H (P.cellsOf t) dst a x) (P.info? t).isSome)
  (fun _ _ _ _ _ _ _=> .bad)
  (fun _ _ _ _ _ _ _=> .bad)
  (fun x P gt call E H dst=>evK gt .bad E x fun x=>Du E H dst (Bc9 x))
  (fun op t x y _ P gt call E H dst=>evK gt .bad E x fun vx=>evK gt .bad E y fun vy=>Bv E H dst (Ag1 P t (Ax x || Ax y) op (Bo y) vx vy))
  (fun op _ x P gt call E H dst=>evK gt .bad E x fun x=>Bv E H dst (vUn op x))
  (fun src t x P gt call E H dst=>evK gt .bad E x fun x=>Bv E H dst (Uj P H (P.underlying src) (P.underlying t) x))
  (fun _ _ _ _ _ _ _ _=> .bad)
  (fun t x P gt call E H dst=>evK gt .bad E x fun x=>Bv E H dst (Hk t x (An (P.underlying t))))
  (fun fn fs cs P gt call E H dst=>Lk gt .bad E fs.toList fun fs=>Lk gt .bad E cs.toList fun cs=>Hg E H dst (.func fn fs cs))
  (fun t r P gt call E H dst=>Uf gt .bad E r fun r=>Lo E H dst (P.underlying t) r)
  (fun _ _ _ _ _ _ _ _=> .bad)
  (fun t l c P gt call E H dst=>evK gt .bad E l fun l=>evK gt .bad E c fun c=>Hl P E H dst (P.underlying t) l c)
  (fun t x lo hi mx P gt call E H dst=>evK gt .bad E x fun x=>Uf gt .bad E lo fun lo=>Uf gt .bad E hi fun hi=>Uf gt .bad E mx fun mx=>Bv E H dst (Ul P H lo hi (P.underlying t) x mx))
  (fun t x f P gt call E H dst=>evK gt .bad E x fun x=>Bv E H dst (Hh P f x (P.underlying t)))
  (fun t x f P gt call E H dst=>evK gt .bad E x fun x=>Du E H dst (Um P f (P.underlying t) x))
  (fun t x i P gt call E H dst=>evK gt .bad E x fun x=>evK gt .bad E i fun i=>Bv E H dst (Hj P (P.underlying t) x i))
  (fun t x i P gt call E H dst=>evK gt .bad E x fun x=>evK gt .bad E i fun i=>Bv E H dst (Un P (P.underlying t) x i))
  (fun t x k ok P gt call E H dst=>evK gt .bad E x fun x=>evK gt .bad E k fun k=>Bv E H dst (Od P H ok (P.underlying t) x k))
  (fun t m k x P gt call E H dst=>evK gt .bad E m fun m=>evK gt .bad E k fun k=>evK gt .bad E x fun x=>Jf P E H dst (P.underlying t) m k x)
  (fun _ _ _ _ _ _ _ _ _=> .bad)
  (fun _ _ _ _ _ _ _ _ _ _=> .bad)
  (fun t x P gt call E H dst=>evK gt .bad E x fun x=>Uq E H dst (P.underlying t) x)
  (fun x b P gt call E H dst=>evK gt .bad E x fun x=>Ag6 E H dst b x)
  (fun _ _ _ _ _ _ _=> .bad)
  (fun x _ t ok P gt call E H dst=>evK gt .bad E x fun x=>Du E H dst (Fv P t ok (An (P.underlying t)) x))
  (fun x i P gt call E H dst=>evK gt .bad E x fun x=>Du E H dst (Lm i x))
  (fun c P gt call E H dst=>Ur P gt call E H dst c c.callee)
  (fun _ _ _ _ _ _ _=> .bad)
  (fun _ _ _ _ _ _ _=> .bad)
  (fun x P gt call E H dst=>evK gt .bad E x fun x=>Us E H x)
  (fun _ _ _ _ _ _ _ _=> .bad)
  (fun _ _ _ _ _ _ _ _ _=> .bad)
  (fun _ _ _ _ _ _ _ _=> .bad) P gt call E H dst
def Iq (o:Out) (κ:Tr DVal->XH->Out):Out:=
 match o with
 | .norm E H=>κ E H
 | o=>o
def Av2 (all:List Oper) (E:Tr DVal):Option (Nat×Bool)->Option Bool
 | none=>some true
 | some (j,b)=>match Fl all j with
  | some g=>match E.get g,b with
   | some (.bool true),true=>some true
   | some (.bool false),false=>some true
   | some (.bool _),_=>some false
   | some (.tuple []),_=>some false
   | _,_=>none
  | none=>none
def Av3 (call:Nat->List DVal->XH->COut) (all:List Oper) (E:Tr DVal) (H:XH) (o:Oper):Out:=
 match Av2 all E o.guard with
 | some true=>xop P gt call E H o.dst o.op
 | some false=>Hg E H o.dst Aw
 | none=> .bad
def Bk4 (call:Nat->List DVal->XH->COut) (all:List Oper) (ops:List Oper):Tr DVal->XH->Out:=
 List.rec (motive:=fun _=>Tr DVal->XH->Out) (fun E H=> .norm E H) (fun o _ ih E H=>Iq (Av3 P gt call all E H o) ih) ops
mutual
def Ac1:DVal->DVal->Bool
 | .bool a, .bool b=>a==b
 | .int k a, .int k' b=>decide (k=k')&&decide (a=b)
 | .str a, .str b=>decide (a=b)
 | .nilPtr, .nilPtr=>true
 | .optr r o, .optr r' o'=>Nat.beq r r'&&Nat.beq o o'
 | .oslice a b c d e, .oslice a' b' c' d' e'=>Nat.beq a a'&&Nat.beq b b'&&Nat.beq c c'&&Nat.beq d d'&&Nat.beq e e'
 | .vptr cs o, .vptr cs' o'=>Nat.beq o o'&&Db cs cs'
 | .nilSlice, .nilSlice=>true
 | .vslice cs n, .vslice cs' n'=>Nat.beq n n'&&Db cs cs'
 | .nilMap, .nilMap=>true
 | .nilFunc, .nilFunc=>true
 | .nilIface, .nilIface=>true
 | .iface t v, .iface t' v'=>Nat.beq t t'&&Ac1 v v'
 | .agg cs, .agg cs'=>Db cs cs'
 | .tuple cs, .tuple cs'=>Db cs cs'
 | .func (.func f) a c, .func (.func f') a' c'=>Nat.beq f f'&&Db a a'&&Db c c'
 | _,_=>false
def Db:List DVal->List DVal->Bool
 | [],[]=>true
 | a::al,b::bl=>Ac1 a b&&Db al bl
 | _,_=>false
end
def Ac2:Option DObj->Option DObj->Bool
 | some (.cells cs e),some (.cells cs' e')=>Nat.beq e e'&&Db cs cs'
 | some (.iter s p),some (.iter s' p')=>decide (s=s')&&Nat.beq p p'
 | _,_=>false
def Ac3 (H H':XH):DVal->Bool
 | .optr r _=>Ac2 (Av H r) (Av H' r)
 | .oslice _ r _ _ _=>Ac2 (Av H r) (Av H' r)
 | _=>true
def Av4 (E:Tr DVal) (H H':XH):Option Operand->Bool
 | some a=>evK gt false E a fun v=>Ac3 H H' v
 | none=>true
def Qa (all:List Oper) (E:Tr DVal) (H H':XH):List Nat->Bool
 | []=>true
 | l::ls=>Av4 gt E H H' (Hd (As all l))&&Qa all E H H' ls
def xat (call:Nat->List DVal->XH->COut) (all:List Oper) (E:Tr DVal) (H:XH) (i:Nat):Out:=
 match As all i with
 | some o=>Av3 P gt call all E H o
 | none=> .bad
def Xi:Out->Out
 | .norm E H=> .norm E H
 | .panic v _ H=> .panicX v H
 | _=> .bad
mutual
def By:DVal->Bool
 | .raw _ | .bool _ | .int _ _ | .str _ | .nilPtr | .nilSlice | .nilMap | .nilFunc | .nilIface=>true
 | .vptr cs _=>Cc cs
 | .vslice cs _=>Cc cs
 | .agg cs=>Cc cs
 | .tuple cs=>Cc cs
 | .iface _ v=>By v
 | .func _ a c=>Cc a&&Cc c
 | _=>false
def Cc:List DVal->Bool
 | []=>true
 | v::vs=>By v&&Cc vs
end
def Fz (π:List (Nat×Nat)) (k:Nat):Option Nat:=
 List.rec (motive:=fun _=>Option Nat) none (fun x _ ih=>Bool.rec (motive:=fun _=>Option Nat) ih (some x.2) (Nat.beq x.1 k)) π
def Nw (π:List (Nat×Nat)) (nx k k':Nat):Bool:=
 Bool.rec (motive:=fun _=>Bool) (match Fz π k with | some j=>Nat.beq j k' | none=>false) (Nat.beq k k') (Nat.blt k nx)
mutual
def eqP (π:List (Nat×Nat)) (nx:Nat):DVal->DVal->Bool
 | .bool a, .bool b=>a==b
 | .int k a, .int k' b=>decide (k=k')&&decide (a=b)
 | .str a, .str b=>Ab7 a b
 | .nilPtr, .nilPtr=>true
 | .optr r o, .optr r' o'=>Nw π nx r r'&&Nat.beq o o'
 | .oslice a b c d e, .oslice a' b' c' d' e'=>Nat.beq a a'&&Nw π nx b b'&&Nat.beq c c'&&Nat.beq d d'&&Nat.beq e e'
 | .omap r, .omap r'=>Nw π nx r r'
 | .vptr cs o, .vptr cs' o'=>Nat.beq o o'&&Jk π nx cs cs'
 | .nilSlice, .nilSlice=>true
 | .vslice cs n, .vslice cs' n'=>Nat.beq n n'&&Jk π nx cs cs'
 | .nilMap, .nilMap=>true
 | .nilFunc, .nilFunc=>true
 | .nilIface, .nilIface=>true
 | .iface t v, .iface t' v'=>Nat.beq t t'&&eqP π nx v v'
 | .agg cs, .agg cs'=>Jk π nx cs cs'
 | .tuple cs, .tuple cs'=>Jk π nx cs cs'
 | .func (.func f) a c, .func (.func f') a' c'=>Nat.beq f f'&&Jk π nx a a'&&Jk π nx c c'
 | _,_=>false
def Jk (π:List (Nat×Nat)) (nx:Nat):List DVal->List DVal->Bool
 | [],[]=>true
 | a::al,b::bl=>eqP π nx a b&&Jk π nx al bl
 | _,_=>false
end
mutual
def Bk5 (nx:Nat):DVal->DVal->List (Nat×Nat)->List (Nat×Nat)
 | .optr r _, .optr r' _,π=>Bk6 nx r r' π
 | .oslice _ r _ _ _, .oslice _ r' _ _ _,π=>Bk6 nx r r' π
 | .omap r, .omap r',π=>Bk6 nx r r' π
 | .iface _ v, .iface _ v',π=>Bk5 nx v v' π
 | .agg cs, .agg cs',π=>Qb nx cs cs' π
 | .tuple cs, .tuple cs',π=>Qb nx cs cs' π
 | .func _ a c, .func _ a' c',π=>Qb nx c c' (Qb nx a a' π)
 | _,_,π=>π
def Qb (nx:Nat):List DVal->List DVal->List (Nat×Nat)->List (Nat×Nat)
 | a::al,b::bl,π=>Qb nx al bl (Bk5 nx a b π)
 | _,_,π=>π
def Bk6 (nx r r':Nat) (π:List (Nat×Nat)):List (Nat×Nat):=
 match Nat.blt r nx,Fz π r with
 | false,none=>(r,r')::π
 | _,_=>π
end
def Ao2 (nx:Nat):Tr DVal->Tr DVal->List (Nat×Nat)->List (Nat×Nat)
 | .node l v r, .node l' v' r',π=>Ao2 nx r r' (Ao2 nx l l' (match v,v' with | some x,some y=>Bk5 nx x y π | _,_=>π))
 | _,_,π=>π
def Bd0 (nx:Nat) (A A':XH) (π0:List (Nat×Nat)) (π:List (Nat×Nat)):List (Nat×Nat):=
 π0.foldl (fun π x=>match Av A x.1,Av A' x.2 with
  | some (.cells cs _),some (.cells cs' _)=>Qb nx cs cs' π
  | _,_=>π) π
def Ao3 (nx:Nat) (t:Tr (Option DObj)) (t1 t2:Tr (Option DObj)) (π:List (Nat×Nat)):List (Nat×Nat):=
 match t,t1,t2 with
 | .node l v r, .node l1 v1 r1, .node l2 v2 r2=>Ao3 nx r r1 r2 (Ao3 nx l l1 l2 (match v,v1,v2 with
  | some (some _),some (some (.cells cs _)),some (some (.cells cs' _))=>Qb nx cs cs' π
  | _,_,_=>π))
 | _,_,_=>π
def Ut (es:List (DVal×DVal)):Bool:=es.all fun p=>By p.1&&By p.2
def Bg2:List (DVal×DVal)->Bool
 | (.agg [.bool _, .bool _],_)::_=>true
 | _=>false
def lkB (es es':List (DVal×DVal)) (k:DVal):Bool:=
 match Bb k es 0,Bb k es' 0 with
 | some none,some none=>true
 | some (some i),some (some j)=>match es[i]?,es'[j]? with
  | some p,some p'=>Ac1 p.2 p'.2&&By p.2
  | _,_=>false
 | _,_=>false
def lkA (es es':List (DVal×DVal)):Bool:=
 Bg2 es&&Ut es'&&lkB es es' (.agg [.bool true, .bool true])&&lkB es es' (.agg [.bool true, .bool false])&&lkB es es' (.agg [.bool false, .bool true])&&lkB es es' (.agg [.bool false, .bool false])
def Bk7 (es:List (DVal×DVal)) (i:Nat):DVal:=
 match es[i/2]? with
 | some p=>Bool.rec (motive:=fun _=>DVal) p.2 p.1 (Nat.beq (i%2) 0)
 | none=> .nilPtr
def Ag7:Loop:= { state:= .ready,pending:=none,fn:=0,tmps:= #[],params:= #[],assign:= .skip,body:= .skip,defers:=0 }
def Lp (π:List (Nat×Nat)) (nx:Nat):Option DObj->Option DObj->Option (Option DObj)
 | some (.cells cs e),some (.cells cs' e')=>Bool.rec (motive:=fun _=>Option (Option DObj)) none (some (some (.cells cs e))) (Nat.beq e e'&&Jk π nx cs cs')
 | some (.iter l p),some (.iter l' p')=>Bool.rec (motive:=fun _=>Option (Option DObj)) none (some (some (.iter l p))) (Ab7 l l'&&Nat.beq p p')
 | some (.map es),some (.map es')=>Bool.rec (motive:=fun _=>Option (Option DObj)) none (some (some (.loop (Bk7 es) es.length Ag7))) (lkA (Ri (Bk7 es) es.length) es&&lkA (Ri (Bk7 es) es.length) es')
 | some (.loop env n _),some (.map es')=>Bool.rec (motive:=fun _=>Option (Option DObj)) none (some (some (.loop env n Ag7))) (lkA (Ri env n) es')
 | some (.map es),some (.loop env n _)=>Bool.rec (motive:=fun _=>Option (Option DObj)) none (some (some (.loop env n Ag7))) (lkA (Ri env n) es)
 | some (.loop env n _),some (.loop env' n' _)=>Bool.rec (motive:=fun _=>Option (Option DObj)) none (some (some (.loop env n Ag7))) (lkA (Ri env n) (Ri env' n'))
 | _,_=>none
def Uu {α:Type}:Option α->Bool
 | some _=>true
 | none=>false
def Hm (π:List (Nat×Nat)) (nx:Nat) (A A':XH) (ks:List (Nat×Nat)):Tr (Option DObj)->(Tr (Option DObj)->Out)->Out:=
 List.rec (motive:=fun _=>Tr (Option DObj)->(Tr (Option DObj)->Out)->Out) (fun t κ=>κ t)
  (fun x _ ih t κ=>match Fz π x.1 with
   | some j=>match Lp π nx (Av A x.1) (Av A' j) with
    | some (some o)=>Tr.setK .bad (some o) 24 t x.1 fun t=>ih t κ
    | _=>ih t κ
   | none=>ih t κ) ks
def Uv:List (Nat×Nat)->Bool
 | []=>true
 | x::l=>(l.all fun y=>!Nat.beq x.2 y.2)&&Uv l
def Bd1 (π:List (Nat×Nat)) (nx mx:Nat):Bool:=(π.all fun x=>Nat.ble nx x.1&&Nat.ble nx x.2&&Nat.blt x.1 mx)&&Uv π
def Av5 (E0:Tr DVal) (A0:XH):Out->Out->Out
 | .norm E A, .norm E' A'=>
  Jo (Bd0 A0.nx A A' (Bd0 A0.nx A A' (Ao3 A0.nx A0.tr A.tr A'.tr (Ao2 A0.nx E E' [])) (Ao3 A0.nx A0.tr A.tr A'.tr (Ao2 A0.nx E E' []))) (Bd0 A0.nx A A' (Ao3 A0.nx A0.tr A.tr A'.tr (Ao2 A0.nx E E' [])) (Ao3 A0.nx A0.tr A.tr A'.tr (Ao2 A0.nx E E' [])))) fun π=>
  Dj (max A0.nx (max A.nx A'.nx)) fun mx=>Bool.rec (motive:=fun _=>Out) .bad
   (Hm π A0.nx A A' π (Lj Uu (Lp π A0.nx) A0.tr A.tr A'.tr) fun t=> .norm (Jp (fun v w=>Bool.rec (motive:=fun _=>Option DVal) none (some v) (eqP π A0.nx v w)) E E') ⟨t,mx⟩)
   (Bd1 π A0.nx mx)
 | _,_=> .bad
def Lq (call:Nat->List DVal->XH->COut) (all:List Oper):Plan->Tr DVal->XH->Out
 | .done,E,H=> .norm E H
 | .take i p,E,H=>Iq (xat P gt call all E H i) fun E H=>Lq call all p E H
 | .go i ls p,E,H=>Iq (xat P gt call all E H i) fun E' H'=>Bool.rec (motive:=fun _=>Out) .bad (Lq call all p E' H') (Qa gt all E H H' ls)
 | .alt p q,E,H=>Av5 E H (Lq call all p E H) (Lq call all q E H)
inductive LOut where
 | more (E:Tr DVal) (H:XH)
 | stop (o:Out)
def Xj (body:Tr DVal->XH->Out) (E:Tr DVal) (H:XH):LOut:=
 match body E H with
 | .norm E H=> .more E H
 | o=> .stop o
def Qc (f:Tr DVal->XH->LOut) (E:Tr DVal) (H:XH):LOut:=
 match f E H with
 | .more E H=>f E H
 | .stop o=> .stop o
def Qd (body:Tr DVal->XH->Out) (n:Nat):Tr DVal->XH->LOut:=
 Nat.rec (motive:=fun _=>Tr DVal->XH->LOut) (Xj body) (fun _ ih=>Qc ih) n
def Bg3:LOut->Out
 | .stop o=>o
 | .more _ _=> .bad
def Uw (id:Nat):Out->Out
 | .exit id' E H=>Bool.rec (motive:=fun _=>Out) (.exit id' E H) (.norm E H) (Nat.beq id' id)
 | o=>o
def Bg4 (x y:Out):DVal->Out
 | .bool true=>x
 | .bool false=>y
 | _=> .bad
def Lr (args:List DVal):Nat->Tr DVal->(Tr DVal->COut)->COut:=
 List.rec (motive:=fun _=>Nat->Tr DVal->(Tr DVal->COut)->COut) (fun _ E κ=>κ E) (fun x _ ih k E κ=>Tr.setK .bad x 10 E k fun E=>Dj (k+1) fun k=>ih k E κ) args
def Ag8 (E:Tr DVal) (H:XH):ResultVar->Option DVal
 | .tmp t=>E.get t
 | .cell x t=>match E.get x with
  | some (.optr r off)=>Ui (P.cellsOf t) (Bs P t) off (Av H r)
  | _=>none
def Nm (E:Tr DVal) (H:XH):List ResultVar->Option (List DVal)
 | []=>some []
 | r::rs=>Wr (Ag8 P E H r) (Nm E H rs)
def Ao4 (rs:List ResultVar) (E:Tr DVal) (H:XH):COut:=Hw .bad (fun v=>fvK v fun v=> .cret v H) (Br (Nm P E H rs))
def Bo6 (rs:List ResultVar):Out->COut
 | .norm E H=>Ao4 P rs E H
 | .ret E H=>Ao4 P rs E H
 | .panic v _ H=> .cpanic v H
 | .panicX v H=> .cpanic v H
 | _=> .bad
structure Late where
 A1:Code
 A2:Code
 d:Nat
 g:FuncId
 caps:List Operand
 C:Code
def Qe:Code->Option Late
 | .seq A1 (.seq A2 (.seq (.region _ ⟨[⟨some d, .makeFunc (.func g) ⟨[]⟩ ⟨caps⟩,_,_,_,none⟩,⟨none, .defer ⟨.value (.tmp d'),⟨[]⟩,⟨[]⟩⟩,_,_,_,none⟩]⟩ false) C))=>if d'=d then some ⟨A1,A2,d,g,caps,C⟩ else none
 | _=>none
def Sh:Code->Option (Nat×Nat×Code)
 | .seq (.region _ ⟨[⟨some t1, .call ⟨.builtin .recover,⟨[]⟩,⟨[]⟩⟩,_,_,_,none⟩,⟨some t2, .assign (.tmp t1'),_,_,_,none⟩]⟩ false) cc=>if t1'=t1 then some (t1,t2,cc) else none
 | _=>none
end
end
end Go.Dl
