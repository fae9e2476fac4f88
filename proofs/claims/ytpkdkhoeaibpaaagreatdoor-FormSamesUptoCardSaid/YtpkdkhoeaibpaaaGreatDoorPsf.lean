/- The data level and the contracts of the functions that are reached (part 6). -/
import Derived.Test.YtpkdkhoeaibpaaaGreatDoorProg
import Derived.Lib.Space
import Derived.ChangeSame
import Derived.Deep.Slices
import Derived.RowKit3
import Derived.Test.YtpkdkhoeaibpaaaGreatDoorPse
set_option linter.unusedSimpArgs false
set_option linter.unusedVariables false
set_option linter.unusedSectionVars false
-- AN INTERPRETER OF THE DATA LEVEL, PART 7: what it says of code and of calls is true.
namespace Go.Dl
open Go
section
variable {X:XP} {G:Nat->DVal} {call:Nat->List DVal->XH->COut}
variable {B:Aa} {ρ:Nat->Option Nat} {E:Tr DVal} {A:XH} {s:DS} {K:DK} {Q:DExit->DS->Prop}
theorem Ai4 {W:DK} {o:Out} {κ:Tr DVal->XH->Out} (h:Au B ρ Q (Nv o κ)) (k: ∀ρ' E' A' s',Ble ρ ρ'->RS B ρ' E' A' s'->Au B ρ' Q (κ E' A')->W s'):Au B ρ (Db W Q) o:=by
 cases o with
 | bad=>exact h
 | norm E' A'=>exact fun ρ' s' hl hS=>k ρ' E' A' s' hl hS (Au.le hl h)
 | exit id E' A'=>exact h
 | ret E' A'=>exact h
 | panic v E' A'=>exact h
 | panicX v A'=>exact h
theorem Ve {all:List Oper} (hS:RS B ρ E A s) {gd:Option (Nat×Bool)} {w:Bool} (h:Ca5 all E gd=some w):
  (gd=none/\w=true)\/ ∃j b g,gd=some (j,b)/\Ih all j=some g/\((∃v,s.env g= .bool v/\w=(v==b))\/(s.env g= .tuple []/\w=false)):=by
 unfold Ca5 at h;split at h
 ·cases h;exact .inl ⟨rfl,rfl⟩
 ·rename_i j b
  split at h
  ·rename_i g hg
   refine .inr ⟨j,b,g,rfl,hg, ?_⟩;cases hv:E.get g with
   | none=>rw[hv] at h;cases b<;>cases h
   | some x=>
    have hr:=hS.env g x hv;rw[hv] at h;cases x<;>simp only[RV] at hr
    case bool c=>cases c<;>cases b<;>cases h<;>exact .inl ⟨_,hr,rfl⟩
    case tuple cs=>cases cs with
     | nil=>
      simp only[RVL] at hr;obtain⟨cs',hr,rfl⟩:=hr;cases b<;>cases h<;>exact .inr ⟨hr,rfl⟩
     | cons x cs=>cases b<;>cases h
    all_goals (cases b<;>cases h)
  ·cases h
theorem Be8 (hX:XOk X G) (hc:Tm X.P G call) (all:List Oper): ∀(ops:List Oper) (E:Tr DVal) (A:XH) (s:DS) (ρ:Nat->Option Nat),RS B ρ E A s->Au B ρ Q (Cv6 X.P X.gt call all ops E A)->Hb X.P G all Q ops s
 | [],E,A,s,ρ,hS,h=>h ρ s (Ble.refl _) hS
 | o::ops,E,A,s,ρ,hS,h=>by
  have h:Au B ρ Q (Nv (Ca6 X.P X.gt call all E A o) (Cv6 X.P X.gt call all ops)):=h;have h1:=Ai4 (W:=Hb X.P G all Q ops) h fun ρ' E' A' s' _ hS' h'=>Be8 hX hc all ops E' A' s' ρ' hS' h';simp only[Hb];unfold Ca6 at h1;split at h1
  ·rename_i hw
   rcases Ve hS hw with⟨hg,_⟩ | ⟨j,b,g,hg,hd,hv⟩
   ·rw[hg];exact Ai2 hX.gt hc hS _ h1
   ·rw[hg];simp only[hd];rcases hv with⟨v,hv,hvb⟩ | ⟨_,hf⟩
    ·rw[hv];have:v=b:=by simpa using hvb.symm
     exact⟨fun _=>Ai2 hX.gt hc hS _ h1,fun hn=>(hn this).elim⟩
    ·cases hf
  ·rename_i hw
   rcases Ve hS hw with⟨_,hf⟩ | ⟨j,b,g,hg,hd,hv⟩
   ·cases hf
   ·rw[hg];simp only[hd];rcases hv with⟨v,hv,hvb⟩ | ⟨hv,_⟩
    ·rw[hv];have:v≠b:=by simpa using hvb.symm
     exact⟨fun hn=>(this hn).elim,fun _=>Dz hS .undef h1⟩
    ·rw[hv];exact Dz hS .undef h1
  ·exact h1.elim
theorem Cb9 {W:DK} {o:Out} {κ:Tr DVal->XH->Out} (h:Au B ρ Q (Aq0 (Nv o κ))) (k: ∀ρ' E' A' s',Ble ρ ρ'->RS B ρ' E' A' s'->Au B ρ' Q (Aq0 (κ E' A'))->W s'):Au B ρ (Db W (QP Q)) o:=by
 cases o with
 | bad=>exact h
 | norm E' A'=>exact fun ρ' s' hl hS=>k ρ' E' A' s' hl hS (Au.le hl h)
 | exit id E' A'=>exact h.elim
 | ret E' A'=>exact h.elim
 | panic v E' A'=>exact fun ρ' s' v' hl hS hv env=>h ρ' ⟨env,s'.heap⟩ v' hl hS.heap hv
 | panicX v A'=>exact h.elim
theorem Aa4 {ρ':Nat->Option Nat} {A':XH} {s':DS} (hS:RS B ρ E A s) {E':Tr DVal} (hS':RS B ρ' E' A' s') (hl:Ble ρ ρ') {k r:Nat} (hr:ρ k=some r) (h:Az1 (Bc A k) (Bc A' k)=true):s'.heap r=s.heap r:=by
 obtain⟨he,o,ho⟩:=Cl3 h;obtain⟨r1,o1,h1,h2,h3⟩:=hS.heap.obj k o ho;obtain⟨r2,o2,k1,k2,k3⟩:=hS'.heap.obj k o (by rw[<-he];exact ho);rw[hr] at h1;cases h1;rw[hl k r hr] at k1;cases k1;rw[ho] at h;have h3:=h3.mono hl;cases o with
 | cells cs e=>
  obtain⟨x,rfl,g1⟩:=h3;obtain⟨y,rfl,g2⟩:=k3;rw[h2,k2,RVL.fn g1 g2]
 | iter s p=>
  simp only[RO] at h3 k3;rw[h2,k2,h3,k3]
 | map es=>exfalso;revert h;unfold Az1;split<;>simp_all
 | loop=>exfalso;revert h;unfold Az1;split<;>simp_all
theorem Cc0 {ρ':Nat->Option Nat} {A':XH} {s':DS} (hS:RS B ρ E A s) {E':Tr DVal} (hS':RS B ρ' E' A' s') (hl:Ble ρ ρ') {v v':DVal} (hv:RV ρ v v') (h:Az2 A A' v=true):Ev s.heap s'.heap v':=by
 cases v<;>simp only[RV] at hv
 case optr r off=>
  obtain⟨r',rfl,hr⟩:=hv;exact Aa4 hS hS' hl hr h
 case oslice a b c d e=>
  obtain⟨r',rfl,hr⟩:=hv;exact Aa4 hS hS' hl hr h
 all_goals first
  | (subst hv;trivial)
  | (obtain⟨_,rfl,_⟩:=hv;trivial)
  | (obtain⟨_,_,rfl,_⟩:=hv;trivial)
theorem Ar9 (hX:XOk X G) {ρ':Nat->Option Nat} {A':XH} {s':DS} (hS:RS B ρ E A s) {E':Tr DVal} (hS':RS B ρ' E' A' s') (hl:Ble ρ ρ') (all:List Oper): ∀ {ls:List Nat},Xi X.gt all E A A' ls=true->Bc6 G all s s'.heap ls
 | [],_=>trivial
 | l::ls,h=>by
  simp only[Xi,Bool.and_eq_true] at h;refine⟨?_,Ar9 hX hS hS' hl all h.2⟩;have h:=h.1;revert h;cases Lu (Bz all l) with
  | none=>intro _;trivial
  | some a=>
   intro h;simp only[Ca7] at h;rcases Az4 hX.gt hS a (fun v=>Az2 A A' v) (z:=false) with e | ⟨v,h1,e⟩
   ·rw[e] at h;cases h
   ·rw[e] at h;exact Cc0 hS hS' hl h1 h
theorem Cc1 (hX:XOk X G) (hc:Tm X.P G call) {all:List Oper} (hS:RS B ρ E A s) {i:Nat} (h:Au B ρ (Db K Q) (xat X.P X.gt call all E A i)):dAt X.P G all K Q s (Bz all i):=by
 unfold xat at h;split at h
 ·rename_i o ho
  rw[ho];show Bm0 X.P G all K Q s o.dst o.op o.guard;unfold Ca6 at h;split at h
  ·rename_i hw
   rcases Ve hS hw with⟨hg,_⟩ | ⟨j,b,g,hg,hd,hv⟩
   ·rw[hg];exact Ai2 hX.gt hc hS _ h
   ·rw[hg];simp only[Bm0,hd,Kx];rcases hv with⟨v,hv,hvb⟩ | ⟨_,hf⟩
    ·rw[hv];have:v=b:=by simpa using hvb.symm
     subst this;cases v<;>exact Ai2 hX.gt hc hS _ h
    ·cases hf
  ·rename_i hw
   rcases Ve hS hw with⟨_,hf⟩ | ⟨j,b,g,hg,hd,hv⟩
   ·cases hf
   ·rw[hg];simp only[Bm0,hd,Kx];have:=Dz hS .undef h;rcases hv with⟨v,hv,hvb⟩ | ⟨hv,_⟩
    ·rw[hv];have hne:v≠b:=by simpa using hvb.symm
     cases v<;>cases b<;>first | exact this | exact(hne rfl).elim
    ·rw[hv];cases b<;>exact this
  ·exact h.elim
 ·exact h.elim
mutual
theorem Ba4 {π:List (Nat×Nat)} {nx:Nat} {ρ2 ρ0:Nat->Option Nat} (hid: ∀k k' r,Ur π nx k k'=true->ρ2 k'=some r->ρ0 k=some r): ∀ {v w d:DVal},eqP π nx v w=true->RV ρ2 w d->RV ρ0 v d
 | .raw _,w,d,h,hr=>by
  cases w<;>first | (cases (show false=true from h);done) | skip
 | .bool a,w,d,h,hr=>by
  cases w<;>first | (cases (show false=true from h);done) | skip
  rename_i c;have h:(a==c)=true:=h;rw[eq_of_beq h];simpa only[RV] using hr
 | .int k n,w,d,h,hr=>by
  cases w<;>first | (cases (show false=true from h);done) | skip
  rename_i k' n';have h:(decide (k=k')&&decide (n=n'))=true:=h;simp only[Bool.and_eq_true,decide_eq_true_eq] at h;rw[h.1,h.2];simpa only[RV] using hr
 | .str l,w,d,h,hr=>by
  cases w<;>first | (cases (show false=true from h);done) | skip
  rename_i c;have h:Ay6 l c=true:=h;rw[Vb] at h;rw[of_decide_eq_true h];simpa only[RV] using hr
 | .nilPtr,w,d,h,hr=>by
  cases w<;>first | (cases (show false=true from h);done) | skip
  simpa only[RV] using hr
 | .nilSlice,w,d,h,hr=>by
  cases w<;>first | (cases (show false=true from h);done) | skip
  simpa only[RV] using hr
 | .nilMap,w,d,h,hr=>by
  cases w<;>first | (cases (show false=true from h);done) | skip
  simpa only[RV] using hr
 | .nilFunc,w,d,h,hr=>by
  cases w<;>first | (cases (show false=true from h);done) | skip
  simpa only[RV] using hr
 | .nilIface,w,d,h,hr=>by
  cases w<;>first | (cases (show false=true from h);done) | skip
  simpa only[RV] using hr
 | .optr r o,w,d,h,hr=>by
  cases w<;>first | (cases (show false=true from h);done) | skip
  rename_i r' o';have h:(Ur π nx r r'&&Nat.beq o o')=true:=h;simp only[Bool.and_eq_true] at h;simp only[RV] at hr⊢;obtain⟨a,rfl,e⟩:=hr;exact⟨a,by rw[Bq h.2],hid _ _ _ h.1 e⟩
 | .omap r,w,d,h,hr=>by
  cases w<;>first | (cases (show false=true from h);done) | skip
  rename_i r';have h:Ur π nx r r'=true:=h;simp only[RV] at hr⊢;obtain⟨a,rfl,e⟩:=hr;exact⟨a,rfl,hid _ _ _ h e⟩
 | .oslice x y z u v,w,d,h,hr=>by
  cases w<;>first | (cases (show false=true from h);done) | skip
  rename_i x' y' z' u' v';have h:(Nat.beq x x'&&Ur π nx y y'&&Nat.beq z z'&&Nat.beq u u'&&Nat.beq v v')=true:=h;simp only[Bool.and_eq_true] at h;simp only[RV] at hr⊢;obtain⟨a,rfl,e⟩:=hr;exact⟨a,by rw[Bq h.1.1.1.1,Bq h.1.1.2,Bq h.1.2,Bq h.2],hid _ _ _ h.1.1.1.2 e⟩
 | .vptr cs o,w,d,h,hr=>by
  cases w<;>first | (cases (show false=true from h);done) | skip
  rename_i cs' o';have h:(Nat.beq o o'&&Oq π nx cs cs')=true:=h;simp only[Bool.and_eq_true] at h;simp only[RV] at hr⊢;obtain⟨a,rfl,e⟩:=hr;exact⟨a,by rw[Bq h.1],Ki hid h.2 e⟩
 | .vslice cs o,w,d,h,hr=>by
  cases w<;>first | (cases (show false=true from h);done) | skip
  rename_i cs' o';have h:(Nat.beq o o'&&Oq π nx cs cs')=true:=h;simp only[Bool.and_eq_true] at h;simp only[RV] at hr⊢;obtain⟨a,rfl,e⟩:=hr;exact⟨a,by rw[Bq h.1],Ki hid h.2 e⟩
 | .iface t v,w,d,h,hr=>by
  cases w<;>first | (cases (show false=true from h);done) | skip
  rename_i t' v';have h:(Nat.beq t t'&&eqP π nx v v')=true:=h;simp only[Bool.and_eq_true] at h;simp only[RV] at hr⊢;obtain⟨a,rfl,e⟩:=hr;exact⟨a,by rw[Bq h.1],Ba4 hid h.2 e⟩
 | .agg cs,w,d,h,hr=>by
  cases w<;>first | (cases (show false=true from h);done) | skip
  rename_i cs';have h:Oq π nx cs cs'=true:=h;simp only[RV] at hr⊢;obtain⟨a,rfl,e⟩:=hr;exact⟨a,rfl,Ki hid h e⟩
 | .tuple cs,w,d,h,hr=>by
  cases w<;>first | (cases (show false=true from h);done) | skip
  rename_i cs';have h:Oq π nx cs cs'=true:=h;simp only[RV] at hr⊢;obtain⟨a,rfl,e⟩:=hr;exact⟨a,rfl,Ki hid h e⟩
 | .func f x y,w,d,h,hr=>by
  cases f<;>cases w<;>first | (cases (show false=true from h);done) | skip
  rename_i f g x' y'
  cases g<;>first | (cases (show false=true from h);done) | skip
  rename_i g
  have h:(Nat.beq f g&&Oq π nx x x'&&Oq π nx y y')=true:=h
  simp only[Bool.and_eq_true] at h
  simp only[RV] at hr⊢
  obtain⟨a,b,rfl,e1,e2⟩:=hr
  exact⟨a,b,by rw[Bq h.1.1],Ki hid h.1.2 e1,Ki hid h.2 e2⟩
theorem Ki {π:List (Nat×Nat)} {nx:Nat} {ρ2 ρ0:Nat->Option Nat} (hid: ∀k k' r,Ur π nx k k'=true->ρ2 k'=some r->ρ0 k=some r): ∀ {v w d:List DVal},Oq π nx v w=true->RVL ρ2 w d->RVL ρ0 v d
 | [],[],_,_,hr=>by simpa only[RVL] using hr
 | [],_::_,_,h,_=>by cases (show false=true from h)
 | _::_,[],_,h,_=>by cases (show false=true from h)
 | a::al,b::bl,_,h,hr=>by
  have h:(eqP π nx a b&&Oq π nx al bl)=true:=h
  simp only[Bool.and_eq_true] at h
  obtain⟨x,xs,rfl,h1,h2⟩:=hr.inv
  exact .cons (Ba4 hid h.1 h1) (Ki hid h.2 h2)
end
theorem As0 {k:DVal} {c d r:Bool} (h:Jj k (.agg [.bool c, .bool d])=some r): ∃a b,k= .agg [.bool a, .bool b]:=by
 unfold Jj at h;split at h;all_goals first | (cases h;done) | skip
 all_goals first | (rename_i heq;cases heq;done) | skip
 exact⟨_,_,rfl⟩
theorem Ai5 {es es':List (DVal×DVal)} {k:DVal} {r:Option Nat} (h:lkB es es' k=true) (hr:Cl k es 0=some r): ∃r',Cl k es' 0=some r'/\
  ((r=none/\r'=none)\/ ∃i j p p',r=some i/\r'=some j/\es[i]? =some p/\es'[j]? =some p'/\p.2=p'.2/\Ej p.2=true):=by
 unfold lkB at h;rw[hr] at h;split at h
 ·rename_i h1 h2;cases h1;exact⟨none,h2, .inl ⟨rfl,rfl⟩⟩
 ·rename_i i j h1 h2
  cases h1;split at h
  ·rename_i p p' e1 e2
   simp only[Bool.and_eq_true] at h;exact⟨some j,h2, .inr ⟨i,j,p,p',rfl,rfl,e1,e2,Vd h.1,h.2⟩⟩
  ·cases h
 ·cases h
theorem Cc2 {es es':List (DVal×DVal)} (h:lkA es es'=true):LK es es'/\Ah1 es'=true:=by
 unfold lkA at h;simp only[Bool.and_eq_true] at h;obtain⟨⟨⟨⟨⟨h0,hp⟩,h1⟩,h2⟩,h3⟩,h4⟩:=h;refine⟨fun k r hr=> ?_,hp⟩;have hk: ∃a b,k= .agg [.bool a, .bool b]:=by
  unfold Cn8 at h0;split at h0
  ·simp only[Cl] at hr;unfold Ll at hr;split at hr
   ·rename_i e;exact As0 e
   ·rename_i e;exact As0 e
   ·cases hr
  ·cases h0
 obtain⟨a,b,rfl⟩:=hk;cases a<;>cases b
 ·exact Ai5 h4 hr
 ·exact Ai5 h3 hr
 ·exact Ai5 h2 hr
 ·exact Ai5 h1 hr
theorem Aa5 {ρ:Nat->Option Nat}: ∀ {es c:List (DVal×DVal)},Ah1 es=true->RVM ρ es c->c=es
 | [],c,_,h=>by simp only[RVM] at h;exact h
 | p::es,c,hp,h=>by
  obtain⟨q,qs,rfl,h1,h2,h3⟩:=h;simp only[Ah1,List.all_cons,Bool.and_eq_true] at hp;have e1:=h1.fn (Lf hp.1.1);have e2:=h2.fn (Lf hp.1.2);have:q=p:=by obtain⟨a,b⟩:=q;obtain⟨c,d⟩:=p;simp only at e1 e2;rw[e1,e2]
  rw[this,Aa5 hp.2 h3]
theorem Hl {α:Type} {x y:α} {b:Bool} (h:Bool.rec (motive:=fun _=>Option α) none (some x) b=some y):b=true/\x=y:=by
 cases b with
 | false=>cases h
 | true=>cases h;exact⟨rfl,rfl⟩
theorem Ai6 {ρ:Nat->Option Nat} {env:Nat->DVal} {n:Nat} {l:Loop} {es:List (DVal×DVal)} {o:DObj} (h:lkA (Yq env n) es=true) (ho:RO ρ (.map es) o) {ρ':Nat->Option Nat}:RO ρ' (.loop env n l) o:=by
 obtain⟨c,rfl,hc⟩:=ho;obtain⟨h1,h2⟩:=Cc2 h;obtain rfl:=Aa5 h2 hc;exact⟨_,rfl,h1⟩
theorem Xx {π:List (Nat×Nat)} {nx:Nat} {ρ1 ρ2 ρ0:Nat->Option Nat} (hid: ∀k k' r,Ur π nx k k'=true->ρ2 k'=some r->ρ0 k=some r) {a b y:Option DObj} (h:Rs π nx a b=some y):
  ∃x z o,a=some x/\b=some z/\y=some o/\(∀c,RO ρ1 x c->RO ρ1 o c)/\(∀c,RO ρ2 z c->RO ρ0 o c):=by
 unfold Rs at h;split at h
 ·obtain⟨hb,rfl⟩:=Hl h;simp only[Bool.and_eq_true] at hb;refine⟨_,_,_,rfl,rfl,rfl,fun c hc=>hc,fun c hc=> ?_⟩;obtain⟨cs',rfl,hl⟩:=hc;exact⟨cs',by rw[Bq hb.1],Ki hid hb.2 hl⟩
 ·obtain⟨hb,rfl⟩:=Hl h;simp only[Bool.and_eq_true] at hb;refine⟨_,_,_,rfl,rfl,rfl,fun c hc=>hc,fun c hc=> ?_⟩;have h1:=hb.1;rw[Vb] at h1;simp only[RO] at hc⊢
  rw[hc,of_decide_eq_true h1,Bq hb.2]
 ·obtain⟨hb,rfl⟩:=Hl h;simp only[Bool.and_eq_true] at hb;exact⟨_,_,_,rfl,rfl,rfl,fun c hc=>Ai6 hb.1 hc,fun c hc=>Ai6 hb.2 hc⟩
 ·obtain⟨hb,rfl⟩:=Hl h;exact⟨_,_,_,rfl,rfl,rfl,fun c hc=>hc,fun c hc=>Ai6 hb hc⟩
 ·obtain⟨hb,rfl⟩:=Hl h;exact⟨_,_,_,rfl,rfl,rfl,fun c hc=>Ai6 hb hc,fun c hc=>hc⟩
 ·obtain⟨hb,rfl⟩:=Hl h;refine⟨_,_,_,rfl,rfl,rfl,fun c hc=>hc,fun c hc=> ?_⟩;obtain⟨es',rfl,h2⟩:=hc;exact⟨es',rfl,(Cc2 hb).1.trans h2⟩
 ·cases h
theorem Bp2 {A:XH} {k:Nat} {o:DObj} (h:Bc A k=some o):A.tr.get k=some (some o):=by
 unfold Bc at h;split at h
 ·rename_i heq;cases h;exact heq
 ·cases h
theorem Ai7 {A:XH} {k:Nat} {o:DObj} (h:A.tr.get k=some (some o)):Bc A k=some o:=by
 unfold Bc;rw[h]
theorem On {π:List (Nat×Nat)} {nx:Nat} {A A':XH}: ∀(ks:List (Nat×Nat)) (t:Tr (Option DObj)) (κ:Tr (Option DObj)->Out),Mf π nx A A' ks t κ= .bad\/
  ∃t',Mf π nx A A' ks t κ=κ t'/\ ∀k o,t'.get k=some (some o)->t.get k=some (some o)\/ ∃j,Kl π k=some j/\Rs π nx (Bc A k) (Bc A' j)=some (some o)
 | [],t,κ=> .inr ⟨t,rfl,fun k o hk=> .inl hk⟩
 | x::ks,t,κ=>by
  have e0:Mf π nx A A' (x::ks) t κ=(match Kl π x.1 with
   | some j=>match Rs π nx (Bc A x.1) (Bc A' j) with
    | some (some o)=>Tr.setK Out.bad (some o) 24 t x.1 fun t=>Mf π nx A A' ks t κ
    | _=>Mf π nx A A' ks t κ
   | none=>Mf π nx A A' ks t κ):=rfl
  rw[e0]
  split
  ·rename_i j hj
   split
   ·rename_i o ho
    rcases Hj (z:=Out.bad) (x:=some o) 24 t x.1 (fun t=>Mf π nx A A' ks t κ) with e | ⟨t1,h1,e⟩
    ·exact .inl e
    ·rw[e]
     rcases On ks t1 κ with e | ⟨t',h2,h3⟩
     ·exact .inl e
     ·refine .inr ⟨t',h2,fun k o' hk=> ?_⟩
      rcases h3 k o' hk with h4 | h4
      ·rw[h1] at h4
       by_cases c:k=x.1
       ·rw[if_pos c] at h4
        cases h4
        rw[c]
        exact .inr ⟨j,hj,ho⟩
       ·rw[if_neg c] at h4;exact .inl h4
      ·exact .inr h4
   ·exact On ks t κ
  ·exact On ks t κ
theorem Ji {k j:Nat}: ∀ {π:List (Nat×Nat)},Kl π k=some j->(k,j)∈π
 | [],h=>by cases h
 | x::π,h=>by
  have h:Bool.rec (motive:=fun _=>Option Nat) (Kl π k) (some x.2) (Nat.beq x.1 k)=some j:=h;cases hb:Nat.beq x.1 k with
  | false=>rw[hb] at h;exact List.mem_cons_of_mem _ (Ji h)
  | true=>
   rw[hb] at h;cases h;have:=Bq hb;obtain⟨a,b⟩:=x;simp only at this;subst this;exact List.mem_cons_self
theorem Aa6: ∀ {π:List (Nat×Nat)},Ah3 π=true-> ∀ {k k' j:Nat},(k,j)∈π->(k',j)∈π->k=k'
 | [],_,_,_,_,h,_=>by cases h
 | x::π,hn,k,k',j,h,h'=>by
  simp only[Ah3,Bool.and_eq_true,List.all_eq_true,Bool.not_eq_true'] at hn;rcases List.mem_cons.1 h with e | e<;>rcases List.mem_cons.1 h' with e' | e'
  ·rw[<-e] at e';cases e';rfl
  ·have:=hn.1 _ e';rw[<-e] at this;simp only[Nat.beq_refl] at this;cases this
  ·have:=hn.1 _ e;rw[<-e'] at this;simp only[Nat.beq_refl] at this;cases this
  ·exact Aa6 hn.2 e e'
theorem Cl4 (hS:RS B ρ E A s) {o1 o2:Out} (h:Au B ρ Q (Aq0 (Ca8 E A o1 o2))):Au B ρ Q (Aq0 o1)/\Au B ρ Q (Aq0 o2):=by
 cases o1<;>try (exact h.elim)
 cases o2<;>try (exact h.elim)
 rename_i E1 A1 E2 A2
 unfold Ca8 at h;simp only[Rv,Hr] at h;generalize hmx:max A.nx (max A1.nx A2.nx)=mx at h;generalize (Ck0 A.nx A1 A2 _ _)=π at h;have hb:Ck1 π A.nx mx=true:=by
  cases hb:Ck1 π A.nx mx with
  | true=>rfl
  | false=>rw[hb] at h;exact h.elim
 rw[hb] at h;have h:Au B ρ Q (Aq0 (Mf π A.nx A1 A2 π (Rm Ah2 (Rs π A.nx) A.tr A1.tr A2.tr) fun t=> .norm (Pa (fun v w=>Bool.rec (motive:=fun _=>Option DVal) none (some v) (eqP π A.nx v w)) E1 E2) ⟨t,mx⟩)):=h;rcases On (π:=π) (nx:=A.nx) (A:=A1) (A':=A2) π (Rm Ah2 (Rs π A.nx) A.tr A1.tr A2.tr) (fun t=>Out.norm (Pa (fun v w=>Bool.rec (motive:=fun _=>Option DVal) none (some v) (eqP π A.nx v w)) E1 E2) ⟨t,mx⟩) with e | ⟨t',e,ht⟩
 ·rw[e] at h;exact h.elim
 rw[e] at h;have h:Au B ρ Q (.norm (Pa (fun v w=>Bool.rec (motive:=fun _=>Option DVal) none (some v) (eqP π A.nx v w)) E1 E2) ⟨t',mx⟩):=h;simp only[Ck1,Bool.and_eq_true,List.all_eq_true] at hb;obtain⟨hb1,hb2⟩:=hb;have hn0:A.nx<=mx:=by omega
 have hn1:A1.nx<=mx:=by omega
 have hn2:A2.nx<=mx:=by omega
 have henv: ∀i v,(Pa (fun v w=>Bool.rec (motive:=fun _=>Option DVal) none (some v) (eqP π A.nx v w)) E1 E2).get i=some v->E1.get i=some v/\ ∃w,E2.get i=some w/\eqP π A.nx v w=true:=fun i v hi=>by
  obtain⟨a,b,h1,h2,h3⟩:=Cb1 hi;obtain⟨hq,rfl⟩:=Hl h3;exact⟨h1,b,h2,hq⟩
 have hblk: ∀k o,Bc ⟨t',mx⟩ k=some o-> ∃j,((k<A.nx/\j=k)\/(A.nx<=k/\Kl π k=some j))/\Rs π A.nx (Bc A1 k) (Bc A2 j)=some (some o):=fun k o hk=>by
  rcases ht k o (Bp2 hk) with h1 | ⟨j,h1,h2⟩
  ·obtain⟨z,a,b,g1,g2,g3,g4,g5⟩:=Bn6 h1;cases z with
   | none=>cases g2
   | some z=>
    refine⟨k, .inl ⟨hS.heap.live (Ai7 g1),rfl⟩, ?_⟩;obtain⟨x,y,o',rfl,rfl,_⟩:=Xx (ρ1:=ρ) (ρ2:=ρ) (ρ0:=fun k=>if k<A.nx then ρ k else(Kl π k).bind ρ) (by
     intro k k' r hid e;unfold Ur at hid;cases hlt:Nat.blt k A.nx with
     | true=>
      rw[hlt] at hid;have e1:=Bq hid;have:k<A.nx:=by simpa [Nat.blt_eq] using hlt
      simp only[this,if_true];rw[e1];exact e
     | false=>
      rw[hlt] at hid;have: ¬k<A.nx:=fun c=>by
       have h9:Nat.blt k A.nx=true:=by rw[Nat.blt_eq];exact c
       rw[h9] at hlt;cases hlt
      simp only[this,if_false];cases hp:Kl π k with
      | none=>rw[hp] at hid;cases hid
      | some j=>rw[hp] at hid;rw[Bq hid];exact e) g5
    rw[Ai7 g3,Ai7 g4];exact g5
  ·have:=hb1 _ (Ji h1);exact⟨j, .inr ⟨Nat.le_of_ble_eq_true this.1.1,h1⟩,h2⟩
 constructor
 ·intro ρ1 s1 hl hS1;refine h ρ1 s1 hl ⟨fun i v hi=>hS1.env i v (henv i v hi).1, ?_⟩;have hlive: ∀k o,Bc ⟨t',mx⟩ k=some o-> ∃x,Bc A1 k=some x/\ ∀c,RO ρ1 x c->RO ρ1 o c:=fun k o hk=>by
   obtain⟨j,_,hm⟩:=hblk k o hk;obtain⟨x,z,o',e1,_,e3,e4,_⟩:=Xx (ρ1:=ρ1) (ρ2:=fun _=>none) (ρ0:=fun _=>none) (fun _ _ _ _ e=>by cases e) hm;cases e3;exact⟨x,e1,e4⟩
  exact⟨fun k o hk=>by
    obtain⟨x,h1,h2⟩:=hlive k o hk;obtain⟨r,o',g1,g2,g3⟩:=hS1.heap.obj k x h1;exact⟨r,o',g1,g2,h2 _ g3⟩,
   fun k k' r o o' hk hk' e e'=>by
    obtain⟨x,h1,_⟩:=hlive k o hk;obtain⟨x',h1',_⟩:=hlive k' o' hk';exact hS1.heap.inj k k' r x x' h1 h1' e e',
   fun k hk=>hS1.heap.nx k (Nat.le_trans hn1 hk),hS1.heap.base,hS1.heap.low⟩
 ·intro ρ2 s2 hl hS2;have hid: ∀k k' r,Ur π A.nx k k'=true->ρ2 k'=some r->(if k<A.nx then ρ2 k else(Kl π k).bind ρ2)=some r:=by
   intro k k' r hid e;unfold Ur at hid;cases hlt:Nat.blt k A.nx with
   | true=>
    rw[hlt] at hid;have e1:=Bq hid;have:k<A.nx:=by simpa [Nat.blt_eq] using hlt
    simp only[this,if_true];rw[e1];exact e
   | false=>
    rw[hlt] at hid;have: ¬k<A.nx:=fun c=>by
       have h9:Nat.blt k A.nx=true:=by rw[Nat.blt_eq];exact c
       rw[h9] at hlt;cases hlt
    simp only[this,if_false];cases hp:Kl π k with
    | none=>rw[hp] at hid;cases hid
    | some j=>rw[hp] at hid;rw[Bq hid];exact e
  have hle:Ble ρ (fun k=>if k<A.nx then ρ2 k else(Kl π k).bind ρ2):=fun k r e=>by
   have:k<A.nx:=by
    rcases Nat.lt_or_ge k A.nx with c | c
    ·exact c
    ·rw[hS.heap.nx k c] at e;cases e
   simp only[this,if_true];exact hl k r e
  refine h (fun k=>if k<A.nx then ρ2 k else(Kl π k).bind ρ2) s2 hle ⟨fun i v hi=> ?_, ?_⟩
  ·obtain⟨_,w,h2,h3⟩:=henv i v hi;exact Ba4 hid h3 (hS2.env i w h2)
  have hlive: ∀k o,Bc ⟨t',mx⟩ k=some o-> ∃j z,((k<A.nx/\j=k)\/(A.nx<=k/\Kl π k=some j))/\Bc A2 j=some z/\(if k<A.nx then ρ2 k else(Kl π k).bind ρ2)=ρ2 j/\ ∀c,RO ρ2 z c->RO (fun k=>if k<A.nx then ρ2 k else(Kl π k).bind ρ2) o c:=fun k o hk=>by
   obtain⟨j,hj,hm⟩:=hblk k o hk;obtain⟨x,z,o',e1,e2,e3,_,e5⟩:=Xx (ρ1:=ρ2) (ρ2:=ρ2) (ρ0:=fun k=>if k<A.nx then ρ2 k else(Kl π k).bind ρ2) hid hm;cases e3;refine⟨j,z,hj,e2, ?_,e5⟩;rcases hj with⟨c,rfl⟩ | ⟨c,hp⟩
   ·simp only[c,if_true]
   ·have: ¬k<A.nx:=by omega
    simp only[this,if_false,hp,Option.bind_some]
  refine⟨fun k o hk=> ?_,fun k k' r o o' hk hk' e e'=> ?_,fun k hk=> ?_,hS2.heap.base,fun k r e=> ?_⟩
  ·obtain⟨j,z,_,h1,h2,h3⟩:=hlive k o hk;obtain⟨r,o',g1,g2,g3⟩:=hS2.heap.obj j z h1;exact⟨r,o',by rw[h2];exact g1,g2,h3 _ g3⟩
  ·obtain⟨j,z,c,h1,h2,_⟩:=hlive k o hk;obtain⟨j',z',c',h1',h2',_⟩:=hlive k' o' hk';have e:=h2.symm.trans e;have e':=h2'.symm.trans e';have hjj:=hS2.heap.inj j j' r z z' h1 h1' e e';subst hjj;rcases c with⟨c1,c2⟩ | ⟨c1,c2⟩<;>rcases c' with⟨d1,d2⟩ | ⟨d1,d2⟩
   ·rw[<-c2,<-d2]
   ·have:=(hb1 _ (Ji d2)).1.2;have:=Nat.le_of_ble_eq_true this;simp only at this;omega
   ·have:=(hb1 _ (Ji c2)).1.2;have:=Nat.le_of_ble_eq_true this;simp only at this;omega
   ·exact Aa6 hb2 (Ji c2) (Ji d2)
  ·have hk':mx<=k:=hk;have: ¬k<A.nx:=by omega
   simp only[this,if_false];cases hp:Kl π k with
   | none=>rfl
   | some j=>
    have:=(hb1 _ (Ji hp)).2;have:k<mx:=by simpa [Nat.blt_eq] using this
    omega
  ·have e:(if k<A.nx then ρ2 k else(Kl π k).bind ρ2)=some r:=e;split at e
   ·exact hS2.heap.low k r e
   ·cases hp:Kl π k with
    | none=>rw[hp] at e;cases e
    | some j=>rw[hp] at e;exact hS2.heap.low j r e
theorem Ob (hX:XOk X G) (hc:Tm X.P G call) (all:List Oper): ∀(p:Plan) (E:Tr DVal) (A:XH) (s:DS) (ρ:Nat->Option Nat),RS B ρ E A s->Au B ρ Q (Aq0 (Rt X.P X.gt call all p E A))->Fk X.P G all (QP Q) p s
 | .done,E,A,s,ρ,hS,h=>h ρ s (Ble.refl _) hS
 | .take i p,E,A,s,ρ,hS,h=>by
  simp only[Rt] at h;simp only[Fk];exact Cc1 hX hc hS (Cb9 (W:=Fk X.P G all (QP Q) p) h fun ρ' E' A' s' _ hS' h'=>Ob hX hc all p E' A' s' ρ' hS' h')
 | .go i ls p,E,A,s,ρ,hS,h=>by
  simp only[Rt] at h;simp only[Fk];refine Cc1 hX hc hS (Cb9 (W:=Bc7 G all ls s (Fk X.P G all (QP Q) p)) h fun ρ' E' A' s' hl hS' h'=> ?_);cases hb:Xi X.gt all E A A' ls with
  | false=>rw[hb] at h';exact h'.elim
  | true=>
   rw[hb] at h';exact⟨Ar9 hX hS hS' hl all hb,Ob hX hc all p E' A' s' ρ' hS' h'⟩
 | .alt p q,E,A,s,ρ,hS,h=>by
  simp only[Rt] at h;obtain⟨h1,h2⟩:=Cl4 hS h;exact⟨Ob hX hc all p E A s ρ hS h1,Ob hX hc all q E A s ρ hS h2⟩
def Xy (body:Tr DVal->XH->Out):Nat->Tr DVal->XH->Out
 | 0,_,_=> .bad
 | n+1,E,A=>Nv (body E A) (Xy body n)
theorem Xz {body:Tr DVal->XH->Out}: ∀(k:Nat),(∀E A E' A',Xl body k E A= .more E' A'-> ∃m,∀j,Xy body (m+j) E A=Xy body j E' A')/\(∀E A o,Xl body k E A= .stop o-> ∃m,Xy body m E A=o)
 | 0=>by
  constructor
  ·intro E A E' A' h;have h:Aq1 body E A= .more E' A':=h;refine⟨1,fun j=> ?_⟩;rw[Nat.add_comm];show Nv (body E A) (Xy body j)=_;unfold Aq1 at h;split at h
   ·rename_i heq;cases h;rw[heq];rfl
   ·cases h
  ·intro E A o h;have h:Aq1 body E A= .stop o:=h;refine⟨1, ?_⟩;show Nv (body E A) (Xy body 0)=_;unfold Aq1 at h;split at h
   ·cases h
   ·rename_i hne
    cases h;unfold Nv;split
    ·rename_i heq;exact(hne _ _ heq).elim
    ·rfl
 | k+1=>by
  obtain⟨h1,h2⟩:=Xz (body:=body) k;constructor
  ·intro E A E' A' h;have h:Xk (Xl body k) E A= .more E' A':=h;unfold Xk at h;split at h
   ·rename_i E1 A1 heq
    obtain⟨m,hm⟩:=h1 _ _ _ _ heq;obtain⟨m',hm'⟩:=h1 _ _ _ _ h;exact⟨m+m',fun j=>by rw[Nat.add_assoc,hm,hm']⟩
   ·cases h
  ·intro E A o h;have h:Xk (Xl body k) E A= .stop o:=h;unfold Xk at h;split at h
   ·rename_i E1 A1 heq
    obtain⟨m,hm⟩:=h1 _ _ _ _ heq;obtain⟨m',hm'⟩:=h2 _ _ _ h;exact⟨m+m',by rw[hm,hm']⟩
   ·rename_i heq
    cases h;exact h2 _ _ _ heq
theorem As1 {ρ:Nat->Option Nat}: ∀ {args args':List DVal} (k:Nat) (E:Tr DVal) (κ:Tr DVal->COut),RVL ρ args args'->(∀i,k<=i->E.get i=none)->
  Ru args k E κ= .bad\/ ∃E',(∀i v,k<=i->E'.get i=some v->RV ρ v (Gd args' k i))/\(∀i,i<k->E'.get i=E.get i)/\Ru args k E κ=κ E'
 | [],_,k,E,κ,ha,hE=>by
  simp only[RVL] at ha;subst ha;exact .inr ⟨E,(fun i v hi hv=>by rw[hE i hi] at hv;cases hv),fun _ _=>rfl,rfl⟩
 | x::xs,_,k,E,κ,ha,hE=>by
  obtain⟨y,ys,rfl,h1,h2⟩:=ha.inv;have e0:Ru (x::xs) k E κ=Tr.setK .bad x 10 E k fun E=>Gs (k+1) fun k=>Ru xs k E κ:=rfl;rw[e0];rcases Hj (z:=COut.bad) (x:=x) 10 E k (fun E=>Gs (k+1) fun k=>Ru xs k E κ) with e | ⟨E1,hE1,e⟩
  ·exact .inl e
  ·rw[e,Hr];rcases As1 (k+1) E1 κ h2 (fun i hi=>by rw[hE1,if_neg (by omega)];exact hE i (by omega)) with e | ⟨E',g1,g2,g3⟩
   ·exact .inl e
   ·refine .inr ⟨E',fun i v hi hv=> ?_,fun i hi=> ?_,g3⟩
    ·by_cases hik:i=k
     ·subst hik;simp only[Gd,upd,if_true];rw[g2 i (by omega),hE1,if_pos rfl] at hv;cases hv;exact h1
     ·simp only[Gd,upd,hik,if_false];exact g1 i v (by omega) hv
    ·rw[g2 i (by omega),hE1,if_neg (by omega)]
theorem Cl5 (hS:RS B ρ E A s) {P:Program} {r:ResultVar} {v:DVal} (h:Be4 P E A r=some v): ∃v',Wg P s r=some v'/\RV ρ v v':=by
 unfold Be4 at h;split at h
 ·exact⟨_,rfl,hS.env _ _ h⟩
 ·rename_i x t
  split at h
  ·rename_i r off he
   have hx:=hS.env x _ he;simp only[RV] at hx;obtain⟨r',hx,hr⟩:=hx;unfold Ag0 at h;split at h
   ·rename_i cs e heq
    obtain⟨r2,cs',h1,h2,h3⟩:=Hk hS.heap heq;rw[hr] at h1;cases h1;rw[Tj] at h;simp only[Wg,hx,Ax0,h2,Oj];unfold Nh at h⊢
    split at h
    ·split at h<;>cases h
     rename_i hle
     rw[if_pos (by rw[h3.length];exact hle)];exact⟨_,rfl, .agg ((h3.drop _).take _)⟩
    ·exact h3.get h
    ·cases h
   ·cases h
  ·cases h
theorem Be9 (hS:RS B ρ E A s) {P:Program}: ∀ {rs:List ResultVar} {vs:List DVal},Ui P E A rs=some vs-> ∃vs',Fi P s rs=some vs'/\RVL ρ vs vs'
 | [],vs,h=>by simp only[Ui] at h;cases h;exact⟨[],rfl, .nil⟩
 | r::rs,vs,h=>by
  simp only[Ui] at h;cases h1:Be4 P E A r with
  | none=>rw[h1] at h;cases h2:Ui P E A rs<;>rw[h2] at h<;>cases h
  | some v=>cases h2:Ui P E A rs with
   | none=>rw[h1,h2] at h;cases h
   | some ws=>
    rw[h1,h2] at h;simp only[Am4] at h;cases h;obtain⟨v',k1,k2⟩:=Cl5 hS h1;obtain⟨ws',k3,k4⟩:=Be9 hS h2;exact⟨v'::ws',by simp only[Fi,k1,k3,Am4], .cons k2 k4⟩
theorem Cc3 {vs vs':List DVal} {v:DVal} (h:RVL ρ vs vs') (hv:Dw (some vs)=some v): ∃v',Dw (some vs')=some v'/\RV ρ v v':=by
 cases vs with
 | nil=>simp only[RVL] at h;subst h;cases hv;exact⟨_,rfl, .tuple .nil⟩
 | cons a vs=>
  obtain⟨a',ys,rfl,h1,h2⟩:=h.inv;cases vs with
  | nil=>simp only[RVL] at h2;subst h2;cases hv;exact⟨a',rfl,h1⟩
  | cons b vs=>
   obtain⟨b',ys,rfl,h3,h4⟩:=h2.inv;cases hv;exact⟨_,rfl, .tuple (.cons h1 (.cons h3 h4))⟩
theorem Ba5 {α:Type} {o:Option α} {f:α->COut} {R:DEnd->Aa->Prop} (h:Fu B ρ R (Mr .bad f o)): ∃v,o=some v/\Fu B ρ R (f v):=by
 cases o with
 | none=>exact h.elim
 | some v=>exact⟨v,rfl,h⟩
theorem Vf (hS:RS B ρ E A s) {P:Program} {rs:List ResultVar} {R:DEnd->Aa->Prop} (h:Fu B ρ R (Bn5 P rs E A)):Ty R s.heap (Dw (Fi P s rs)):=by
 unfold Bn5 at h;obtain⟨v,hv,h⟩:=Ba5 h;rw[Ah6] at h;cases hl:Ui P E A rs with
 | none=>rw[hl] at hv;cases hv
 | some vs=>
  rw[hl] at hv;obtain⟨vs',h1,h2⟩:=Be9 hS hl;obtain⟨v',h3,h4⟩:=Cc3 h2 hv;rw[h1,h3];exact Ax1.refl (h ρ s.heap v' (Ble.refl _) hS.heap h4)
theorem Cl6 {P:Program} {rs:List ResultVar} {R:DEnd->Aa->Prop} {o:Out} (h:Fu B ρ R (Db5 P rs o)):Au B ρ (Bc4 P rs R) o:=by
 cases o with
 | bad=>exact h
 | norm E A=>exact fun ρ' s' hl hS=>Vf hS (Fu.le hl h)
 | exit id E A=>exact h.elim
 | ret E A=>exact fun ρ' s' hl hS=>Vf hS (Fu.le hl h)
 | panic v E A=>exact fun ρ' s' v' hl hS hv=>Cm2.refl (h ρ' s'.heap v' hl hS.heap hv)
 | panicX v A=>exact fun ρ' s' v' hl hH hv=>Cm2.refl (h ρ' s'.heap v' hl hH hv)
theorem Tn {P:Program} {k:FuncId} {fn:Func} {c:Code} (hf:P.funcs[k]? =some fn) (hn:(fn.name== "runtime.NumGoroutine")=false) (hb:fn.body=some c) (vs:Array Value) (w:World):(callFunc k vs).run P w= .ok (.enter k vs) w:=by
 have hn': ¬fn.name= "runtime.NumGoroutine" :=fun e=>by rw[e] at hn;simp at hn
 simp [callFunc,go_sem,hf,hn',hb]
end
end Go.Dl

-- AN INTERPRETER OF THE DATA LEVEL, PART 8: calls, all code; a closed call.
namespace Go.Dl
open Go
theorem As2 {c:Code} {l:Late} (h:Xm c=some l): ∃id y1 y2 p1 p2 af1 af2,c= .seq l.A1 (.seq l.A2 (.seq (.region id #[Ap2 l.d l.g l.caps.toArray y1 p1 af1,Bn2 l.d y2 p2 af2] false) l.C)):=by
 unfold Xm at h;split at h
 ·split at h<;>cases h
  rename_i hd
  subst hd;exact⟨_,_,_,_,_,_,_,rfl⟩
 ·cases h
theorem Ba6 {c cc:Code} {t1 t2:Nat} (h:Zv c=some (t1,t2,cc)): ∃id y3 y4 p3 p4 af3 af4,c= .seq (.region id #[Nl t1 y3 p3 af3,Rf t1 t2 y4 p4 af4] false) cc:=by
 unfold Zv at h;split at h
 ·split at h<;>cases h
  rename_i hd
  subst hd;exact⟨_,_,_,_,_,_,_,rfl⟩
 ·cases h
section
variable {X:XP} {G:Nat->DVal}
variable {B:Aa} {ρ:Nat->Option Nat} {E:Tr DVal} {A:XH} {s:DS} {Q:DExit->DS->Prop}
theorem Bf0 {R:Type} {z:R} (hX:XOk X G) (hS:RS B ρ E A s): ∀(os:List Operand) (κ:List DVal->R),Rn X.gt z E os κ=z\/ ∃vs,RVL ρ vs (Cj G s.env os)/\Rn X.gt z E os κ=κ vs
 | [],κ=> .inr ⟨[],rfl,rfl⟩
 | o::os,κ=>by
  have e0:Rn X.gt z E (o::os) κ=evK X.gt z E o fun v=>Rn X.gt z E os fun vs=>κ (v::vs):=rfl;rw[e0];rcases Az4 hX.gt hS o (fun v=>Rn X.gt z E os fun vs=>κ (v::vs)) with e | ⟨v,h1,e⟩
  ·exact .inl e
  ·rw[e];rcases Bf0 hX hS os (fun vs=>κ (v::vs)) with e | ⟨vs,h2,e⟩
   ·exact .inl e
   ·exact .inr ⟨v::vs, .cons h1 h2,e⟩
def Snd (X:XP) (G:Nat->DVal) (ih:FuncId->Code->Tr DVal->XH->Out):Prop:=
 ∀(f:FuncId) (c:Code) (N:Nat) (B:Aa) (ρ:Nat->Option Nat) (E:Tr DVal) (A:XH) (s:DS) (Q:DExit->DS->Prop),Cw X.plans f N c=true->RS B ρ E A s->Au B ρ Q (ih f c E A)->dwp X.P G N c Q s
variable {ih:FuncId->Code->Tr DVal->XH->Out}
theorem Ai8 {args args':List DVal} {H:Aa} {κ:Tr DVal->COut} {R:DEnd->Aa->Prop} (ha:RVL ρ args args') (hH:RH B ρ A H) (h:Fu B ρ R (Ru args 0 .leaf κ)): ∃E,RS B ρ E A ⟨Gd args' 0,H⟩/\Fu B ρ R (κ E):=by
 rcases As1 0 .leaf κ ha (fun i _=>rfl) with e | ⟨E',g1,_,g3⟩
 ·rw[e] at h;exact h.elim
 ·rw[g3] at h;exact⟨E',⟨fun i v hi=>g1 i v (Nat.zero_le _) hi,hH⟩,h⟩
theorem Ba7 {d:Nat} {v v':DVal} {κ:Tr DVal->COut} {R:DEnd->Aa->Prop} (hS:RS B ρ E A s) (hv:RV ρ v v') (h:Fu B ρ R (Tr.setK .bad v 10 E d κ)): ∃E',RS B ρ E' A ⟨upd s.env d v',s.heap⟩/\Fu B ρ R (κ E'):=by
 rcases Hj (z:=COut.bad) (x:=v) 10 E d κ with e | ⟨t',h1,e⟩
 ·rw[e] at h;exact h.elim
 ·rw[e] at h;exact⟨t',hS.put h1 hv,h⟩
theorem Qb (hih:Snd X G ih) {rs:List ResultVar} {g:FuncId} {fg:Func} {c cc:Code} {t1 t2:Nat} {caps caps':List DVal} {x x':DVal} {R:DEnd->Aa->Prop}
  (hg:X.P.funcs[g]? =some fg) (hb:fg.body=some c) (hr:Zv c=some (t1,t2,cc)) (hp:Cw X.plans g fg.ntmps cc=true)
  (hS:RS B ρ E A s) (hc:RVL ρ caps caps') (hx:RV ρ x x') (h:Fu B ρ R (Oa X ih rs g caps x E A)):
  dwp X.P G fg.ntmps cc (Td fun H'=>Ty R H' (Dw (Fi X.P ⟨s.env,H'⟩ rs))) ⟨upd (upd (Gd caps' 0) t1 x') t2 x',s.heap⟩:=by
 unfold Oa at h;simp only[hg,hb,hr] at h;obtain⟨F,h1,h⟩:=Ai8 hc hS.heap h;obtain⟨F1,h2,h⟩:=Ba7 h1 hx h;obtain⟨F2,h3,h⟩:=Ba7 h2 hx h;refine hih g cc fg.ntmps B ρ F2 A _ _ hp h3 ?_;cases ho:ih g cc F2 A<;>rw[ho] at h<;>try (exact h.elim)
 ·exact fun ρ' s' hl hS'=>Vf (s:=⟨s.env,s'.heap⟩) ⟨fun i v hi=>(hS.env i v hi).mono hl,hS'.heap⟩ (Fu.le hl h)
 ·exact fun ρ' s' hl hS'=>Vf (s:=⟨s.env,s'.heap⟩) ⟨fun i v hi=>(hS.env i v hi).mono hl,hS'.heap⟩ (Fu.le hl h)
theorem Cc4 (hX:XOk X G) (hih:Snd X G ih) {k:FuncId} {args args':List DVal} {H:Aa} {R:DEnd->Aa->Prop} (hk:Be7 X.P X.plans k args.length=true) (ha:RVL ρ args args') (hH:RH B ρ A H) (h:Fu B ρ R (Ba3 X ih k args A)):Ar X.P G k args' H R:=by
 unfold Ba3 at h;unfold Be7 at hk;cases hf:X.P.funcs[k]? with
 | none=>rw[hf] at h;exact h.elim
 | some fn=>
  rw[hf] at h hk;simp only at h hk;simp only[Bool.and_eq_true,Bool.not_eq_true'] at hk;obtain⟨hname,hk⟩:=hk;cases hb:fn.body with
  | none=>rw[hb] at h;exact h.elim
  | some c=>
   rw[hb] at h hk;simp only at h hk;cases hl:Xm c with
   | none=>
    rw[hl] at h hk;simp only[Bool.and_eq_true] at h hk;obtain⟨E,h1,h⟩:=Ai8 ha hH h;exact Ak hf (fun vs w=>Tn hf hname hb vs w) hb (by rw[ha.length];exact hk.1) (hih k c fn.ntmps B ρ E A _ _ hk.2 h1 (Cl6 h))
   | some l=>
    rw[hl] at h hk;simp only at h hk;unfold Be6 at hk;cases hg:X.P.funcs[l.g]? with
    | none=>rw[hg] at hk;cases hk
    | some fg=>
     rw[hg] at hk;simp only at hk;cases hbg:fg.body with
     | none=>rw[hbg] at hk;cases hk
     | some c2=>
      rw[hbg] at hk;simp only at hk;cases hr:Zv c2 with
      | none=>rw[hr] at hk;cases hk
      | some q=>
       obtain⟨t1,t2,cc⟩:=q;rw[hr] at hk;simp only[Bool.and_eq_true,Bool.not_eq_true'] at hk;obtain⟨⟨⟨⟨⟨g1,g2⟩,g3⟩,g4⟩,⟨⟨g5,g6⟩,g7⟩⟩,g8⟩:=hk;obtain⟨id,y1,y2,p1,p2,af1,af2,rfl⟩:=As2 hl;obtain⟨id2,y3,y4,p3,p4,af3,af4,rfl⟩:=Ba6 hr;have hres:fg.results= #[]:=by
        have:fg.results.toList= []:=List.isEmpty_iff.1 g2;exact Array.ext' (by rw[this])
       have hA:l.caps.toArray.toList=l.caps:=by simp
       refine Ap3 hf hg (fun vs w=>Tn hf hname hb vs w) (fun vs w=>Tn hg g1 hbg vs w) hb hbg ?_ ?_ hres ?_
       ·rw[hA,ha.length];simp only[Bool.and_eq_true];exact g8
       ·rw[hA];simp only[Bool.and_eq_true];exact g4
       ·rw[hA];unfold Co1 at h;obtain⟨E0,h1,h⟩:=Ai8 ha hH h;refine hih k l.A1 fn.ntmps B ρ E0 A _ _ g5 h1 ?_;cases ho:ih k l.A1 E0 A<;>rw[ho] at h<;>simp only at h<;>try (exact h.elim)
        rename_i E1 A1
        intro ρ1 s1 hl1 hS1;have h:=Fu.le hl1 h;refine hih k l.A2 fn.ntmps B ρ1 E1 A1 _ _ g6 hS1 ?_;cases ho2:ih k l.A2 E1 A1<;>rw[ho2] at h<;>simp only at h<;>try (exact h.elim)
        rename_i E2 A2
        intro ρ2 s2 hl2 hS2;have h:=Fu.le hl2 h;rcases Bf0 (z:=COut.bad) hX hS2 l.caps (fun caps=>Tr.setK .bad (.func (.func l.g) [] caps) 10 E2 l.d fun E3=>Xw X ih fn.results.toList l.g caps (ih k l.C E3 A2)) with e | ⟨caps,hcaps,e⟩
        ·rw[e] at h;exact h.elim
        rw[e] at h;obtain⟨E3,hS3,h⟩:=Ba7 hS2 (.func (.func l.g) .nil hcaps) h;refine hih k l.C fn.ntmps B ρ2 E3 A2 _ _ g7 hS3 ?_;cases ho3:ih k l.C E3 A2<;>rw[ho3] at h<;>simp only[Xw] at h<;>try (exact h.elim)
        ·exact fun ρ3 s3 hl3 hS4=>Qb hih hg hbg hr g3 hS4 (hcaps.mono hl3) (by simp only[RV]) (Fu.le hl3 h)
        ·exact fun ρ3 s3 hl3 hS4=>Qb hih hg hbg hr g3 hS4 (hcaps.mono hl3) (by simp only[RV]) (Fu.le hl3 h)
        ·exact fun ρ3 s3 v3 hl3 hS4 hv=>Qb hih hg hbg hr g3 hS4 (hcaps.mono hl3) hv (Fu.le hl3 h)
theorem As3 (hX:XOk X G) (hih:Snd X G ih):Tm X.P G (Ar8 X ih):=by
 intro B ρ k args args' A H R ha hH h;unfold Ar8 at h;split at h
 ·rename_i v heq
  obtain⟨x,hx,rfl,hb,rfl⟩:=Uk heq;have:=Gu hb;subst this;have hp:=List.all_eq_true.1 hX.plain x hx;simp only[Bool.and_eq_true] at hp;have:args'=x.2.1:=ha.fn (Eo hp.1);subst this;refine(hX.memo x hx H).mono ?_;rintro _ _ ⟨rfl,rfl⟩;exact h ρ _ _ (Ble.refl _) hH (Lf hp.2)
 ·cases hg:Ai3 X.good k args.length with
  | false=>rw[hg] at h;exact h.elim
  | true=>
   rw[hg] at h;exact Cc4 hX hih (List.all_eq_true.1 hX.good _ (Ul hg)) ha hH h
theorem Bf1 (hX:XOk X G): ∀n,Snd X G (Yv X n)
 | 0=>fun f c N B ρ E A s Q _ _ h=>h.elim
 | n+1=>by
  have hih:=Bf1 hX n;have hcall:=As3 hX hih;intro f c N B ρ E A s Q hp hS h;have h:Au B ρ Q (Cb8 X (Yv X n) f c E A):=h;cases c with
  | skip=>exact h ρ s (Ble.refl _) hS
  | label l=>exact h ρ s (Ble.refl _) hS
  | region id ops draw=>
   cases draw with
   | false=>exact Be8 hX hcall _ _ E A s ρ hS h
   | true=>
    simp only[Cb8] at h;simp only[Cw] at hp;cases hpl:Ba1 X.plans f id with
    | none=>rw[hpl] at h;exact h.elim
    | some p=>
     rw[hpl] at h hp;have hp:(ops.toList.all (Ef N)&&Ub ops.toList [] p&&Dx ops.toList p [])=true:=hp;exact Bd0 (N:=⟨N,⟨0,[],false⟩⟩) hX.mixed p hp (Ob hX hcall _ p E A s ρ hS h)
  | seq a b=>
   simp only[Cw,Bool.and_eq_true] at hp;exact hih f a N B ρ E A s _ hp.1 hS (Ai4 h fun ρ' E' A' s' _ hS' h'=>hih f b N B ρ' E' A' s' Q hp.2 hS' h')
  | cond c a b=>
   simp only[Cw,Bool.and_eq_true] at hp;obtain⟨v,h1,h⟩:=Bx hX.gt hS h;simp only[dwp];unfold Co0 at h;split at h
   ·simp only[RV] at h1;rw[h1];exact hih f a N B ρ E A s Q hp.1 hS h
   ·simp only[RV] at h1;rw[h1];exact hih f b N B ρ E A s Q hp.2 hS h
   ·exact h.elim
  | block id c=>
   simp only[Cw] at hp;refine hih f c N B ρ E A s _ hp hS ?_;have h:Au B ρ Q (Ah4 id (Yv X n f c E A)):=h;cases ho:Yv X n f c E A<;>rw[ho] at h<;>try (exact h)
   rename_i id' E' A'
   intro ρ' s' hl hS';show Uu Q s' id' (decide (id'=id));by_cases hid:id'=id
   ·have hb:Nat.beq id' id=true:=by rw[hid];exact Nat.beq_refl _
    simp only[Ah4,hb] at h;rw[decide_eq_true hid];exact h ρ' s' hl hS'
   ·have hb:Nat.beq id' id=false:=by
     cases hb:Nat.beq id' id with
     | false=>rfl
     | true=>exact(hid (Nat.eq_of_beq_eq_true hb)).elim
    simp only[Ah4,hb] at h;rw[decide_eq_false hid];exact h ρ' s' hl hS'
  | loop c=>
   simp only[Cw] at hp;have h:Au B ρ Q (Cn9 (Xl (fun E H=>Yv X n f c E H) 20 E A)):=h;cases ho:Xl (fun E H=>Yv X n f c E H) 20 E A with
   | more E' A'=>rw[ho] at h;exact h.elim
   | stop o=>
    rw[ho] at h;obtain⟨m,hm⟩:=(Xz 20).2 _ _ _ ho;refine⟨Nat,fun i s=> ∃ρ' E A,RS B ρ' E A s/\Au B ρ' Q (Xy (fun E H=>Yv X n f c E H) i E A),id,⟨m,s,Pn.refl s,ρ,E,A,hS,by rw[hm];exact h⟩, ?_⟩;rintro i s1 ⟨ρ1,E1,A1,hS1,h1⟩;cases i with
    | zero=>exact h1.elim
    | succ i=>
     exact hih f c N B ρ1 E1 A1 s1 _ hp hS1 (Ai4 h1 fun ρ' E' A' s' _ hS' h'=>⟨i,s',Pn.refl s',⟨ρ',E',A',hS',h'⟩,Nat.lt_succ_self i⟩)
  | exit id=>exact h ρ s (Ble.refl _) hS
  | ret=>exact h ρ s (Ble.refl _) hS
  | scope c=>
   simp only[Cw] at hp;refine hih f c N B ρ E A s _ hp hS ?_;have h:Au B ρ Q (Yv X n f c E A):=h;cases ho:Yv X n f c E A<;>rw[ho] at h<;>exact h
  | rangeFunc=>exact h.elim
  | goto=>exact h.elim
  | refuse=>exact h.elim
def Sa (f:DVal->Option DVal):List DVal->Option (List DVal)
 | []=>some []
 | v::vs=>match f v,Sa f vs with
  | some d,some ds=>some (d::ds)
  | _,_=>none
noncomputable def frz:Nat->XH->DVal->Option DVal
 | 0,_,_=>none
 | n+1,A,v=>match v with
  | .oslice sz k off len _=>match Bc A k with
   | some (.cells cs _)=>if off+len*sz<=cs.length then(Sa (frz n A) ((cs.drop off).take (len*sz))).map (fun cs=> .vslice cs len) else none
   | _=>none
  | .optr k off=>match Bc A k with
   | some (.cells cs _)=>(Sa (frz n A) cs).map (fun cs=> .vptr cs off)
   | _=>none
  | .omap _=>none
  | .vptr cs off=>(Sa (frz n A) cs).map (fun cs=> .vptr cs off)
  | .vslice cs len=>(Sa (frz n A) cs).map (fun cs=> .vslice cs len)
  | .agg cs=>(Sa (frz n A) cs).map .agg
  | .tuple cs=>(Sa (frz n A) cs).map .tuple
  | .iface t v=>(frz n A v).map (.iface t)
  | .func f a c=>match Sa (frz n A) a,Sa (frz n A) c with
   | some a,some c=>some (.func f a c)
   | _,_=>none
  | v=>some v
theorem Ir {w:World} {H H':Aa} {f:DVal->Option DVal} (hf: ∀v d u x,f v=some d->RV ρ v u->Rel w H u x->Rel w H' d x): ∀ {vs ds us:List DVal} {xs:List Value},Sa f vs=some ds->RVL ρ vs us->Ap w H us xs->Ap w H' ds xs
 | [],ds,us,xs,h,hr,hx=>by
  simp only[RVL] at hr;subst hr;simp only[Sa] at h;cases h;simpa only[Ap] using hx
 | v::vs,ds,us,xs,h,hr,hx=>by
  obtain⟨u,us',rfl,h1,h2⟩:=hr.inv;simp only[Sa] at h;split at h<;>cases h
  rename_i d ds' hd hds
  simp only[Ap] at hx⊢
  obtain⟨y,ys,rfl,h3,h4⟩:=hx;exact⟨y,ys,rfl,hf v d u y hd h1 h3,Ir hf hds h2 h4⟩
theorem Cw4 {w:World} {H:Aa} (hw:Aw w H) (hA:RH B ρ A H): ∀(n:Nat) (v d u:DVal) (x:Value),frz n A v=some d->RV ρ v u->Rel w H u x->Rel w B d x:=by
 have hlast:Lasts H w B w:=Sv hA.base w;intro n
 induction n with
 | zero=>intro v d u x h;cases h
 | succ n ih=>
  intro v d u x h hr hx;simp only[frz] at h;split at h
  ·rename_i sz k off len lo
   simp only[RV] at hr;obtain⟨r,rfl,hk⟩:=hr;split at h
   ·rename_i cs e heq
    split at h<;>try (cases h;done)
    rename_i hle
    obtain⟨ds,hds,rfl⟩:=Option.map_eq_some_iff.1 h;obtain⟨r',o',h1,h2,cs',rfl,h3⟩:=hA.obj _ _ heq;rw[hk] at h1;cases h1;simp only[Rel] at hx⊢
    obtain⟨o,cap,rfl,hlo,hlc,ho,_⟩:=hx;refine⟨_,cap,rfl,hlc, ?_⟩;obtain⟨xs,hxs,hholds⟩:=hw.holds h2;rcases ho with hc | ho
    ·have:len=0:=by omega
     subst this;simp only[Nat.zero_mul,List.take_zero,Sa] at hds;cases hds;exact .inl rfl
    ·subst ho;refine .inr ⟨r,o,(xs.drop o).take (len*sz),rfl, ?_,Ir ih hds ((h3.drop _).take _) ((hxs.drop _).take _)⟩;refine .inr ⟨hA.low _ _ hk,fun i y hy=> ?_⟩;have:=(hholds.drop (n:=o)).take (n:=len*sz) i y hy;simpa using this
   ·cases h
  ·rename_i k off
   simp only[RV] at hr;obtain⟨r,rfl,hk⟩:=hr;split at h
   ·rename_i cs e heq
    obtain⟨ds,hds,rfl⟩:=Option.map_eq_some_iff.1 h;obtain⟨r',o',h1,h2,cs',rfl,h3⟩:=hA.obj _ _ heq;rw[hk] at h1;cases h1;simp only[Rel] at hx⊢
    subst hx;obtain⟨xs,hxs,hholds⟩:=hw.holds h2;refine⟨r,0,xs,by simp, .inr ⟨hA.low _ _ hk,fun i y hy=> ?_⟩,Ir ih hds h3 hxs⟩;exact hholds i y hy
   ·cases h
  ·cases h
  ·obtain⟨ds,hds,rfl⟩:=Option.map_eq_some_iff.1 h;simp only[RV] at hr;obtain⟨cs',rfl,hl⟩:=hr;simp only[Rel] at hx⊢
   obtain⟨b,o,xs,rfl,hc,hxs⟩:=hx;exact⟨b,o,xs,rfl,hc.lasts hlast,Ir ih hds hl hxs⟩
  ·rename_i cs len
   obtain⟨ds,hds,rfl⟩:=Option.map_eq_some_iff.1 h;simp only[RV] at hr;obtain⟨cs',rfl,hl⟩:=hr;simp only[Rel] at hx⊢
   obtain⟨a,cap,rfl,hle,hc⟩:=hx;refine⟨a,cap,rfl,hle, ?_⟩;rcases hc with hc | ⟨b,o,xs,rfl,hc,hxs⟩
   ·subst hc;have hlen:=hl.length;left;cases cs with
    | nil=>simp only[Sa] at hds;cases hds;rfl
    | cons _ _=>simp at hlen
   ·exact .inr ⟨b,o,xs,rfl,hc.lasts hlast,Ir ih hds hl hxs⟩
  ·obtain⟨ds,hds,rfl⟩:=Option.map_eq_some_iff.1 h;simp only[RV] at hr;obtain⟨cs',rfl,hl⟩:=hr;simp only[Rel] at hx⊢
   obtain⟨xs,rfl,hxs⟩:=hx;exact⟨xs,rfl,Ir ih hds hl hxs⟩
  ·obtain⟨ds,hds,rfl⟩:=Option.map_eq_some_iff.1 h;simp only[RV] at hr;obtain⟨cs',rfl,hl⟩:=hr;simp only[Rel] at hx⊢
   obtain⟨xs,rfl,hxs⟩:=hx;exact⟨xs,rfl,Ir ih hds hl hxs⟩
  ·obtain⟨d',hd,rfl⟩:=Option.map_eq_some_iff.1 h;simp only[RV] at hr;obtain⟨v',rfl,hv⟩:=hr;simp only[Rel] at hx⊢
   obtain⟨y,rfl,hy⟩:=hx;exact⟨y,rfl,ih _ _ _ _ hd hv hy⟩
  ·split at h<;>cases h
   rename_i a c ha hc
   simp only[RV] at hr;obtain⟨a',c',rfl,h1,h2⟩:=hr;simp only[Rel] at hx⊢
   obtain⟨xs,ys,rfl,h3,h4⟩:=hx;exact⟨xs,ys,rfl,Ir ih ha h1 h3,Ir ih hc h2 h4⟩
  ·cases h
   rename_i a1 a2 a3 a4 a5 a6 a7 a8 a9
   cases v<;>simp only[RV] at hr;all_goals first
    | (subst hr;exact Rel.lasts hlast _ _ hx)
    | exact(a1 _ _ _ _ _ rfl).elim
    | exact(a2 _ _ rfl).elim
    | exact(a3 _ rfl).elim
    | exact(a4 _ _ rfl).elim
    | exact(a5 _ _ rfl).elim
    | exact(a6 _ rfl).elim
    | exact(a7 _ rfl).elim
    | exact(a8 _ _ rfl).elim
    | exact(a9 _ _ _ rfl).elim
noncomputable def Cc5 (X:XP) (n:Nat) (k:FuncId) (args:List DVal):COut:=Ar8 X (Yv X n) k args ⟨.leaf,0⟩
theorem Cc6 (hX:XOk X G) {n m:Nat} {k:FuncId} {args:List DVal} {v d:DVal} (hp:Es args=true) (h:Cc5 X n k args= .cret v A) (hf:frz m A v=some d) (H:Aa):Ar X.P G k args H (Cq d H):=by
 have hH:RH H (fun _=>none) ⟨.leaf,0⟩ H:=by
  refine⟨fun k o hk=> ?_,fun k k' r o o' hk=> ?_,fun _ _=>rfl,fun _ _ h=>h,fun k r h=>by cases h⟩
  ·unfold Bc at hk;rw[Aq3] at hk;cases hk
  ·unfold Bc at hk;rw[Aq3] at hk;cases hk
 have key:Ar X.P G k args H (fun e H'=> ∃ρ v',e= .ret v'/\RV ρ v v'/\RH H ρ A H'):=by
  refine As3 hX (Bf1 hX n) H _ k args args ⟨.leaf,0⟩ H _ (Eo hp) hH ?_;show Fu H _ _ (Cc5 X n k args);rw[h];exact fun ρ' H' v' _ hH' hv=>⟨ρ',v',rfl,hv,hH'⟩
 refine key.ghost ?_;rintro e H' ⟨ρ,v',rfl,hv,hH'⟩;refine⟨v',d,H,rfl,fun w hw=> ?_,rfl,rfl⟩;have hg:=Su.sub hH'.base v' w hw;exact⟨hg.1,hg.2.1,fun x hx=>Cw4 hw hH' m v d v' x hf hv hx⟩
noncomputable def Cc7 (X:XP) (n:Nat) (k:FuncId) (args:List DVal) (d:DVal):Bool:=
 match Cc5 X n k args with
 | .cret v A=>match frz 40 A v with
  | some d'=>Az0 d' d
  | none=>false
 | _=>false
theorem Cc8 (hX:XOk X G) {n:Nat} {k:FuncId} {args:List DVal} {d:DVal} (hp:Es args=true) (h:Cc7 X n k args d=true) (H:Aa):Ar X.P G k args H (Cq d H):=by
 unfold Cc7 at h;split at h
 ·rename_i v A hv
  split at h
  ·rename_i d' hd
   obtain rfl:=Vd h;exact Cc6 hX hp hv hd H
  ·cases h
 ·cases h
def XP.more (X:XP) (l:List (FuncId×List DVal×DVal)):XP:= { X with memo:=l++X.memo }
noncomputable def Bw (X:XP) (n:Nat) (l:List (FuncId×List DVal×DVal)):Bool:=l.all fun x=>Es x.2.1&&Ej x.2.2&&Cc7 X n x.1 x.2.1 x.2.2
theorem XOk.more (hX:XOk X G) {n:Nat} {l:List (FuncId×List DVal×DVal)} (h:Bw X n l=true):XOk (X.more l) G:=by
 unfold Bw at h;rw[List.all_eq_true] at h;refine⟨hX.mixed,hX.gt,hX.good, ?_, ?_⟩
 ·show(l++X.memo).all _=true;rw[List.all_append,hX.plain,Bool.and_true,List.all_eq_true];intro x hx;have:=h x hx;rw[Bool.and_eq_true] at this;exact this.1
 ·intro x hx H;have hx:x∈l++X.memo:=hx;rcases List.mem_append.1 hx with hx | hx
  ·have:=h x hx;simp only[Bool.and_eq_true] at this;exact Cc8 hX this.1.1 this.2 H
  ·exact hX.memo x hx H
theorem XOk.at (hX:XOk X G) {k:FuncId} {args:List DVal} {d:DVal} (h:(k,args,d)∈X.memo) (H:Aa):Ar X.P G k args H (Cq d H):=hX.memo _ h H
end
end Go.Dl

-- What the interpreter knows of this seat. MADE BY PROGRAM (gen_x.py).
namespace Go.Dl
open Go Go.Proofs
set_option maxRecDepth 100000
def Cc9:List (FuncId×Nat×Plan):= [
(4,1,(.take 0 (.take 1 (.take 3 (.take 4 (.go 2 [4] (.go 5 [] (.take 6 (.take 7 (.take 8 (.take 9 (.take 11 (.take 12 (.go 10 [12] (.go 13 [] (.take 14 (.take 15 (.take 16 (.take 17 (.take 18 (.take 20 (.take 21 (.go 19 [21] (.go 22 [] (.take 23 (.take 24 (.take 25 (.take 26 (.take 27 (.take 29 (.take 30 (.go 28 [30] (.go 31 [] (.take 32 (.take 33 (.take 34 .done)))))))))))))))))))))))))))))))))))),
(4,2,(.take 0 (.take 1 (.take 2 (.take 3 (.take 5 (.take 6 (.go 4 [6] (.go 7 [] (.take 8 (.take 9 (.take 10 (.take 11 (.take 12 (.take 14 (.take 15 (.go 13 [15] (.go 16 [] (.take 17 (.take 18 (.take 19 (.take 20 (.take 21 (.take 23 (.take 24 (.go 22 [24] (.go 25 [] (.take 26 (.take 27 (.take 28 (.go 29 [] (.take 30 (.take 31 .done))))))))))))))))))))))))))))))))),
(5,1,(.take 0 (.take 1 (.take 2 (.take 3 (.take 5 (.take 6 (.take 7 (.take 8 (.go 4 [8,6] (.go 9 [] (.take 10 (.take 11 (.take 12 (.take 13 (.take 14 (.take 15 (.take 17 (.take 18 (.take 19 (.take 20 (.go 16 [20,18] (.go 21 [] (.take 22 (.take 23 (.take 24 (.take 25 (.take 26 (.take 27 (.take 28 (.take 30 (.take 31 (.take 32 (.take 33 (.go 29 [33,31] (.go 34 [] (.take 35 (.take 36 (.take 37 .done))))))))))))))))))))))))))))))))))))))),
(5,2,(.take 0 (.take 1 (.take 2 (.take 3 (.take 5 (.take 6 (.take 7 (.take 8 (.go 4 [8,6] (.go 9 [] (.take 10 (.take 11 (.take 12 (.take 13 (.take 14 (.take 15 (.take 17 (.take 18 (.take 19 (.take 20 (.go 16 [20,18] (.go 21 [] (.take 22 (.take 23 (.take 24 (.take 25 (.take 26 (.take 27 (.take 28 (.take 30 (.take 31 (.take 32 (.take 33 (.go 29 [33,31] (.go 34 [] (.take 35 (.take 36 (.take 37 .done))))))))))))))))))))))))))))))))))))))),
(11,4,(.take 0 (.take 1 (.take 2 (.take 3 (.take 4 (.take 5 (.take 6 (.take 7 (.go 8 [7] (.go 9 [7] (.go 10 [7] (.take 11 (.go 12 [] (.take 13 (.take 14 .done)))))))))))))))),
(11,6,(.take 0 (.take 1 (.take 2 (.take 3 (.take 4 (.take 5 (.take 6 (.take 7 (.take 8 (.take 9 (.take 10 (.go 11 [10] (.go 12 [10] (.go 13 [10] (.take 14 (.go 15 [] (.take 16 (.take 17 .done))))))))))))))))))),
(16,1,(.take 0 (.take 1 (.take 2 (.take 3 (.take 7 (.take 8 (.alt (.go 9 [3,1] (.go 4 [8] (.go 5 [8] (.take 6 (.go 10 [] (.take 11 (.take 12 (.take 13 .done)))))))) (.go 4 [8] (.alt (.go 9 [3,1] (.go 5 [8] (.take 6 (.go 10 [] (.take 11 (.take 12 (.take 13 .done))))))) (.go 5 [8] (.take 6 (.go 9 [3,1] (.go 10 [] (.take 11 (.take 12 (.take 13 .done))))))))))))))))),
(32,6,(.take 0 (.take 1 (.take 2 (.take 3 (.take 4 (.take 5 (.take 6 (.take 7 (.take 8 (.take 9 (.go 10 [] (.take 11 (.take 12 (.take 13 (.take 14 (.take 15 (.take 16 (.take 17 (.take 18 (.take 19 (.take 20 (.take 21 (.take 22 (.take 23 (.take 24 (.take 25 (.take 26 (.take 27 (.take 28 (.take 29 (.take 30 (.take 31 (.take 32 (.take 33 (.take 34 (.take 35 (.go 36 [] (.take 37 (.take 38 (.take 39 (.take 40 (.take 41 (.take 42 (.take 43 (.take 44 (.take 45 (.take 46 (.take 47 (.take 48 (.take 49 (.go 50 [] (.take 51 (.take 52 .done)))))))))))))))))))))))))))))))))))))))))))))))))))))),
(34,6,(.take 0 (.take 1 (.take 2 (.take 3 (.take 4 (.take 5 (.take 6 (.take 7 (.take 8 (.take 9 (.take 10 (.take 11 (.take 12 (.take 13 (.take 14 (.take 15 (.take 16 (.take 17 (.take 18 (.take 19 (.take 20 (.take 21 (.go 22 [] (.take 23 (.take 24 .done)))))))))))))))))))))))))),
(36,6,(.take 0 (.take 1 (.take 2 (.take 3 (.take 4 (.take 5 (.take 6 (.take 7 (.take 8 (.take 9 (.go 10 [] (.take 11 (.take 12 (.take 13 (.take 14 (.take 15 (.take 16 (.take 17 (.take 18 (.take 19 (.take 20 (.take 21 (.take 22 (.go 23 [] (.take 24 (.take 25 (.take 26 (.take 27 (.take 28 (.take 29 (.take 30 (.take 31 (.take 32 (.take 33 (.take 34 (.take 35 (.take 36 (.go 37 [] (.take 38 (.take 39 .done))))))))))))))))))))))))))))))))))))))))),
(38,6,(.take 0 (.take 1 (.take 2 (.take 3 (.take 4 (.take 5 (.take 6 (.take 7 (.take 8 (.take 9 (.take 10 (.take 11 (.go 12 [] (.take 13 (.take 14 (.take 15 (.take 16 (.take 17 (.take 18 (.take 19 (.take 20 (.take 21 (.take 22 (.take 23 (.take 24 (.take 25 (.take 26 (.go 27 [] (.take 28 (.take 29 .done))))))))))))))))))))))))))))))),
(43,10,(.take 0 (.take 1 (.take 2 (.take 6 (.take 7 (.take 8 (.take 11 (.take 12 (.take 14 (.take 15 (.alt (.go 4 [15,12,8,2] (.alt (.go 9 [15,12,2] (.go 3 [15,12,8] (.go 5 [15,12,8] (.go 10 [15,12] (.go 13 [15] (.go 16 [] .done)))))) (.go 3 [15,12,8] (.alt (.go 9 [15,12,2] (.go 5 [15,12,8] (.go 10 [15,12] (.go 13 [15] (.go 16 [] .done))))) (.go 5 [15,12,8] (.go 9 [15,12,2] (.go 10 [15,12] (.go 13 [15] (.go 16 [] .done))))))))) (.alt (.go 9 [15,12,2] (.alt (.go 4 [15,12,8,2] (.go 3 [15,12,8] (.go 5 [15,12,8] (.go 10 [15,12] (.go 13 [15] (.go 16 [] .done)))))) (.go 3 [15,12,8] (.go 4 [15,12,8,2] (.go 5 [15,12,8] (.go 10 [15,12] (.go 13 [15] (.go 16 [] .done)))))))) (.go 3 [15,12,8] (.alt (.go 9 [15,12,2] (.go 4 [15,12,8,2] (.go 5 [15,12,8] (.go 10 [15,12] (.go 13 [15] (.go 16 [] .done)))))) (.go 4 [15,12,8,2] (.alt (.go 9 [15,12,2] (.go 5 [15,12,8] (.go 10 [15,12] (.go 13 [15] (.go 16 [] .done))))) (.go 5 [15,12,8] (.go 9 [15,12,2] (.go 10 [15,12] (.go 13 [15] (.go 16 [] .done)))))))))))))))))))))),
(45,9,(.take 0 (.take 1 (.take 2 (.take 7 (.take 8 (.alt (.go 5 [8,2] (.go 3 [8] (.go 4 [8] (.go 6 [8] (.go 9 [] .done))))) (.go 3 [8] (.alt (.go 5 [8,2] (.go 4 [8] (.go 6 [8] (.go 9 [] .done)))) (.go 4 [8] (.go 5 [8,2] (.go 6 [8] (.go 9 [] .done))))))))))))),
(49,10,(.take 0 (.take 3 (.take 4 (.alt (.go 6 [4] (.go 1 [4] (.go 2 [4] (.go 5 [] (.go 7 [] .done))))) (.go 1 [4] (.alt (.go 6 [4] (.go 2 [4] (.go 5 [] (.go 7 [] .done)))) (.go 2 [4] (.alt (.go 6 [4] (.go 5 [] (.go 7 [] .done))) (.go 5 [] (.go 6 [4] (.go 7 [] .done)))))))))))),
(49,12,(.take 0 (.take 3 (.take 4 (.take 5 (.take 6 (.go 1 [6,4] (.go 2 [6,4] (.go 7 [] .done))))))))),
(49,14,(.take 0 (.take 3 (.take 4 (.go 1 [4] (.go 2 [4] (.go 5 [] .done))))))),
(49,16,(.take 0 (.take 3 (.take 4 (.take 8 (.take 9 (.alt (.go 6 [9,4] (.go 1 [9,4] (.go 2 [9,4] (.go 5 [9] (.go 7 [9] (.go 10 [] .done)))))) (.go 1 [9,4] (.alt (.go 6 [9,4] (.go 2 [9,4] (.go 5 [9] (.go 7 [9] (.go 10 [] .done))))) (.go 2 [9,4] (.alt (.go 6 [9,4] (.go 5 [9] (.go 7 [9] (.go 10 [] .done)))) (.go 5 [9] (.go 6 [9,4] (.go 7 [9] (.go 10 [] .done))))))))))))))),
(49,18,(.take 0 (.take 3 (.take 4 (.go 1 [4] (.go 2 [4] (.go 5 [] .done))))))),
(51,6,(.take 0 (.take 1 (.take 2 (.take 3 (.take 4 (.take 5 (.take 6 (.take 7 (.take 8 .done)))))))))),
(54,6,(.take 0 (.take 1 (.take 2 (.take 3 (.take 4 (.take 5 (.go 6 [] (.go 7 [] .done))))))))),
(57,3,(.take 1 (.take 3 (.take 5 (.take 7 (.go 0 [] (.alt (.go 4 [] (.alt (.go 6 [] (.alt (.go 8 [] (.go 2 [] (.take 9 (.take 10 .done)))) (.go 2 [] (.go 8 [] (.take 9 (.take 10 .done)))))) (.alt (.go 8 [] (.alt (.go 6 [] (.go 2 [] (.take 9 (.take 10 .done)))) (.go 2 [] (.go 6 [] (.take 9 (.take 10 .done)))))) (.go 2 [] (.alt (.go 8 [] (.go 6 [] (.take 9 (.take 10 .done)))) (.go 6 [] (.go 8 [] (.take 9 (.take 10 .done))))))))) (.alt (.go 6 [] (.alt (.go 4 [] (.alt (.go 8 [] (.go 2 [] (.take 9 (.take 10 .done)))) (.go 2 [] (.go 8 [] (.take 9 (.take 10 .done)))))) (.alt (.go 8 [] (.alt (.go 4 [] (.go 2 [] (.take 9 (.take 10 .done)))) (.go 2 [] (.go 4 [] (.take 9 (.take 10 .done)))))) (.go 2 [] (.alt (.go 8 [] (.go 4 [] (.take 9 (.take 10 .done)))) (.go 4 [] (.go 8 [] (.take 9 (.take 10 .done))))))))) (.alt (.go 8 [] (.alt (.go 4 [] (.alt (.go 6 [] (.go 2 [] (.take 9 (.take 10 .done)))) (.go 2 [] (.go 6 [] (.take 9 (.take 10 .done)))))) (.alt (.go 6 [] (.alt (.go 4 [] (.go 2 [] (.take 9 (.take 10 .done)))) (.go 2 [] (.go 4 [] (.take 9 (.take 10 .done)))))) (.go 2 [] (.alt (.go 6 [] (.go 4 [] (.take 9 (.take 10 .done)))) (.go 4 [] (.go 6 [] (.take 9 (.take 10 .done))))))))) (.go 2 [] (.alt (.go 6 [] (.alt (.go 8 [] (.go 4 [] (.take 9 (.take 10 .done)))) (.go 4 [] (.go 8 [] (.take 9 (.take 10 .done)))))) (.alt (.go 8 [] (.alt (.go 6 [] (.go 4 [] (.take 9 (.take 10 .done)))) (.go 4 [] (.go 6 [] (.take 9 (.take 10 .done)))))) (.go 4 [] (.alt (.go 8 [] (.go 6 [] (.take 9 (.take 10 .done)))) (.go 6 [] (.go 8 [] (.take 9 (.take 10 .done)))))))))))))))))),
(62,6,(.take 0 (.take 1 (.take 2 (.take 3 (.take 4 (.take 5 (.take 6 (.take 7 (.take 8 (.take 9 (.take 10 (.take 11 (.take 12 (.take 13 (.take 14 (.take 15 (.take 16 (.take 17 (.take 18 (.take 19 (.take 20 (.take 21 (.take 22 (.take 23 (.take 24 (.take 25 (.take 26 (.take 27 (.take 28 (.take 29 (.take 30 (.take 31 (.take 32 (.take 33 (.take 34 (.take 35 (.take 36 .done)))))))))))))))))))))))))))))))))))))),
(65,6,(.take 0 (.take 1 (.take 2 (.take 3 (.take 4 (.take 5 (.take 6 (.take 7 (.take 8 .done)))))))))),
(68,4,(.take 0 (.take 2 (.go 1 [2] (.go 3 [] (.take 4 .done)))))),
(75,1,(.take 0 (.take 1 (.take 2 (.take 3 (.take 4 (.go 5 [1] (.go 6 [1] (.take 7 (.take 8 (.take 9 .done))))))))))),
(99,6,(.take 0 (.take 1 (.take 2 (.take 3 (.take 4 (.take 5 (.take 6 (.take 7 (.take 8 .done)))))))))),
(107,6,(.take 0 (.take 1 (.take 2 (.take 3 (.take 4 (.take 5 (.take 6 (.take 7 (.take 8 (.take 9 (.take 10 (.take 11 (.take 12 (.take 13 (.take 14 (.take 15 (.take 16 (.take 17 (.take 18 (.take 19 (.take 20 (.take 21 (.go 22 [] (.take 23 (.take 24 .done)))))))))))))))))))))))))),
(108,3,(.take 0 (.take 3 (.take 4 (.alt (.go 6 [4] (.go 1 [4] (.go 2 [4] (.go 5 [] (.go 7 [] .done))))) (.go 1 [4] (.alt (.go 6 [4] (.go 2 [4] (.go 5 [] (.go 7 [] .done)))) (.go 2 [4] (.alt (.go 6 [4] (.go 5 [] (.go 7 [] .done))) (.go 5 [] (.go 6 [4] (.go 7 [] .done)))))))))))),
(108,5,(.take 0 (.take 3 (.take 4 (.take 5 (.take 6 (.go 1 [6,4] (.go 2 [6,4] (.go 7 [] .done))))))))),
(109,3,(.take 0 (.take 2 (.take 3 (.go 1 [3] (.go 4 [] (.go 5 [] (.go 6 [] (.go 7 [] (.take 8 .done)))))))))),
(109,5,(.take 0 (.take 2 (.take 3 (.take 4 (.take 5 (.go 1 [5,3] (.go 6 [] (.go 7 [] (.go 8 [] (.take 9 .done))))))))))),
(111,5,(.take 0 (.take 1 (.take 4 (.take 5 (.take 6 (.take 7 (.go 2 [7,5] (.go 3 [7,5] (.go 8 [] (.go 9 [] (.go 10 [] (.take 11 .done))))))))))))),
(112,7,(.take 0 (.take 1 (.take 2 (.take 3 (.take 4 (.take 5 (.go 6 [4] (.go 7 [] (.take 8 (.take 9 (.go 10 [] .done)))))))))))),
(115,3,(.take 0 (.take 3 (.go 1 [3] (.go 2 [3] (.go 4 [] (.take 5 .done))))))),
(116,13,(.take 0 (.take 1 (.take 2 (.take 3 (.take 4 (.take 5 (.take 8 (.take 9 (.take 10 (.take 11 (.take 12 (.take 13 (.take 15 (.take 16 (.take 17 (.take 18 (.take 19 (.go 6 [19,13] (.go 7 [19,13] (.go 14 [19] (.go 20 [] (.go 21 [] (.go 22 [] (.take 23 .done))))))))))))))))))))))))),
(117,7,(.take 0 (.take 1 (.take 2 (.take 3 (.take 4 (.take 5 (.take 8 (.take 9 (.take 10 (.take 11 (.take 12 (.go 6 [12] (.go 7 [12] (.go 13 [] (.go 14 [] (.go 15 [] (.take 16 .done)))))))))))))))))),
(118,5,(.take 0 (.take 1 (.take 3 (.take 4 (.take 8 (.take 9 (.take 11 (.take 12 (.alt (.go 6 [12,9,4] (.alt (.go 14 [12,9,4] (.go 2 [12,9,4] (.go 5 [12,9] (.go 7 [12,9] (.go 10 [12] (.go 13 [] (.go 15 [] (.go 16 [] .done)))))))) (.go 2 [12,9,4] (.alt (.go 14 [12,9,4] (.go 5 [12,9] (.go 7 [12,9] (.go 10 [12] (.go 13 [] (.go 15 [] (.go 16 [] .done))))))) (.go 5 [12,9] (.alt (.go 14 [12,9,4] (.go 7 [12,9] (.go 10 [12] (.go 13 [] (.go 15 [] (.go 16 [] .done)))))) (.go 7 [12,9] (.alt (.go 14 [12,9,4] (.go 10 [12] (.go 13 [] (.go 15 [] (.go 16 [] .done))))) (.go 10 [12] (.alt (.go 14 [12,9,4] (.go 13 [] (.go 15 [] (.go 16 [] .done)))) (.go 13 [] (.go 14 [12,9,4] (.go 15 [] (.go 16 [] .done)))))))))))))) (.alt (.go 14 [12,9,4] (.alt (.go 6 [12,9,4] (.go 2 [12,9,4] (.go 5 [12,9] (.go 7 [12,9] (.go 10 [12] (.go 13 [] (.go 15 [] (.go 16 [] .done)))))))) (.go 2 [12,9,4] (.alt (.go 6 [12,9,4] (.go 5 [12,9] (.go 7 [12,9] (.go 10 [12] (.go 13 [] (.go 15 [] (.go 16 [] .done))))))) (.go 5 [12,9] (.go 6 [12,9,4] (.go 7 [12,9] (.go 10 [12] (.go 13 [] (.go 15 [] (.go 16 [] .done))))))))))) (.go 2 [12,9,4] (.alt (.go 6 [12,9,4] (.alt (.go 14 [12,9,4] (.go 5 [12,9] (.go 7 [12,9] (.go 10 [12] (.go 13 [] (.go 15 [] (.go 16 [] .done))))))) (.go 5 [12,9] (.alt (.go 14 [12,9,4] (.go 7 [12,9] (.go 10 [12] (.go 13 [] (.go 15 [] (.go 16 [] .done)))))) (.go 7 [12,9] (.alt (.go 14 [12,9,4] (.go 10 [12] (.go 13 [] (.go 15 [] (.go 16 [] .done))))) (.go 10 [12] (.alt (.go 14 [12,9,4] (.go 13 [] (.go 15 [] (.go 16 [] .done)))) (.go 13 [] (.go 14 [12,9,4] (.go 15 [] (.go 16 [] .done)))))))))))) (.alt (.go 14 [12,9,4] (.alt (.go 6 [12,9,4] (.go 5 [12,9] (.go 7 [12,9] (.go 10 [12] (.go 13 [] (.go 15 [] (.go 16 [] .done))))))) (.go 5 [12,9] (.go 6 [12,9,4] (.go 7 [12,9] (.go 10 [12] (.go 13 [] (.go 15 [] (.go 16 [] .done))))))))) (.go 5 [12,9] (.alt (.go 14 [12,9,4] (.go 6 [12,9,4] (.go 7 [12,9] (.go 10 [12] (.go 13 [] (.go 15 [] (.go 16 [] .done))))))) (.go 6 [12,9,4] (.alt (.go 14 [12,9,4] (.go 7 [12,9] (.go 10 [12] (.go 13 [] (.go 15 [] (.go 16 [] .done)))))) (.go 7 [12,9] (.alt (.go 14 [12,9,4] (.go 10 [12] (.go 13 [] (.go 15 [] (.go 16 [] .done))))) (.go 10 [12] (.alt (.go 14 [12,9,4] (.go 13 [] (.go 15 [] (.go 16 [] .done)))) (.go 13 [] (.go 14 [12,9,4] (.go 15 [] (.go 16 [] .done)))))))))))))))))))))))))),
(119,7,(.take 0 (.take 1 (.take 2 (.take 3 (.take 4 (.take 5 (.take 6 (.take 9 (.take 10 (.take 11 (.take 12 (.take 13 (.take 15 (.take 16 (.take 17 (.take 18 (.take 19 (.go 7 [19,13] (.go 8 [19,13] (.go 14 [19] (.go 20 [] (.go 21 [] (.go 22 [] (.go 23 [] (.take 24 (.go 25 [] (.go 26 [] (.take 27 .done))))))))))))))))))))))))))))),
(120,1,(.take 0 (.take 1 (.take 5 (.alt (.go 3 [5,1] (.go 2 [5] (.go 4 [5] (.go 6 [] (.take 7 .done))))) (.go 2 [5] (.go 3 [5,1] (.go 4 [5] (.go 6 [] (.take 7 .done)))))))))),
(121,5,(.take 0 (.take 1 (.take 2 (.take 6 (.take 7 (.alt (.go 4 [7] (.alt (.go 8 [] (.alt (.go 10 [7] (.go 3 [7] (.go 5 [7] (.go 9 [] (.go 11 [] (.go 12 [] .done)))))) (.go 3 [7] (.alt (.go 10 [7] (.go 5 [7] (.go 9 [] (.go 11 [] (.go 12 [] .done))))) (.go 5 [7] (.alt (.go 10 [7] (.go 9 [] (.go 11 [] (.go 12 [] .done)))) (.go 9 [] (.go 10 [7] (.go 11 [] (.go 12 [] .done)))))))))) (.alt (.go 10 [7] (.alt (.go 8 [] (.go 3 [7] (.go 5 [7] (.go 9 [] (.go 11 [] (.go 12 [] .done)))))) (.go 3 [7] (.alt (.go 8 [] (.go 5 [7] (.go 9 [] (.go 11 [] (.go 12 [] .done))))) (.go 5 [7] (.go 8 [] (.go 9 [] (.go 11 [] (.go 12 [] .done))))))))) (.go 3 [7] (.alt (.go 8 [] (.alt (.go 10 [7] (.go 5 [7] (.go 9 [] (.go 11 [] (.go 12 [] .done))))) (.go 5 [7] (.alt (.go 10 [7] (.go 9 [] (.go 11 [] (.go 12 [] .done)))) (.go 9 [] (.go 10 [7] (.go 11 [] (.go 12 [] .done)))))))) (.alt (.go 10 [7] (.alt (.go 8 [] (.go 5 [7] (.go 9 [] (.go 11 [] (.go 12 [] .done))))) (.go 5 [7] (.go 8 [] (.go 9 [] (.go 11 [] (.go 12 [] .done))))))) (.go 5 [7] (.alt (.go 10 [7] (.go 8 [] (.go 9 [] (.go 11 [] (.go 12 [] .done))))) (.go 8 [] (.alt (.go 10 [7] (.go 9 [] (.go 11 [] (.go 12 [] .done)))) (.go 9 [] (.go 10 [7] (.go 11 [] (.go 12 [] .done)))))))))))))) (.alt (.go 8 [] (.alt (.go 4 [7] (.alt (.go 10 [7] (.go 3 [7] (.go 5 [7] (.go 9 [] (.go 11 [] (.go 12 [] .done)))))) (.go 3 [7] (.alt (.go 10 [7] (.go 5 [7] (.go 9 [] (.go 11 [] (.go 12 [] .done))))) (.go 5 [7] (.alt (.go 10 [7] (.go 9 [] (.go 11 [] (.go 12 [] .done)))) (.go 9 [] (.go 10 [7] (.go 11 [] (.go 12 [] .done)))))))))) (.alt (.go 10 [7] (.alt (.go 4 [7] (.go 3 [7] (.go 5 [7] (.go 9 [] (.go 11 [] (.go 12 [] .done)))))) (.go 3 [7] (.go 4 [7] (.go 5 [7] (.go 9 [] (.go 11 [] (.go 12 [] .done)))))))) (.go 3 [7] (.alt (.go 10 [7] (.go 4 [7] (.go 5 [7] (.go 9 [] (.go 11 [] (.go 12 [] .done)))))) (.go 4 [7] (.alt (.go 10 [7] (.go 5 [7] (.go 9 [] (.go 11 [] (.go 12 [] .done))))) (.go 5 [7] (.alt (.go 10 [7] (.go 9 [] (.go 11 [] (.go 12 [] .done)))) (.go 9 [] (.go 10 [7] (.go 11 [] (.go 12 [] .done))))))))))))) (.alt (.go 10 [7] (.alt (.go 4 [7] (.alt (.go 8 [] (.go 3 [7] (.go 5 [7] (.go 9 [] (.go 11 [] (.go 12 [] .done)))))) (.go 3 [7] (.alt (.go 8 [] (.go 5 [7] (.go 9 [] (.go 11 [] (.go 12 [] .done))))) (.go 5 [7] (.go 8 [] (.go 9 [] (.go 11 [] (.go 12 [] .done))))))))) (.alt (.go 8 [] (.alt (.go 4 [7] (.go 3 [7] (.go 5 [7] (.go 9 [] (.go 11 [] (.go 12 [] .done)))))) (.go 3 [7] (.go 4 [7] (.go 5 [7] (.go 9 [] (.go 11 [] (.go 12 [] .done)))))))) (.go 3 [7] (.alt (.go 8 [] (.go 4 [7] (.go 5 [7] (.go 9 [] (.go 11 [] (.go 12 [] .done)))))) (.go 4 [7] (.alt (.go 8 [] (.go 5 [7] (.go 9 [] (.go 11 [] (.go 12 [] .done))))) (.go 5 [7] (.go 8 [] (.go 9 [] (.go 11 [] (.go 12 [] .done)))))))))))) (.go 3 [7] (.alt (.go 8 [] (.alt (.go 10 [7] (.go 4 [7] (.go 5 [7] (.go 9 [] (.go 11 [] (.go 12 [] .done)))))) (.go 4 [7] (.alt (.go 10 [7] (.go 5 [7] (.go 9 [] (.go 11 [] (.go 12 [] .done))))) (.go 5 [7] (.alt (.go 10 [7] (.go 9 [] (.go 11 [] (.go 12 [] .done)))) (.go 9 [] (.go 10 [7] (.go 11 [] (.go 12 [] .done)))))))))) (.alt (.go 10 [7] (.alt (.go 8 [] (.go 4 [7] (.go 5 [7] (.go 9 [] (.go 11 [] (.go 12 [] .done)))))) (.go 4 [7] (.alt (.go 8 [] (.go 5 [7] (.go 9 [] (.go 11 [] (.go 12 [] .done))))) (.go 5 [7] (.go 8 [] (.go 9 [] (.go 11 [] (.go 12 [] .done))))))))) (.go 4 [7] (.alt (.go 8 [] (.alt (.go 10 [7] (.go 5 [7] (.go 9 [] (.go 11 [] (.go 12 [] .done))))) (.go 5 [7] (.alt (.go 10 [7] (.go 9 [] (.go 11 [] (.go 12 [] .done)))) (.go 9 [] (.go 10 [7] (.go 11 [] (.go 12 [] .done)))))))) (.alt (.go 10 [7] (.alt (.go 8 [] (.go 5 [7] (.go 9 [] (.go 11 [] (.go 12 [] .done))))) (.go 5 [7] (.go 8 [] (.go 9 [] (.go 11 [] (.go 12 [] .done))))))) (.go 5 [7] (.alt (.go 10 [7] (.go 8 [] (.go 9 [] (.go 11 [] (.go 12 [] .done))))) (.go 8 [] (.alt (.go 10 [7] (.go 9 [] (.go 11 [] (.go 12 [] .done)))) (.go 9 [] (.go 10 [7] (.go 11 [] (.go 12 [] .done))))))))))))))))))))))),
(122,0,(.take 0 (.take 1 (.take 2 (.take 3 (.take 4 (.take 5 (.take 6 (.take 7 (.take 8 (.take 9 (.take 10 (.go 11 [4] (.go 12 [] (.take 13 (.take 14 (.go 15 [] .done))))))))))))))))),
(123,7,(.take 1 (.take 2 (.go 0 [2] (.go 3 [] (.go 4 [] (.go 5 [] (.go 6 [] (.take 7 .done))))))))),
(123,9,(.take 1 (.take 2 (.take 3 (.take 4 (.go 0 [4,2] (.go 5 [] (.go 6 [] (.go 7 [] (.take 8 .done)))))))))),
(123,11,(.take 1 (.take 2 (.go 0 [2] (.go 3 [] (.go 4 [] (.go 5 [] (.take 6 .done)))))))),
(123,13,(.take 2 (.take 3 (.take 7 (.take 8 (.go 0 [8,3] (.go 1 [8,3] (.go 4 [8] (.go 5 [8] (.go 6 [8] (.go 9 [] (.go 10 [] (.go 11 [] (.take 12 .done)))))))))))))),
(123,15,(.take 1 (.take 2 (.go 0 [2] (.go 3 [] (.go 4 [] (.go 5 [] (.take 6 .done)))))))),
(127,3,(.take 0 (.take 1 (.take 2 (.take 3 (.go 4 [3] (.go 5 [] .done))))))),
(128,1,(.take 0 (.take 1 (.take 2 (.take 3 (.take 4 (.take 5 (.take 6 (.take 7 (.take 8 (.take 9 .done))))))))))),
(128,2,(.take 0 (.take 1 (.take 2 (.take 3 (.take 4 (.take 5 (.take 6 (.take 7 (.take 8 (.take 9 (.go 10 [] .done)))))))))))),
(132,4,(.take 0 (.take 2 (.take 4 (.alt (.go 3 [0] (.go 1 [] (.take 5 (.go 6 [] .done)))) (.go 1 [] (.go 3 [0] (.take 5 (.go 6 [] .done))))))))),
(137,6,(.take 0 (.take 1 (.take 2 (.take 3 (.take 4 (.go 5 [4] (.go 6 [] (.go 7 [] .done))))))))),
(139,6,(.take 0 (.take 1 (.take 2 (.take 3 (.take 4 (.go 5 [4] (.go 6 [] (.go 7 [] .done))))))))),
(140,3,(.take 0 (.take 1 (.go 2 [0] (.take 3 (.go 4 [] .done)))))),
(146,2,(.take 0 (.take 1 (.take 2 (.take 3 (.take 4 (.take 5 (.take 6 (.take 7 (.go 8 [] (.take 9 (.take 10 (.take 11 (.take 12 (.take 13 (.take 14 (.go 15 [11] (.go 16 [] (.take 17 (.take 18 .done)))))))))))))))))))),
(167,6,(.take 0 (.take 1 (.take 2 (.take 3 (.take 4 (.take 5 (.take 6 (.take 7 (.go 8 [] (.take 9 .done))))))))))),
(168,6,(.take 0 (.take 1 (.take 2 (.take 3 (.take 4 (.take 5 (.take 6 (.take 7 (.take 8 (.take 9 (.go 10 [] (.take 11 (.take 12 (.take 13 (.take 14 (.take 15 (.take 16 (.take 17 (.take 18 (.take 19 (.take 20 (.take 21 (.take 22 (.go 23 [] (.take 24 (.take 25 .done))))))))))))))))))))))))))),
(171,9,(.take 0 (.take 1 (.take 2 (.take 3 (.take 6 (.take 7 (.go 4 [7] (.go 5 [7] (.go 8 [] (.go 9 [] (.go 10 [] (.go 11 [] (.go 12 [] (.take 13 .done))))))))))))))),
(171,13,(.take 0 (.take 1 (.take 2 (.take 3 (.take 6 (.take 7 (.go 4 [7] (.go 5 [7] (.go 8 [] (.go 9 [] (.go 10 [] (.go 11 [] (.go 12 [] (.take 13 .done))))))))))))))),
(171,15,(.take 0 (.take 1 (.take 2 (.take 3 (.take 8 (.take 9 (.go 4 [9] (.go 5 [9] (.go 6 [9] (.go 7 [9] (.go 10 [] (.go 11 [] (.go 12 [] (.go 13 [] (.go 14 [] (.go 15 [] (.take 16 .done)))))))))))))))))),
(171,18,(.take 0 (.take 1 (.take 2 (.take 3 (.take 8 (.take 9 (.take 10 (.take 11 (.go 4 [11,9] (.go 5 [11,9] (.go 6 [11,9] (.go 7 [11,9] (.go 12 [] (.go 13 [] (.go 14 [] (.take 15 .done))))))))))))))))),
(171,19,(.take 0 (.take 1 (.take 2 (.take 3 (.take 9 (.take 10 (.take 11 (.take 12 (.go 4 [12,10] (.go 5 [12,10] (.go 6 [12,10] (.go 7 [12,10] (.go 8 [12,10] (.go 13 [] (.go 14 [] (.go 15 [] (.go 16 [] (.go 17 [] (.go 18 [] (.take 19 .done))))))))))))))))))))),
(171,21,(.take 3 (.take 4 (.go 0 [4] (.go 1 [4] (.go 2 [4] (.go 5 [] (.go 6 [] (.go 7 [] (.go 8 [] (.go 9 [] (.go 10 [] (.take 11 .done))))))))))))),
(171,23,(.take 4 (.take 5 (.take 6 (.take 7 (.take 12 (.take 13 (.take 14 (.take 15 (.take 20 (.take 21 (.take 22 (.take 23 (.go 0 [23,21,15,13,7,5] (.go 1 [23,21,15,13,7,5] (.go 2 [23,21,15,13,7,5] (.go 3 [23,21,15,13,7,5] (.go 8 [23,21,15,13] (.go 9 [23,21,15,13] (.go 10 [23,21,15,13] (.go 11 [23,21,15,13] (.go 16 [23,21] (.go 17 [23,21] (.go 18 [23,21] (.go 19 [23,21] (.go 24 [] (.go 25 [] (.go 26 [] (.go 27 [] (.go 28 [] (.go 29 [] (.take 30 .done)))))))))))))))))))))))))))))))),
(171,25,(.take 0 (.take 1 (.take 3 (.take 4 (.take 5 (.take 6 (.take 7 (.go 2 [7,6,4] (.go 8 [6,4] (.go 9 [] (.go 10 [] (.go 11 [] (.take 12 .done)))))))))))))),
(171,27,(.take 0 (.take 1 (.take 2 (.take 3 (.take 4 (.take 7 (.take 8 (.take 10 (.take 11 (.take 12 (.take 13 (.take 14 (.go 5 [14,13,11,8,3,1] (.go 6 [14,13,11,8] (.go 9 [14,13,11] (.go 15 [13,11] (.go 16 [] (.go 17 [] (.go 18 [] (.take 19 .done))))))))))))))))))))),
(171,31,(.take 0 (.take 1 (.take 2 (.take 3 (.take 5 (.take 6 (.take 7 (.take 8 (.take 9 (.go 4 [9,7] (.go 10 [] (.go 11 [] (.go 12 [] (.take 13 .done))))))))))))))),
(171,33,(.take 0 (.take 4 (.take 5 (.take 6 (.take 7 (.go 1 [7,5] (.go 2 [7,5] (.go 3 [7,5] (.go 8 [] (.go 9 [] (.go 10 [] (.take 11 .done))))))))))))),
(175,1,(.take 0 (.take 3 (.go 1 [3] (.go 2 [3] (.go 4 [] (.go 5 [] (.go 6 [] (.take 7 .done))))))))),
(179,3,(.take 1 (.go 0 [1] (.go 2 [] (.go 3 [] (.go 4 [] (.take 5 .done))))))),
(182,2,(.take 0 (.take 3 (.alt (.go 5 [3] (.go 1 [3] (.go 2 [3] (.go 4 [] (.go 6 [] (.take 7 .done)))))) (.go 1 [3] (.alt (.go 5 [3] (.go 2 [3] (.go 4 [] (.go 6 [] (.take 7 .done))))) (.go 2 [3] (.alt (.go 5 [3] (.go 4 [] (.go 6 [] (.take 7 .done)))) (.go 4 [] (.go 5 [3] (.go 6 [] (.take 7 .done)))))))))))),
(184,5,(.take 0 (.take 1 (.take 2 (.take 4 (.take 5 (.go 3 [5] (.go 6 [] (.go 7 [] (.go 8 [] (.go 9 [] (.take 10 (.go 11 [] (.go 12 [] (.take 13 .done))))))))))))))),
(188,6,(.take 0 (.take 1 (.take 2 (.take 3 (.take 4 (.take 5 (.take 6 (.take 7 (.take 8 (.take 9 (.take 10 (.take 11 (.take 12 (.take 13 .done))))))))))))))),
(190,4,(.take 0 (.take 1 (.take 2 (.take 3 (.take 4 (.take 5 (.take 6 (.take 7 (.take 8 (.take 9 (.take 10 (.take 11 (.take 12 .done)))))))))))))),
(194,6,(.take 0 (.take 1 (.take 2 (.take 3 (.take 4 (.go 5 [4] (.go 6 [] (.go 7 [] .done))))))))),
(197,5,(.take 0 (.take 1 (.take 2 (.take 3 (.take 4 (.take 5 (.take 6 (.take 7 (.take 8 (.take 9 (.take 10 (.take 11 (.go 12 [] (.take 13 (.take 14 .done)))))))))))))))),
(198,3,(.take 0 (.take 1 (.take 2 (.take 3 (.go 4 [3] (.go 5 [] .done))))))),
(199,3,(.take 0 (.take 1 (.go 2 [0] (.go 3 [] (.go 4 [] .done)))))),
(200,3,(.take 0 (.take 1 (.take 2 (.take 3 (.go 4 [3] (.go 5 [] .done))))))),
(230,2,(.take 3 (.go 0 [3] (.go 1 [3] (.go 2 [3] (.go 4 [] (.go 5 [] (.go 6 [] (.go 7 [] (.go 8 [] (.go 9 [] (.take 10 .done)))))))))))),
(231,3,(.take 0 (.take 1 (.take 2 (.take 3 (.take 4 (.take 5 (.take 6 (.take 7 (.take 8 (.take 9 (.take 10 (.take 11 (.take 12 (.take 13 (.take 14 (.take 15 (.take 16 (.take 17 (.take 18 (.take 19 .done))))))))))))))))))))),
(232,2,(.take 1 (.go 0 [1] (.go 2 [] (.go 3 [] (.go 4 [] (.go 5 [] (.take 6 .done)))))))),
(233,5,(.take 0 (.take 1 (.take 2 (.take 3 (.take 4 (.take 5 (.take 6 (.take 7 (.go 8 [4] (.go 9 [] (.take 10 (.take 11 (.go 12 [] .done)))))))))))))),
(236,6,(.take 0 (.take 1 (.take 2 (.take 3 (.take 4 (.take 5 (.take 6 (.take 7 (.take 8 (.go 9 [] .done))))))))))),
(240,1,(.take 0 (.take 1 (.take 2 (.take 3 (.take 4 (.take 5 (.take 6 (.take 7 (.take 8 (.take 9 (.alt (.go 15 [9,8,4] (.go 10 [] (.take 11 (.take 12 (.take 13 (.take 14 (.go 16 [] (.take 17 (.take 18 .done))))))))) (.go 10 [] (.take 11 (.take 12 (.take 13 (.take 14 (.go 15 [9,8,4] (.go 16 [] (.take 17 (.take 18 .done))))))))))))))))))))),
(243,3,(.take 0 (.take 1 (.take 2 (.take 3 (.go 4 [3] (.go 5 [] .done))))))),
(266,12,(.take 0 (.take 1 (.take 2 (.take 3 (.take 4 (.take 5 (.take 6 (.take 7 (.take 12 (.take 13 (.take 14 (.take 15 (.take 16 (.take 17 (.take 18 (.go 8 [18,16] (.go 9 [18,16] (.go 10 [18,16] (.go 11 [18,16] (.go 19 [] (.go 20 [] (.go 21 [] (.take 22 .done)))))))))))))))))))))))),
(269,6,(.take 0 (.take 1 (.take 2 (.take 3 (.take 4 (.take 5 (.go 6 [4] (.go 7 [] (.take 8 (.take 9 (.go 10 [] .done)))))))))))),
(274,4,(.take 0 (.take 2 (.take 3 (.go 1 [3] (.take 4 (.take 5 (.go 6 [] .done)))))))),
(275,5,(.take 0 (.take 1 (.take 2 (.take 3 (.take 4 (.take 5 (.take 6 (.take 7 (.take 8 (.take 9 (.take 10 (.take 11 (.take 12 (.take 13 (.take 14 (.take 15 (.take 16 (.take 17 (.take 18 (.take 19 (.take 20 .done)))))))))))))))))))))),
(275,8,(.take 0 (.take 2 (.take 3 (.go 1 [3] (.take 4 (.take 5 (.go 6 [] .done)))))))),
(276,4,(.take 0 (.take 1 (.take 2 (.take 3 (.take 4 (.take 5 (.take 6 (.take 7 (.take 8 (.go 9 [] .done))))))))))),
(280,3,(.take 0 (.take 1 (.take 2 (.go 3 [1] (.go 4 [] (.go 5 [] .done))))))),
(280,9,(.take 0 (.take 1 (.go 2 [0] (.go 3 [] (.take 4 .done)))))),
(285,14,(.take 0 (.take 1 (.take 2 (.take 6 (.go 3 [1] (.go 4 [1] (.go 5 [] (.go 7 [] (.take 8 (.go 9 [] .done))))))))))),
(286,4,(.take 0 (.take 1 (.take 2 (.take 3 (.take 4 (.go 5 [4] (.go 6 [] (.go 7 [] .done))))))))),
(294,4,(.take 0 (.take 1 (.take 2 (.take 3 (.take 4 (.take 5 (.take 6 (.take 7 (.take 8 (.take 9 (.go 10 [] (.take 11 .done))))))))))))),
(301,6,(.take 0 (.take 1 (.take 2 (.take 3 (.go 4 [1] (.go 5 [1] (.go 6 [] (.go 7 [] .done))))))))),
(302,7,(.take 0 (.take 1 (.take 2 (.take 3 (.take 4 (.take 5 (.take 6 (.take 7 (.take 8 (.take 9 (.take 10 (.take 11 (.go 12 [] .done)))))))))))))),
(307,4,(.take 0 (.take 1 (.take 2 (.go 3 [1] (.go 4 [] (.go 5 [] .done))))))),
(308,1,(.take 0 (.take 1 (.take 2 (.take 3 (.take 4 (.take 5 (.take 6 (.take 7 (.take 8 (.take 9 (.take 10 (.take 11 .done))))))))))))),
(308,2,(.take 0 (.take 1 (.take 2 (.take 3 (.take 4 (.take 5 (.take 6 (.take 7 (.take 8 (.take 9 (.take 10 (.take 11 (.go 12 [] .done)))))))))))))),
(310,8,(.take 0 (.take 1 (.take 2 (.go 3 [1] (.go 4 [1] (.go 5 [] (.take 6 (.go 7 [] .done))))))))),
(317,1,(.take 0 (.take 1 (.take 2 (.take 3 (.take 4 (.take 5 (.take 6 (.take 7 (.take 8 (.take 9 (.go 10 [] (.take 11 (.take 12 (.take 13 (.take 14 (.take 15 (.take 16 (.take 17 .done))))))))))))))))))),
(321,6,(.take 0 (.take 1 (.take 2 (.go 3 [1] (.go 4 [1] (.go 5 [] (.take 6 (.go 7 [] .done))))))))),
(322,2,(.take 0 (.take 1 (.take 2 (.take 3 (.take 4 (.take 5 (.take 6 (.take 7 (.take 8 (.take 9 (.take 10 (.take 11 (.take 12 (.take 13 (.alt (.go 15 [11,7] (.go 14 [] (.go 16 [] (.take 17 .done)))) (.go 14 [] (.go 15 [11,7] (.go 16 [] (.take 17 .done)))))))))))))))))))),
(323,4,(.take 0 (.take 1 (.take 2 (.take 3 (.take 4 (.take 5 (.go 6 [] (.go 7 [] .done))))))))),
(325,9,(.take 0 (.take 1 (.take 2 (.take 3 (.take 4 (.take 5 (.take 6 (.take 7 (.take 8 (.take 9 (.take 10 (.take 11 (.take 12 (.take 13 (.take 14 (.take 15 (.take 16 (.take 17 (.take 18 (.take 19 .done))))))))))))))))))))),
(325,18,(.take 0 (.take 1 (.take 2 (.take 3 (.take 4 (.take 5 (.take 6 (.take 7 (.take 8 (.take 9 (.take 10 (.take 11 (.take 12 (.take 13 (.take 14 (.take 15 (.take 16 (.take 17 (.take 18 (.take 19 .done))))))))))))))))))))),
(326,9,(.take 0 (.take 1 (.take 2 (.take 3 (.take 4 (.take 5 (.take 6 (.take 7 (.take 8 (.take 9 (.take 10 (.take 11 (.take 12 (.take 13 (.take 14 (.take 15 (.take 16 (.take 17 (.take 18 (.take 19 .done))))))))))))))))))))),
(327,5,(.take 0 (.take 1 (.go 2 [0] (.go 3 [] (.take 4 (.go 5 [] .done)))))))]
def Db7:List (FuncId×Nat):= [(2,0),(3,3),(4,1),(5,2),(6,2),(7,1),(8,1),(9,1),(10,1),(11,0),(12,2),(13,1),(14,1),(15,1),(16,1),(17,1),(18,1),(19,1),(20,1),(21,1),(22,1),(23,1),(24,1),(25,1),(26,1),(27,1),(28,2),(29,2),(30,2),(31,2),(32,2),(33,2),(34,2),(35,2),(36,2),(37,2),(38,2),(39,1),(40,1),(41,1),(42,1),(43,1),(44,1),(45,1),(46,1),(47,2),(48,2),(49,2),(50,2),(51,2),(52,2),(53,1),(54,3),(55,1),(56,2),(57,1),(58,2),(59,4),(60,1),(61,1),(62,2),(63,3),(64,2),(65,2),(66,2),(67,3),(68,1),(69,1),(70,1),(71,1),(72,2),(73,3),(74,1),(75,1),(76,2),(77,2),(78,1),(79,2),(80,1),(81,1),(82,1),(83,1),(84,1),(85,1),(86,1),(87,1),(88,1),(89,1),(90,1),(91,1),(92,0),(93,2),(94,2),(95,1),(96,1),(97,1),(98,2),(99,2),(100,3),(101,2),(102,3),(103,2),(104,3),(105,2),(106,2),(107,2),(108,2),(109,1),(110,2),(111,1),(112,2),(113,2),(114,2),(115,2),(116,1),(117,1),(118,3),(119,2),(120,3),(121,3),(122,3),(123,2),(124,3),(125,2),(126,1),(127,2),(128,1),(129,1),(130,2),(131,2),(132,1),(133,1),(134,2),(135,1),(136,1),(137,3),(138,1),(139,3),(140,1),(141,3),(142,2),(143,1),(144,1),(145,3),(146,4),(147,1),(148,2),(149,2),(150,1),(151,1),(152,2),(153,1),(154,2),(155,1),(156,1),(157,1),(158,1),(159,1),(160,1),(161,3),(162,1),(163,1),(164,1),(165,2),(166,1),(167,2),(168,2),(169,3),(170,2),(171,1),(172,1),(173,1),(174,1),(175,2),(176,1),(177,1),(178,1),(179,1),(180,1),(181,3),(182,2),(183,1),(184,2),(185,1),(186,1),(187,1),(188,1),(189,2),(190,1),(191,1),(192,2),(193,2),(194,3),(195,1),(196,1),(197,1),(198,2),(199,1),(200,2),(201,3),(202,2),(203,1),(204,5),(205,1),(206,1),(207,1),(208,1),(209,2),(210,1),(211,1),(212,1),(213,2),(214,2),(215,1),(216,2),(217,0),(218,2),(219,0),(220,1),(221,2),(222,1),(223,1),(224,1),(225,1),(226,1),(227,1),(228,1),(229,1),(230,2),(231,2),(232,1),(233,2),(234,1),(235,4),(236,2),(237,1),(238,0),(239,1),(240,2),(241,2),(242,2),(243,2),(244,1),(245,1),(246,1),(247,1),(248,1),(249,1),(250,0),(251,1),(252,1),(253,1),(254,2),(255,1),(256,1),(257,1),(258,2),(259,1),(260,1),(261,2),(262,1),(263,1),(264,3),(265,2),(266,1),(267,1),(268,1),(269,2),(270,2),(271,3),(272,4),(273,2),(274,2),(275,2),(276,3),(277,3),(278,1),(279,1),(280,2),(281,1),(282,1),(283,1),(284,1),(285,1),(286,2),(287,1),(288,2),(289,1),(290,1),(291,1),(292,2),(293,1),(294,2),(295,2),(296,2),(297,1),(298,2),(299,1),(300,0),(301,2),(302,4),(303,3),(304,2),(305,1),(306,1),(307,5),(308,2),(309,2),(310,1),(311,2),(312,1),(313,2),(314,2),(315,2),(316,1),(317,2),(318,1),(319,2),(320,3),(321,1),(322,1),(323,2),(324,1),(325,2),(326,2),(327,1),(328,2),(329,3),(354,0)]
noncomputable def xgt (g:Nat):Option DVal:=Bool.rec (motive:=fun _=>Option DVal) none (some (.vptr (Lib.asciiSpaceTab.map fun z=> .int .u8 z) 0)) (Nat.beq g 0)
noncomputable def xpM (memo:List (FuncId×List DVal×DVal)):XP:= { P:=Tryz.prog,gt:=xgt,plans:=Cc9,memo:=memo,good:=Db7 }
end Go.Dl

-- What the interpreter knows of this seat is true.
namespace Go.Dl
open Go Go.Proofs
set_option maxRecDepth 100000
theorem Cd0:Db7.all (fun x=>Be7 Tryz.prog Cc9 x.1 x.2)=true:=by kernel_rfl
theorem As4:Es (Lib.asciiSpaceTab.map fun z=> .int .u8 z)=true:=by decide+kernel
theorem Dh1 {G:Nat->DVal} (hG:GX G):XOk (xpM []) G:=by
 refine⟨by kernel_rfl,fun g d h ρ=> ?_,Cd0,rfl,fun x hx=>by cases hx⟩;have h:Bool.rec (motive:=fun _=>Option DVal) none (some (.vptr (Lib.asciiSpaceTab.map fun z=> .int .u8 z) 0)) (Nat.beq g 0)=some d:=h;cases hb:Nat.beq g 0 with
 | false=>rw[hb] at h;cases h
 | true=>
  rw[hb] at h;cases h;rw[Nat.eq_of_beq_eq_true hb,hG.space];exact .vptr 0 (Eo As4)
end Go.Dl

-- Closed calls that the examples need, worked out by the kernel. MADE BY PROGRAM (gen_memo.py).
namespace Go.Dl
open Go Go.Proofs
set_option maxRecDepth 100000
def Bf2:DVal:= .vslice [(.int .u8 4),(.int .i64 1),(.str [40]),(.int .i64 0),(.int .u8 1),(.int .i64 1),(.str [82,101,100]),(.int .i64 0),(.int .u8 4),(.int .i64 1),(.str [44]),(.int .i64 0),(.int .u8 1),(.int .i64 1),(.str [71,114,101,101,110]),(.int .i64 0),(.int .u8 4),(.int .i64 1),(.str [41]),(.int .i64 0),(.int .u8 4),(.int .i64 1),(.str [59]),(.int .i64 0)] 6
def Bf3:DVal:= .vslice [(.int .u8 2),(.int .i64 1),(.str [108,105,109,105,116,101,100]),(.int .i64 0),(.int .u8 2),(.int .i64 1),(.str [112,114,105,118,97,116,101]),(.int .i64 0),(.int .u8 4),(.int .i64 1),(.str [59]),(.int .i64 0)] 3
def Bf4:DVal:= .vslice [(.int .u8 2),(.int .i64 1),(.str [110,117,108,108]),(.int .i64 0),(.int .u8 2),(.int .i64 1),(.str [114,101,99,111,114,100]),(.int .i64 0)] 2
def Bf5:DVal:= .vslice [(.int .u8 2),(.int .i64 1),(.str [114,101,99,111,114,100]),(.int .i64 0),(.int .u8 1),(.int .i64 1),(.str [65]),(.int .i64 0),(.int .u8 4),(.int .i64 1),(.str [58]),(.int .i64 0),(.int .u8 1),(.int .i64 1),(.str [84]),(.int .i64 0),(.int .u8 4),(.int .i64 1),(.str [59]),(.int .i64 0),(.int .u8 2),(.int .i64 1),(.str [99,97,115,101]),(.int .i64 0),(.int .u8 1),(.int .i64 1),(.str [68]),(.int .i64 0),(.int .u8 2),(.int .i64 1),(.str [105,115]),(.int .i64 0),(.int .u8 2),(.int .i64 1),(.str [119,104,101,110]),(.int .i64 0),(.int .u8 3),(.int .i64 1),(.str []),(.int .i64 1),(.int .u8 4),(.int .i64 1),(.str [61,62]),(.int .i64 0),(.int .u8 2),(.int .i64 1),(.str [110,117,108,108]),(.int .i64 0),(.int .u8 4),(.int .i64 1),(.str [59]),(.int .i64 0),(.int .u8 2),(.int .i64 1),(.str [101,110,100]),(.int .i64 0),(.int .u8 2),(.int .i64 1),(.str [99,97,115,101]),(.int .i64 0),(.int .u8 4),(.int .i64 1),(.str [59]),(.int .i64 0),(.int .u8 2),(.int .i64 1),(.str [101,110,100]),(.int .i64 0),(.int .u8 2),(.int .i64 1),(.str [114,101,99,111,114,100]),(.int .i64 0),(.int .u8 4),(.int .i64 1),(.str [59]),(.int .i64 0)] 19
def Bf6:DVal:= .vslice [(.int .u8 1),(.int .i64 1),(.str [73,110,116,101,103,101,114]),(.int .i64 0),(.int .u8 2),(.int .i64 1),(.str [114,97,110,103,101]),(.int .i64 0),(.int .u8 3),(.int .i64 1),(.str []),(.int .i64 1),(.int .u8 4),(.int .i64 1),(.str [46,46]),(.int .i64 0),(.int .u8 3),(.int .i64 1),(.str []),(.int .i64 10)] 5
def Bf7:DVal:= .vslice [(.int .u8 1),(.int .i64 1),(.str [84]),(.int .i64 0),(.int .u8 2),(.int .i64 1),(.str [114,97,110,103,101]),(.int .i64 0),(.int .u8 3),(.int .i64 1),(.str []),(.int .i64 1),(.int .u8 4),(.int .i64 1),(.str [46,46]),(.int .i64 0),(.int .u8 1),(.int .i64 1),(.str [78]),(.int .i64 0),(.int .u8 4),(.int .i64 1),(.str [41]),(.int .i64 0)] 6
def Bf8:DVal:= .vslice [(.int .u8 1),(.int .i64 1),(.str [84]),(.int .i64 0),(.int .u8 4),(.int .i64 1),(.str [40]),(.int .i64 0),(.int .u8 3),(.int .i64 1),(.str []),(.int .i64 1),(.int .u8 4),(.int .i64 1),(.str [41]),(.int .i64 0)] 4
def Bf9:DVal:= .vslice [(.int .u8 1),(.int .i64 1),(.str [65]),(.int .i64 0),(.int .u8 4),(.int .i64 1),(.str [58]),(.int .i64 0),(.int .u8 2),(.int .i64 1),(.str [105,110]),(.int .i64 0),(.int .u8 2),(.int .i64 1),(.str [111,117,116]),(.int .i64 0),(.int .u8 1),(.int .i64 1),(.str [84]),(.int .i64 0),(.int .u8 4),(.int .i64 1),(.str [59]),(.int .i64 0),(.int .u8 1),(.int .i64 1),(.str [66]),(.int .i64 0),(.int .u8 4),(.int .i64 1),(.str [44]),(.int .i64 0),(.int .u8 1),(.int .i64 1),(.str [67]),(.int .i64 0),(.int .u8 4),(.int .i64 1),(.str [58]),(.int .i64 0),(.int .u8 1),(.int .i64 1),(.str [84]),(.int .i64 0),(.int .u8 4),(.int .i64 1),(.str [58,61]),(.int .i64 0),(.int .u8 3),(.int .i64 1),(.str []),(.int .i64 1),(.int .u8 4),(.int .i64 1),(.str [41]),(.int .i64 0)] 14
def Cd1:DVal:= .agg [(.int .u8 1),(.vslice [(.str [82,101,100]),(.str [71,114,101,101,110])] 2),(.int .u8 0),(.int .u8 0),(.int .i64 0),(.str []), .nilSlice, .nilSlice,(.int .i64 0),(.int .i64 0),(.int .i64 0),(.int .u8 0),(.int .u8 0),(.int .i64 0),(.str []), .nilSlice, .nilSlice,(.int .i64 0),(.int .i64 0),(.int .i64 0),(.int .u8 0),(.int .u8 0),(.int .i64 0),(.str []), .nilSlice, .nilSlice,(.int .i64 0),(.int .i64 0),(.int .i64 0),(.int .u8 0),(.int .u8 0),(.int .i64 0),(.str []), .nilSlice, .nilSlice,(.int .i64 0),(.int .i64 0),(.int .i64 0),(.int .u8 0),(.int .u8 0),(.int .i64 0),(.str []), .nilSlice, .nilSlice,(.int .i64 0),(.int .i64 0),(.int .i64 0),(.int .u8 0),(.int .u8 0),(.int .i64 0),(.str []), .nilSlice, .nilSlice,(.int .i64 0),(.int .i64 0),(.int .i64 0),(.int .u8 0),(.int .u8 0),(.int .i64 0),(.str []), .nilSlice, .nilSlice,(.int .i64 0),(.int .i64 0),(.int .i64 0),(.int .u8 0),(.int .u8 0),(.int .i64 0),(.str []), .nilSlice, .nilSlice,(.int .i64 0),(.int .i64 0),(.int .i64 0),(.int .u8 0),(.int .u8 0),(.int .i64 0),(.str []), .nilSlice, .nilSlice,(.int .i64 0),(.int .i64 0),(.int .i64 0), .nilSlice,(.str []), .nilSlice,(.bool false)]
def Cd2:DVal:= .agg [(.int .u8 7), .nilSlice,(.int .u8 0),(.int .u8 0),(.int .i64 0),(.str []), .nilSlice, .nilSlice,(.int .i64 0),(.int .i64 0),(.int .i64 0),(.int .u8 0),(.int .u8 0),(.int .i64 0),(.str []), .nilSlice, .nilSlice,(.int .i64 0),(.int .i64 0),(.int .i64 0),(.int .u8 0),(.int .u8 0),(.int .i64 0),(.str []), .nilSlice, .nilSlice,(.int .i64 0),(.int .i64 0),(.int .i64 0),(.int .u8 0),(.int .u8 0),(.int .i64 0),(.str []), .nilSlice, .nilSlice,(.int .i64 0),(.int .i64 0),(.int .i64 0),(.int .u8 0),(.int .u8 0),(.int .i64 0),(.str []), .nilSlice, .nilSlice,(.int .i64 0),(.int .i64 0),(.int .i64 0),(.int .u8 0),(.int .u8 0),(.int .i64 0),(.str []), .nilSlice, .nilSlice,(.int .i64 0),(.int .i64 0),(.int .i64 0),(.int .u8 0),(.int .u8 0),(.int .i64 0),(.str []), .nilSlice, .nilSlice,(.int .i64 0),(.int .i64 0),(.int .i64 0),(.int .u8 0),(.int .u8 0),(.int .i64 0),(.str []), .nilSlice, .nilSlice,(.int .i64 0),(.int .i64 0),(.int .i64 0),(.int .u8 0),(.int .u8 0),(.int .i64 0),(.str []), .nilSlice, .nilSlice,(.int .i64 0),(.int .i64 0),(.int .i64 0), .nilSlice,(.str []), .nilSlice,(.bool true)]
def Cd3:DVal:= .agg [(.int .u8 5), .nilSlice,(.int .u8 0),(.int .u8 0),(.int .i64 0),(.str []), .nilSlice, .nilSlice,(.int .i64 0),(.int .i64 0),(.int .i64 0),(.int .u8 0),(.int .u8 0),(.int .i64 0),(.str []), .nilSlice, .nilSlice,(.int .i64 0),(.int .i64 0),(.int .i64 0),(.int .u8 0),(.int .u8 0),(.int .i64 0),(.str []), .nilSlice, .nilSlice,(.int .i64 0),(.int .i64 0),(.int .i64 0),(.int .u8 0),(.int .u8 0),(.int .i64 0),(.str []), .nilSlice, .nilSlice,(.int .i64 0),(.int .i64 0),(.int .i64 0),(.int .u8 0),(.int .u8 0),(.int .i64 0),(.str []), .nilSlice, .nilSlice,(.int .i64 0),(.int .i64 0),(.int .i64 0),(.int .u8 0),(.int .u8 0),(.int .i64 0),(.str []), .nilSlice, .nilSlice,(.int .i64 0),(.int .i64 0),(.int .i64 0),(.int .u8 0),(.int .u8 0),(.int .i64 0),(.str []), .nilSlice, .nilSlice,(.int .i64 0),(.int .i64 0),(.int .i64 0),(.int .u8 0),(.int .u8 0),(.int .i64 0),(.str []), .nilSlice, .nilSlice,(.int .i64 0),(.int .i64 0),(.int .i64 0),(.int .u8 0),(.int .u8 0),(.int .i64 0),(.str []), .nilSlice, .nilSlice,(.int .i64 0),(.int .i64 0),(.int .i64 0), .nilSlice,(.str []), .nilSlice,(.bool false)]
def Cd4:DVal:= .agg [(.int .u8 5), .nilSlice,(.int .u8 0),(.int .u8 0),(.int .i64 0),(.str []), .nilSlice, .nilSlice,(.int .i64 0),(.int .i64 0),(.int .i64 0),(.int .u8 0),(.int .u8 0),(.int .i64 0),(.str []), .nilSlice, .nilSlice,(.int .i64 0),(.int .i64 0),(.int .i64 0),(.int .u8 0),(.int .u8 0),(.int .i64 0),(.str []), .nilSlice, .nilSlice,(.int .i64 0),(.int .i64 0),(.int .i64 0),(.int .u8 0),(.int .u8 0),(.int .i64 0),(.str []), .nilSlice, .nilSlice,(.int .i64 0),(.int .i64 0),(.int .i64 0),(.int .u8 0),(.int .u8 0),(.int .i64 0),(.str []), .nilSlice, .nilSlice,(.int .i64 0),(.int .i64 0),(.int .i64 0),(.int .u8 0),(.int .u8 0),(.int .i64 0),(.str []), .nilSlice, .nilSlice,(.int .i64 0),(.int .i64 0),(.int .i64 0),(.int .u8 0),(.int .u8 0),(.int .i64 0),(.str []), .nilSlice, .nilSlice,(.int .i64 0),(.int .i64 0),(.int .i64 0),(.int .u8 0),(.int .u8 0),(.int .i64 0),(.str []), .nilSlice, .nilSlice,(.int .i64 0),(.int .i64 0),(.int .i64 0),(.int .u8 0),(.int .u8 0),(.int .i64 0),(.str []), .nilSlice, .nilSlice,(.int .i64 0),(.int .i64 0),(.int .i64 0),(.vslice [(.vslice [(.str [65])] 1),(.int .u8 3),(.int .u8 0),(.int .i64 0),(.str [84]), .nilSlice, .nilSlice,(.int .i64 1),(.int .i64 0),(.int .i64 0),(.int .u8 0),(.int .u8 0),(.int .i64 0),(.str []), .nilSlice, .nilSlice,(.int .i64 0),(.int .i64 0),(.int .i64 0),(.int .u8 0),(.int .u8 0),(.int .i64 0),(.str []), .nilSlice, .nilSlice,(.int .i64 0),(.int .i64 0),(.int .i64 0),(.int .u8 0),(.int .u8 0),(.int .i64 0),(.str []), .nilSlice, .nilSlice,(.int .i64 0),(.int .i64 0),(.int .i64 0),(.int .u8 0),(.int .u8 0),(.int .i64 0),(.str []), .nilSlice, .nilSlice,(.int .i64 0),(.int .i64 0),(.int .i64 0),(.int .i64 1)] 1),(.str [68]),(.vslice [(.vslice [(.int .u8 1),(.vslice [(.int .u8 1),(.int .u8 0),(.int .i64 1),(.str []), .nilSlice, .nilSlice,(.int .i64 1),(.int .i64 0),(.int .i64 0)] 1)] 1), .nilSlice] 1),(.bool false)]
def Cd5:DVal:= .vslice [(.int .i64 0),(.vslice [(.int .u8 4),(.int .i64 0),(.str [40]),(.int .i64 0),(.int .u8 1),(.int .i64 0),(.str [82,101,100]),(.int .i64 0),(.int .u8 4),(.int .i64 0),(.str [44]),(.int .i64 0),(.int .u8 1),(.int .i64 0),(.str [71,114,101,101,110]),(.int .i64 0),(.int .u8 4),(.int .i64 0),(.str [41]),(.int .i64 0)] 5)] 1
def Cd6:DVal:= .vslice [(.int .i64 0),(.vslice [(.int .u8 2),(.int .i64 0),(.str [108,105,109,105,116,101,100]),(.int .i64 0),(.int .u8 2),(.int .i64 0),(.str [112,114,105,118,97,116,101]),(.int .i64 0)] 2)] 1
def Cd7:DVal:= .vslice [(.int .i64 0),(.vslice [(.int .u8 2),(.int .i64 0),(.str [110,117,108,108]),(.int .i64 0),(.int .u8 2),(.int .i64 0),(.str [114,101,99,111,114,100]),(.int .i64 0)] 2)] 1
def Cd8:DVal:= .vslice [(.int .i64 0),(.vslice [(.int .u8 2),(.int .i64 0),(.str [114,101,99,111,114,100]),(.int .i64 0)] 1),(.int .i64 1),(.vslice [(.int .u8 1),(.int .i64 0),(.str [65]),(.int .i64 0),(.int .u8 4),(.int .i64 0),(.str [58]),(.int .i64 0),(.int .u8 1),(.int .i64 0),(.str [84]),(.int .i64 0),(.int .u8 4),(.int .i64 0),(.str [59]),(.int .i64 0)] 4),(.int .i64 1),(.vslice [(.int .u8 2),(.int .i64 0),(.str [99,97,115,101]),(.int .i64 0),(.int .u8 1),(.int .i64 0),(.str [68]),(.int .i64 0),(.int .u8 2),(.int .i64 0),(.str [105,115]),(.int .i64 0)] 3),(.int .i64 2),(.vslice [(.int .u8 2),(.int .i64 0),(.str [119,104,101,110]),(.int .i64 0),(.int .u8 3),(.int .i64 0),(.str []),(.int .i64 1),(.int .u8 4),(.int .i64 0),(.str [61,62]),(.int .i64 0)] 3),(.int .i64 3),(.vslice [(.int .u8 2),(.int .i64 0),(.str [110,117,108,108]),(.int .i64 0),(.int .u8 4),(.int .i64 0),(.str [59]),(.int .i64 0)] 2),(.int .i64 1),(.vslice [(.int .u8 2),(.int .i64 0),(.str [101,110,100]),(.int .i64 0),(.int .u8 2),(.int .i64 0),(.str [99,97,115,101]),(.int .i64 0),(.int .u8 4),(.int .i64 0),(.str [59]),(.int .i64 0)] 3),(.int .i64 0),(.vslice [(.int .u8 2),(.int .i64 0),(.str [101,110,100]),(.int .i64 0),(.int .u8 2),(.int .i64 0),(.str [114,101,99,111,114,100]),(.int .i64 0)] 2)] 7
noncomputable def mq0:XP:=xpM []
def Db8:List (FuncId×List DVal×DVal):= [(217,[], .vslice [(.str [97,98,111,114,116]),(.str [97,98,115]),(.str [97,99,99,101,112,116]),(.str [97,99,99,101,115,115]),(.str [97,108,105,97,115,101,100]),(.str [97,108,108]),(.str [97,110,100]),(.str [97,114,114,97,121]),(.str [98,101,103,105,110]),(.str [98,111,100,121]),(.str [99,97,115,101]),(.str [99,111,110,115,116,97,110,116]),(.str [100,101,99,108,97,114,101]),(.str [100,101,108,97,121]),(.str [100,111]),(.str [101,108,115,101]),(.str [101,108,115,105,102]),(.str [101,110,100]),(.str [101,110,116,114,121]),(.str [101,120,99,101,112,116,105,111,110]),(.str [101,120,105,116]),(.str [102,111,114]),(.str [102,117,110,99,116,105,111,110]),(.str [103,101,110,101,114,105,99]),(.str [105,102]),(.str [105,110]),(.str [105,115]),(.str [108,105,109,105,116,101,100]),(.str [108,111,111,112]),(.str [109,111,100]),(.str [110,101,119]),(.str [110,111,116]),(.str [110,117,108,108]),(.str [111,102]),(.str [111,114]),(.str [111,116,104,101,114,115]),(.str [111,117,116]),(.str [112,97,99,107,97,103,101]),(.str [112,114,97,103,109,97]),(.str [112,114,105,118,97,116,101]),(.str [112,114,111,99,101,100,117,114,101]),(.str [112,114,111,116,101,99,116,101,100]),(.str [114,97,105,115,101]),(.str [114,97,110,103,101]),(.str [114,101,99,111,114,100]),(.str [114,101,109]),(.str [114,101,110,97,109,101,115]),(.str [114,101,113,117,101,117,101]),(.str [114,101,116,117,114,110]),(.str [114,101,118,101,114,115,101]),(.str [115,101,108,101,99,116]),(.str [115,101,112,97,114,97,116,101]),(.str [115,117,98,116,121,112,101]),(.str [116,97,115,107]),(.str [116,101,114,109,105,110,97,116,101]),(.str [116,104,101,110]),(.str [116,121,112,101]),(.str [117,110,116,105,108]),(.str [117,115,101]),(.str [119,104,101,110]),(.str [119,104,105,108,101]),(.str [119,105,116,104]),(.str [120,111,114])] 63)]
theorem Dh2:Bw mq0 3000 Db8=true:=by kernel_rfl
noncomputable def mq1:XP:=mq0.more Db8
theorem Dh3 {G:Nat->DVal} (h:XOk mq0 G):XOk mq1 G:=h.more Dh2
def Db9:List (FuncId×List DVal×DVal):= [(157,[.str [40]], .bool false),
(157,[.str [41]], .bool false),
(157,[.str [44]], .bool false),
(157,[.str [124]], .bool false),
(157,[.str [61,62]], .bool false),
(157,[.str [46,46]], .bool false),
(157,[.str [46]], .bool false),
(157,[.str [39]], .bool false),
(157,[.str [110,111,116]], .bool true),
(157,[.str [105,110]], .bool true),
(157,[.str [97,110,100]], .bool true),
(157,[.str [111,114]], .bool true)]
theorem Dh4:Bw mq1 3000 Db9=true:=by kernel_rfl
noncomputable def mq2:XP:=mq1.more Db9
theorem Dh5 {G:Nat->DVal} (h:XOk mq1 G):XOk mq2 G:=h.more Dh4
def Dc0:List (FuncId×List DVal×DVal):= [(157,[.str [120,111,114]], .bool true),
(157,[.str [116,104,101,110]], .bool true),
(157,[.str [101,108,115,101]], .bool true),
(157,[.str [109,111,100]], .bool true),
(157,[.str [114,101,109]], .bool true),
(157,[.str [97,98,115]], .bool true),
(157,[.str [43]], .bool false),
(157,[.str [45]], .bool false),
(157,[.str [38]], .bool false),
(157,[.str [42]], .bool false),
(157,[.str [47]], .bool false),
(157,[.str [42,42]], .bool false)]
theorem Dh6:Bw mq2 3000 Dc0=true:=by kernel_rfl
noncomputable def mq3:XP:=mq2.more Dc0
theorem Dh7 {G:Nat->DVal} (h:XOk mq2 G):XOk mq3 G:=h.more Dh6
def Dc1:List (FuncId×List DVal×DVal):= [(157,[.str [61]], .bool false),
(157,[.str [47,61]], .bool false),
(157,[.str [60]], .bool false),
(157,[.str [60,61]], .bool false),
(157,[.str [62]], .bool false),
(157,[.str [62,61]], .bool false),
(157,[.str [110,117,108,108]], .bool true),
(157,[.str [110,101,119]], .bool true),
(157,[.str [111,116,104,101,114,115]], .bool true),
(157,[.str [97,108,108]], .bool true),
(157,[.str [114,97,110,103,101]], .bool true),
(157,[.str [97,114,114,97,121]], .bool true)]
theorem Dh8:Bw mq3 3000 Dc1=true:=by kernel_rfl
noncomputable def mq4:XP:=mq3.more Dc1
theorem Dh9 {G:Nat->DVal} (h:XOk mq3 G):XOk mq4 G:=h.more Dh8
def Dc2:List (FuncId×List DVal×DVal):= [(157,[.str [114,101,99,111,114,100]], .bool true),
(157,[.str [97,99,99,101,115,115]], .bool true),
(157,[.str [112,114,105,118,97,116,101]], .bool true),
(157,[.str [108,105,109,105,116,101,100]], .bool true),
(157,[.str [58]], .bool false),
(157,[.str [58,61]], .bool false),
(157,[.str [111,117,116]], .bool true),
(157,[.str [59]], .bool false),
(157,[.str [99,97,115,101]], .bool true),
(157,[.str [105,115]], .bool true),
(157,[.str [119,104,101,110]], .bool true),
(157,[.str [111,102]], .bool true)]
theorem Di0:Bw mq4 3000 Dc2=true:=by kernel_rfl
noncomputable def mq5:XP:=mq4.more Dc2
theorem Di1 {G:Nat->DVal} (h:XOk mq4 G):XOk mq5 G:=h.more Di0
def Dc3:List (FuncId×List DVal×DVal):= [(157,[.str [101,110,100]], .bool true)]
theorem Di2:Bw mq5 3000 Dc3=true:=by kernel_rfl
noncomputable def mq6:XP:=mq5.more Dc3
theorem Di3 {G:Nat->DVal} (h:XOk mq5 G):XOk mq6 G:=h.more Di2
def Dc4:List (FuncId×List DVal×DVal):= [(9,[.str [40,82,101,100,44,32,71,114,101,101,110,41,59]],Bf2),
(9,[.str [108,105,109,105,116,101,100,32,112,114,105,118,97,116,101,59]],Bf3),
(9,[.str [110,117,108,108,32,114,101,99,111,114,100]],Bf4)]
theorem Di4:Bw mq6 3000 Dc4=true:=by kernel_rfl
noncomputable def mq7:XP:=mq6.more Dc4
theorem Di5 {G:Nat->DVal} (h:XOk mq6 G):XOk mq7 G:=h.more Di4
def Dc5:List (FuncId×List DVal×DVal):= [(9,[.str [114,101,99,111,114,100,32,65,32,58,32,84,59,32,99,97,115,101,32,68,32,105,115,32,119,104,101,110,32,49,32,61,62,32,110,117,108,108,59,32,101,110,100,32,99,97,115,101,59,32,101,110,100,32,114,101,99,111,114,100,59]],Bf5),
(9,[.str [73,110,116,101,103,101,114,32,114,97,110,103,101,32,49,32,46,46,32,49,48]],Bf6),
(9,[.str [84,32,114,97,110,103,101,32,49,32,46,46,32,78,41]],Bf7)]
theorem Di6:Bw mq7 3000 Dc5=true:=by kernel_rfl
noncomputable def mq8:XP:=mq7.more Dc5
theorem Di7 {G:Nat->DVal} (h:XOk mq7 G):XOk mq8 G:=h.more Di6
def Dc6:List (FuncId×List DVal×DVal):= [(9,[.str [84,32,40,49,41]],Bf8),
(9,[.str [65,32,58,32,105,110,32,111,117,116,32,84,59,32,66,44,32,67,32,58,32,84,32,58,61,32,49,41]],Bf9),
(9,[.str [65,32,58,32,105,110,32,111,117,116,32,84]], .vslice [(.int .u8 1),(.int .i64 1),(.str [65]),(.int .i64 0),(.int .u8 4),(.int .i64 1),(.str [58]),(.int .i64 0),(.int .u8 2),(.int .i64 1),(.str [105,110]),(.int .i64 0),(.int .u8 2),(.int .i64 1),(.str [111,117,116]),(.int .i64 0),(.int .u8 1),(.int .i64 1),(.str [84]),(.int .i64 0)] 5)]
theorem Di8:Bw mq8 3000 Dc6=true:=by kernel_rfl
noncomputable def mq9:XP:=mq8.more Dc6
theorem Di9 {G:Nat->DVal} (h:XOk mq8 G):XOk mq9 G:=h.more Di8
def Co2:List (FuncId×List DVal×DVal):= [(135,[Bf2], .tuple [(.agg [(.int .u8 1),(.vslice [(.str [82,101,100]),(.str [71,114,101,101,110])] 2),(.int .u8 0),(.int .u8 0),(.int .i64 0),(.str []), .nilSlice, .nilSlice,(.int .i64 0),(.int .i64 0),(.int .i64 0),(.int .u8 0),(.int .u8 0),(.int .i64 0),(.str []), .nilSlice, .nilSlice,(.int .i64 0),(.int .i64 0),(.int .i64 0),(.int .u8 0),(.int .u8 0),(.int .i64 0),(.str []), .nilSlice, .nilSlice,(.int .i64 0),(.int .i64 0),(.int .i64 0),(.int .u8 0),(.int .u8 0),(.int .i64 0),(.str []), .nilSlice, .nilSlice,(.int .i64 0),(.int .i64 0),(.int .i64 0),(.int .u8 0),(.int .u8 0),(.int .i64 0),(.str []), .nilSlice, .nilSlice,(.int .i64 0),(.int .i64 0),(.int .i64 0),(.int .u8 0),(.int .u8 0),(.int .i64 0),(.str []), .nilSlice, .nilSlice,(.int .i64 0),(.int .i64 0),(.int .i64 0),(.int .u8 0),(.int .u8 0),(.int .i64 0),(.str []), .nilSlice, .nilSlice,(.int .i64 0),(.int .i64 0),(.int .i64 0),(.int .u8 0),(.int .u8 0),(.int .i64 0),(.str []), .nilSlice, .nilSlice,(.int .i64 0),(.int .i64 0),(.int .i64 0),(.int .u8 0),(.int .u8 0),(.int .i64 0),(.str []), .nilSlice, .nilSlice,(.int .i64 0),(.int .i64 0),(.int .i64 0), .nilSlice,(.str []), .nilSlice,(.bool false)]),(.int .i64 5),(.int .i64 0)])]
theorem Dc7:Bw mq9 3000 Co2=true:=by kernel_rfl
noncomputable def Cw5:XP:=mq9.more Co2
theorem Dc8 {G:Nat->DVal} (h:XOk mq9 G):XOk Cw5 G:=h.more Dc7
def Co3:List (FuncId×List DVal×DVal):= [(135,[Bf3], .tuple [(.agg [(.int .u8 7), .nilSlice,(.int .u8 0),(.int .u8 0),(.int .i64 0),(.str []), .nilSlice, .nilSlice,(.int .i64 0),(.int .i64 0),(.int .i64 0),(.int .u8 0),(.int .u8 0),(.int .i64 0),(.str []), .nilSlice, .nilSlice,(.int .i64 0),(.int .i64 0),(.int .i64 0),(.int .u8 0),(.int .u8 0),(.int .i64 0),(.str []), .nilSlice, .nilSlice,(.int .i64 0),(.int .i64 0),(.int .i64 0),(.int .u8 0),(.int .u8 0),(.int .i64 0),(.str []), .nilSlice, .nilSlice,(.int .i64 0),(.int .i64 0),(.int .i64 0),(.int .u8 0),(.int .u8 0),(.int .i64 0),(.str []), .nilSlice, .nilSlice,(.int .i64 0),(.int .i64 0),(.int .i64 0),(.int .u8 0),(.int .u8 0),(.int .i64 0),(.str []), .nilSlice, .nilSlice,(.int .i64 0),(.int .i64 0),(.int .i64 0),(.int .u8 0),(.int .u8 0),(.int .i64 0),(.str []), .nilSlice, .nilSlice,(.int .i64 0),(.int .i64 0),(.int .i64 0),(.int .u8 0),(.int .u8 0),(.int .i64 0),(.str []), .nilSlice, .nilSlice,(.int .i64 0),(.int .i64 0),(.int .i64 0),(.int .u8 0),(.int .u8 0),(.int .i64 0),(.str []), .nilSlice, .nilSlice,(.int .i64 0),(.int .i64 0),(.int .i64 0), .nilSlice,(.str []), .nilSlice,(.bool true)]),(.int .i64 2),(.int .i64 0)])]
theorem Dc9:Bw Cw5 3000 Co3=true:=by kernel_rfl
noncomputable def Cw6:XP:=Cw5.more Co3
theorem Dd0 {G:Nat->DVal} (h:XOk Cw5 G):XOk Cw6 G:=h.more Dc9
def Co4:List (FuncId×List DVal×DVal):= [(135,[Bf4], .tuple [(.agg [(.int .u8 5), .nilSlice,(.int .u8 0),(.int .u8 0),(.int .i64 0),(.str []), .nilSlice, .nilSlice,(.int .i64 0),(.int .i64 0),(.int .i64 0),(.int .u8 0),(.int .u8 0),(.int .i64 0),(.str []), .nilSlice, .nilSlice,(.int .i64 0),(.int .i64 0),(.int .i64 0),(.int .u8 0),(.int .u8 0),(.int .i64 0),(.str []), .nilSlice, .nilSlice,(.int .i64 0),(.int .i64 0),(.int .i64 0),(.int .u8 0),(.int .u8 0),(.int .i64 0),(.str []), .nilSlice, .nilSlice,(.int .i64 0),(.int .i64 0),(.int .i64 0),(.int .u8 0),(.int .u8 0),(.int .i64 0),(.str []), .nilSlice, .nilSlice,(.int .i64 0),(.int .i64 0),(.int .i64 0),(.int .u8 0),(.int .u8 0),(.int .i64 0),(.str []), .nilSlice, .nilSlice,(.int .i64 0),(.int .i64 0),(.int .i64 0),(.int .u8 0),(.int .u8 0),(.int .i64 0),(.str []), .nilSlice, .nilSlice,(.int .i64 0),(.int .i64 0),(.int .i64 0),(.int .u8 0),(.int .u8 0),(.int .i64 0),(.str []), .nilSlice, .nilSlice,(.int .i64 0),(.int .i64 0),(.int .i64 0),(.int .u8 0),(.int .u8 0),(.int .i64 0),(.str []), .nilSlice, .nilSlice,(.int .i64 0),(.int .i64 0),(.int .i64 0), .nilSlice,(.str []), .nilSlice,(.bool false)]),(.int .i64 2),(.int .i64 0)])]
theorem Dd1:Bw Cw6 3000 Co4=true:=by kernel_rfl
noncomputable def Cw7:XP:=Cw6.more Co4
theorem Dd2 {G:Nat->DVal} (h:XOk Cw6 G):XOk Cw7 G:=h.more Dd1
def Co5:List (FuncId×List DVal×DVal):= [(135,[Bf5], .tuple [(.agg [(.int .u8 5), .nilSlice,(.int .u8 0),(.int .u8 0),(.int .i64 0),(.str []), .nilSlice, .nilSlice,(.int .i64 0),(.int .i64 0),(.int .i64 0),(.int .u8 0),(.int .u8 0),(.int .i64 0),(.str []), .nilSlice, .nilSlice,(.int .i64 0),(.int .i64 0),(.int .i64 0),(.int .u8 0),(.int .u8 0),(.int .i64 0),(.str []), .nilSlice, .nilSlice,(.int .i64 0),(.int .i64 0),(.int .i64 0),(.int .u8 0),(.int .u8 0),(.int .i64 0),(.str []), .nilSlice, .nilSlice,(.int .i64 0),(.int .i64 0),(.int .i64 0),(.int .u8 0),(.int .u8 0),(.int .i64 0),(.str []), .nilSlice, .nilSlice,(.int .i64 0),(.int .i64 0),(.int .i64 0),(.int .u8 0),(.int .u8 0),(.int .i64 0),(.str []), .nilSlice, .nilSlice,(.int .i64 0),(.int .i64 0),(.int .i64 0),(.int .u8 0),(.int .u8 0),(.int .i64 0),(.str []), .nilSlice, .nilSlice,(.int .i64 0),(.int .i64 0),(.int .i64 0),(.int .u8 0),(.int .u8 0),(.int .i64 0),(.str []), .nilSlice, .nilSlice,(.int .i64 0),(.int .i64 0),(.int .i64 0),(.int .u8 0),(.int .u8 0),(.int .i64 0),(.str []), .nilSlice, .nilSlice,(.int .i64 0),(.int .i64 0),(.int .i64 0),(.vslice [(.vslice [(.str [65])] 1),(.int .u8 3),(.int .u8 0),(.int .i64 0),(.str [84]), .nilSlice, .nilSlice,(.int .i64 1),(.int .i64 0),(.int .i64 0),(.int .u8 0),(.int .u8 0),(.int .i64 0),(.str []), .nilSlice, .nilSlice,(.int .i64 0),(.int .i64 0),(.int .i64 0),(.int .u8 0),(.int .u8 0),(.int .i64 0),(.str []), .nilSlice, .nilSlice,(.int .i64 0),(.int .i64 0),(.int .i64 0),(.int .u8 0),(.int .u8 0),(.int .i64 0),(.str []), .nilSlice, .nilSlice,(.int .i64 0),(.int .i64 0),(.int .i64 0),(.int .u8 0),(.int .u8 0),(.int .i64 0),(.str []), .nilSlice, .nilSlice,(.int .i64 0),(.int .i64 0),(.int .i64 0),(.int .i64 1)] 1),(.str [68]),(.vslice [(.vslice [(.int .u8 1),(.vslice [(.int .u8 1),(.int .u8 0),(.int .i64 1),(.str []), .nilSlice, .nilSlice,(.int .i64 1),(.int .i64 0),(.int .i64 0)] 1)] 1), .nilSlice] 1),(.bool false)]),(.int .i64 18),(.int .i64 0)])]
theorem Dd3:Bw Cw7 3000 Co5=true:=by kernel_rfl
noncomputable def Cw8:XP:=Cw7.more Co5
theorem Dd4 {G:Nat->DVal} (h:XOk Cw7 G):XOk Cw8 G:=h.more Dd3
def Co6:List (FuncId×List DVal×DVal):= [(60,[Bf6], .tuple [(.agg [(.int .u8 3),(.int .u8 0),(.int .i64 0),(.str [73,110,116,101,103,101,114]), .nilSlice, .nilSlice,(.int .i64 1),(.int .i64 0),(.int .i64 0),(.int .u8 1),(.int .u8 0),(.int .i64 1),(.str []), .nilSlice, .nilSlice,(.int .i64 1),(.int .i64 0),(.int .i64 0),(.int .u8 1),(.int .u8 0),(.int .i64 10),(.str []), .nilSlice, .nilSlice,(.int .i64 1),(.int .i64 0),(.int .i64 0),(.int .u8 0),(.int .u8 0),(.int .i64 0),(.str []), .nilSlice, .nilSlice,(.int .i64 0),(.int .i64 0),(.int .i64 0)]),(.int .i64 5),(.int .i64 0)])]
theorem Dd5:Bw Cw8 3000 Co6=true:=by kernel_rfl
noncomputable def Cw9:XP:=Cw8.more Co6
theorem Dd6 {G:Nat->DVal} (h:XOk Cw8 G):XOk Cw9 G:=h.more Dd5
def Co7:List (FuncId×List DVal×DVal):= [(61,[Bf7], .tuple [(.agg [(.int .u8 3),(.int .u8 0),(.int .i64 0),(.str [84]), .nilSlice, .nilSlice,(.int .i64 1),(.int .i64 0),(.int .i64 0),(.int .u8 1),(.int .u8 0),(.int .i64 1),(.str []), .nilSlice, .nilSlice,(.int .i64 1),(.int .i64 0),(.int .i64 0),(.int .u8 3),(.int .u8 0),(.int .i64 0),(.str [78]), .nilSlice, .nilSlice,(.int .i64 1),(.int .i64 0),(.int .i64 0)]),(.int .i64 5),(.int .i64 0)])]
theorem Dd7:Bw Cw9 3000 Co7=true:=by kernel_rfl
noncomputable def Cx0:XP:=Cw9.more Co7
theorem Dd8 {G:Nat->DVal} (h:XOk Cw9 G):XOk Cx0 G:=h.more Dd7
def Co8:List (FuncId×List DVal×DVal):= [(61,[Bf8], .tuple [(.agg [(.int .u8 0),(.int .u8 0),(.int .i64 0),(.str []), .nilSlice, .nilSlice,(.int .i64 0),(.int .i64 0),(.int .i64 0),(.int .u8 0),(.int .u8 0),(.int .i64 0),(.str []), .nilSlice, .nilSlice,(.int .i64 0),(.int .i64 0),(.int .i64 0),(.int .u8 0),(.int .u8 0),(.int .i64 0),(.str []), .nilSlice, .nilSlice,(.int .i64 0),(.int .i64 0),(.int .i64 0)]),(.int .i64 4),(.int .i64 40)])]
theorem Dd9:Bw Cx0 3000 Co8=true:=by kernel_rfl
noncomputable def Cx1:XP:=Cx0.more Co8
theorem De0 {G:Nat->DVal} (h:XOk Cx0 G):XOk Cx1 G:=h.more Dd9
def Co9:List (FuncId×List DVal×DVal):= [(10,[Bf9], .tuple [(.vslice [(.vslice [(.str [65])] 1),(.int .u8 3),(.int .u8 3),(.int .u8 0),(.int .i64 0),(.str [84]), .nilSlice, .nilSlice,(.int .i64 1),(.int .i64 0),(.int .i64 0),(.int .u8 0),(.int .u8 0),(.int .i64 0),(.str []), .nilSlice, .nilSlice,(.int .i64 0),(.int .i64 0),(.int .i64 0),(.int .i64 1),(.vslice [(.str [66]),(.str [67])] 2),(.int .u8 1),(.int .u8 3),(.int .u8 0),(.int .i64 0),(.str [84]), .nilSlice, .nilSlice,(.int .i64 1),(.int .i64 0),(.int .i64 0),(.int .u8 1),(.int .u8 0),(.int .i64 1),(.str []), .nilSlice, .nilSlice,(.int .i64 1),(.int .i64 0),(.int .i64 0),(.int .i64 1)] 2),(.int .i64 13),(.int .i64 0)])]
theorem De1:Bw Cx1 3000 Co9=true:=by kernel_rfl
noncomputable def Cx2:XP:=Cx1.more Co9
theorem De2 {G:Nat->DVal} (h:XOk Cx1 G):XOk Cx2 G:=h.more De1
def Cp0:List (FuncId×List DVal×DVal):= [(49,[Cd1, .int .i64 0], .tuple [(.vslice [(.int .i64 0),(.vslice [(.int .u8 4),(.int .i64 0),(.str [40]),(.int .i64 0),(.int .u8 1),(.int .i64 0),(.str [82,101,100]),(.int .i64 0),(.int .u8 4),(.int .i64 0),(.str [44]),(.int .i64 0),(.int .u8 1),(.int .i64 0),(.str [71,114,101,101,110]),(.int .i64 0),(.int .u8 4),(.int .i64 0),(.str [41]),(.int .i64 0)] 5)] 1),(.int .i64 0)]),
(49,[Cd2, .int .i64 0], .tuple [(.vslice [(.int .i64 0),(.vslice [(.int .u8 2),(.int .i64 0),(.str [108,105,109,105,116,101,100]),(.int .i64 0),(.int .u8 2),(.int .i64 0),(.str [112,114,105,118,97,116,101]),(.int .i64 0)] 2)] 1),(.int .i64 0)])]
theorem De3:Bw Cx2 3000 Cp0=true:=by kernel_rfl
noncomputable def Cx3:XP:=Cx2.more Cp0
theorem De4 {G:Nat->DVal} (h:XOk Cx2 G):XOk Cx3 G:=h.more De3
def Cp1:List (FuncId×List DVal×DVal):= [(49,[Cd3, .int .i64 0], .tuple [(.vslice [(.int .i64 0),(.vslice [(.int .u8 2),(.int .i64 0),(.str [110,117,108,108]),(.int .i64 0),(.int .u8 2),(.int .i64 0),(.str [114,101,99,111,114,100]),(.int .i64 0)] 2)] 1),(.int .i64 0)]),
(49,[Cd4, .int .i64 0], .tuple [(.vslice [(.int .i64 0),(.vslice [(.int .u8 2),(.int .i64 0),(.str [114,101,99,111,114,100]),(.int .i64 0)] 1),(.int .i64 1),(.vslice [(.int .u8 1),(.int .i64 0),(.str [65]),(.int .i64 0),(.int .u8 4),(.int .i64 0),(.str [58]),(.int .i64 0),(.int .u8 1),(.int .i64 0),(.str [84]),(.int .i64 0),(.int .u8 4),(.int .i64 0),(.str [59]),(.int .i64 0)] 4),(.int .i64 1),(.vslice [(.int .u8 2),(.int .i64 0),(.str [99,97,115,101]),(.int .i64 0),(.int .u8 1),(.int .i64 0),(.str [68]),(.int .i64 0),(.int .u8 2),(.int .i64 0),(.str [105,115]),(.int .i64 0)] 3),(.int .i64 2),(.vslice [(.int .u8 2),(.int .i64 0),(.str [119,104,101,110]),(.int .i64 0),(.int .u8 3),(.int .i64 0),(.str []),(.int .i64 1),(.int .u8 4),(.int .i64 0),(.str [61,62]),(.int .i64 0)] 3),(.int .i64 3),(.vslice [(.int .u8 2),(.int .i64 0),(.str [110,117,108,108]),(.int .i64 0),(.int .u8 4),(.int .i64 0),(.str [59]),(.int .i64 0)] 2),(.int .i64 1),(.vslice [(.int .u8 2),(.int .i64 0),(.str [101,110,100]),(.int .i64 0),(.int .u8 2),(.int .i64 0),(.str [99,97,115,101]),(.int .i64 0),(.int .u8 4),(.int .i64 0),(.str [59]),(.int .i64 0)] 3),(.int .i64 0),(.vslice [(.int .u8 2),(.int .i64 0),(.str [101,110,100]),(.int .i64 0),(.int .u8 2),(.int .i64 0),(.str [114,101,99,111,114,100]),(.int .i64 0)] 2)] 7),(.int .i64 0)])]
theorem De5:Bw Cx3 3000 Cp1=true:=by kernel_rfl
noncomputable def Cx4:XP:=Cx3.more Cp1
theorem De6 {G:Nat->DVal} (h:XOk Cx3 G):XOk Cx4 G:=h.more De5
def Cp2:List (FuncId×List DVal×DVal):= [(136,[Cd5], .tuple [(.str [40,82,101,100,44,32,71,114,101,101,110,41,10]),(.int .i64 0)]),
(136,[Cd6], .tuple [(.str [108,105,109,105,116,101,100,32,112,114,105,118,97,116,101,10]),(.int .i64 0)])]
theorem De7:Bw Cx4 3000 Cp2=true:=by kernel_rfl
noncomputable def Cx5:XP:=Cx4.more Cp2
theorem De8 {G:Nat->DVal} (h:XOk Cx4 G):XOk Cx5 G:=h.more De7
def Cp3:List (FuncId×List DVal×DVal):= [(136,[Cd7], .tuple [(.str [110,117,108,108,32,114,101,99,111,114,100,10]),(.int .i64 0)]),
(136,[Cd8], .tuple [(.str [114,101,99,111,114,100,10,32,32,65,32,58,32,84,59,10,32,32,99,97,115,101,32,68,32,105,115,10,32,32,32,32,119,104,101,110,32,49,32,61,62,10,32,32,32,32,32,32,110,117,108,108,59,10,32,32,101,110,100,32,99,97,115,101,59,10,101,110,100,32,114,101,99,111,114,100,10]),(.int .i64 0)])]
theorem De9:Bw Cx5 3000 Cp3=true:=by kernel_rfl
noncomputable def Cx6:XP:=Cx5.more Cp3
theorem Df0 {G:Nat->DVal} (h:XOk Cx5 G):XOk Cx6 G:=h.more De9
def Cp4:List (FuncId×List DVal×DVal):= [(59,[.str [40,82,101,100,44,32,71,114,101,101,110,41,59], .int .i64 5, .int .u8 1, .str [40,82,101,100,44,32,71,114,101,101,110,41,10]], .bool true),
(59,[.str [108,105,109,105,116,101,100,32,112,114,105,118,97,116,101,59], .int .i64 2, .int .u8 7, .str [108,105,109,105,116,101,100,32,112,114,105,118,97,116,101,10]], .bool true),
(59,[.str [110,117,108,108,32,114,101,99,111,114,100], .int .i64 2, .int .u8 5, .str [110,117,108,108,32,114,101,99,111,114,100,10]], .bool true),
(59,[.str [114,101,99,111,114,100,32,65,32,58,32,84,59,32,99,97,115,101,32,68,32,105,115,32,119,104,101,110,32,49,32,61,62,32,110,117,108,108,59,32,101,110,100,32,99,97,115,101,59,32,101,110,100,32,114,101,99,111,114,100,59], .int .i64 18, .int .u8 5, .str [114,101,99,111,114,100,10,32,32,65,32,58,32,84,59,10,32,32,99,97,115,101,32,68,32,105,115,10,32,32,32,32,119,104,101,110,32,49,32,61,62,10,32,32,32,32,32,32,110,117,108,108,59,10,32,32,101,110,100,32,99,97,115,101,59,10,101,110,100,32,114,101,99,111,114,100,10]], .bool true)]
theorem Df1:Bw Cx6 3000 Cp4=true:=by kernel_rfl
noncomputable def Cx7:XP:=Cx6.more Cp4
theorem Df2 {G:Nat->DVal} (h:XOk Cx6 G):XOk Cx7 G:=h.more Df1
def Cp5:List (FuncId×List DVal×DVal):= [(11,[], .bool true)]
theorem Df3:Bw Cx7 3000 Cp5=true:=by kernel_rfl
noncomputable def Df4:XP:=Cx7.more Cp5
theorem Df5 {G:Nat->DVal} (h:XOk Cx7 G):XOk Df4 G:=h.more Df3
theorem Cd9 {G:Nat->DVal} (h:XOk mq0 G) (H:Aa):Ar Tryz.prog G 11 [] H (Cq (.bool true) H):=(Df5 (Df2 (Df0 (De8 (De6 (De4 (De2 (De0 (Dd8 (Dd6 (Dd4 (Dd2 (Dd0 (Dc8 (Di9 (Di7 (Di5 (Di3 (Di1 (Dh9 (Dh7 (Dh5 (Dh3 (h)))))))))))))))))))))))).at (X:=Df4) (List.mem_append_left _ (.head _)) H
end Go.Dl

-- Chapter 4: FormSames.
namespace Go.Dl
open Go Go.Proofs
set_option maxRecDepth 100000
section
variable (x:Fms)
theorem Fe:((Io x).drop 9).take 36=Ep x.s:=by rw[Io,Hz _ _ 0,List.drop_zero,List.take_left' (Ba _)]
theorem Di:((Io x).drop 45).take 27=Ff x.d:=by
 rw[Io,Hz _ _ 36,List.drop_left' (Ba _),List.take_left' (Bm _)]
theorem Ya (k:Nat):(Io x)[72+k]? =(Kb x.p::Kc x.a::Gf x.c::Ec x.t)[k]? :=by
 have h1:Io x=(dEx x.e++(Ep x.s++Ff x.d))++(Kb x.p::Kc x.a::Gf x.c::Ec x.t):=by simp [Io]
 rw[h1,List.getElem?_append_right (by simp [Bt,Ba,Bm])];congr 1;simp [Bt,Ba,Bm]
theorem Dj:(Io x)[72]? =some (Kb x.p):=Ya x 0
theorem Dk:(Io x)[73]? =some (Kc x.a):=Ya x 1
theorem Dm:(Io x)[74]? =some (Gf x.c):=Ya x 2
theorem Dn:((Io x).drop 75).take 87=Ec x.t:=by
 have h1:Io x=(dEx x.e++(Ep x.s++(Ff x.d++ [Kb x.p,Kc x.a,Gf x.c])))++Ec x.t:=by simp [Io]
 rw[h1,List.drop_left' (by simp [Bt,Ba,Bm]),List.take_of_length_le (by rw[Ab];omega)]
end
theorem Mh (x:Ind):Ct x x=true:=by simp [Ct,Hg]
theorem Sb (x:Dis):Cu x x=true:=by simp [Cu,Hg]
theorem Ai9 (x:Par):Da x x=true:=by simp [Da,Hg]
theorem Aj0 (x:Asp):Ei x x=true:=by simp [Ei,Hg]
theorem Mi (x:Cmp):Bj x x=true:=by simp [Bj,Hg,Mh]
theorem Fv {α:Type} {f:α->α->Bool} (h: ∀x,f x x=true): ∀l,Ey f l l=true
 | []=>rfl
 | x::l=>by rw[Ey,h,Fv h l];rfl
theorem Aj1 (x:Arm):Cv x x=true:=by simp [Cv,(Te x.c x.c).2 rfl,Fv Mi]
theorem Aj2 (x:Typ):Al x x=true:=by
 simp [Al,Hg,Mh,Sb,Fv Mi,Fv Aj1]
section
variable {G:Nat->DVal} (hG:GX G) (H:Aa)
include hG
set_option maxHeartbeats 40000000 in
theorem Yb (a b:Fms) (ha:Ap4 1048576 a) (hb:Ap4 1048576 b):Ar Tryz.prog G 5 [.agg (Io a), .agg (Io b)] H (Cq (.bool true) H):=by
 have xG:=Dh1 hG;refine Ak Tryz.func5 Tryz.call5 rfl (by kernel_rfl) ?_;simp(disch:=omega) only[go_sem,↓reduceIte,DVal.cells];intro r2 hr2;dsimp only at hr2;obtain⟨K2,hK2⟩: ∃K',K'=upd H r2 (some (.cells (Io a) 55)):=⟨_,rfl⟩;rw[<-hK2];have gr2:K2 r2=some (.cells (Io a) 55):=by rw[hK2];exact Bo _ _ _
 have sK2:Sub H K2:=by rw[hK2];exact(Sub.refl _).new hr2 _
 simp(disch:=omega) only[go_sem,↓reduceIte,DVal.cells];intro r3 hr3;dsimp only at hr3;obtain⟨K,hK⟩: ∃K',K'=upd K2 r3 (some (.cells (Io b) 55)):=⟨_,rfl⟩;rw[<-hK];have gr3:K r3=some (.cells (Io b) 55):=by rw[hK];exact Bo _ _ _
 have sK:Sub K2 K:=by rw[hK];exact(Sub.refl _).new hr3 _
 have g2:K r2=some (.cells (Io a) 55):=sK _ _ gr2;have g3:=gr3;have t:Sub H K:=sK2.trans sK;clear sK sK2 gr3 gr2 hK hK2;simp(disch:=omega) only[go_sem,↓reduceIte,g2,g3,Bs,Fe,Di,Dj,Dk,Dm,Dn];refine Dc (by kernel_rfl) (.take 0 (.take 1 (.take 2 (.take 3 (.take 5 (.take 6 (.take 7 (.take 8 (.go 4 [8,6] (.go 9 [] (.take 10 (.take 11 (.take 12 (.take 13 (.take 14 (.take 15 (.take 17 (.take 18 (.take 19 (.take 20 (.go 16 [20,18] (.go 21 [] (.take 22 (.take 23 (.take 24 (.take 25 (.take 26 (.take 27 (.take 28 (.take 30 (.take 31 (.take 32 (.take 33 (.go 29 [33,31] (.go 34 [] (.take 35 (.take 36 (.take 37 .done)))))))))))))))))))))))))))))))))))))) (by kernel_rfl) ?_;simp(disch:=omega) only[go_sem,↓reduceIte,g2,g3,Bs,Fe,Di,Dj,Dk,Dm,Dn];refine Ar.monoR (Ip G K a.s b.s ha.2.1) ?_;simp(disch:=omega) only[go_sem,↓reduceIte,g2,g3,Bs,Fe,Di,Dj,Dk,Dm,Dn];refine Ar.monoR (Kk G K a.s b.s ha.2.1) ?_;simp(disch:=omega) only[go_sem,↓reduceIte,g2,g3,Bs,Fe,Di,Dj,Dk,Dm,Dn];refine Ar.monoR (Dr G K a.d b.d ha.2.2.1) ?_;simp(disch:=omega) only[go_sem,↓reduceIte,g2,g3,Bs,Fe,Di,Dj,Dk,Dm,Dn];refine Ar.monoR (Ox G K a.d b.d ha.2.2.1) ?_;simp(disch:=omega) only[go_sem,↓reduceIte,g2,g3,Bs,Fe,Di,Dj,Dk,Dm,Dn];refine Ar.monoR (Mn G K a.p b.p ha.2.2.2.1 hb.2.2.2.1) ?_;simp(disch:=omega) only[go_sem,↓reduceIte,g2,g3,Bs,Fe,Di,Dj,Dk,Dm,Dn];refine Ar.monoR (Tf G K a.p b.p ha.2.2.2.1 hb.2.2.2.1) ?_;rw[<-De Da a.p b.p];simp(disch:=omega) only[go_sem,↓reduceIte,g2,g3,Bs,Fe,Di,Dj,Dk,Dm,Dn];refine Dc (by kernel_rfl) (.take 0 (.take 1 (.take 2 (.take 3 (.take 5 (.take 6 (.take 7 (.take 8 (.go 4 [8,6] (.go 9 [] (.take 10 (.take 11 (.take 12 (.take 13 (.take 14 (.take 15 (.take 17 (.take 18 (.take 19 (.take 20 (.go 16 [20,18] (.go 21 [] (.take 22 (.take 23 (.take 24 (.take 25 (.take 26 (.take 27 (.take 28 (.take 30 (.take 31 (.take 32 (.take 33 (.go 29 [33,31] (.go 34 [] (.take 35 (.take 36 (.take 37 .done)))))))))))))))))))))))))))))))))))))) (by kernel_rfl) ?_;simp(disch:=omega) only[go_sem,↓reduceIte,g2,g3,Bs,Fe,Di,Dj,Dk,Dm,Dn];refine Ar.monoR (Lc G K a.a b.a ha.2.2.2.2.1) ?_;simp(disch:=omega) only[go_sem,↓reduceIte,g2,g3,Bs,Fe,Di,Dj,Dk,Dm,Dn];refine Ar.monoR (Rl G K a.a b.a ha.2.2.2.2.1 hb.2.2.2.2.1) ?_;rw[<-De Ei a.a b.a];simp(disch:=omega) only[go_sem,↓reduceIte,g2,g3,Bs,Fe,Di,Dj,Dk,Dm,Dn];refine Ar.monoR (Ca G K a.c b.c ha.2.2.2.2.2.1 hb.2.2.2.2.2.1) ?_;simp(disch:=omega) only[go_sem,↓reduceIte,g2,g3,Bs,Fe,Di,Dj,Dk,Dm,Dn];refine Ar.monoR (Ie G K a.c b.c ha.2.2.2.2.2.1 hb.2.2.2.2.2.1) ?_;rw[<-De Bj a.c b.c];simp(disch:=omega) only[go_sem,↓reduceIte,g2,g3,Bs,Fe,Di,Dj,Dk,Dm,Dn];refine Ar.monoR (Rk G K a.t b.t ha.2.2.2.2.2.2 hb.2.2.2.2.2.2) ?_;simp(disch:=omega) only[go_sem,↓reduceIte,g2,g3,Bs,Fe,Di,Dj,Dk,Dm,Dn];refine Ar.monoR (Yp G K a.t b.t ha.2.2.2.2.2.2 hb.2.2.2.2.2.2) ?_;simp(disch:=omega) only[go_sem,↓reduceIte,g2,g3,Bs,Fe,Di,Dj,Dk,Dm,Dn];refine Ar.monoR (Ip G K a.s a.s ha.2.1) ?_;rw[Mh];simp(disch:=omega) only[go_sem,↓reduceIte,g2,g3,Bs,Fe,Di,Dj,Dk,Dm,Dn];refine Ar.monoR (Dr G K a.d a.d ha.2.2.1) ?_;rw[Sb];simp(disch:=omega) only[go_sem,↓reduceIte,g2,g3,Bs,Fe,Di,Dj,Dk,Dm,Dn];refine Ar.monoR (Mn G K a.p a.p ha.2.2.2.1 ha.2.2.2.1) ?_;rw[Fv Ai9];simp(disch:=omega) only[go_sem,↓reduceIte,g2,g3,Bs,Fe,Di,Dj,Dk,Dm,Dn];refine Ar.monoR (Lc G K a.a a.a ha.2.2.2.2.1) ?_;rw[Fv Aj0];simp(disch:=omega) only[go_sem,↓reduceIte,g2,g3,Bs,Fe,Di,Dj,Dk,Dm,Dn];refine Ar.monoR (Ca G K a.c a.c ha.2.2.2.2.2.1 ha.2.2.2.2.2.1) ?_;rw[Fv Mi];simp(disch:=omega) only[go_sem,↓reduceIte,g2,g3,Bs,Fe,Di,Dj,Dk,Dm,Dn];refine Ar.monoR (Rk G K a.t a.t ha.2.2.2.2.2.2 ha.2.2.2.2.2.2) ?_;rw[Aj2];simp(disch:=omega) only[go_sem,↓reduceIte,g2,g3,Bs,Fe,Di,Dj,Dk,Dm,Dn];refine Ar.monoR (Cd9 xG K) ?_;simp(disch:=omega) only[go_sem,↓reduceIte,g2,g3,Bs,Fe,Di,Dj,Dk,Dm,Dn];exact Ax1.sub t (.refl ⟨rfl,rfl⟩)
end
end Go.Dl

-- THE READING, PART 1: what was read of the input before a call is read the same behind it, if the call left all old memory as it was.
namespace Go.Dl
open Go
section
variable {H:Type} {enc:TypeId×Value->H} {P:Program} {w w':World}
def Qc (w w':World):Prop:= ∀b,b<w.heap.size->w'.heap[b]? =w.heap[b]?
theorem Qc.cell (h:Qc w w') {a:Addr} {x:Value} (hc:w.cell? a=some x):w'.cell? a=some x:=by
 have hlt:a.block<w.heap.size:=by
  unfold World.cell? at hc;rcases Nat.lt_or_ge a.block w.heap.size with hl | hl
  ·exact hl
  ·simp [Array.getElem?_eq_none hl] at hc
 unfold World.cell? at hc⊢
 rw[h _ hlt];exact hc
theorem Hm {α β:Type} {f g:α->Option β}: ∀ {l:List α} {r:List β},l.mapM f=some r->(∀x∈l,∀y,f x=some y->y∈r->g x=some y)->l.mapM g=some r
 | [],r,h,_=>by simpa using h
 | x::l,r,h,hg=>by
  rw[List.mapM_cons] at h⊢
  simp only[Option.bind_eq_bind,Option.bind_eq_some_iff,Option.pure_def,Option.some.injEq] at h⊢
  obtain⟨y,hy,ys,hys,rfl⟩:=h;exact⟨y,hg x (by simp) y hy (by simp),ys,Hm hys (fun z hz u hu hm=>hg z (by simp [hz]) u hu (by simp [hm])),rfl⟩
theorem Qc.cells (h:Qc w w') {base:Nat} {a:Addr} {n:Nat} {cs:List Value} (hc:w.cells? base a n=some cs):w'.cells? base a n=some cs:=by
 unfold World.cells? at hc⊢
 split at hc
 ·rename_i hb;rw[if_pos hb];exact Hm hc fun i _ y hy _=>h.cell hy
 ·cases hc
structure Closed (P:Program) (T:TypeId->Prop):Prop where
 ptr: ∀t e,T t->P.underlying t=some (.pointer e)->T e
 slice: ∀t e,T t->P.underlying t=some (.slice e)->0<P.cellsOf e/\T e
 struct: ∀t fs,T t->P.underlying t=some (.struct fs)-> ∀f∈fs.toList,T f.type
 array: ∀t n e,T t->P.underlying t=some (.array n e)->T e
 iface: ∀t m,T t->P.underlying t≠some (.interface m)
 map: ∀t k e,T t->P.underlying t=some (.map k e)->T e
def Bg0 (P:Program) (ts:List TypeId):Bool:=ts.all fun t=>match P.underlying t with
 | some (.pointer e)=>ts.contains e
 | some (.slice e)=>decide (0<P.cellsOf e)&&ts.contains e
 | some (.struct fs)=>fs.toList.all fun f=>ts.contains f.type
 | some (.array _ e)=>ts.contains e
 | some (.interface _)=>false
 | some (.map _ e)=>ts.contains e
 | _=>true
theorem Bp3 {P:Program} {ts:List TypeId} (h:Bg0 P ts=true):Closed P (· ∈ts):=by
 unfold Bg0 at h;rw[List.all_eq_true] at h;refine⟨fun t e ht hu=> ?_,fun t e ht hu=> ?_,fun t fs ht hu=> ?_,fun t n e ht hu=> ?_,fun t m ht hu=> ?_,fun t k e ht hu=> ?_⟩;all_goals have h1:=h t ht;rw[hu] at h1
 ·simpa using h1
 ·simpa using h1
 ·intro f hf;simpa using List.all_eq_true.1 h1 f hf
 ·simpa using h1
 ·cases h1
 ·simpa using h1
theorem Aa7 (h:Qc w w') {T:TypeId->Prop} (hT:Closed P T) {base:Nat} {sp:Nat->Bool} {held:Bool}:
  ∀(Bh:Nat) (t:TypeId) (cs:List Value) (d:DataW H) (ps:List MemPlace),T t->DataW.trod enc P w base (fun _=>true) held Bh t cs=some (d,ps)->(∀p∈ps,sp p.block=true)->
   DataW.trod enc P w' base sp held Bh t cs=some (d,ps)
 | 0,_,_,_,_,_,hh,_=>by simp [DataW.trod] at hh
 | Bh+1,t,cs,d,ps,ht,hh,hp=>by
  have ih:= @Aa7 h T hT base sp held Bh;unfold DataW.trod at hh⊢
  split at hh<;>(try (first | exact hh | (simp at hh;done)))
  ·-- pointer
   rename_i e a hu
   simp only[Option.map_eq_some_iff,Option.bind_eq_some_iff,Prod.mk.injEq] at hh⊢
   obtain⟨x,⟨c,hc,hx⟩,rfl,rfl⟩:=hh;exact⟨x,⟨c,h.cells hc,ih _ _ x.1 x.2 (hT.ptr _ _ ht hu) hx fun p hpm=>hp p (by simp [hpm])⟩,rfl,rfl⟩
  ·-- slice
   rename_i e a len cap hu
   dsimp only at hh⊢
   split at hh
   ·rename_i hc
    rw[if_pos hc];simp only[Option.bind_eq_some_iff,Option.map_eq_some_iff,if_true,Prod.mk.injEq] at hh⊢
    obtain⟨elems,he,rest,hr,rfl,rfl⟩:=hh;have hp1: ∀y∈elems,∀p∈y.2,sp p.block=true:=fun y hy p hpm=>hp p (by
     simp only[List.mem_append,List.mem_flatMap];exact .inr ⟨y, .inl hy,hpm⟩)
    have hp2: ∀y∈rest,∀p∈y.2,sp p.block=true:=fun y hy p hpm=>hp p (by
     simp only[List.mem_append,List.mem_flatMap];exact .inr ⟨y, .inr hy,hpm⟩)
    refine⟨elems,Hm he (fun i _ y hy hym=> ?_),rest, ?_,rfl,rfl⟩
    ·simp only[Option.bind_eq_some_iff] at hy⊢
     obtain⟨c,hc1,hc2⟩:=hy;exact⟨c,h.cells hc1,ih _ _ y.1 y.2 (hT.slice _ _ ht hu).2 hc2 (hp1 y hym)⟩
    ·have hr':(List.range (cap-len)).mapM (fun j=>(w'.cells? base (a.add ((len+j)*P.cellsOf e)) (P.cellsOf e)).bind (DataW.trod enc P w' base sp held Bh e))=some rest:=by
      refine Hm hr (fun i _ y hy hym=> ?_);simp only[Option.bind_eq_some_iff] at hy⊢
      obtain⟨c,hc1,hc2⟩:=hy;exact⟨c,h.cells hc1,ih _ _ y.1 y.2 (hT.slice _ _ ht hu).2 hc2 (hp2 y hym)⟩
     by_cases hsp:sp a.block=true
     ·rw[if_pos hsp];exact hr'
     ·rw[if_neg hsp];have hpos:=(hT.slice t e ht hu).1;have hlen:rest.length=0:=by
       rcases Nat.eq_zero_or_pos rest.length with h0 | h0
       ·exact h0
       ·exfalso;refine hsp (hp (.cell a.block a.off) ?_);refine List.mem_append_left _ ?_;unfold MemPlace.row;refine List.mem_map.2 ⟨0,List.mem_range.2 (Nat.mul_pos (by omega) hpos),by simp⟩
      rw[List.eq_nil_of_length_eq_zero hlen]
   ·cases hh
  ·-- struct
   rename_i fs hu
   split at hh
   ·rename_i hl
    rw[if_pos hl];simp only[Option.map_eq_some_iff,Prod.mk.injEq] at hh⊢
    obtain⟨xs,hx,rfl,rfl⟩:=hh;exact⟨xs,Hm hx (fun f hf y hy hym=>ih _ _ y.1 y.2 (hT.struct _ _ ht hu f hf) hy fun p hpm=>hp p (List.mem_flatMap.2 ⟨y,hym,hpm⟩)),rfl,rfl⟩
   ·cases hh
  ·-- array
   rename_i hu
   split at hh
   ·rename_i hl
    rw[if_pos hl];simp only[Option.map_eq_some_iff,Prod.mk.injEq] at hh⊢
    obtain⟨xs,hx,rfl,rfl⟩:=hh;exact⟨xs,Hm hx (fun f hf y hy hym=>ih _ _ y.1 y.2 (hT.array _ _ _ ht hu) hy fun p hpm=>hp p (List.mem_flatMap.2 ⟨y,hym,hpm⟩)),rfl,rfl⟩
   ·cases hh
  ·-- interface
   rename_i hu
   exact(hT.iface _ _ ht hu).elim
  ·-- map
   rename_i k e b hu
   split at hh
   ·rename_i es clock hb
    have hlt:b<w.heap.size:=(Array.getElem?_eq_some_iff.1 hb).1;rw[h b hlt,hb];dsimp only at hh⊢
    split at hh
    ·rename_i hc
     rw[if_pos hc];simp only[Option.bind_eq_some_iff] at hh⊢
     obtain⟨entries,he,hr⟩:=hh;split at hr
     ·rename_i hri
      simp only[Option.some.injEq,Prod.mk.injEq] at hr;obtain⟨rfl,rfl⟩:=hr;refine⟨entries,Hm he (fun x _ y hy hym=> ?_),by rw[if_pos hri]⟩;simp only[Option.bind_eq_some_iff] at hy⊢
      obtain⟨key,hk,hy⟩:=hy;refine⟨key,hk, ?_⟩;split at hy
      ·rename_i hf
       rw[if_pos hf];simp only[Option.map_eq_some_iff] at hy⊢
       obtain⟨z,hz1,rfl⟩:=hy;exact⟨z,ih _ _ z.1 z.2 (hT.map _ _ _ ht hu) hz1 fun p hpm=>hp p (by
        simp only[List.mem_cons,List.mem_flatMap];exact .inr ⟨_,hym,hpm⟩),rfl⟩
      ·cases hy
     ·cases hr
    ·cases hh
   ·cases hh
theorem Trod.keep (h:Qc w w') {T:TypeId->Prop} (hT:Closed P T) {base:Nat} {sp:Nat->Bool} {held:Bool} {t:TypeId} {v:Value} {d:DataW H} {ps:List MemPlace}
  (ht:T t) (hh:DataW.Trod enc P w base (fun _=>true) held t v d ps) (hp: ∀p∈ps,sp p.block=true):DataW.Trod enc P w' base sp held t v d ps:=by
 obtain⟨Bh,hh⟩:=hh;exact⟨Bh,Aa7 h hT Bh _ _ _ _ ht hh hp⟩
theorem TrodAll.keep (h:Qc w w') {T:TypeId->Prop} (hT:Closed P T) {base:Nat} {sp:Nat->Bool} {held:Bool}:
  ∀ {ts:List TypeId} {vs:List Value} {ds:List (DataW H)} {ps:List MemPlace},(∀t∈ts,T t)->DataW.TrodAll enc P w base (fun _=>true) held ts vs ds ps->(∀p∈ps,sp p.block=true)->DataW.TrodAll enc P w' base sp held ts vs ds ps
 | [],[],[],_,_,hh,_=>hh
 | [],[],_::_,_,_,hh,_=>hh.elim
 | [],_::_,_,_,_,hh,_=>hh.elim
 | _::_,[],_,_,_,hh,_=>hh.elim
 | _::_,_::_,[],_,_,hh,_=>hh.elim
 | t::ts,v::vs,d::ds,_,ht,⟨p,q,h1,h2,rfl⟩,hp=>
  ⟨p,q,Trod.keep h hT (ht t (by simp)) h1 (fun x hx=>hp x (by simp [hx])),TrodAll.keep h hT (fun u hu=>ht u (by simp [hu])) h2 (fun x hx=>hp x (by simp [hx])),rfl⟩
end
end Go.Dl

-- THE READING, PART 2: what was read of the input is plain data, seen at the data level.
namespace Go.Dl
open Go Go.RowKit Go.Deep
def Ea (P:Program) (H:Type) (w:World) (t:TypeId) (α:Type) (f:α->List DVal) (g:α->DataW H->Prop):Prop:=
 ∀(enc:TypeId×Value->H) base sp held Bh cs d ps,DataW.trod enc P w base sp held Bh t cs=some (d,ps)-> ∃x,g x d/\Ap w (fun _=>none) (f x) cs
section
variable {P:Program} {H:Type} {w:World}
theorem To {a:Addr} {x:Value} (h:w.cell? a=some x):a.spot=none:=by
 unfold World.cell? at h;split at h
 ·split at h
  ·cases h
  ·rename_i hs;simpa using hs
 ·cases h
theorem Lg {α β:Type} {f:α->Option β}: ∀ {l:List α} {r:List β},l.mapM f=some r->r.length=l.length/\ ∀(i:Nat) (x:α),l[i]? =some x-> ∃y,r[i]? =some y/\f x=some y
 | [],r,h=>by simp at h;subst h;simp
 | x::l,r,h=>by
  rw[List.mapM_cons] at h;simp only[Option.bind_eq_bind,Option.bind_eq_some_iff,Option.pure_def,Option.some.injEq] at h;obtain⟨y,hy,ys,hys,rfl⟩:=h;obtain⟨h1,h2⟩:=Lg hys;refine⟨by simp [h1],fun i z hz=> ?_⟩;cases i with
  | zero=>simp at hz;subst hz;exact⟨y,rfl,hy⟩
  | succ i=>simp at hz;obtain⟨u,hu,hf⟩:=h2 i z hz;exact⟨u,by simpa using hu,hf⟩
theorem Um {base:Nat} {a:Addr} {n:Nat} {cs:List Value} (h:w.cells? base a n=some cs):cs.length=n/\Fd w a.block a.off cs:=by
 unfold World.cells? at h;split at h
 ·obtain⟨h1,h2⟩:=Lg h;rw[List.length_range] at h1;refine⟨h1,fun i x hx=> ?_⟩;have hi:i<n:=by
   have:=(List.getElem?_eq_some_iff.1 hx).1;omega
  obtain⟨y,hy,hc⟩:=h2 i i (by simp [hi]);rw[hx] at hy;cases hy;by_cases h0:i=0
  ·subst h0;have:a.add 0=a:=rfl;rw[this] at hc;have hs:=To hc;have:(⟨a.block,a.off+0,none⟩:Addr)=a:=by cases a;simp at hs⊢;exact hs.symm
   rw[this];exact hc
  ·have:a.add i=⟨a.block,a.off+i,none⟩:=by simp [Addr.add,h0]
   rw[<-this];exact hc
 ·cases h
theorem Fd.append {b off:Nat} {xs ys:List Value} (h:Fd w b off xs) (k:Fd w b (off+xs.length) ys):Fd w b off (xs++ys):=by
 intro i x hx;by_cases hi:i<xs.length
 ·rw[List.getElem?_append_left hi] at hx;exact h i x hx
 ·rw[List.getElem?_append_right (by omega)] at hx;have:=k (i-xs.length) x hx;rw[show off+xs.length+(i-xs.length)=off+i by omega] at this;exact this
theorem Eb {t:TypeId} {k:IntKind} (ht:P.underlying t=some (.int k)):Ea P H w t Int (fun n=> [.int k n]) (fun n d=>(Lit.int k n).wf=true/\d= .lit (.int k n)):=by
 intro enc base sp held Bh cs d ps h;cases Bh with
 | zero=>simp [DataW.trod] at h
 | succ Bh=>
  unfold DataW.trod at h;rw[ht] at h;split at h<;>simp_all;obtain⟨⟨rfl,hw⟩,rfl,rfl⟩:=h;exact⟨_,⟨hw,rfl⟩,by simp [Ap,Rel]⟩
theorem Ba8 {t:TypeId} (ht:P.underlying t=some .bool):Ea P H w t Bool (fun b=> [.bool b]) (fun b d=>d= .lit (.bool b)):=by
 intro enc base sp held Bh cs d ps h;cases Bh with
 | zero=>simp [DataW.trod] at h
 | succ Bh=>
  unfold DataW.trod at h;rw[ht] at h;split at h<;>try (simp_all;done)
  simp only[Option.some.injEq,Prod.mk.injEq] at h;obtain⟨rfl,rfl⟩:=h;exact⟨_,rfl,by simp [Ap,Rel]⟩
theorem Is {t:TypeId} (ht:P.underlying t=some .string):Ea P H w t (List UInt8) (fun s=> [.str s]) (fun s d=>s.length<=maxLen/\d= .lit (.string s)):=by
 intro enc base sp held Bh cs d ps h;cases Bh with
 | zero=>simp [DataW.trod] at h
 | succ Bh=>
  unfold DataW.trod at h;rw[ht] at h;split at h<;>simp_all
  rename_i s
  obtain⟨hl,rfl,rfl⟩:=h;exact⟨s.data.toList,⟨by simpa using hl,rfl⟩,by simp [Ap,Rel]⟩
def Sc {α:Type} (g:α->DataW H->Prop):List α->List (DataW H)->Prop
 | [],[]=>True
 | x::xs,d::ds=>g x d/\Sc g xs ds
 | _,_=>False
theorem Sc.append {α:Type} {g:α->DataW H->Prop}: ∀ {xs ys:List α} {ds es:List (DataW H)},Sc g xs ds->Sc g ys es->Sc g (xs++ys) (ds++es)
 | [],_,[],_,_,k=>k
 | [],_,_::_,_,h,_=>h.elim
 | _::_,_,[],_,h,_=>h.elim
 | x::xs,ys,d::ds,es,h,k=>⟨h.1,Sc.append h.2 k⟩
theorem Gh {t e:TypeId} {α:Type} {f:α->List DVal} {g:α->DataW H->Prop} (ht:P.underlying t=some (.slice e)) (he:Ea P H w e α f g):
  Ea P H w t (List α) (fun xs=> [.vslice (xs.flatMap f) xs.length]) (fun xs d=>(d= .nil/\xs= [])\/ ∃es sp,d= .slice es sp/\xs.length<=maxLen/\Sc g xs es):=by
 intro enc base sp held Bh cs d ps h;rcases open_slice ht h with⟨rfl,hx⟩ | ⟨a,len,cap,m,n,D,Pl,rfl,hb,hl,hm,hmm,hx,hall⟩
 ·cases hx;exact⟨[], .inl ⟨rfl,rfl⟩,by simp [Ap,Rel]⟩
 ·have hlm:len<=m:=by rw[hmm];split<;>omega
  simp only[Prod.mk.injEq] at hx;obtain⟨rfl,rfl⟩:=hx;have key: ∀k,k<=len-> ∃(xs:List α) (ys:List Value),xs.length=k/\Sc g xs ((List.range k).map D)/\ys.length=k*P.cellsOf e/\Fd w a.block a.off ys/\Ap w (fun _=>none) (xs.flatMap f) ys:=by
   intro k
   induction k with
   | zero=>intro _;exact⟨[],[],rfl,trivial,by simp,fun i x hx=>by simp at hx,by simp [Ap]⟩
   | succ k ih=>
    intro hk;obtain⟨xs,ys,h1,h2,h3,h4,h5⟩:=ih (by omega);obtain⟨cs',g1,g2⟩:=hall k (by omega);obtain⟨x,hg,hr⟩:=he _ _ _ _ _ _ _ _ g2;obtain⟨c1,c2⟩:=Um g1;refine⟨xs++ [x],ys++cs',by simp [h1], ?_,by simp only[List.length_append,h3,c1,Nat.succ_mul],h4.append ?_, ?_⟩
    ·rw[List.range_succ,List.map_append];exact h2.append ⟨hg,trivial⟩
    ·rw[h3];have ha:(a.add (k*P.cellsOf e)).block=a.block/\(a.add (k*P.cellsOf e)).off=a.off+k*P.cellsOf e:=by
      unfold Addr.add;split
      ·rename_i h0;rw[h0];exact⟨rfl,rfl⟩
      ·exact⟨rfl,rfl⟩
     rw[ha.1,ha.2] at c2;exact c2
    ·rw[List.flatMap_append];simpa using h5.append hr
  obtain⟨xs,ys,h1,h2,h3,h4,h5⟩:=key len (Nat.le_refl _);refine⟨xs, .inr ⟨_,_,rfl,by omega,h2⟩, ?_⟩;have hrel:Rel w (fun _=>none) (.vslice (xs.flatMap f) xs.length) (.slice (some a) len cap):=by
   simp only[Rel];refine⟨some a,cap,by rw[h1],by omega, ?_⟩;cases hys:ys with
   | nil=>subst hys;left;exact List.eq_nil_of_length_eq_zero (by rw[h5.length];rfl)
   | cons y yr=>
    right;have h6:=h4 0 y (by rw[hys];rfl);have hpos:0<len/\0<P.cellsOf e:=by
     rw[hys] at h3;simp only[List.length_cons] at h3;constructor
     ·rcases Nat.eq_zero_or_pos len with h0 | h0
      ·subst h0;simp at h3
      ·exact h0
     ·rcases Nat.eq_zero_or_pos (P.cellsOf e) with h0 | h0
      ·rw[h0] at h3;simp at h3
      ·exact h0
    have hsp:a.spot=none:=by
     obtain⟨cs',g1,g2⟩:=hall 0 (by omega);unfold World.cells? at g1;split at g1
     ·obtain⟨_,m2⟩:=Lg g1;obtain⟨z,_,hz⟩:=m2 0 0 (by simp [hpos.2]);have:(a.add (0*P.cellsOf e)).add 0=a:=by simp [Addr.add]
      rw[this] at hz;exact To hz
     ·cases g1
    refine⟨a.block,a.off,ys,by cases a;simp at hsp⊢;exact hsp, .inr ⟨rfl,h4⟩,h5⟩
  simp only[Ap];exact⟨_,_,rfl,hrel,rfl⟩
end
end Go.Dl

-- THE READING, PART 3: a law's call at the data level, as the row wants it.
namespace Go.Dl
open Go Go.RowKit
section
variable {P:Program} {w:World}
theorem Ext.stands {w':World} {H':Aa} (h:Ext (fun _=>none) w H' w'):Qc w w':=fun b hb=>h.block b hb rfl
def Ce0 (W w':World):Prop:=W.keptBut w' (fun _=>False)/\(∀a,a.block<W.heap.size->w'.frozen? a=W.frozen? a)/\W.heap.size<=w'.heap.size
theorem Ce0.frame {W w':World} (h:Ce0 W w') (may:MemPlace->Prop):W.keptBut w' may:=World.keptBut_mono (fun _ f=>f.elim) h.1
theorem Ext.grown {w':World} {H':Aa} (h:Ext (fun _=>none) w H' w'):Ce0 w w':=by
 refine⟨⟨h.os,h.output,fun i hi=> ?_⟩,fun a ha=>h.fz a ha rfl,h.size⟩;rw[h.block i hi rfl];cases ho:w.heap[i]? with
 | none=>simp
 | some o=>cases o<;>simp
theorem Aj3 (w:World):Aw w (fun _=>none):=fun r o h=>by cases h
theorem Ar.row {G:Nat->DVal} {f:FuncId} {args:List DVal} {vs:Array Value} (h:Ar P G f args (fun _=>none) (fun e _=>e= .ret (.bool true))) (hv:Ap w (fun _=>none) args vs.toList) (hG:GOk G w (fun _=>none)):
  Calls P f vs w fun e W'=>e= .returned (.bool true)/\Ce0 w W'/\Qc w W':=by
 have:=h.2 vs.toList w hv (Aj3 w) hG;simp only[Array.toArray_toList] at this;refine this.mono fun e w' ⟨e',H',he,hr,_,hE⟩=> ?_;subst he;cases hr with
 | ret d v hv=>simp only[Rel] at hv;subst hv;exact⟨rfl,hE.grown,hE.stands⟩
theorem Ap.cons {Hp:Aa} {d:DVal} {v:Value} {ds:List DVal} {vs:List Value} (h:Rel w Hp d v) (k:Ap w Hp ds vs):Ap w Hp (d::ds) (v::vs):=by
 simp only[Ap];exact⟨v,vs,rfl,h,k⟩
end
end Go.Dl
namespace Go.ChangeShapes
open Go.WideShapes
section
variable {H:Type} {enc:TypeId×Value->H} {P:Program}
theorem As5 {f:Func} {s:ChangeSpec} {apart fresh handsOn Cm3:Bool} {W W':World} {args:Array Value} {v:Value} {ds gs:List (DataW H)} {before pa pv:List MemPlace}
  (hW:DataW.Whole enc P f.params.toList s.vars apart W args.toList ds gs before)
  (hres: ∀(b:Nat) (sp:Nat->Bool) (hd:Bool),DataW.TrodAll enc P W' b sp hd f.resultTypes.toList (v.resultList f.resultTypes.size) (s.fn H (ds++gs)).results [])
  (hargs: ∀sp:Nat->Bool,(∀p∈before,sp p.block=true)->DataW.TrodAll enc P W' 0 sp true f.params.toList args.toList (s.fn H (ds++gs)).args pa)
  (hvars: ∀sp:Nat->Bool,(∀p∈before,sp p.block=true)->DataW.TrodVars enc P W' sp s.vars (s.fn H (ds++gs)).vars pv)
  (hps:before=pa++pv) (hk:W.keptBut W' (· ∈before)) (hfz: ∀a,a.block<W.heap.size->W'.frozen? a=W.frozen? a)
  (hok: ∀(j:Nat) (t:TypeId) (r:Value),f.resultTypes[j]? =some t->(v.resultList f.resultTypes.size)[j]? =some r->Value.okWide P W' .any 0 t r):
  s.post enc P f apart fresh handsOn Cm3 W args v W':=by
 have hlt:=hW.lt;have hold: ∀p∈before,(fun b=>decide (b<W.heap.size)) p.block=true:=fun p hp=>by simpa using hlt p hp
 refine⟨ds,gs,before,[],pa,pv,hW,hres _ _ _,hargs _ hold,hvars _ hold,World.keptBut_mono (fun p hp=>⟨hp, .inr (List.mem_append.1 (hps▸hp))⟩) hk,fun _=> ?_⟩;obtain⟨_,_,_,_,_,hz,hn⟩:=hW;refine⟨hok,_,_,([]++pa)++pv,⟨[]++pa,pv,trodAll_append (hargs _ (fun _ _=>rfl)) (hres _ _ _),hvars _ (fun _ _=>rfl),rfl, ?_, ?_⟩, ?_⟩
 ·intro b off hp;have hp':MemPlace.cell b off∈before:=by rw[hps];simpa using hp
  exact(hfz _ (hlt _ hp')).trans (hz b off hp')
 ·intro ha;have:=hn ha;rw[hps] at this;simpa using this
 ·intro p hp _;rw[hps];simpa using hp
end
end Go.ChangeShapes
