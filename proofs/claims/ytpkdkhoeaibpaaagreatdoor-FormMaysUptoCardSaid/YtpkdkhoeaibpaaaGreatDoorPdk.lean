/- The data level and the contracts of the functions that are reached (part 11). -/
import Derived.Test.YtpkdkhoeaibpaaaGreatDoorProg
import Derived.Lib.Space
import Derived.ChangeSame
import Derived.Deep.Slices
import Derived.RowKit3
import Derived.Test.YtpkdkhoeaibpaaaGreatDoorRows
import Derived.Test.YtpkdkhoeaibpaaaGreatDoorPdj
set_option linter.unusedSimpArgs false
set_option linter.unusedVariables false
set_option linter.unusedSectionVars false
-- AN INTERPRETER OF THE DATA LEVEL, PART 7: what it says of code and of calls is true.
namespace Go.Dl
open Go
section
variable {X:XP} {G:Nat->DVal} {call:Nat->List DVal->XH->COut}
variable {B:Bb} {ρ:Nat->Option Nat} {E:Tr DVal} {A:XH} {s:DS} {K:DK} {Q:DExit->DS->Prop}
theorem Ay1 {W:DK} {o:Out} {κ:Tr DVal->XH->Out} (h:Ca B ρ Q (Sa o κ)) (k: ∀ρ' E' A' s',Ble ρ ρ'->RS B ρ' E' A' s'->Ca B ρ' Q (κ E' A')->W s'):Ca B ρ (Ff W Q) o:=by
 cases o with
 | bad=>exact h
 | norm E' A'=>exact fun ρ' s' hl hS=>k ρ' E' A' s' hl hS (Ca.le hl h)
 | exit id E' A'=>exact h
 | ret E' A'=>exact h
 | panic v E' A'=>exact h
 | panicX v A'=>exact h
theorem Aa7 {all:List Oper} (hS:RS B ρ E A s) {gd:Option (Nat×Bool)} {w:Bool} (h:Cx9 all E gd=some w):
  (gd=none/\w=true)\/ ∃j b g,gd=some (j,b)/\Le all j=some g/\((∃v,s.env g= .bool v/\w=(v==b))\/(s.env g= .tuple []/\w=false)):=by
 unfold Cx9 at h;split at h
 ·cases h;exact .inl ⟨rfl,rfl⟩
 ·rename_i j b
  split at h
  ·rename_i g hg
   refine .inr ⟨j,b,g,rfl,hg, ?_⟩;cases hv:E.get g with
   | none=>rw[hv] at h;cases b<;>cases h
   | some x=>
    have hr:=hS.env g x hv;rw[hv] at h;cases x<;>simp only[RV] at hr
    case bool c=>cases c<;>cases b<;>cases h<;>exact .inl ⟨_,hr,rfl⟩
    case tuple cs=>cases cs with
     | nil=>
      simp only[RVL] at hr;obtain⟨cs',hr,rfl⟩:=hr;cases b<;>cases h<;>exact .inr ⟨hr,rfl⟩
     | cons x cs=>cases b<;>cases h
    all_goals (cases b<;>cases h)
  ·cases h
theorem Bz4 (hX:XOk X G) (hc:Xm X.P G call) (all:List Oper): ∀(ops:List Oper) (E:Tr DVal) (A:XH) (s:DS) (ρ:Nat->Option Nat),RS B ρ E A s->Ca B ρ Q (Dw1 X.P X.gt call all ops E A)->Jv X.P G all Q ops s
 | [],E,A,s,ρ,hS,h=>h ρ s (Ble.refl _) hS
 | o::ops,E,A,s,ρ,hS,h=>by
  have h:Ca B ρ Q (Sa (Cy0 X.P X.gt call all E A o) (Dw1 X.P X.gt call all ops)):=h;have h1:=Ay1 (W:=Jv X.P G all Q ops) h fun ρ' E' A' s' _ hS' h'=>Bz4 hX hc all ops E' A' s' ρ' hS' h';simp only[Jv];unfold Cy0 at h1;split at h1
  ·rename_i hw
   rcases Aa7 hS hw with⟨hg,_⟩ | ⟨j,b,g,hg,hd,hv⟩
   ·rw[hg];exact Ax9 hX.gt hc hS _ h1
   ·rw[hg];simp only[hd];rcases hv with⟨v,hv,hvb⟩ | ⟨_,hf⟩
    ·rw[hv];have:v=b:=by simpa using hvb.symm
     exact⟨fun _=>Ax9 hX.gt hc hS _ h1,fun hn=>(hn this).elim⟩
    ·cases hf
  ·rename_i hw
   rcases Aa7 hS hw with⟨_,hf⟩ | ⟨j,b,g,hg,hd,hv⟩
   ·cases hf
   ·rw[hg];simp only[hd];rcases hv with⟨v,hv,hvb⟩ | ⟨hv,_⟩
    ·rw[hv];have:v≠b:=by simpa using hvb.symm
     exact⟨fun hn=>(this hn).elim,fun _=>Gb hS .undef h1⟩
    ·rw[hv];exact Gb hS .undef h1
  ·exact h1.elim
theorem Cz3 {W:DK} {o:Out} {κ:Tr DVal->XH->Out} (h:Ca B ρ Q (Bh5 (Sa o κ))) (k: ∀ρ' E' A' s',Ble ρ ρ'->RS B ρ' E' A' s'->Ca B ρ' Q (Bh5 (κ E' A'))->W s'):Ca B ρ (Ff W (QP Q)) o:=by
 cases o with
 | bad=>exact h
 | norm E' A'=>exact fun ρ' s' hl hS=>k ρ' E' A' s' hl hS (Ca.le hl h)
 | exit id E' A'=>exact h.elim
 | ret E' A'=>exact h.elim
 | panic v E' A'=>exact fun ρ' s' v' hl hS hv env=>h ρ' ⟨env,s'.heap⟩ v' hl hS.heap hv
 | panicX v A'=>exact h.elim
theorem Aq0 {ρ':Nat->Option Nat} {A':XH} {s':DS} (hS:RS B ρ E A s) {E':Tr DVal} (hS':RS B ρ' E' A' s') (hl:Ble ρ ρ') {k r:Nat} (hr:ρ k=some r) (h:Bt0 (Cc A k) (Cc A' k)=true):s'.heap r=s.heap r:=by
 obtain⟨he,o,ho⟩:=Dk4 h;obtain⟨r1,o1,h1,h2,h3⟩:=hS.heap.obj k o ho;obtain⟨r2,o2,k1,k2,k3⟩:=hS'.heap.obj k o (by rw[<-he];exact ho);rw[hr] at h1;cases h1;rw[hl k r hr] at k1;cases k1;rw[ho] at h;have h3:=h3.mono hl;cases o with
 | cells cs e=>
  obtain⟨x,rfl,g1⟩:=h3;obtain⟨y,rfl,g2⟩:=k3;rw[h2,k2,RVL.fn g1 g2]
 | iter s p=>
  simp only[RO] at h3 k3;rw[h2,k2,h3,k3]
 | map es=>exfalso;revert h;unfold Bt0;split<;>simp_all
 | loop=>exfalso;revert h;unfold Bt0;split<;>simp_all
theorem Cz4 {ρ':Nat->Option Nat} {A':XH} {s':DS} (hS:RS B ρ E A s) {E':Tr DVal} (hS':RS B ρ' E' A' s') (hl:Ble ρ ρ') {v v':DVal} (hv:RV ρ v v') (h:Bt1 A A' v=true):Hc s.heap s'.heap v':=by
 cases v<;>simp only[RV] at hv
 case optr r off=>
  obtain⟨r',rfl,hr⟩:=hv;exact Aq0 hS hS' hl hr h
 case oslice a b c d e=>
  obtain⟨r',rfl,hr⟩:=hv;exact Aq0 hS hS' hl hr h
 all_goals first
  | (subst hv;trivial)
  | (obtain⟨_,rfl,_⟩:=hv;trivial)
  | (obtain⟨_,_,rfl,_⟩:=hv;trivial)
theorem Bj4 (hX:XOk X G) {ρ':Nat->Option Nat} {A':XH} {s':DS} (hS:RS B ρ E A s) {E':Tr DVal} (hS':RS B ρ' E' A' s') (hl:Ble ρ ρ') (all:List Oper): ∀ {ls:List Nat},Ah4 X.gt all E A A' ls=true->Bw5 G all s s'.heap ls
 | [],_=>trivial
 | l::ls,h=>by
  simp only[Ah4,Bool.and_eq_true] at h;refine⟨?_,Bj4 hX hS hS' hl all h.2⟩;have h:=h.1;revert h;cases Pd (Dy all l) with
  | none=>intro _;trivial
  | some a=>
   intro h;simp only[Cy1] at h;rcases Bt3 hX.gt hS a (fun v=>Bt1 A A' v) (z:=false) with e | ⟨v,h1,e⟩
   ·rw[e] at h;cases h
   ·rw[e] at h;exact Cz4 hS hS' hl h1 h
theorem Cz5 (hX:XOk X G) (hc:Xm X.P G call) {all:List Oper} (hS:RS B ρ E A s) {i:Nat} (h:Ca B ρ (Ff K Q) (xat X.P X.gt call all E A i)):dAt X.P G all K Q s (Dy all i):=by
 unfold xat at h;split at h
 ·rename_i o ho
  rw[ho];show Cg5 X.P G all K Q s o.dst o.op o.guard;unfold Cy0 at h;split at h
  ·rename_i hw
   rcases Aa7 hS hw with⟨hg,_⟩ | ⟨j,b,g,hg,hd,hv⟩
   ·rw[hg];exact Ax9 hX.gt hc hS _ h
   ·rw[hg];simp only[Cg5,hd,Ob];rcases hv with⟨v,hv,hvb⟩ | ⟨_,hf⟩
    ·rw[hv];have:v=b:=by simpa using hvb.symm
     subst this;cases v<;>exact Ax9 hX.gt hc hS _ h
    ·cases hf
  ·rename_i hw
   rcases Aa7 hS hw with⟨_,hf⟩ | ⟨j,b,g,hg,hd,hv⟩
   ·cases hf
   ·rw[hg];simp only[Cg5,hd,Ob];have:=Gb hS .undef h;rcases hv with⟨v,hv,hvb⟩ | ⟨hv,_⟩
    ·rw[hv];have hne:v≠b:=by simpa using hvb.symm
     cases v<;>cases b<;>first | exact this | exact(hne rfl).elim
    ·rw[hv];cases b<;>exact this
  ·exact h.elim
 ·exact h.elim
mutual
theorem Bu3 {π:List (Nat×Nat)} {nx:Nat} {ρ2 ρ0:Nat->Option Nat} (hid: ∀k k' r,Zq π nx k k'=true->ρ2 k'=some r->ρ0 k=some r): ∀ {v w d:DVal},eqP π nx v w=true->RV ρ2 w d->RV ρ0 v d
 | .raw _,w,d,h,hr=>by
  cases w<;>first | (cases (show false=true from h);done) | skip
 | .bool a,w,d,h,hr=>by
  cases w<;>first | (cases (show false=true from h);done) | skip
  rename_i c;have h:(a==c)=true:=h;rw[eq_of_beq h];simpa only[RV] using hr
 | .int k n,w,d,h,hr=>by
  cases w<;>first | (cases (show false=true from h);done) | skip
  rename_i k' n';have h:(decide (k=k')&&decide (n=n'))=true:=h;simp only[Bool.and_eq_true,decide_eq_true_eq] at h;rw[h.1,h.2];simpa only[RV] using hr
 | .str l,w,d,h,hr=>by
  cases w<;>first | (cases (show false=true from h);done) | skip
  rename_i c;have h:Bs5 l c=true:=h;rw[Aa4] at h;rw[of_decide_eq_true h];simpa only[RV] using hr
 | .nilPtr,w,d,h,hr=>by
  cases w<;>first | (cases (show false=true from h);done) | skip
  simpa only[RV] using hr
 | .nilSlice,w,d,h,hr=>by
  cases w<;>first | (cases (show false=true from h);done) | skip
  simpa only[RV] using hr
 | .nilMap,w,d,h,hr=>by
  cases w<;>first | (cases (show false=true from h);done) | skip
  simpa only[RV] using hr
 | .nilFunc,w,d,h,hr=>by
  cases w<;>first | (cases (show false=true from h);done) | skip
  simpa only[RV] using hr
 | .nilIface,w,d,h,hr=>by
  cases w<;>first | (cases (show false=true from h);done) | skip
  simpa only[RV] using hr
 | .optr r o,w,d,h,hr=>by
  cases w<;>first | (cases (show false=true from h);done) | skip
  rename_i r' o';have h:(Zq π nx r r'&&Nat.beq o o')=true:=h;simp only[Bool.and_eq_true] at h;simp only[RV] at hr⊢;obtain⟨a,rfl,e⟩:=hr;exact⟨a,by rw[Dj h.2],hid _ _ _ h.1 e⟩
 | .omap r,w,d,h,hr=>by
  cases w<;>first | (cases (show false=true from h);done) | skip
  rename_i r';have h:Zq π nx r r'=true:=h;simp only[RV] at hr⊢;obtain⟨a,rfl,e⟩:=hr;exact⟨a,rfl,hid _ _ _ h e⟩
 | .oslice x y z u v,w,d,h,hr=>by
  cases w<;>first | (cases (show false=true from h);done) | skip
  rename_i x' y' z' u' v';have h:(Nat.beq x x'&&Zq π nx y y'&&Nat.beq z z'&&Nat.beq u u'&&Nat.beq v v')=true:=h;simp only[Bool.and_eq_true] at h;simp only[RV] at hr⊢;obtain⟨a,rfl,e⟩:=hr;exact⟨a,by rw[Dj h.1.1.1.1,Dj h.1.1.2,Dj h.1.2,Dj h.2],hid _ _ _ h.1.1.1.2 e⟩
 | .vptr cs o,w,d,h,hr=>by
  cases w<;>first | (cases (show false=true from h);done) | skip
  rename_i cs' o';have h:(Nat.beq o o'&&Sy π nx cs cs')=true:=h;simp only[Bool.and_eq_true] at h;simp only[RV] at hr⊢;obtain⟨a,rfl,e⟩:=hr;exact⟨a,by rw[Dj h.1],Nk hid h.2 e⟩
 | .vslice cs o,w,d,h,hr=>by
  cases w<;>first | (cases (show false=true from h);done) | skip
  rename_i cs' o';have h:(Nat.beq o o'&&Sy π nx cs cs')=true:=h;simp only[Bool.and_eq_true] at h;simp only[RV] at hr⊢;obtain⟨a,rfl,e⟩:=hr;exact⟨a,by rw[Dj h.1],Nk hid h.2 e⟩
 | .iface t v,w,d,h,hr=>by
  cases w<;>first | (cases (show false=true from h);done) | skip
  rename_i t' v';have h:(Nat.beq t t'&&eqP π nx v v')=true:=h;simp only[Bool.and_eq_true] at h;simp only[RV] at hr⊢;obtain⟨a,rfl,e⟩:=hr;exact⟨a,by rw[Dj h.1],Bu3 hid h.2 e⟩
 | .agg cs,w,d,h,hr=>by
  cases w<;>first | (cases (show false=true from h);done) | skip
  rename_i cs';have h:Sy π nx cs cs'=true:=h;simp only[RV] at hr⊢;obtain⟨a,rfl,e⟩:=hr;exact⟨a,rfl,Nk hid h e⟩
 | .tuple cs,w,d,h,hr=>by
  cases w<;>first | (cases (show false=true from h);done) | skip
  rename_i cs';have h:Sy π nx cs cs'=true:=h;simp only[RV] at hr⊢;obtain⟨a,rfl,e⟩:=hr;exact⟨a,rfl,Nk hid h e⟩
 | .func f x y,w,d,h,hr=>by
  cases f<;>cases w<;>first | (cases (show false=true from h);done) | skip
  rename_i f g x' y'
  cases g<;>first | (cases (show false=true from h);done) | skip
  rename_i g
  have h:(Nat.beq f g&&Sy π nx x x'&&Sy π nx y y')=true:=h
  simp only[Bool.and_eq_true] at h
  simp only[RV] at hr⊢
  obtain⟨a,b,rfl,e1,e2⟩:=hr
  exact⟨a,b,by rw[Dj h.1.1],Nk hid h.1.2 e1,Nk hid h.2 e2⟩
theorem Nk {π:List (Nat×Nat)} {nx:Nat} {ρ2 ρ0:Nat->Option Nat} (hid: ∀k k' r,Zq π nx k k'=true->ρ2 k'=some r->ρ0 k=some r): ∀ {v w d:List DVal},Sy π nx v w=true->RVL ρ2 w d->RVL ρ0 v d
 | [],[],_,_,hr=>by simpa only[RVL] using hr
 | [],_::_,_,h,_=>by cases (show false=true from h)
 | _::_,[],_,h,_=>by cases (show false=true from h)
 | a::al,b::bl,_,h,hr=>by
  have h:(eqP π nx a b&&Sy π nx al bl)=true:=h
  simp only[Bool.and_eq_true] at h
  obtain⟨x,xs,rfl,h1,h2⟩:=hr.inv
  exact .cons (Bu3 hid h.1 h1) (Nk hid h.2 h2)
end
theorem Bj5 {k:DVal} {c d r:Bool} (h:Mj k (.agg [.bool c, .bool d])=some r): ∃a b,k= .agg [.bool a, .bool b]:=by
 unfold Mj at h;split at h;all_goals first | (cases h;done) | skip
 all_goals first | (rename_i heq;cases heq;done) | skip
 exact⟨_,_,rfl⟩
theorem Ay2 {es es':List (DVal×DVal)} {k:DVal} {r:Option Nat} (h:lkB es es' k=true) (hr:Ek k es 0=some r): ∃r',Ek k es' 0=some r'/\
  ((r=none/\r'=none)\/ ∃i j p p',r=some i/\r'=some j/\es[i]? =some p/\es'[j]? =some p'/\p.2=p'.2/\Gq p.2=true):=by
 unfold lkB at h;rw[hr] at h;split at h
 ·rename_i h1 h2;cases h1;exact⟨none,h2, .inl ⟨rfl,rfl⟩⟩
 ·rename_i i j h1 h2
  cases h1;split at h
  ·rename_i p p' e1 e2
   simp only[Bool.and_eq_true] at h;exact⟨some j,h2, .inr ⟨i,j,p,p',rfl,rfl,e1,e2,Aa6 h.1,h.2⟩⟩
  ·cases h
 ·cases h
theorem Cz6 {es es':List (DVal×DVal)} (h:lkA es es'=true):LK es es'/\Aw8 es'=true:=by
 unfold lkA at h;simp only[Bool.and_eq_true] at h;obtain⟨⟨⟨⟨⟨h0,hp⟩,h1⟩,h2⟩,h3⟩,h4⟩:=h;refine⟨fun k r hr=> ?_,hp⟩;have hk: ∃a b,k= .agg [.bool a, .bool b]:=by
  unfold Dn0 at h0;split at h0
  ·simp only[Ek] at hr;unfold Ou at hr;split at hr
   ·rename_i e;exact Bj5 e
   ·rename_i e;exact Bj5 e
   ·cases hr
  ·cases h0
 obtain⟨a,b,rfl⟩:=hk;cases a<;>cases b
 ·exact Ay2 h4 hr
 ·exact Ay2 h3 hr
 ·exact Ay2 h2 hr
 ·exact Ay2 h1 hr
theorem Aq1 {ρ:Nat->Option Nat}: ∀ {es c:List (DVal×DVal)},Aw8 es=true->RVM ρ es c->c=es
 | [],c,_,h=>by simp only[RVM] at h;exact h
 | p::es,c,hp,h=>by
  obtain⟨q,qs,rfl,h1,h2,h3⟩:=h;simp only[Aw8,List.all_cons,Bool.and_eq_true] at hp;have e1:=h1.fn (Ol hp.1.1);have e2:=h2.fn (Ol hp.1.2);have:q=p:=by obtain⟨a,b⟩:=q;obtain⟨c,d⟩:=p;simp only at e1 e2;rw[e1,e2]
  rw[this,Aq1 hp.2 h3]
theorem Km {α:Type} {x y:α} {b:Bool} (h:Bool.rec (motive:=fun _=>Option α) none (some x) b=some y):b=true/\x=y:=by
 cases b with
 | false=>cases h
 | true=>cases h;exact⟨rfl,rfl⟩
theorem Ay3 {ρ:Nat->Option Nat} {env:Nat->DVal} {n:Nat} {l:Loop} {es:List (DVal×DVal)} {o:DObj} (h:lkA (Al1 env n) es=true) (ho:RO ρ (.map es) o) {ρ':Nat->Option Nat}:RO ρ' (.loop env n l) o:=by
 obtain⟨c,rfl,hc⟩:=ho;obtain⟨h1,h2⟩:=Cz6 h;obtain rfl:=Aq1 h2 hc;exact⟨_,rfl,h1⟩
theorem Ai9 {π:List (Nat×Nat)} {nx:Nat} {ρ1 ρ2 ρ0:Nat->Option Nat} (hid: ∀k k' r,Zq π nx k k'=true->ρ2 k'=some r->ρ0 k=some r) {a b y:Option DObj} (h:Vx π nx a b=some y):
  ∃x z o,a=some x/\b=some z/\y=some o/\(∀c,RO ρ1 x c->RO ρ1 o c)/\(∀c,RO ρ2 z c->RO ρ0 o c):=by
 unfold Vx at h;split at h
 ·obtain⟨hb,rfl⟩:=Km h;simp only[Bool.and_eq_true] at hb;refine⟨_,_,_,rfl,rfl,rfl,fun c hc=>hc,fun c hc=> ?_⟩;obtain⟨cs',rfl,hl⟩:=hc;exact⟨cs',by rw[Dj hb.1],Nk hid hb.2 hl⟩
 ·obtain⟨hb,rfl⟩:=Km h;simp only[Bool.and_eq_true] at hb;refine⟨_,_,_,rfl,rfl,rfl,fun c hc=>hc,fun c hc=> ?_⟩;have h1:=hb.1;rw[Aa4] at h1;simp only[RO] at hc⊢
  rw[hc,of_decide_eq_true h1,Dj hb.2]
 ·obtain⟨hb,rfl⟩:=Km h;simp only[Bool.and_eq_true] at hb;exact⟨_,_,_,rfl,rfl,rfl,fun c hc=>Ay3 hb.1 hc,fun c hc=>Ay3 hb.2 hc⟩
 ·obtain⟨hb,rfl⟩:=Km h;exact⟨_,_,_,rfl,rfl,rfl,fun c hc=>hc,fun c hc=>Ay3 hb hc⟩
 ·obtain⟨hb,rfl⟩:=Km h;exact⟨_,_,_,rfl,rfl,rfl,fun c hc=>Ay3 hb hc,fun c hc=>hc⟩
 ·obtain⟨hb,rfl⟩:=Km h;refine⟨_,_,_,rfl,rfl,rfl,fun c hc=>hc,fun c hc=> ?_⟩;obtain⟨es',rfl,h2⟩:=hc;exact⟨es',rfl,(Cz6 hb).1.trans h2⟩
 ·cases h
theorem Cl7 {A:XH} {k:Nat} {o:DObj} (h:Cc A k=some o):A.tr.get k=some (some o):=by
 unfold Cc at h;split at h
 ·rename_i heq;cases h;exact heq
 ·cases h
theorem Ay4 {A:XH} {k:Nat} {o:DObj} (h:A.tr.get k=some (some o)):Cc A k=some o:=by
 unfold Cc;rw[h]
theorem Sw {π:List (Nat×Nat)} {nx:Nat} {A A':XH}: ∀(ks:List (Nat×Nat)) (t:Tr (Option DObj)) (κ:Tr (Option DObj)->Out),Qb π nx A A' ks t κ= .bad\/
  ∃t',Qb π nx A A' ks t κ=κ t'/\ ∀k o,t'.get k=some (some o)->t.get k=some (some o)\/ ∃j,Nq π k=some j/\Vx π nx (Cc A k) (Cc A' j)=some (some o)
 | [],t,κ=> .inr ⟨t,rfl,fun k o hk=> .inl hk⟩
 | x::ks,t,κ=>by
  have e0:Qb π nx A A' (x::ks) t κ=(match Nq π x.1 with
   | some j=>match Vx π nx (Cc A x.1) (Cc A' j) with
    | some (some o)=>Tr.setK Out.bad (some o) 24 t x.1 fun t=>Qb π nx A A' ks t κ
    | _=>Qb π nx A A' ks t κ
   | none=>Qb π nx A A' ks t κ):=rfl
  rw[e0]
  split
  ·rename_i j hj
   split
   ·rename_i o ho
    rcases Kk (z:=Out.bad) (x:=some o) 24 t x.1 (fun t=>Qb π nx A A' ks t κ) with e | ⟨t1,h1,e⟩
    ·exact .inl e
    ·rw[e]
     rcases Sw ks t1 κ with e | ⟨t',h2,h3⟩
     ·exact .inl e
     ·refine .inr ⟨t',h2,fun k o' hk=> ?_⟩
      rcases h3 k o' hk with h4 | h4
      ·rw[h1] at h4
       by_cases c:k=x.1
       ·rw[if_pos c] at h4
        cases h4
        rw[c]
        exact .inr ⟨j,hj,ho⟩
       ·rw[if_neg c] at h4;exact .inl h4
      ·exact .inr h4
   ·exact Sw ks t κ
  ·exact Sw ks t κ
theorem Mi {k j:Nat}: ∀ {π:List (Nat×Nat)},Nq π k=some j->(k,j)∈π
 | [],h=>by cases h
 | x::π,h=>by
  have h:Bool.rec (motive:=fun _=>Option Nat) (Nq π k) (some x.2) (Nat.beq x.1 k)=some j:=h;cases hb:Nat.beq x.1 k with
  | false=>rw[hb] at h;exact List.mem_cons_of_mem _ (Mi h)
  | true=>
   rw[hb] at h;cases h;have:=Dj hb;obtain⟨a,b⟩:=x;simp only at this;subst this;exact List.mem_cons_self
theorem Aq2: ∀ {π:List (Nat×Nat)},Ax0 π=true-> ∀ {k k' j:Nat},(k,j)∈π->(k',j)∈π->k=k'
 | [],_,_,_,_,h,_=>by cases h
 | x::π,hn,k,k',j,h,h'=>by
  simp only[Ax0,Bool.and_eq_true,List.all_eq_true,Bool.not_eq_true'] at hn;rcases List.mem_cons.1 h with e | e<;>rcases List.mem_cons.1 h' with e' | e'
  ·rw[<-e] at e';cases e';rfl
  ·have:=hn.1 _ e';rw[<-e] at this;simp only[Nat.beq_refl] at this;cases this
  ·have:=hn.1 _ e;rw[<-e'] at this;simp only[Nat.beq_refl] at this;cases this
  ·exact Aq2 hn.2 e e'
theorem Dk5 (hS:RS B ρ E A s) {o1 o2:Out} (h:Ca B ρ Q (Bh5 (Cy2 E A o1 o2))):Ca B ρ Q (Bh5 o1)/\Ca B ρ Q (Bh5 o2):=by
 cases o1<;>try (exact h.elim)
 cases o2<;>try (exact h.elim)
 rename_i E1 A1 E2 A2
 unfold Cy2 at h;simp only[Wa,Kq] at h;generalize hmx:max A.nx (max A1.nx A2.nx)=mx at h;generalize (Dj1 A.nx A1 A2 _ _)=π at h;have hb:Dj2 π A.nx mx=true:=by
  cases hb:Dj2 π A.nx mx with
  | true=>rfl
  | false=>rw[hb] at h;exact h.elim
 rw[hb] at h;have h:Ca B ρ Q (Bh5 (Qb π A.nx A1 A2 π (Vr Aw9 (Vx π A.nx) A.tr A1.tr A2.tr) fun t=> .norm (Tf (fun v w=>Bool.rec (motive:=fun _=>Option DVal) none (some v) (eqP π A.nx v w)) E1 E2) ⟨t,mx⟩)):=h;rcases Sw (π:=π) (nx:=A.nx) (A:=A1) (A':=A2) π (Vr Aw9 (Vx π A.nx) A.tr A1.tr A2.tr) (fun t=>Out.norm (Tf (fun v w=>Bool.rec (motive:=fun _=>Option DVal) none (some v) (eqP π A.nx v w)) E1 E2) ⟨t,mx⟩) with e | ⟨t',e,ht⟩
 ·rw[e] at h;exact h.elim
 rw[e] at h;have h:Ca B ρ Q (.norm (Tf (fun v w=>Bool.rec (motive:=fun _=>Option DVal) none (some v) (eqP π A.nx v w)) E1 E2) ⟨t',mx⟩):=h;simp only[Dj2,Bool.and_eq_true,List.all_eq_true] at hb;obtain⟨hb1,hb2⟩:=hb;have hn0:A.nx<=mx:=by omega
 have hn1:A1.nx<=mx:=by omega
 have hn2:A2.nx<=mx:=by omega
 have henv: ∀i v,(Tf (fun v w=>Bool.rec (motive:=fun _=>Option DVal) none (some v) (eqP π A.nx v w)) E1 E2).get i=some v->E1.get i=some v/\ ∃w,E2.get i=some w/\eqP π A.nx v w=true:=fun i v hi=>by
  obtain⟨a,b,h1,h2,h3⟩:=Cy5 hi;obtain⟨hq,rfl⟩:=Km h3;exact⟨h1,b,h2,hq⟩
 have hblk: ∀k o,Cc ⟨t',mx⟩ k=some o-> ∃j,((k<A.nx/\j=k)\/(A.nx<=k/\Nq π k=some j))/\Vx π A.nx (Cc A1 k) (Cc A2 j)=some (some o):=fun k o hk=>by
  rcases ht k o (Cl7 hk) with h1 | ⟨j,h1,h2⟩
  ·obtain⟨z,a,b,g1,g2,g3,g4,g5⟩:=Ck1 h1;cases z with
   | none=>cases g2
   | some z=>
    refine⟨k, .inl ⟨hS.heap.live (Ay4 g1),rfl⟩, ?_⟩;obtain⟨x,y,o',rfl,rfl,_⟩:=Ai9 (ρ1:=ρ) (ρ2:=ρ) (ρ0:=fun k=>if k<A.nx then ρ k else(Nq π k).bind ρ) (by
     intro k k' r hid e;unfold Zq at hid;cases hlt:Nat.blt k A.nx with
     | true=>
      rw[hlt] at hid;have e1:=Dj hid;have:k<A.nx:=by simpa [Nat.blt_eq] using hlt
      simp only[this,if_true];rw[e1];exact e
     | false=>
      rw[hlt] at hid;have: ¬k<A.nx:=fun c=>by
       have h9:Nat.blt k A.nx=true:=by rw[Nat.blt_eq];exact c
       rw[h9] at hlt;cases hlt
      simp only[this,if_false];cases hp:Nq π k with
      | none=>rw[hp] at hid;cases hid
      | some j=>rw[hp] at hid;rw[Dj hid];exact e) g5
    rw[Ay4 g3,Ay4 g4];exact g5
  ·have:=hb1 _ (Mi h1);exact⟨j, .inr ⟨Nat.le_of_ble_eq_true this.1.1,h1⟩,h2⟩
 constructor
 ·intro ρ1 s1 hl hS1;refine h ρ1 s1 hl ⟨fun i v hi=>hS1.env i v (henv i v hi).1, ?_⟩;have hlive: ∀k o,Cc ⟨t',mx⟩ k=some o-> ∃x,Cc A1 k=some x/\ ∀c,RO ρ1 x c->RO ρ1 o c:=fun k o hk=>by
   obtain⟨j,_,hm⟩:=hblk k o hk;obtain⟨x,z,o',e1,_,e3,e4,_⟩:=Ai9 (ρ1:=ρ1) (ρ2:=fun _=>none) (ρ0:=fun _=>none) (fun _ _ _ _ e=>by cases e) hm;cases e3;exact⟨x,e1,e4⟩
  exact⟨fun k o hk=>by
    obtain⟨x,h1,h2⟩:=hlive k o hk;obtain⟨r,o',g1,g2,g3⟩:=hS1.heap.obj k x h1;exact⟨r,o',g1,g2,h2 _ g3⟩,
   fun k k' r o o' hk hk' e e'=>by
    obtain⟨x,h1,_⟩:=hlive k o hk;obtain⟨x',h1',_⟩:=hlive k' o' hk';exact hS1.heap.inj k k' r x x' h1 h1' e e',
   fun k hk=>hS1.heap.nx k (Nat.le_trans hn1 hk),hS1.heap.base,hS1.heap.low⟩
 ·intro ρ2 s2 hl hS2;have hid: ∀k k' r,Zq π A.nx k k'=true->ρ2 k'=some r->(if k<A.nx then ρ2 k else(Nq π k).bind ρ2)=some r:=by
   intro k k' r hid e;unfold Zq at hid;cases hlt:Nat.blt k A.nx with
   | true=>
    rw[hlt] at hid;have e1:=Dj hid;have:k<A.nx:=by simpa [Nat.blt_eq] using hlt
    simp only[this,if_true];rw[e1];exact e
   | false=>
    rw[hlt] at hid;have: ¬k<A.nx:=fun c=>by
       have h9:Nat.blt k A.nx=true:=by rw[Nat.blt_eq];exact c
       rw[h9] at hlt;cases hlt
    simp only[this,if_false];cases hp:Nq π k with
    | none=>rw[hp] at hid;cases hid
    | some j=>rw[hp] at hid;rw[Dj hid];exact e
  have hle:Ble ρ (fun k=>if k<A.nx then ρ2 k else(Nq π k).bind ρ2):=fun k r e=>by
   have:k<A.nx:=by
    rcases Nat.lt_or_ge k A.nx with c | c
    ·exact c
    ·rw[hS.heap.nx k c] at e;cases e
   simp only[this,if_true];exact hl k r e
  refine h (fun k=>if k<A.nx then ρ2 k else(Nq π k).bind ρ2) s2 hle ⟨fun i v hi=> ?_, ?_⟩
  ·obtain⟨_,w,h2,h3⟩:=henv i v hi;exact Bu3 hid h3 (hS2.env i w h2)
  have hlive: ∀k o,Cc ⟨t',mx⟩ k=some o-> ∃j z,((k<A.nx/\j=k)\/(A.nx<=k/\Nq π k=some j))/\Cc A2 j=some z/\(if k<A.nx then ρ2 k else(Nq π k).bind ρ2)=ρ2 j/\ ∀c,RO ρ2 z c->RO (fun k=>if k<A.nx then ρ2 k else(Nq π k).bind ρ2) o c:=fun k o hk=>by
   obtain⟨j,hj,hm⟩:=hblk k o hk;obtain⟨x,z,o',e1,e2,e3,_,e5⟩:=Ai9 (ρ1:=ρ2) (ρ2:=ρ2) (ρ0:=fun k=>if k<A.nx then ρ2 k else(Nq π k).bind ρ2) hid hm;cases e3;refine⟨j,z,hj,e2, ?_,e5⟩;rcases hj with⟨c,rfl⟩ | ⟨c,hp⟩
   ·simp only[c,if_true]
   ·have: ¬k<A.nx:=by omega
    simp only[this,if_false,hp,Option.bind_some]
  refine⟨fun k o hk=> ?_,fun k k' r o o' hk hk' e e'=> ?_,fun k hk=> ?_,hS2.heap.base,fun k r e=> ?_⟩
  ·obtain⟨j,z,_,h1,h2,h3⟩:=hlive k o hk;obtain⟨r,o',g1,g2,g3⟩:=hS2.heap.obj j z h1;exact⟨r,o',by rw[h2];exact g1,g2,h3 _ g3⟩
  ·obtain⟨j,z,c,h1,h2,_⟩:=hlive k o hk;obtain⟨j',z',c',h1',h2',_⟩:=hlive k' o' hk';have e:=h2.symm.trans e;have e':=h2'.symm.trans e';have hjj:=hS2.heap.inj j j' r z z' h1 h1' e e';subst hjj;rcases c with⟨c1,c2⟩ | ⟨c1,c2⟩<;>rcases c' with⟨d1,d2⟩ | ⟨d1,d2⟩
   ·rw[<-c2,<-d2]
   ·have:=(hb1 _ (Mi d2)).1.2;have:=Nat.le_of_ble_eq_true this;simp only at this;omega
   ·have:=(hb1 _ (Mi c2)).1.2;have:=Nat.le_of_ble_eq_true this;simp only at this;omega
   ·exact Aq2 hb2 (Mi c2) (Mi d2)
  ·have hk':mx<=k:=hk;have: ¬k<A.nx:=by omega
   simp only[this,if_false];cases hp:Nq π k with
   | none=>rfl
   | some j=>
    have:=(hb1 _ (Mi hp)).2;have:k<mx:=by simpa [Nat.blt_eq] using this
    omega
  ·have e:(if k<A.nx then ρ2 k else(Nq π k).bind ρ2)=some r:=e;split at e
   ·exact hS2.heap.low k r e
   ·cases hp:Nq π k with
    | none=>rw[hp] at e;cases e
    | some j=>rw[hp] at e;exact hS2.heap.low j r e
theorem Sg (hX:XOk X G) (hc:Xm X.P G call) (all:List Oper): ∀(p:Plan) (E:Tr DVal) (A:XH) (s:DS) (ρ:Nat->Option Nat),RS B ρ E A s->Ca B ρ Q (Bh5 (Vy X.P X.gt call all p E A))->Hy X.P G all (QP Q) p s
 | .done,E,A,s,ρ,hS,h=>h ρ s (Ble.refl _) hS
 | .take i p,E,A,s,ρ,hS,h=>by
  simp only[Vy] at h;simp only[Hy];exact Cz5 hX hc hS (Cz3 (W:=Hy X.P G all (QP Q) p) h fun ρ' E' A' s' _ hS' h'=>Sg hX hc all p E' A' s' ρ' hS' h')
 | .go i ls p,E,A,s,ρ,hS,h=>by
  simp only[Vy] at h;simp only[Hy];refine Cz5 hX hc hS (Cz3 (W:=Bw6 G all ls s (Hy X.P G all (QP Q) p)) h fun ρ' E' A' s' hl hS' h'=> ?_);cases hb:Ah4 X.gt all E A A' ls with
  | false=>rw[hb] at h';exact h'.elim
  | true=>
   rw[hb] at h';exact⟨Bj4 hX hS hS' hl all hb,Sg hX hc all p E' A' s' ρ' hS' h'⟩
 | .alt p q,E,A,s,ρ,hS,h=>by
  simp only[Vy] at h;obtain⟨h1,h2⟩:=Dk5 hS h;exact⟨Sg hX hc all p E A s ρ hS h1,Sg hX hc all q E A s ρ hS h2⟩
def Aj0 (body:Tr DVal->XH->Out):Nat->Tr DVal->XH->Out
 | 0,_,_=> .bad
 | n+1,E,A=>Sa (body E A) (Aj0 body n)
theorem Aj1 {body:Tr DVal->XH->Out}: ∀(k:Nat),(∀E A E' A',Ah7 body k E A= .more E' A'-> ∃m,∀j,Aj0 body (m+j) E A=Aj0 body j E' A')/\(∀E A o,Ah7 body k E A= .stop o-> ∃m,Aj0 body m E A=o)
 | 0=>by
  constructor
  ·intro E A E' A' h;have h:Bh6 body E A= .more E' A':=h;refine⟨1,fun j=> ?_⟩;rw[Nat.add_comm];show Sa (body E A) (Aj0 body j)=_;unfold Bh6 at h;split at h
   ·rename_i heq;cases h;rw[heq];rfl
   ·cases h
  ·intro E A o h;have h:Bh6 body E A= .stop o:=h;refine⟨1, ?_⟩;show Sa (body E A) (Aj0 body 0)=_;unfold Bh6 at h;split at h
   ·cases h
   ·rename_i hne
    cases h;unfold Sa;split
    ·rename_i heq;exact(hne _ _ heq).elim
    ·rfl
 | k+1=>by
  obtain⟨h1,h2⟩:=Aj1 (body:=body) k;constructor
  ·intro E A E' A' h;have h:Ah6 (Ah7 body k) E A= .more E' A':=h;unfold Ah6 at h;split at h
   ·rename_i E1 A1 heq
    obtain⟨m,hm⟩:=h1 _ _ _ _ heq;obtain⟨m',hm'⟩:=h1 _ _ _ _ h;exact⟨m+m',fun j=>by rw[Nat.add_assoc,hm,hm']⟩
   ·cases h
  ·intro E A o h;have h:Ah6 (Ah7 body k) E A= .stop o:=h;unfold Ah6 at h;split at h
   ·rename_i E1 A1 heq
    obtain⟨m,hm⟩:=h1 _ _ _ _ heq;obtain⟨m',hm'⟩:=h2 _ _ _ h;exact⟨m+m',by rw[hm,hm']⟩
   ·rename_i heq
    cases h;exact h2 _ _ _ heq
theorem Bj6 {ρ:Nat->Option Nat}: ∀ {args args':List DVal} (k:Nat) (E:Tr DVal) (κ:Tr DVal->COut),RVL ρ args args'->(∀i,k<=i->E.get i=none)->
  Vz args k E κ= .bad\/ ∃E',(∀i v,k<=i->E'.get i=some v->RV ρ v (Iq args' k i))/\(∀i,i<k->E'.get i=E.get i)/\Vz args k E κ=κ E'
 | [],_,k,E,κ,ha,hE=>by
  simp only[RVL] at ha;subst ha;exact .inr ⟨E,(fun i v hi hv=>by rw[hE i hi] at hv;cases hv),fun _ _=>rfl,rfl⟩
 | x::xs,_,k,E,κ,ha,hE=>by
  obtain⟨y,ys,rfl,h1,h2⟩:=ha.inv;have e0:Vz (x::xs) k E κ=Tr.setK .bad x 10 E k fun E=>Jn (k+1) fun k=>Vz xs k E κ:=rfl;rw[e0];rcases Kk (z:=COut.bad) (x:=x) 10 E k (fun E=>Jn (k+1) fun k=>Vz xs k E κ) with e | ⟨E1,hE1,e⟩
  ·exact .inl e
  ·rw[e,Kq];rcases Bj6 (k+1) E1 κ h2 (fun i hi=>by rw[hE1,if_neg (by omega)];exact hE i (by omega)) with e | ⟨E',g1,g2,g3⟩
   ·exact .inl e
   ·refine .inr ⟨E',fun i v hi hv=> ?_,fun i hi=> ?_,g3⟩
    ·by_cases hik:i=k
     ·subst hik;simp only[Iq,upd,if_true];rw[g2 i (by omega),hE1,if_pos rfl] at hv;cases hv;exact h1
     ·simp only[Iq,upd,hik,if_false];exact g1 i v (by omega) hv
    ·rw[g2 i (by omega),hE1,if_neg (by omega)]
theorem Dk6 (hS:RS B ρ E A s) {P:Program} {r:ResultVar} {v:DVal} (h:Bz0 P E A r=some v): ∃v',Ad5 P s r=some v'/\RV ρ v v':=by
 unfold Bz0 at h;split at h
 ·exact⟨_,rfl,hS.env _ _ h⟩
 ·rename_i x t
  split at h
  ·rename_i r off he
   have hx:=hS.env x _ he;simp only[RV] at hx;obtain⟨r',hx,hr⟩:=hx;unfold Av7 at h;split at h
   ·rename_i cs e heq
    obtain⟨r2,cs',h1,h2,h3⟩:=Kl hS.heap heq;rw[hr] at h1;cases h1;rw[Xj] at h;simp only[Ad5,hx,Bo5,h2,Sn];unfold Rl at h⊢
    split at h
    ·split at h<;>cases h
     rename_i hle
     rw[if_pos (by rw[h3.length];exact hle)];exact⟨_,rfl, .agg ((h3.drop _).take _)⟩
    ·exact h3.get h
    ·cases h
   ·cases h
  ·cases h
theorem Bz5 (hS:RS B ρ E A s) {P:Program}: ∀ {rs:List ResultVar} {vs:List DVal},Yz P E A rs=some vs-> ∃vs',Hw P s rs=some vs'/\RVL ρ vs vs'
 | [],vs,h=>by simp only[Yz] at h;cases h;exact⟨[],rfl, .nil⟩
 | r::rs,vs,h=>by
  simp only[Yz] at h;cases h1:Bz0 P E A r with
  | none=>rw[h1] at h;cases h2:Yz P E A rs<;>rw[h2] at h<;>cases h
  | some v=>cases h2:Yz P E A rs with
   | none=>rw[h1,h2] at h;cases h
   | some ws=>
    rw[h1,h2] at h;simp only[Bb7] at h;cases h;obtain⟨v',k1,k2⟩:=Dk6 hS h1;obtain⟨ws',k3,k4⟩:=Bz5 hS h2;exact⟨v'::ws',by simp only[Hw,k1,k3,Bb7], .cons k2 k4⟩
theorem Cz7 {vs vs':List DVal} {v:DVal} (h:RVL ρ vs vs') (hv:Fw (some vs)=some v): ∃v',Fw (some vs')=some v'/\RV ρ v v':=by
 cases vs with
 | nil=>simp only[RVL] at h;subst h;cases hv;exact⟨_,rfl, .tuple .nil⟩
 | cons a vs=>
  obtain⟨a',ys,rfl,h1,h2⟩:=h.inv;cases vs with
  | nil=>simp only[RVL] at h2;subst h2;cases hv;exact⟨a',rfl,h1⟩
  | cons b vs=>
   obtain⟨b',ys,rfl,h3,h4⟩:=h2.inv;cases hv;exact⟨_,rfl, .tuple (.cons h1 (.cons h3 h4))⟩
theorem Bu4 {α:Type} {o:Option α} {f:α->COut} {R:DEnd->Bb->Prop} (h:Ii B ρ R (Qu .bad f o)): ∃v,o=some v/\Ii B ρ R (f v):=by
 cases o with
 | none=>exact h.elim
 | some v=>exact⟨v,rfl,h⟩
theorem Aa8 (hS:RS B ρ E A s) {P:Program} {rs:List ResultVar} {R:DEnd->Bb->Prop} (h:Ii B ρ R (Ck0 P rs E A)):Xx R s.heap (Fw (Hw P s rs)):=by
 unfold Ck0 at h;obtain⟨v,hv,h⟩:=Bu4 h;rw[Ax3] at h;cases hl:Yz P E A rs with
 | none=>rw[hl] at hv;cases hv
 | some vs=>
  rw[hl] at hv;obtain⟨vs',h1,h2⟩:=Bz5 hS hl;obtain⟨v',h3,h4⟩:=Cz7 h2 hv;rw[h1,h3];exact Rm.refl (h ρ s.heap v' (Ble.refl _) hS.heap h4)
theorem Dk7 {P:Program} {rs:List ResultVar} {R:DEnd->Bb->Prop} {o:Out} (h:Ii B ρ R (Ec5 P rs o)):Ca B ρ (Bw3 P rs R) o:=by
 cases o with
 | bad=>exact h
 | norm E A=>exact fun ρ' s' hl hS=>Aa8 hS (Ii.le hl h)
 | exit id E A=>exact h.elim
 | ret E A=>exact fun ρ' s' hl hS=>Aa8 hS (Ii.le hl h)
 | panic v E A=>exact fun ρ' s' v' hl hS hv=>Dl5.refl (h ρ' s'.heap v' hl hS.heap hv)
 | panicX v A=>exact fun ρ' s' v' hl hH hv=>Dl5.refl (h ρ' s'.heap v' hl hH hv)
theorem Xn {P:Program} {k:FuncId} {fn:Func} {c:Code} (hf:P.funcs[k]? =some fn) (hn:(fn.name== "runtime.NumGoroutine")=false) (hb:fn.body=some c) (vs:Array Value) (w:World):(callFunc k vs).run P w= .ok (.enter k vs) w:=by
 have hn': ¬fn.name= "runtime.NumGoroutine" :=fun e=>by rw[e] at hn;simp at hn
 simp [callFunc,go_sem,hf,hn',hb]
end
end Go.Dl

-- AN INTERPRETER OF THE DATA LEVEL, PART 8: calls, all code; a closed call.
namespace Go.Dl
open Go
theorem Bj7 {c:Code} {l:Late} (h:Ah8 c=some l): ∃id y1 y2 p1 p2 af1 af2,c= .seq l.A1 (.seq l.A2 (.seq (.region id #[Bg3 l.d l.g l.caps.toArray y1 p1 af1,Cj5 l.d y2 p2 af2] false) l.C)):=by
 unfold Ah8 at h;split at h
 ·split at h<;>cases h
  rename_i hd
  subst hd;exact⟨_,_,_,_,_,_,_,rfl⟩
 ·cases h
theorem Bu5 {c cc:Code} {t1 t2:Nat} (h:Ap1 c=some (t1,t2,cc)): ∃id y3 y4 p3 p4 af3 af4,c= .seq (.region id #[Rv t1 y3 p3 af3,Vm t1 t2 y4 p4 af4] false) cc:=by
 unfold Ap1 at h;split at h
 ·split at h<;>cases h
  rename_i hd
  subst hd;exact⟨_,_,_,_,_,_,_,rfl⟩
 ·cases h
section
variable {X:XP} {G:Nat->DVal}
variable {B:Bb} {ρ:Nat->Option Nat} {E:Tr DVal} {A:XH} {s:DS} {Q:DExit->DS->Prop}
theorem Bz6 {R:Type} {z:R} (hX:XOk X G) (hS:RS B ρ E A s): ∀(os:List Operand) (κ:List DVal->R),Vs X.gt z E os κ=z\/ ∃vs,RVL ρ vs (Ei G s.env os)/\Vs X.gt z E os κ=κ vs
 | [],κ=> .inr ⟨[],rfl,rfl⟩
 | o::os,κ=>by
  have e0:Vs X.gt z E (o::os) κ=evK X.gt z E o fun v=>Vs X.gt z E os fun vs=>κ (v::vs):=rfl;rw[e0];rcases Bt3 hX.gt hS o (fun v=>Vs X.gt z E os fun vs=>κ (v::vs)) with e | ⟨v,h1,e⟩
  ·exact .inl e
  ·rw[e];rcases Bz6 hX hS os (fun vs=>κ (v::vs)) with e | ⟨vs,h2,e⟩
   ·exact .inl e
   ·exact .inr ⟨v::vs, .cons h1 h2,e⟩
def Snd (X:XP) (G:Nat->DVal) (ih:FuncId->Code->Tr DVal->XH->Out):Prop:=
 ∀(f:FuncId) (c:Code) (N:Nat) (B:Bb) (ρ:Nat->Option Nat) (E:Tr DVal) (A:XH) (s:DS) (Q:DExit->DS->Prop),Et X.plans f N c=true->RS B ρ E A s->Ca B ρ Q (ih f c E A)->dwp X.P G N c Q s
variable {ih:FuncId->Code->Tr DVal->XH->Out}
theorem Ay5 {args args':List DVal} {H:Bb} {κ:Tr DVal->COut} {R:DEnd->Bb->Prop} (ha:RVL ρ args args') (hH:RH B ρ A H) (h:Ii B ρ R (Vz args 0 .leaf κ)): ∃E,RS B ρ E A ⟨Iq args' 0,H⟩/\Ii B ρ R (κ E):=by
 rcases Bj6 0 .leaf κ ha (fun i _=>rfl) with e | ⟨E',g1,_,g3⟩
 ·rw[e] at h;exact h.elim
 ·rw[g3] at h;exact⟨E',⟨fun i v hi=>g1 i v (Nat.zero_le _) hi,hH⟩,h⟩
theorem Bu6 {d:Nat} {v v':DVal} {κ:Tr DVal->COut} {R:DEnd->Bb->Prop} (hS:RS B ρ E A s) (hv:RV ρ v v') (h:Ii B ρ R (Tr.setK .bad v 10 E d κ)): ∃E',RS B ρ E' A ⟨upd s.env d v',s.heap⟩/\Ii B ρ R (κ E'):=by
 rcases Kk (z:=COut.bad) (x:=v) 10 E d κ with e | ⟨t',h1,e⟩
 ·rw[e] at h;exact h.elim
 ·rw[e] at h;exact⟨t',hS.put h1 hv,h⟩
theorem Uj (hih:Snd X G ih) {rs:List ResultVar} {g:FuncId} {fg:Func} {c cc:Code} {t1 t2:Nat} {caps caps':List DVal} {x x':DVal} {R:DEnd->Bb->Prop}
  (hg:X.P.funcs[g]? =some fg) (hb:fg.body=some c) (hr:Ap1 c=some (t1,t2,cc)) (hp:Et X.plans g fg.ntmps cc=true)
  (hS:RS B ρ E A s) (hc:RVL ρ caps caps') (hx:RV ρ x x') (h:Ii B ρ R (Sf X ih rs g caps x E A)):
  dwp X.P G fg.ntmps cc (Xd fun H'=>Xx R H' (Fw (Hw X.P ⟨s.env,H'⟩ rs))) ⟨upd (upd (Iq caps' 0) t1 x') t2 x',s.heap⟩:=by
 unfold Sf at h;simp only[hg,hb,hr] at h;obtain⟨F,h1,h⟩:=Ay5 hc hS.heap h;obtain⟨F1,h2,h⟩:=Bu6 h1 hx h;obtain⟨F2,h3,h⟩:=Bu6 h2 hx h;refine hih g cc fg.ntmps B ρ F2 A _ _ hp h3 ?_;cases ho:ih g cc F2 A<;>rw[ho] at h<;>try (exact h.elim)
 ·exact fun ρ' s' hl hS'=>Aa8 (s:=⟨s.env,s'.heap⟩) ⟨fun i v hi=>(hS.env i v hi).mono hl,hS'.heap⟩ (Ii.le hl h)
 ·exact fun ρ' s' hl hS'=>Aa8 (s:=⟨s.env,s'.heap⟩) ⟨fun i v hi=>(hS.env i v hi).mono hl,hS'.heap⟩ (Ii.le hl h)
theorem Cz8 (hX:XOk X G) (hih:Snd X G ih) {k:FuncId} {args args':List DVal} {H:Bb} {R:DEnd->Bb->Prop} (hk:Bz3 X.P X.plans k args.length=true) (ha:RVL ρ args args') (hH:RH B ρ A H) (h:Ii B ρ R (Bu2 X ih k args A)):Bh X.P G k args' H R:=by
 unfold Bu2 at h;unfold Bz3 at hk;cases hf:X.P.funcs[k]? with
 | none=>rw[hf] at h;exact h.elim
 | some fn=>
  rw[hf] at h hk;simp only at h hk;simp only[Bool.and_eq_true,Bool.not_eq_true'] at hk;obtain⟨hname,hk⟩:=hk;cases hb:fn.body with
  | none=>rw[hb] at h;exact h.elim
  | some c=>
   rw[hb] at h hk;simp only at h hk;cases hl:Ah8 c with
   | none=>
    rw[hl] at h hk;simp only[Bool.and_eq_true] at h hk;obtain⟨E,h1,h⟩:=Ay5 ha hH h;exact Bc hf (fun vs w=>Xn hf hname hb vs w) hb (by rw[ha.length];exact hk.1) (hih k c fn.ntmps B ρ E A _ _ hk.2 h1 (Dk7 h))
   | some l=>
    rw[hl] at h hk;simp only at h hk;unfold Bz2 at hk;cases hg:X.P.funcs[l.g]? with
    | none=>rw[hg] at hk;cases hk
    | some fg=>
     rw[hg] at hk;simp only at hk;cases hbg:fg.body with
     | none=>rw[hbg] at hk;cases hk
     | some c2=>
      rw[hbg] at hk;simp only at hk;cases hr:Ap1 c2 with
      | none=>rw[hr] at hk;cases hk
      | some q=>
       obtain⟨t1,t2,cc⟩:=q;rw[hr] at hk;simp only[Bool.and_eq_true,Bool.not_eq_true'] at hk;obtain⟨⟨⟨⟨⟨g1,g2⟩,g3⟩,g4⟩,⟨⟨g5,g6⟩,g7⟩⟩,g8⟩:=hk;obtain⟨id,y1,y2,p1,p2,af1,af2,rfl⟩:=Bj7 hl;obtain⟨id2,y3,y4,p3,p4,af3,af4,rfl⟩:=Bu5 hr;have hres:fg.results= #[]:=by
        have:fg.results.toList= []:=List.isEmpty_iff.1 g2;exact Array.ext' (by rw[this])
       have hA:l.caps.toArray.toList=l.caps:=by simp
       refine Bg4 hf hg (fun vs w=>Xn hf hname hb vs w) (fun vs w=>Xn hg g1 hbg vs w) hb hbg ?_ ?_ hres ?_
       ·rw[hA,ha.length];simp only[Bool.and_eq_true];exact g8
       ·rw[hA];simp only[Bool.and_eq_true];exact g4
       ·rw[hA];unfold Dn3 at h;obtain⟨E0,h1,h⟩:=Ay5 ha hH h;refine hih k l.A1 fn.ntmps B ρ E0 A _ _ g5 h1 ?_;cases ho:ih k l.A1 E0 A<;>rw[ho] at h<;>simp only at h<;>try (exact h.elim)
        rename_i E1 A1
        intro ρ1 s1 hl1 hS1;have h:=Ii.le hl1 h;refine hih k l.A2 fn.ntmps B ρ1 E1 A1 _ _ g6 hS1 ?_;cases ho2:ih k l.A2 E1 A1<;>rw[ho2] at h<;>simp only at h<;>try (exact h.elim)
        rename_i E2 A2
        intro ρ2 s2 hl2 hS2;have h:=Ii.le hl2 h;rcases Bz6 (z:=COut.bad) hX hS2 l.caps (fun caps=>Tr.setK .bad (.func (.func l.g) [] caps) 10 E2 l.d fun E3=>Ai8 X ih fn.results.toList l.g caps (ih k l.C E3 A2)) with e | ⟨caps,hcaps,e⟩
        ·rw[e] at h;exact h.elim
        rw[e] at h;obtain⟨E3,hS3,h⟩:=Bu6 hS2 (.func (.func l.g) .nil hcaps) h;refine hih k l.C fn.ntmps B ρ2 E3 A2 _ _ g7 hS3 ?_;cases ho3:ih k l.C E3 A2<;>rw[ho3] at h<;>simp only[Ai8] at h<;>try (exact h.elim)
        ·exact fun ρ3 s3 hl3 hS4=>Uj hih hg hbg hr g3 hS4 (hcaps.mono hl3) (by simp only[RV]) (Ii.le hl3 h)
        ·exact fun ρ3 s3 hl3 hS4=>Uj hih hg hbg hr g3 hS4 (hcaps.mono hl3) (by simp only[RV]) (Ii.le hl3 h)
        ·exact fun ρ3 s3 v3 hl3 hS4 hv=>Uj hih hg hbg hr g3 hS4 (hcaps.mono hl3) hv (Ii.le hl3 h)
theorem Bj8 (hX:XOk X G) (hih:Snd X G ih):Xm X.P G (Bj3 X ih):=by
 intro B ρ k args args' A H R ha hH h;unfold Bj3 at h;split at h
 ·rename_i v heq
  obtain⟨x,hx,rfl,hb,rfl⟩:=Zb heq;have:=Jp hb;subst this;have hp:=List.all_eq_true.1 hX.plain x hx;simp only[Bool.and_eq_true] at hp;have:args'=x.2.1:=ha.fn (Gt hp.1);subst this;refine(hX.memo x hx H).mono ?_;rintro _ _ ⟨rfl,rfl⟩;exact h ρ _ _ (Ble.refl _) hH (Ol hp.2)
 ·cases hg:Ay0 X.good k args.length with
  | false=>rw[hg] at h;exact h.elim
  | true=>
   rw[hg] at h;exact Cz8 hX hih (List.all_eq_true.1 hX.good _ (Zc hg)) ha hH h
theorem Bz7 (hX:XOk X G): ∀n,Snd X G (Al6 X n)
 | 0=>fun f c N B ρ E A s Q _ _ h=>h.elim
 | n+1=>by
  have hih:=Bz7 hX n;have hcall:=Bj8 hX hih;intro f c N B ρ E A s Q hp hS h;have h:Ca B ρ Q (Cz2 X (Al6 X n) f c E A):=h;cases c with
  | skip=>exact h ρ s (Ble.refl _) hS
  | label l=>exact h ρ s (Ble.refl _) hS
  | region id ops draw=>
   cases draw with
   | false=>exact Bz4 hX hcall _ _ E A s ρ hS h
   | true=>
    simp only[Cz2] at h;simp only[Et] at hp;cases hpl:Bu0 X.plans f id with
    | none=>rw[hpl] at h;exact h.elim
    | some p=>
     rw[hpl] at h hp;have hp:(ops.toList.all (Gm N)&&Ya ops.toList [] p&&Fx ops.toList p [])=true:=hp;exact Bw9 (N:=⟨N,⟨0,[],false⟩⟩) hX.mixed p hp (Sg hX hcall _ p E A s ρ hS h)
  | seq a b=>
   simp only[Et,Bool.and_eq_true] at hp;exact hih f a N B ρ E A s _ hp.1 hS (Ay1 h fun ρ' E' A' s' _ hS' h'=>hih f b N B ρ' E' A' s' Q hp.2 hS' h')
  | cond c a b=>
   simp only[Et,Bool.and_eq_true] at hp;obtain⟨v,h1,h⟩:=Dq hX.gt hS h;simp only[dwp];unfold Dn2 at h;split at h
   ·simp only[RV] at h1;rw[h1];exact hih f a N B ρ E A s Q hp.1 hS h
   ·simp only[RV] at h1;rw[h1];exact hih f b N B ρ E A s Q hp.2 hS h
   ·exact h.elim
  | block id c=>
   simp only[Et] at hp;refine hih f c N B ρ E A s _ hp hS ?_;have h:Ca B ρ Q (Ax1 id (Al6 X n f c E A)):=h;cases ho:Al6 X n f c E A<;>rw[ho] at h<;>try (exact h)
   rename_i id' E' A'
   intro ρ' s' hl hS';show Zt Q s' id' (decide (id'=id));by_cases hid:id'=id
   ·have hb:Nat.beq id' id=true:=by rw[hid];exact Nat.beq_refl _
    simp only[Ax1,hb] at h;rw[decide_eq_true hid];exact h ρ' s' hl hS'
   ·have hb:Nat.beq id' id=false:=by
     cases hb:Nat.beq id' id with
     | false=>rfl
     | true=>exact(hid (Nat.eq_of_beq_eq_true hb)).elim
    simp only[Ax1,hb] at h;rw[decide_eq_false hid];exact h ρ' s' hl hS'
  | loop c=>
   simp only[Et] at hp;have h:Ca B ρ Q (Dn1 (Ah7 (fun E H=>Al6 X n f c E H) 20 E A)):=h;cases ho:Ah7 (fun E H=>Al6 X n f c E H) 20 E A with
   | more E' A'=>rw[ho] at h;exact h.elim
   | stop o=>
    rw[ho] at h;obtain⟨m,hm⟩:=(Aj1 20).2 _ _ _ ho;refine⟨Nat,fun i s=> ∃ρ' E A,RS B ρ' E A s/\Ca B ρ' Q (Aj0 (fun E H=>Al6 X n f c E H) i E A),id,⟨m,s,Rd.refl s,ρ,E,A,hS,by rw[hm];exact h⟩, ?_⟩;rintro i s1 ⟨ρ1,E1,A1,hS1,h1⟩;cases i with
    | zero=>exact h1.elim
    | succ i=>
     exact hih f c N B ρ1 E1 A1 s1 _ hp hS1 (Ay1 h1 fun ρ' E' A' s' _ hS' h'=>⟨i,s',Rd.refl s',⟨ρ',E',A',hS',h'⟩,Nat.lt_succ_self i⟩)
  | exit id=>exact h ρ s (Ble.refl _) hS
  | ret=>exact h ρ s (Ble.refl _) hS
  | scope c=>
   simp only[Et] at hp;refine hih f c N B ρ E A s _ hp hS ?_;have h:Ca B ρ Q (Al6 X n f c E A):=h;cases ho:Al6 X n f c E A<;>rw[ho] at h<;>exact h
  | rangeFunc=>exact h.elim
  | goto=>exact h.elim
  | refuse=>exact h.elim
def Wf (f:DVal->Option DVal):List DVal->Option (List DVal)
 | []=>some []
 | v::vs=>match f v,Wf f vs with
  | some d,some ds=>some (d::ds)
  | _,_=>none
noncomputable def frz:Nat->XH->DVal->Option DVal
 | 0,_,_=>none
 | n+1,A,v=>match v with
  | .oslice sz k off len _=>match Cc A k with
   | some (.cells cs _)=>if off+len*sz<=cs.length then(Wf (frz n A) ((cs.drop off).take (len*sz))).map (fun cs=> .vslice cs len) else none
   | _=>none
  | .optr k off=>match Cc A k with
   | some (.cells cs _)=>(Wf (frz n A) cs).map (fun cs=> .vptr cs off)
   | _=>none
  | .omap _=>none
  | .vptr cs off=>(Wf (frz n A) cs).map (fun cs=> .vptr cs off)
  | .vslice cs len=>(Wf (frz n A) cs).map (fun cs=> .vslice cs len)
  | .agg cs=>(Wf (frz n A) cs).map .agg
  | .tuple cs=>(Wf (frz n A) cs).map .tuple
  | .iface t v=>(frz n A v).map (.iface t)
  | .func f a c=>match Wf (frz n A) a,Wf (frz n A) c with
   | some a,some c=>some (.func f a c)
   | _,_=>none
  | v=>some v
theorem Lm {w:World} {H H':Bb} {f:DVal->Option DVal} (hf: ∀v d u x,f v=some d->RV ρ v u->Rel w H u x->Rel w H' d x): ∀ {vs ds us:List DVal} {xs:List Value},Wf f vs=some ds->RVL ρ vs us->Br w H us xs->Br w H' ds xs
 | [],ds,us,xs,h,hr,hx=>by
  simp only[RVL] at hr;subst hr;simp only[Wf] at h;cases h;simpa only[Br] using hx
 | v::vs,ds,us,xs,h,hr,hx=>by
  obtain⟨u,us',rfl,h1,h2⟩:=hr.inv;simp only[Wf] at h;split at h<;>cases h
  rename_i d ds' hd hds
  simp only[Br] at hx⊢
  obtain⟨y,ys,rfl,h3,h4⟩:=hx;exact⟨y,ys,rfl,hf v d u y hd h1 h3,Lm hf hds h2 h4⟩
theorem Dw9 {w:World} {H:Bb} (hw:Bw w H) (hA:RH B ρ A H): ∀(n:Nat) (v d u:DVal) (x:Value),frz n A v=some d->RV ρ v u->Rel w H u x->Rel w B d x:=by
 have hlast:Lasts H w B w:=Ka hA.base w;intro n
 induction n with
 | zero=>intro v d u x h;cases h
 | succ n ih=>
  intro v d u x h hr hx;simp only[frz] at h;split at h
  ·rename_i sz k off len lo
   simp only[RV] at hr;obtain⟨r,rfl,hk⟩:=hr;split at h
   ·rename_i cs e heq
    split at h<;>try (cases h;done)
    rename_i hle
    obtain⟨ds,hds,rfl⟩:=Option.map_eq_some_iff.1 h;obtain⟨r',o',h1,h2,cs',rfl,h3⟩:=hA.obj _ _ heq;rw[hk] at h1;cases h1;simp only[Rel] at hx⊢
    obtain⟨o,cap,rfl,hlo,hlc,ho,_⟩:=hx;refine⟨_,cap,rfl,hlc, ?_⟩;obtain⟨xs,hxs,hholds⟩:=hw.holds h2;rcases ho with hc | ho
    ·have:len=0:=by omega
     subst this;simp only[Nat.zero_mul,List.take_zero,Wf] at hds;cases hds;exact .inl rfl
    ·subst ho;refine .inr ⟨r,o,(xs.drop o).take (len*sz),rfl, ?_,Lm ih hds ((h3.drop _).take _) ((hxs.drop _).take _)⟩;refine .inr ⟨hA.low _ _ hk,fun i y hy=> ?_⟩;have:=(hholds.drop (n:=o)).take (n:=len*sz) i y hy;simpa using this
   ·cases h
  ·rename_i k off
   simp only[RV] at hr;obtain⟨r,rfl,hk⟩:=hr;split at h
   ·rename_i cs e heq
    obtain⟨ds,hds,rfl⟩:=Option.map_eq_some_iff.1 h;obtain⟨r',o',h1,h2,cs',rfl,h3⟩:=hA.obj _ _ heq;rw[hk] at h1;cases h1;simp only[Rel] at hx⊢
    subst hx;obtain⟨xs,hxs,hholds⟩:=hw.holds h2;refine⟨r,0,xs,by simp, .inr ⟨hA.low _ _ hk,fun i y hy=> ?_⟩,Lm ih hds h3 hxs⟩;exact hholds i y hy
   ·cases h
  ·cases h
  ·obtain⟨ds,hds,rfl⟩:=Option.map_eq_some_iff.1 h;simp only[RV] at hr;obtain⟨cs',rfl,hl⟩:=hr;simp only[Rel] at hx⊢
   obtain⟨b,o,xs,rfl,hc,hxs⟩:=hx;exact⟨b,o,xs,rfl,hc.lasts hlast,Lm ih hds hl hxs⟩
  ·rename_i cs len
   obtain⟨ds,hds,rfl⟩:=Option.map_eq_some_iff.1 h;simp only[RV] at hr;obtain⟨cs',rfl,hl⟩:=hr;simp only[Rel] at hx⊢
   obtain⟨a,cap,rfl,hle,hc⟩:=hx;refine⟨a,cap,rfl,hle, ?_⟩;rcases hc with hc | ⟨b,o,xs,rfl,hc,hxs⟩
   ·subst hc;have hlen:=hl.length;left;cases cs with
    | nil=>simp only[Wf] at hds;cases hds;rfl
    | cons _ _=>simp at hlen
   ·exact .inr ⟨b,o,xs,rfl,hc.lasts hlast,Lm ih hds hl hxs⟩
  ·obtain⟨ds,hds,rfl⟩:=Option.map_eq_some_iff.1 h;simp only[RV] at hr;obtain⟨cs',rfl,hl⟩:=hr;simp only[Rel] at hx⊢
   obtain⟨xs,rfl,hxs⟩:=hx;exact⟨xs,rfl,Lm ih hds hl hxs⟩
  ·obtain⟨ds,hds,rfl⟩:=Option.map_eq_some_iff.1 h;simp only[RV] at hr;obtain⟨cs',rfl,hl⟩:=hr;simp only[Rel] at hx⊢
   obtain⟨xs,rfl,hxs⟩:=hx;exact⟨xs,rfl,Lm ih hds hl hxs⟩
  ·obtain⟨d',hd,rfl⟩:=Option.map_eq_some_iff.1 h;simp only[RV] at hr;obtain⟨v',rfl,hv⟩:=hr;simp only[Rel] at hx⊢
   obtain⟨y,rfl,hy⟩:=hx;exact⟨y,rfl,ih _ _ _ _ hd hv hy⟩
  ·split at h<;>cases h
   rename_i a c ha hc
   simp only[RV] at hr;obtain⟨a',c',rfl,h1,h2⟩:=hr;simp only[Rel] at hx⊢
   obtain⟨xs,ys,rfl,h3,h4⟩:=hx;exact⟨xs,ys,rfl,Lm ih ha h1 h3,Lm ih hc h2 h4⟩
  ·cases h
   rename_i a1 a2 a3 a4 a5 a6 a7 a8 a9
   cases v<;>simp only[RV] at hr;all_goals first
    | (subst hr;exact Rel.lasts hlast _ _ hx)
    | exact(a1 _ _ _ _ _ rfl).elim
    | exact(a2 _ _ rfl).elim
    | exact(a3 _ rfl).elim
    | exact(a4 _ _ rfl).elim
    | exact(a5 _ _ rfl).elim
    | exact(a6 _ rfl).elim
    | exact(a7 _ rfl).elim
    | exact(a8 _ _ rfl).elim
    | exact(a9 _ _ _ rfl).elim
noncomputable def Cz9 (X:XP) (n:Nat) (k:FuncId) (args:List DVal):COut:=Bj3 X (Al6 X n) k args ⟨.leaf,0⟩
theorem Da0 (hX:XOk X G) {n m:Nat} {k:FuncId} {args:List DVal} {v d:DVal} (hp:Gz args=true) (h:Cz9 X n k args= .cret v A) (hf:frz m A v=some d) (H:Bb):Bh X.P G k args H (Bt d H):=by
 have hH:RH H (fun _=>none) ⟨.leaf,0⟩ H:=by
  refine⟨fun k o hk=> ?_,fun k k' r o o' hk=> ?_,fun _ _=>rfl,fun _ _ h=>h,fun k r h=>by cases h⟩
  ·unfold Cc at hk;rw[Bh8] at hk;cases hk
  ·unfold Cc at hk;rw[Bh8] at hk;cases hk
 have key:Bh X.P G k args H (fun e H'=> ∃ρ v',e= .ret v'/\RV ρ v v'/\RH H ρ A H'):=by
  refine Bj8 hX (Bz7 hX n) H _ k args args ⟨.leaf,0⟩ H _ (Gt hp) hH ?_;show Ii H _ _ (Cz9 X n k args);rw[h];exact fun ρ' H' v' _ hH' hv=>⟨ρ',v',rfl,hv,hH'⟩
 refine key.ghost ?_;rintro e H' ⟨ρ,v',rfl,hv,hH'⟩;refine⟨v',d,H,rfl,fun w hw=> ?_,rfl,rfl⟩;have hg:=Lb.sub hH'.base v' w hw;exact⟨hg.1,hg.2.1,fun x hx=>Dw9 hw hH' m v d v' x hf hv hx⟩
noncomputable def Da1 (X:XP) (n:Nat) (k:FuncId) (args:List DVal) (d:DVal):Bool:=
 match Cz9 X n k args with
 | .cret v A=>match frz 40 A v with
  | some d'=>Bs9 d' d
  | none=>false
 | _=>false
theorem Da2 (hX:XOk X G) {n:Nat} {k:FuncId} {args:List DVal} {d:DVal} (hp:Gz args=true) (h:Da1 X n k args d=true) (H:Bb):Bh X.P G k args H (Bt d H):=by
 unfold Da1 at h;split at h
 ·rename_i v A hv
  split at h
  ·rename_i d' hd
   obtain rfl:=Aa6 h;exact Da0 hX hp hv hd H
  ·cases h
 ·cases h
def XP.more (X:XP) (l:List (FuncId×List DVal×DVal)):XP:= { X with memo:=l++X.memo }
noncomputable def Dp (X:XP) (n:Nat) (l:List (FuncId×List DVal×DVal)):Bool:=l.all fun x=>Gz x.2.1&&Gq x.2.2&&Da1 X n x.1 x.2.1 x.2.2
theorem XOk.more (hX:XOk X G) {n:Nat} {l:List (FuncId×List DVal×DVal)} (h:Dp X n l=true):XOk (X.more l) G:=by
 unfold Dp at h;rw[List.all_eq_true] at h;refine⟨hX.mixed,hX.gt,hX.good, ?_, ?_⟩
 ·show(l++X.memo).all _=true;rw[List.all_append,hX.plain,Bool.and_true,List.all_eq_true];intro x hx;have:=h x hx;rw[Bool.and_eq_true] at this;exact this.1
 ·intro x hx H;have hx:x∈l++X.memo:=hx;rcases List.mem_append.1 hx with hx | hx
  ·have:=h x hx;simp only[Bool.and_eq_true] at this;exact Da2 hX this.1.1 this.2 H
  ·exact hX.memo x hx H
theorem XOk.at (hX:XOk X G) {k:FuncId} {args:List DVal} {d:DVal} (h:(k,args,d)∈X.memo) (H:Bb):Bh X.P G k args H (Bt d H):=hX.memo _ h H
end
end Go.Dl

-- What the interpreter knows of this seat. MADE BY PROGRAM (gen_x.py).
namespace Go.Dl
open Go Go.Proofs
set_option maxRecDepth 100000
def Da3:List (FuncId×Nat×Plan):= [
(4,1,(.take 0 (.take 1 (.take 3 (.take 4 (.go 2 [4] (.go 5 [] (.take 6 (.take 7 (.take 8 (.take 9 (.take 11 (.take 12 (.go 10 [12] (.go 13 [] (.take 14 (.take 15 (.take 16 (.take 17 (.take 18 (.take 20 (.take 21 (.go 19 [21] (.go 22 [] (.take 23 (.take 24 (.take 25 (.take 26 (.take 27 (.take 29 (.take 30 (.go 28 [30] (.go 31 [] (.take 32 (.take 33 (.take 34 .done)))))))))))))))))))))))))))))))))))),
(4,2,(.take 0 (.take 1 (.take 2 (.take 3 (.take 5 (.take 6 (.go 4 [6] (.go 7 [] (.take 8 (.take 9 (.take 10 (.take 11 (.take 12 (.take 14 (.take 15 (.go 13 [15] (.go 16 [] (.take 17 (.take 18 (.take 19 (.take 20 (.take 21 (.take 23 (.take 24 (.go 22 [24] (.go 25 [] (.take 26 (.take 27 (.take 28 (.go 29 [] (.take 30 (.take 31 .done))))))))))))))))))))))))))))))))),
(5,1,(.take 0 (.take 1 (.take 2 (.take 3 (.take 5 (.take 6 (.take 7 (.take 8 (.go 4 [8,6] (.go 9 [] (.take 10 (.take 11 (.take 12 (.take 13 (.take 14 (.take 15 (.take 17 (.take 18 (.take 19 (.take 20 (.go 16 [20,18] (.go 21 [] (.take 22 (.take 23 (.take 24 (.take 25 (.take 26 (.take 27 (.take 28 (.take 30 (.take 31 (.take 32 (.take 33 (.go 29 [33,31] (.go 34 [] (.take 35 (.take 36 (.take 37 .done))))))))))))))))))))))))))))))))))))))),
(5,2,(.take 0 (.take 1 (.take 2 (.take 3 (.take 5 (.take 6 (.take 7 (.take 8 (.go 4 [8,6] (.go 9 [] (.take 10 (.take 11 (.take 12 (.take 13 (.take 14 (.take 15 (.take 17 (.take 18 (.take 19 (.take 20 (.go 16 [20,18] (.go 21 [] (.take 22 (.take 23 (.take 24 (.take 25 (.take 26 (.take 27 (.take 28 (.take 30 (.take 31 (.take 32 (.take 33 (.go 29 [33,31] (.go 34 [] (.take 35 (.take 36 (.take 37 .done))))))))))))))))))))))))))))))))))))))),
(11,4,(.take 0 (.take 1 (.take 2 (.take 3 (.take 4 (.take 5 (.take 6 (.take 7 (.go 8 [7] (.go 9 [7] (.go 10 [7] (.take 11 (.go 12 [] (.take 13 (.take 14 .done)))))))))))))))),
(11,6,(.take 0 (.take 1 (.take 2 (.take 3 (.take 4 (.take 5 (.take 6 (.take 7 (.take 8 (.take 9 (.take 10 (.go 11 [10] (.go 12 [10] (.go 13 [10] (.take 14 (.go 15 [] (.take 16 (.take 17 .done))))))))))))))))))),
(16,1,(.take 0 (.take 1 (.take 2 (.take 3 (.take 7 (.take 8 (.alt (.go 9 [3,1] (.go 4 [8] (.go 5 [8] (.take 6 (.go 10 [] (.take 11 (.take 12 (.take 13 .done)))))))) (.go 4 [8] (.alt (.go 9 [3,1] (.go 5 [8] (.take 6 (.go 10 [] (.take 11 (.take 12 (.take 13 .done))))))) (.go 5 [8] (.take 6 (.go 9 [3,1] (.go 10 [] (.take 11 (.take 12 (.take 13 .done))))))))))))))))),
(32,6,(.take 0 (.take 1 (.take 2 (.take 3 (.take 4 (.take 5 (.take 6 (.take 7 (.take 8 (.take 9 (.go 10 [] (.take 11 (.take 12 (.take 13 (.take 14 (.take 15 (.take 16 (.take 17 (.take 18 (.take 19 (.take 20 (.take 21 (.take 22 (.take 23 (.take 24 (.take 25 (.take 26 (.take 27 (.take 28 (.take 29 (.take 30 (.take 31 (.take 32 (.take 33 (.take 34 (.take 35 (.go 36 [] (.take 37 (.take 38 (.take 39 (.take 40 (.take 41 (.take 42 (.take 43 (.take 44 (.take 45 (.take 46 (.take 47 (.take 48 (.take 49 (.go 50 [] (.take 51 (.take 52 .done)))))))))))))))))))))))))))))))))))))))))))))))))))))),
(34,6,(.take 0 (.take 1 (.take 2 (.take 3 (.take 4 (.take 5 (.take 6 (.take 7 (.take 8 (.take 9 (.take 10 (.take 11 (.take 12 (.take 13 (.take 14 (.take 15 (.take 16 (.take 17 (.take 18 (.take 19 (.take 20 (.take 21 (.go 22 [] (.take 23 (.take 24 .done)))))))))))))))))))))))))),
(36,6,(.take 0 (.take 1 (.take 2 (.take 3 (.take 4 (.take 5 (.take 6 (.take 7 (.take 8 (.take 9 (.go 10 [] (.take 11 (.take 12 (.take 13 (.take 14 (.take 15 (.take 16 (.take 17 (.take 18 (.take 19 (.take 20 (.take 21 (.take 22 (.go 23 [] (.take 24 (.take 25 (.take 26 (.take 27 (.take 28 (.take 29 (.take 30 (.take 31 (.take 32 (.take 33 (.take 34 (.take 35 (.take 36 (.go 37 [] (.take 38 (.take 39 .done))))))))))))))))))))))))))))))))))))))))),
(38,6,(.take 0 (.take 1 (.take 2 (.take 3 (.take 4 (.take 5 (.take 6 (.take 7 (.take 8 (.take 9 (.take 10 (.take 11 (.go 12 [] (.take 13 (.take 14 (.take 15 (.take 16 (.take 17 (.take 18 (.take 19 (.take 20 (.take 21 (.take 22 (.take 23 (.take 24 (.take 25 (.take 26 (.go 27 [] (.take 28 (.take 29 .done))))))))))))))))))))))))))))))),
(43,10,(.take 0 (.take 1 (.take 2 (.take 6 (.take 7 (.take 8 (.take 11 (.take 12 (.take 14 (.take 15 (.alt (.go 4 [15,12,8,2] (.alt (.go 9 [15,12,2] (.go 3 [15,12,8] (.go 5 [15,12,8] (.go 10 [15,12] (.go 13 [15] (.go 16 [] .done)))))) (.go 3 [15,12,8] (.alt (.go 9 [15,12,2] (.go 5 [15,12,8] (.go 10 [15,12] (.go 13 [15] (.go 16 [] .done))))) (.go 5 [15,12,8] (.go 9 [15,12,2] (.go 10 [15,12] (.go 13 [15] (.go 16 [] .done))))))))) (.alt (.go 9 [15,12,2] (.alt (.go 4 [15,12,8,2] (.go 3 [15,12,8] (.go 5 [15,12,8] (.go 10 [15,12] (.go 13 [15] (.go 16 [] .done)))))) (.go 3 [15,12,8] (.go 4 [15,12,8,2] (.go 5 [15,12,8] (.go 10 [15,12] (.go 13 [15] (.go 16 [] .done)))))))) (.go 3 [15,12,8] (.alt (.go 9 [15,12,2] (.go 4 [15,12,8,2] (.go 5 [15,12,8] (.go 10 [15,12] (.go 13 [15] (.go 16 [] .done)))))) (.go 4 [15,12,8,2] (.alt (.go 9 [15,12,2] (.go 5 [15,12,8] (.go 10 [15,12] (.go 13 [15] (.go 16 [] .done))))) (.go 5 [15,12,8] (.go 9 [15,12,2] (.go 10 [15,12] (.go 13 [15] (.go 16 [] .done)))))))))))))))))))))),
(45,9,(.take 0 (.take 1 (.take 2 (.take 7 (.take 8 (.alt (.go 5 [8,2] (.go 3 [8] (.go 4 [8] (.go 6 [8] (.go 9 [] .done))))) (.go 3 [8] (.alt (.go 5 [8,2] (.go 4 [8] (.go 6 [8] (.go 9 [] .done)))) (.go 4 [8] (.go 5 [8,2] (.go 6 [8] (.go 9 [] .done))))))))))))),
(49,10,(.take 0 (.take 3 (.take 4 (.alt (.go 6 [4] (.go 1 [4] (.go 2 [4] (.go 5 [] (.go 7 [] .done))))) (.go 1 [4] (.alt (.go 6 [4] (.go 2 [4] (.go 5 [] (.go 7 [] .done)))) (.go 2 [4] (.alt (.go 6 [4] (.go 5 [] (.go 7 [] .done))) (.go 5 [] (.go 6 [4] (.go 7 [] .done)))))))))))),
(49,12,(.take 0 (.take 3 (.take 4 (.take 5 (.take 6 (.go 1 [6,4] (.go 2 [6,4] (.go 7 [] .done))))))))),
(49,14,(.take 0 (.take 3 (.take 4 (.go 1 [4] (.go 2 [4] (.go 5 [] .done))))))),
(49,16,(.take 0 (.take 3 (.take 4 (.take 8 (.take 9 (.alt (.go 6 [9,4] (.go 1 [9,4] (.go 2 [9,4] (.go 5 [9] (.go 7 [9] (.go 10 [] .done)))))) (.go 1 [9,4] (.alt (.go 6 [9,4] (.go 2 [9,4] (.go 5 [9] (.go 7 [9] (.go 10 [] .done))))) (.go 2 [9,4] (.alt (.go 6 [9,4] (.go 5 [9] (.go 7 [9] (.go 10 [] .done)))) (.go 5 [9] (.go 6 [9,4] (.go 7 [9] (.go 10 [] .done))))))))))))))),
(49,18,(.take 0 (.take 3 (.take 4 (.go 1 [4] (.go 2 [4] (.go 5 [] .done))))))),
(51,6,(.take 0 (.take 1 (.take 2 (.take 3 (.take 4 (.take 5 (.take 6 (.take 7 (.take 8 .done)))))))))),
(54,6,(.take 0 (.take 1 (.take 2 (.take 3 (.take 4 (.take 5 (.go 6 [] (.go 7 [] .done))))))))),
(57,3,(.take 1 (.take 3 (.take 5 (.take 7 (.go 0 [] (.alt (.go 4 [] (.alt (.go 6 [] (.alt (.go 8 [] (.go 2 [] (.take 9 (.take 10 .done)))) (.go 2 [] (.go 8 [] (.take 9 (.take 10 .done)))))) (.alt (.go 8 [] (.alt (.go 6 [] (.go 2 [] (.take 9 (.take 10 .done)))) (.go 2 [] (.go 6 [] (.take 9 (.take 10 .done)))))) (.go 2 [] (.alt (.go 8 [] (.go 6 [] (.take 9 (.take 10 .done)))) (.go 6 [] (.go 8 [] (.take 9 (.take 10 .done))))))))) (.alt (.go 6 [] (.alt (.go 4 [] (.alt (.go 8 [] (.go 2 [] (.take 9 (.take 10 .done)))) (.go 2 [] (.go 8 [] (.take 9 (.take 10 .done)))))) (.alt (.go 8 [] (.alt (.go 4 [] (.go 2 [] (.take 9 (.take 10 .done)))) (.go 2 [] (.go 4 [] (.take 9 (.take 10 .done)))))) (.go 2 [] (.alt (.go 8 [] (.go 4 [] (.take 9 (.take 10 .done)))) (.go 4 [] (.go 8 [] (.take 9 (.take 10 .done))))))))) (.alt (.go 8 [] (.alt (.go 4 [] (.alt (.go 6 [] (.go 2 [] (.take 9 (.take 10 .done)))) (.go 2 [] (.go 6 [] (.take 9 (.take 10 .done)))))) (.alt (.go 6 [] (.alt (.go 4 [] (.go 2 [] (.take 9 (.take 10 .done)))) (.go 2 [] (.go 4 [] (.take 9 (.take 10 .done)))))) (.go 2 [] (.alt (.go 6 [] (.go 4 [] (.take 9 (.take 10 .done)))) (.go 4 [] (.go 6 [] (.take 9 (.take 10 .done))))))))) (.go 2 [] (.alt (.go 6 [] (.alt (.go 8 [] (.go 4 [] (.take 9 (.take 10 .done)))) (.go 4 [] (.go 8 [] (.take 9 (.take 10 .done)))))) (.alt (.go 8 [] (.alt (.go 6 [] (.go 4 [] (.take 9 (.take 10 .done)))) (.go 4 [] (.go 6 [] (.take 9 (.take 10 .done)))))) (.go 4 [] (.alt (.go 8 [] (.go 6 [] (.take 9 (.take 10 .done)))) (.go 6 [] (.go 8 [] (.take 9 (.take 10 .done)))))))))))))))))),
(62,6,(.take 0 (.take 1 (.take 2 (.take 3 (.take 4 (.take 5 (.take 6 (.take 7 (.take 8 (.take 9 (.take 10 (.take 11 (.take 12 (.take 13 (.take 14 (.take 15 (.take 16 (.take 17 (.take 18 (.take 19 (.take 20 (.take 21 (.take 22 (.take 23 (.take 24 (.take 25 (.take 26 (.take 27 (.take 28 (.take 29 (.take 30 (.take 31 (.take 32 (.take 33 (.take 34 (.take 35 (.take 36 .done)))))))))))))))))))))))))))))))))))))),
(65,6,(.take 0 (.take 1 (.take 2 (.take 3 (.take 4 (.take 5 (.take 6 (.take 7 (.take 8 .done)))))))))),
(68,4,(.take 0 (.take 2 (.go 1 [2] (.go 3 [] (.take 4 .done)))))),
(75,1,(.take 0 (.take 1 (.take 2 (.take 3 (.take 4 (.go 5 [1] (.go 6 [1] (.take 7 (.take 8 (.take 9 .done))))))))))),
(99,6,(.take 0 (.take 1 (.take 2 (.take 3 (.take 4 (.take 5 (.take 6 (.take 7 (.take 8 .done)))))))))),
(107,6,(.take 0 (.take 1 (.take 2 (.take 3 (.take 4 (.take 5 (.take 6 (.take 7 (.take 8 (.take 9 (.take 10 (.take 11 (.take 12 (.take 13 (.take 14 (.take 15 (.take 16 (.take 17 (.take 18 (.take 19 (.take 20 (.take 21 (.go 22 [] (.take 23 (.take 24 .done)))))))))))))))))))))))))),
(108,3,(.take 0 (.take 3 (.take 4 (.alt (.go 6 [4] (.go 1 [4] (.go 2 [4] (.go 5 [] (.go 7 [] .done))))) (.go 1 [4] (.alt (.go 6 [4] (.go 2 [4] (.go 5 [] (.go 7 [] .done)))) (.go 2 [4] (.alt (.go 6 [4] (.go 5 [] (.go 7 [] .done))) (.go 5 [] (.go 6 [4] (.go 7 [] .done)))))))))))),
(108,5,(.take 0 (.take 3 (.take 4 (.take 5 (.take 6 (.go 1 [6,4] (.go 2 [6,4] (.go 7 [] .done))))))))),
(109,3,(.take 0 (.take 2 (.take 3 (.go 1 [3] (.go 4 [] (.go 5 [] (.go 6 [] (.go 7 [] (.take 8 .done)))))))))),
(109,5,(.take 0 (.take 2 (.take 3 (.take 4 (.take 5 (.go 1 [5,3] (.go 6 [] (.go 7 [] (.go 8 [] (.take 9 .done))))))))))),
(111,5,(.take 0 (.take 1 (.take 4 (.take 5 (.take 6 (.take 7 (.go 2 [7,5] (.go 3 [7,5] (.go 8 [] (.go 9 [] (.go 10 [] (.take 11 .done))))))))))))),
(112,7,(.take 0 (.take 1 (.take 2 (.take 3 (.take 4 (.take 5 (.go 6 [4] (.go 7 [] (.take 8 (.take 9 (.go 10 [] .done)))))))))))),
(115,3,(.take 0 (.take 3 (.go 1 [3] (.go 2 [3] (.go 4 [] (.take 5 .done))))))),
(116,13,(.take 0 (.take 1 (.take 2 (.take 3 (.take 4 (.take 5 (.take 8 (.take 9 (.take 10 (.take 11 (.take 12 (.take 13 (.take 15 (.take 16 (.take 17 (.take 18 (.take 19 (.go 6 [19,13] (.go 7 [19,13] (.go 14 [19] (.go 20 [] (.go 21 [] (.go 22 [] (.take 23 .done))))))))))))))))))))))))),
(117,7,(.take 0 (.take 1 (.take 2 (.take 3 (.take 4 (.take 5 (.take 8 (.take 9 (.take 10 (.take 11 (.take 12 (.go 6 [12] (.go 7 [12] (.go 13 [] (.go 14 [] (.go 15 [] (.take 16 .done)))))))))))))))))),
(118,5,(.take 0 (.take 1 (.take 3 (.take 4 (.take 8 (.take 9 (.take 11 (.take 12 (.alt (.go 6 [12,9,4] (.alt (.go 14 [12,9,4] (.go 2 [12,9,4] (.go 5 [12,9] (.go 7 [12,9] (.go 10 [12] (.go 13 [] (.go 15 [] (.go 16 [] .done)))))))) (.go 2 [12,9,4] (.alt (.go 14 [12,9,4] (.go 5 [12,9] (.go 7 [12,9] (.go 10 [12] (.go 13 [] (.go 15 [] (.go 16 [] .done))))))) (.go 5 [12,9] (.alt (.go 14 [12,9,4] (.go 7 [12,9] (.go 10 [12] (.go 13 [] (.go 15 [] (.go 16 [] .done)))))) (.go 7 [12,9] (.alt (.go 14 [12,9,4] (.go 10 [12] (.go 13 [] (.go 15 [] (.go 16 [] .done))))) (.go 10 [12] (.alt (.go 14 [12,9,4] (.go 13 [] (.go 15 [] (.go 16 [] .done)))) (.go 13 [] (.go 14 [12,9,4] (.go 15 [] (.go 16 [] .done)))))))))))))) (.alt (.go 14 [12,9,4] (.alt (.go 6 [12,9,4] (.go 2 [12,9,4] (.go 5 [12,9] (.go 7 [12,9] (.go 10 [12] (.go 13 [] (.go 15 [] (.go 16 [] .done)))))))) (.go 2 [12,9,4] (.alt (.go 6 [12,9,4] (.go 5 [12,9] (.go 7 [12,9] (.go 10 [12] (.go 13 [] (.go 15 [] (.go 16 [] .done))))))) (.go 5 [12,9] (.go 6 [12,9,4] (.go 7 [12,9] (.go 10 [12] (.go 13 [] (.go 15 [] (.go 16 [] .done))))))))))) (.go 2 [12,9,4] (.alt (.go 6 [12,9,4] (.alt (.go 14 [12,9,4] (.go 5 [12,9] (.go 7 [12,9] (.go 10 [12] (.go 13 [] (.go 15 [] (.go 16 [] .done))))))) (.go 5 [12,9] (.alt (.go 14 [12,9,4] (.go 7 [12,9] (.go 10 [12] (.go 13 [] (.go 15 [] (.go 16 [] .done)))))) (.go 7 [12,9] (.alt (.go 14 [12,9,4] (.go 10 [12] (.go 13 [] (.go 15 [] (.go 16 [] .done))))) (.go 10 [12] (.alt (.go 14 [12,9,4] (.go 13 [] (.go 15 [] (.go 16 [] .done)))) (.go 13 [] (.go 14 [12,9,4] (.go 15 [] (.go 16 [] .done)))))))))))) (.alt (.go 14 [12,9,4] (.alt (.go 6 [12,9,4] (.go 5 [12,9] (.go 7 [12,9] (.go 10 [12] (.go 13 [] (.go 15 [] (.go 16 [] .done))))))) (.go 5 [12,9] (.go 6 [12,9,4] (.go 7 [12,9] (.go 10 [12] (.go 13 [] (.go 15 [] (.go 16 [] .done))))))))) (.go 5 [12,9] (.alt (.go 14 [12,9,4] (.go 6 [12,9,4] (.go 7 [12,9] (.go 10 [12] (.go 13 [] (.go 15 [] (.go 16 [] .done))))))) (.go 6 [12,9,4] (.alt (.go 14 [12,9,4] (.go 7 [12,9] (.go 10 [12] (.go 13 [] (.go 15 [] (.go 16 [] .done)))))) (.go 7 [12,9] (.alt (.go 14 [12,9,4] (.go 10 [12] (.go 13 [] (.go 15 [] (.go 16 [] .done))))) (.go 10 [12] (.alt (.go 14 [12,9,4] (.go 13 [] (.go 15 [] (.go 16 [] .done)))) (.go 13 [] (.go 14 [12,9,4] (.go 15 [] (.go 16 [] .done)))))))))))))))))))))))))),
(119,7,(.take 0 (.take 1 (.take 2 (.take 3 (.take 4 (.take 5 (.take 6 (.take 9 (.take 10 (.take 11 (.take 12 (.take 13 (.take 15 (.take 16 (.take 17 (.take 18 (.take 19 (.go 7 [19,13] (.go 8 [19,13] (.go 14 [19] (.go 20 [] (.go 21 [] (.go 22 [] (.go 23 [] (.take 24 (.go 25 [] (.go 26 [] (.take 27 .done))))))))))))))))))))))))))))),
(120,1,(.take 0 (.take 1 (.take 5 (.alt (.go 3 [5,1] (.go 2 [5] (.go 4 [5] (.go 6 [] (.take 7 .done))))) (.go 2 [5] (.go 3 [5,1] (.go 4 [5] (.go 6 [] (.take 7 .done)))))))))),
(121,5,(.take 0 (.take 1 (.take 2 (.take 6 (.take 7 (.alt (.go 4 [7] (.alt (.go 8 [] (.alt (.go 10 [7] (.go 3 [7] (.go 5 [7] (.go 9 [] (.go 11 [] (.go 12 [] .done)))))) (.go 3 [7] (.alt (.go 10 [7] (.go 5 [7] (.go 9 [] (.go 11 [] (.go 12 [] .done))))) (.go 5 [7] (.alt (.go 10 [7] (.go 9 [] (.go 11 [] (.go 12 [] .done)))) (.go 9 [] (.go 10 [7] (.go 11 [] (.go 12 [] .done)))))))))) (.alt (.go 10 [7] (.alt (.go 8 [] (.go 3 [7] (.go 5 [7] (.go 9 [] (.go 11 [] (.go 12 [] .done)))))) (.go 3 [7] (.alt (.go 8 [] (.go 5 [7] (.go 9 [] (.go 11 [] (.go 12 [] .done))))) (.go 5 [7] (.go 8 [] (.go 9 [] (.go 11 [] (.go 12 [] .done))))))))) (.go 3 [7] (.alt (.go 8 [] (.alt (.go 10 [7] (.go 5 [7] (.go 9 [] (.go 11 [] (.go 12 [] .done))))) (.go 5 [7] (.alt (.go 10 [7] (.go 9 [] (.go 11 [] (.go 12 [] .done)))) (.go 9 [] (.go 10 [7] (.go 11 [] (.go 12 [] .done)))))))) (.alt (.go 10 [7] (.alt (.go 8 [] (.go 5 [7] (.go 9 [] (.go 11 [] (.go 12 [] .done))))) (.go 5 [7] (.go 8 [] (.go 9 [] (.go 11 [] (.go 12 [] .done))))))) (.go 5 [7] (.alt (.go 10 [7] (.go 8 [] (.go 9 [] (.go 11 [] (.go 12 [] .done))))) (.go 8 [] (.alt (.go 10 [7] (.go 9 [] (.go 11 [] (.go 12 [] .done)))) (.go 9 [] (.go 10 [7] (.go 11 [] (.go 12 [] .done)))))))))))))) (.alt (.go 8 [] (.alt (.go 4 [7] (.alt (.go 10 [7] (.go 3 [7] (.go 5 [7] (.go 9 [] (.go 11 [] (.go 12 [] .done)))))) (.go 3 [7] (.alt (.go 10 [7] (.go 5 [7] (.go 9 [] (.go 11 [] (.go 12 [] .done))))) (.go 5 [7] (.alt (.go 10 [7] (.go 9 [] (.go 11 [] (.go 12 [] .done)))) (.go 9 [] (.go 10 [7] (.go 11 [] (.go 12 [] .done)))))))))) (.alt (.go 10 [7] (.alt (.go 4 [7] (.go 3 [7] (.go 5 [7] (.go 9 [] (.go 11 [] (.go 12 [] .done)))))) (.go 3 [7] (.go 4 [7] (.go 5 [7] (.go 9 [] (.go 11 [] (.go 12 [] .done)))))))) (.go 3 [7] (.alt (.go 10 [7] (.go 4 [7] (.go 5 [7] (.go 9 [] (.go 11 [] (.go 12 [] .done)))))) (.go 4 [7] (.alt (.go 10 [7] (.go 5 [7] (.go 9 [] (.go 11 [] (.go 12 [] .done))))) (.go 5 [7] (.alt (.go 10 [7] (.go 9 [] (.go 11 [] (.go 12 [] .done)))) (.go 9 [] (.go 10 [7] (.go 11 [] (.go 12 [] .done))))))))))))) (.alt (.go 10 [7] (.alt (.go 4 [7] (.alt (.go 8 [] (.go 3 [7] (.go 5 [7] (.go 9 [] (.go 11 [] (.go 12 [] .done)))))) (.go 3 [7] (.alt (.go 8 [] (.go 5 [7] (.go 9 [] (.go 11 [] (.go 12 [] .done))))) (.go 5 [7] (.go 8 [] (.go 9 [] (.go 11 [] (.go 12 [] .done))))))))) (.alt (.go 8 [] (.alt (.go 4 [7] (.go 3 [7] (.go 5 [7] (.go 9 [] (.go 11 [] (.go 12 [] .done)))))) (.go 3 [7] (.go 4 [7] (.go 5 [7] (.go 9 [] (.go 11 [] (.go 12 [] .done)))))))) (.go 3 [7] (.alt (.go 8 [] (.go 4 [7] (.go 5 [7] (.go 9 [] (.go 11 [] (.go 12 [] .done)))))) (.go 4 [7] (.alt (.go 8 [] (.go 5 [7] (.go 9 [] (.go 11 [] (.go 12 [] .done))))) (.go 5 [7] (.go 8 [] (.go 9 [] (.go 11 [] (.go 12 [] .done)))))))))))) (.go 3 [7] (.alt (.go 8 [] (.alt (.go 10 [7] (.go 4 [7] (.go 5 [7] (.go 9 [] (.go 11 [] (.go 12 [] .done)))))) (.go 4 [7] (.alt (.go 10 [7] (.go 5 [7] (.go 9 [] (.go 11 [] (.go 12 [] .done))))) (.go 5 [7] (.alt (.go 10 [7] (.go 9 [] (.go 11 [] (.go 12 [] .done)))) (.go 9 [] (.go 10 [7] (.go 11 [] (.go 12 [] .done)))))))))) (.alt (.go 10 [7] (.alt (.go 8 [] (.go 4 [7] (.go 5 [7] (.go 9 [] (.go 11 [] (.go 12 [] .done)))))) (.go 4 [7] (.alt (.go 8 [] (.go 5 [7] (.go 9 [] (.go 11 [] (.go 12 [] .done))))) (.go 5 [7] (.go 8 [] (.go 9 [] (.go 11 [] (.go 12 [] .done))))))))) (.go 4 [7] (.alt (.go 8 [] (.alt (.go 10 [7] (.go 5 [7] (.go 9 [] (.go 11 [] (.go 12 [] .done))))) (.go 5 [7] (.alt (.go 10 [7] (.go 9 [] (.go 11 [] (.go 12 [] .done)))) (.go 9 [] (.go 10 [7] (.go 11 [] (.go 12 [] .done)))))))) (.alt (.go 10 [7] (.alt (.go 8 [] (.go 5 [7] (.go 9 [] (.go 11 [] (.go 12 [] .done))))) (.go 5 [7] (.go 8 [] (.go 9 [] (.go 11 [] (.go 12 [] .done))))))) (.go 5 [7] (.alt (.go 10 [7] (.go 8 [] (.go 9 [] (.go 11 [] (.go 12 [] .done))))) (.go 8 [] (.alt (.go 10 [7] (.go 9 [] (.go 11 [] (.go 12 [] .done)))) (.go 9 [] (.go 10 [7] (.go 11 [] (.go 12 [] .done))))))))))))))))))))))),
(122,0,(.take 0 (.take 1 (.take 2 (.take 3 (.take 4 (.take 5 (.take 6 (.take 7 (.take 8 (.take 9 (.take 10 (.go 11 [4] (.go 12 [] (.take 13 (.take 14 (.go 15 [] .done))))))))))))))))),
(123,7,(.take 1 (.take 2 (.go 0 [2] (.go 3 [] (.go 4 [] (.go 5 [] (.go 6 [] (.take 7 .done))))))))),
(123,9,(.take 1 (.take 2 (.take 3 (.take 4 (.go 0 [4,2] (.go 5 [] (.go 6 [] (.go 7 [] (.take 8 .done)))))))))),
(123,11,(.take 1 (.take 2 (.go 0 [2] (.go 3 [] (.go 4 [] (.go 5 [] (.take 6 .done)))))))),
(123,13,(.take 2 (.take 3 (.take 7 (.take 8 (.go 0 [8,3] (.go 1 [8,3] (.go 4 [8] (.go 5 [8] (.go 6 [8] (.go 9 [] (.go 10 [] (.go 11 [] (.take 12 .done)))))))))))))),
(123,15,(.take 1 (.take 2 (.go 0 [2] (.go 3 [] (.go 4 [] (.go 5 [] (.take 6 .done)))))))),
(127,3,(.take 0 (.take 1 (.take 2 (.take 3 (.go 4 [3] (.go 5 [] .done))))))),
(128,1,(.take 0 (.take 1 (.take 2 (.take 3 (.take 4 (.take 5 (.take 6 (.take 7 (.take 8 (.take 9 .done))))))))))),
(128,2,(.take 0 (.take 1 (.take 2 (.take 3 (.take 4 (.take 5 (.take 6 (.take 7 (.take 8 (.take 9 (.go 10 [] .done)))))))))))),
(132,4,(.take 0 (.take 2 (.take 4 (.alt (.go 3 [0] (.go 1 [] (.take 5 (.go 6 [] .done)))) (.go 1 [] (.go 3 [0] (.take 5 (.go 6 [] .done))))))))),
(137,6,(.take 0 (.take 1 (.take 2 (.take 3 (.take 4 (.go 5 [4] (.go 6 [] (.go 7 [] .done))))))))),
(139,6,(.take 0 (.take 1 (.take 2 (.take 3 (.take 4 (.go 5 [4] (.go 6 [] (.go 7 [] .done))))))))),
(140,3,(.take 0 (.take 1 (.go 2 [0] (.take 3 (.go 4 [] .done)))))),
(146,2,(.take 0 (.take 1 (.take 2 (.take 3 (.take 4 (.take 5 (.take 6 (.take 7 (.go 8 [] (.take 9 (.take 10 (.take 11 (.take 12 (.take 13 (.take 14 (.go 15 [11] (.go 16 [] (.take 17 (.take 18 .done)))))))))))))))))))),
(167,6,(.take 0 (.take 1 (.take 2 (.take 3 (.take 4 (.take 5 (.take 6 (.take 7 (.go 8 [] (.take 9 .done))))))))))),
(168,6,(.take 0 (.take 1 (.take 2 (.take 3 (.take 4 (.take 5 (.take 6 (.take 7 (.take 8 (.take 9 (.go 10 [] (.take 11 (.take 12 (.take 13 (.take 14 (.take 15 (.take 16 (.take 17 (.take 18 (.take 19 (.take 20 (.take 21 (.take 22 (.go 23 [] (.take 24 (.take 25 .done))))))))))))))))))))))))))),
(171,9,(.take 0 (.take 1 (.take 2 (.take 3 (.take 6 (.take 7 (.go 4 [7] (.go 5 [7] (.go 8 [] (.go 9 [] (.go 10 [] (.go 11 [] (.go 12 [] (.take 13 .done))))))))))))))),
(171,13,(.take 0 (.take 1 (.take 2 (.take 3 (.take 6 (.take 7 (.go 4 [7] (.go 5 [7] (.go 8 [] (.go 9 [] (.go 10 [] (.go 11 [] (.go 12 [] (.take 13 .done))))))))))))))),
(171,15,(.take 0 (.take 1 (.take 2 (.take 3 (.take 8 (.take 9 (.go 4 [9] (.go 5 [9] (.go 6 [9] (.go 7 [9] (.go 10 [] (.go 11 [] (.go 12 [] (.go 13 [] (.go 14 [] (.go 15 [] (.take 16 .done)))))))))))))))))),
(171,18,(.take 0 (.take 1 (.take 2 (.take 3 (.take 8 (.take 9 (.take 10 (.take 11 (.go 4 [11,9] (.go 5 [11,9] (.go 6 [11,9] (.go 7 [11,9] (.go 12 [] (.go 13 [] (.go 14 [] (.take 15 .done))))))))))))))))),
(171,19,(.take 0 (.take 1 (.take 2 (.take 3 (.take 9 (.take 10 (.take 11 (.take 12 (.go 4 [12,10] (.go 5 [12,10] (.go 6 [12,10] (.go 7 [12,10] (.go 8 [12,10] (.go 13 [] (.go 14 [] (.go 15 [] (.go 16 [] (.go 17 [] (.go 18 [] (.take 19 .done))))))))))))))))))))),
(171,21,(.take 3 (.take 4 (.go 0 [4] (.go 1 [4] (.go 2 [4] (.go 5 [] (.go 6 [] (.go 7 [] (.go 8 [] (.go 9 [] (.go 10 [] (.take 11 .done))))))))))))),
(171,23,(.take 4 (.take 5 (.take 6 (.take 7 (.take 12 (.take 13 (.take 14 (.take 15 (.take 20 (.take 21 (.take 22 (.take 23 (.go 0 [23,21,15,13,7,5] (.go 1 [23,21,15,13,7,5] (.go 2 [23,21,15,13,7,5] (.go 3 [23,21,15,13,7,5] (.go 8 [23,21,15,13] (.go 9 [23,21,15,13] (.go 10 [23,21,15,13] (.go 11 [23,21,15,13] (.go 16 [23,21] (.go 17 [23,21] (.go 18 [23,21] (.go 19 [23,21] (.go 24 [] (.go 25 [] (.go 26 [] (.go 27 [] (.go 28 [] (.go 29 [] (.take 30 .done)))))))))))))))))))))))))))))))),
(171,25,(.take 0 (.take 1 (.take 3 (.take 4 (.take 5 (.take 6 (.take 7 (.go 2 [7,6,4] (.go 8 [6,4] (.go 9 [] (.go 10 [] (.go 11 [] (.take 12 .done)))))))))))))),
(171,27,(.take 0 (.take 1 (.take 2 (.take 3 (.take 4 (.take 7 (.take 8 (.take 10 (.take 11 (.take 12 (.take 13 (.take 14 (.go 5 [14,13,11,8,3,1] (.go 6 [14,13,11,8] (.go 9 [14,13,11] (.go 15 [13,11] (.go 16 [] (.go 17 [] (.go 18 [] (.take 19 .done))))))))))))))))))))),
(171,31,(.take 0 (.take 1 (.take 2 (.take 3 (.take 5 (.take 6 (.take 7 (.take 8 (.take 9 (.go 4 [9,7] (.go 10 [] (.go 11 [] (.go 12 [] (.take 13 .done))))))))))))))),
(171,33,(.take 0 (.take 4 (.take 5 (.take 6 (.take 7 (.go 1 [7,5] (.go 2 [7,5] (.go 3 [7,5] (.go 8 [] (.go 9 [] (.go 10 [] (.take 11 .done))))))))))))),
(175,1,(.take 0 (.take 3 (.go 1 [3] (.go 2 [3] (.go 4 [] (.go 5 [] (.go 6 [] (.take 7 .done))))))))),
(179,3,(.take 1 (.go 0 [1] (.go 2 [] (.go 3 [] (.go 4 [] (.take 5 .done))))))),
(182,2,(.take 0 (.take 3 (.alt (.go 5 [3] (.go 1 [3] (.go 2 [3] (.go 4 [] (.go 6 [] (.take 7 .done)))))) (.go 1 [3] (.alt (.go 5 [3] (.go 2 [3] (.go 4 [] (.go 6 [] (.take 7 .done))))) (.go 2 [3] (.alt (.go 5 [3] (.go 4 [] (.go 6 [] (.take 7 .done)))) (.go 4 [] (.go 5 [3] (.go 6 [] (.take 7 .done)))))))))))),
(184,5,(.take 0 (.take 1 (.take 2 (.take 4 (.take 5 (.go 3 [5] (.go 6 [] (.go 7 [] (.go 8 [] (.go 9 [] (.take 10 (.go 11 [] (.go 12 [] (.take 13 .done))))))))))))))),
(188,6,(.take 0 (.take 1 (.take 2 (.take 3 (.take 4 (.take 5 (.take 6 (.take 7 (.take 8 (.take 9 (.take 10 (.take 11 (.take 12 (.take 13 .done))))))))))))))),
(190,4,(.take 0 (.take 1 (.take 2 (.take 3 (.take 4 (.take 5 (.take 6 (.take 7 (.take 8 (.take 9 (.take 10 (.take 11 (.take 12 .done)))))))))))))),
(194,6,(.take 0 (.take 1 (.take 2 (.take 3 (.take 4 (.go 5 [4] (.go 6 [] (.go 7 [] .done))))))))),
(197,5,(.take 0 (.take 1 (.take 2 (.take 3 (.take 4 (.take 5 (.take 6 (.take 7 (.take 8 (.take 9 (.take 10 (.take 11 (.go 12 [] (.take 13 (.take 14 .done)))))))))))))))),
(198,3,(.take 0 (.take 1 (.take 2 (.take 3 (.go 4 [3] (.go 5 [] .done))))))),
(199,3,(.take 0 (.take 1 (.go 2 [0] (.go 3 [] (.go 4 [] .done)))))),
(200,3,(.take 0 (.take 1 (.take 2 (.take 3 (.go 4 [3] (.go 5 [] .done))))))),
(230,2,(.take 3 (.go 0 [3] (.go 1 [3] (.go 2 [3] (.go 4 [] (.go 5 [] (.go 6 [] (.go 7 [] (.go 8 [] (.go 9 [] (.take 10 .done)))))))))))),
(231,3,(.take 0 (.take 1 (.take 2 (.take 3 (.take 4 (.take 5 (.take 6 (.take 7 (.take 8 (.take 9 (.take 10 (.take 11 (.take 12 (.take 13 (.take 14 (.take 15 (.take 16 (.take 17 (.take 18 (.take 19 .done))))))))))))))))))))),
(232,2,(.take 1 (.go 0 [1] (.go 2 [] (.go 3 [] (.go 4 [] (.go 5 [] (.take 6 .done)))))))),
(233,5,(.take 0 (.take 1 (.take 2 (.take 3 (.take 4 (.take 5 (.take 6 (.take 7 (.go 8 [4] (.go 9 [] (.take 10 (.take 11 (.go 12 [] .done)))))))))))))),
(236,6,(.take 0 (.take 1 (.take 2 (.take 3 (.take 4 (.take 5 (.take 6 (.take 7 (.take 8 (.go 9 [] .done))))))))))),
(240,1,(.take 0 (.take 1 (.take 2 (.take 3 (.take 4 (.take 5 (.take 6 (.take 7 (.take 8 (.take 9 (.alt (.go 15 [9,8,4] (.go 10 [] (.take 11 (.take 12 (.take 13 (.take 14 (.go 16 [] (.take 17 (.take 18 .done))))))))) (.go 10 [] (.take 11 (.take 12 (.take 13 (.take 14 (.go 15 [9,8,4] (.go 16 [] (.take 17 (.take 18 .done))))))))))))))))))))),
(243,3,(.take 0 (.take 1 (.take 2 (.take 3 (.go 4 [3] (.go 5 [] .done))))))),
(266,12,(.take 0 (.take 1 (.take 2 (.take 3 (.take 4 (.take 5 (.take 6 (.take 7 (.take 12 (.take 13 (.take 14 (.take 15 (.take 16 (.take 17 (.take 18 (.go 8 [18,16] (.go 9 [18,16] (.go 10 [18,16] (.go 11 [18,16] (.go 19 [] (.go 20 [] (.go 21 [] (.take 22 .done)))))))))))))))))))))))),
(269,6,(.take 0 (.take 1 (.take 2 (.take 3 (.take 4 (.take 5 (.go 6 [4] (.go 7 [] (.take 8 (.take 9 (.go 10 [] .done)))))))))))),
(274,4,(.take 0 (.take 2 (.take 3 (.go 1 [3] (.take 4 (.take 5 (.go 6 [] .done)))))))),
(275,5,(.take 0 (.take 1 (.take 2 (.take 3 (.take 4 (.take 5 (.take 6 (.take 7 (.take 8 (.take 9 (.take 10 (.take 11 (.take 12 (.take 13 (.take 14 (.take 15 (.take 16 (.take 17 (.take 18 (.take 19 (.take 20 .done)))))))))))))))))))))),
(275,8,(.take 0 (.take 2 (.take 3 (.go 1 [3] (.take 4 (.take 5 (.go 6 [] .done)))))))),
(276,4,(.take 0 (.take 1 (.take 2 (.take 3 (.take 4 (.take 5 (.take 6 (.take 7 (.take 8 (.go 9 [] .done))))))))))),
(280,3,(.take 0 (.take 1 (.take 2 (.go 3 [1] (.go 4 [] (.go 5 [] .done))))))),
(280,9,(.take 0 (.take 1 (.go 2 [0] (.go 3 [] (.take 4 .done)))))),
(285,14,(.take 0 (.take 1 (.take 2 (.take 6 (.go 3 [1] (.go 4 [1] (.go 5 [] (.go 7 [] (.take 8 (.go 9 [] .done))))))))))),
(286,4,(.take 0 (.take 1 (.take 2 (.take 3 (.take 4 (.go 5 [4] (.go 6 [] (.go 7 [] .done))))))))),
(294,4,(.take 0 (.take 1 (.take 2 (.take 3 (.take 4 (.take 5 (.take 6 (.take 7 (.take 8 (.take 9 (.go 10 [] (.take 11 .done))))))))))))),
(301,6,(.take 0 (.take 1 (.take 2 (.take 3 (.go 4 [1] (.go 5 [1] (.go 6 [] (.go 7 [] .done))))))))),
(302,7,(.take 0 (.take 1 (.take 2 (.take 3 (.take 4 (.take 5 (.take 6 (.take 7 (.take 8 (.take 9 (.take 10 (.take 11 (.go 12 [] .done)))))))))))))),
(307,4,(.take 0 (.take 1 (.take 2 (.go 3 [1] (.go 4 [] (.go 5 [] .done))))))),
(308,1,(.take 0 (.take 1 (.take 2 (.take 3 (.take 4 (.take 5 (.take 6 (.take 7 (.take 8 (.take 9 (.take 10 (.take 11 .done))))))))))))),
(308,2,(.take 0 (.take 1 (.take 2 (.take 3 (.take 4 (.take 5 (.take 6 (.take 7 (.take 8 (.take 9 (.take 10 (.take 11 (.go 12 [] .done)))))))))))))),
(310,8,(.take 0 (.take 1 (.take 2 (.go 3 [1] (.go 4 [1] (.go 5 [] (.take 6 (.go 7 [] .done))))))))),
(317,1,(.take 0 (.take 1 (.take 2 (.take 3 (.take 4 (.take 5 (.take 6 (.take 7 (.take 8 (.take 9 (.go 10 [] (.take 11 (.take 12 (.take 13 (.take 14 (.take 15 (.take 16 (.take 17 .done))))))))))))))))))),
(321,6,(.take 0 (.take 1 (.take 2 (.go 3 [1] (.go 4 [1] (.go 5 [] (.take 6 (.go 7 [] .done))))))))),
(322,2,(.take 0 (.take 1 (.take 2 (.take 3 (.take 4 (.take 5 (.take 6 (.take 7 (.take 8 (.take 9 (.take 10 (.take 11 (.take 12 (.take 13 (.alt (.go 15 [11,7] (.go 14 [] (.go 16 [] (.take 17 .done)))) (.go 14 [] (.go 15 [11,7] (.go 16 [] (.take 17 .done)))))))))))))))))))),
(323,4,(.take 0 (.take 1 (.take 2 (.take 3 (.take 4 (.take 5 (.go 6 [] (.go 7 [] .done))))))))),
(325,9,(.take 0 (.take 1 (.take 2 (.take 3 (.take 4 (.take 5 (.take 6 (.take 7 (.take 8 (.take 9 (.take 10 (.take 11 (.take 12 (.take 13 (.take 14 (.take 15 (.take 16 (.take 17 (.take 18 (.take 19 .done))))))))))))))))))))),
(325,18,(.take 0 (.take 1 (.take 2 (.take 3 (.take 4 (.take 5 (.take 6 (.take 7 (.take 8 (.take 9 (.take 10 (.take 11 (.take 12 (.take 13 (.take 14 (.take 15 (.take 16 (.take 17 (.take 18 (.take 19 .done))))))))))))))))))))),
(326,9,(.take 0 (.take 1 (.take 2 (.take 3 (.take 4 (.take 5 (.take 6 (.take 7 (.take 8 (.take 9 (.take 10 (.take 11 (.take 12 (.take 13 (.take 14 (.take 15 (.take 16 (.take 17 (.take 18 (.take 19 .done))))))))))))))))))))),
(327,5,(.take 0 (.take 1 (.go 2 [0] (.go 3 [] (.take 4 (.go 5 [] .done)))))))]
def Ec7:List (FuncId×Nat):= [(2,0),(3,3),(4,1),(5,2),(6,2),(7,1),(8,1),(9,1),(10,1),(11,0),(12,2),(13,1),(14,1),(15,1),(16,1),(17,1),(18,1),(19,1),(20,1),(21,1),(22,1),(23,1),(24,1),(25,1),(26,1),(27,1),(28,2),(29,2),(30,2),(31,2),(32,2),(33,2),(34,2),(35,2),(36,2),(37,2),(38,2),(39,1),(40,1),(41,1),(42,1),(43,1),(44,1),(45,1),(46,1),(47,2),(48,2),(49,2),(50,2),(51,2),(52,2),(53,1),(54,3),(55,1),(56,2),(57,1),(58,2),(59,4),(60,1),(61,1),(62,2),(63,3),(64,2),(65,2),(66,2),(67,3),(68,1),(69,1),(70,1),(71,1),(72,2),(73,3),(74,1),(75,1),(76,2),(77,2),(78,1),(79,2),(80,1),(81,1),(82,1),(83,1),(84,1),(85,1),(86,1),(87,1),(88,1),(89,1),(90,1),(91,1),(92,0),(93,2),(94,2),(95,1),(96,1),(97,1),(98,2),(99,2),(100,3),(101,2),(102,3),(103,2),(104,3),(105,2),(106,2),(107,2),(108,2),(109,1),(110,2),(111,1),(112,2),(113,2),(114,2),(115,2),(116,1),(117,1),(118,3),(119,2),(120,3),(121,3),(122,3),(123,2),(124,3),(125,2),(126,1),(127,2),(128,1),(129,1),(130,2),(131,2),(132,1),(133,1),(134,2),(135,1),(136,1),(137,3),(138,1),(139,3),(140,1),(141,3),(142,2),(143,1),(144,1),(145,3),(146,4),(147,1),(148,2),(149,2),(150,1),(151,1),(152,2),(153,1),(154,2),(155,1),(156,1),(157,1),(158,1),(159,1),(160,1),(161,3),(162,1),(163,1),(164,1),(165,2),(166,1),(167,2),(168,2),(169,3),(170,2),(171,1),(172,1),(173,1),(174,1),(175,2),(176,1),(177,1),(178,1),(179,1),(180,1),(181,3),(182,2),(183,1),(184,2),(185,1),(186,1),(187,1),(188,1),(189,2),(190,1),(191,1),(192,2),(193,2),(194,3),(195,1),(196,1),(197,1),(198,2),(199,1),(200,2),(201,3),(202,2),(203,1),(204,5),(205,1),(206,1),(207,1),(208,1),(209,2),(210,1),(211,1),(212,1),(213,2),(214,2),(215,1),(216,2),(217,0),(218,2),(219,0),(220,1),(221,2),(222,1),(223,1),(224,1),(225,1),(226,1),(227,1),(228,1),(229,1),(230,2),(231,2),(232,1),(233,2),(234,1),(235,4),(236,2),(237,1),(238,0),(239,1),(240,2),(241,2),(242,2),(243,2),(244,1),(245,1),(246,1),(247,1),(248,1),(249,1),(250,0),(251,1),(252,1),(253,1),(254,2),(255,1),(256,1),(257,1),(258,2),(259,1),(260,1),(261,2),(262,1),(263,1),(264,3),(265,2),(266,1),(267,1),(268,1),(269,2),(270,2),(271,3),(272,4),(273,2),(274,2),(275,2),(276,3),(277,3),(278,1),(279,1),(280,2),(281,1),(282,1),(283,1),(284,1),(285,1),(286,2),(287,1),(288,2),(289,1),(290,1),(291,1),(292,2),(293,1),(294,2),(295,2),(296,2),(297,1),(298,2),(299,1),(300,0),(301,2),(302,4),(303,3),(304,2),(305,1),(306,1),(307,5),(308,2),(309,2),(310,1),(311,2),(312,1),(313,2),(314,2),(315,2),(316,1),(317,2),(318,1),(319,2),(320,3),(321,1),(322,1),(323,2),(324,1),(325,2),(326,2),(327,1),(328,2),(329,3),(354,0)]
noncomputable def xgt (g:Nat):Option DVal:=Bool.rec (motive:=fun _=>Option DVal) none (some (.vptr (Lib.asciiSpaceTab.map fun z=> .int .u8 z) 0)) (Nat.beq g 0)
noncomputable def xpM (memo:List (FuncId×List DVal×DVal)):XP:= { P:=Tryz.prog,gt:=xgt,plans:=Da3,memo:=memo,good:=Ec7 }
end Go.Dl

-- What the interpreter knows of this seat is true.
namespace Go.Dl
open Go Go.Proofs
set_option maxRecDepth 100000
theorem Da4:Ec7.all (fun x=>Bz3 Tryz.prog Da3 x.1 x.2)=true:=by kernel_rfl
theorem Bj9:Gz (Lib.asciiSpaceTab.map fun z=> .int .u8 z)=true:=by decide+kernel
theorem Ei9 {G:Nat->DVal} (hG:GX G):XOk (xpM []) G:=by
 refine⟨by kernel_rfl,fun g d h ρ=> ?_,Da4,rfl,fun x hx=>by cases hx⟩;have h:Bool.rec (motive:=fun _=>Option DVal) none (some (.vptr (Lib.asciiSpaceTab.map fun z=> .int .u8 z) 0)) (Nat.beq g 0)=some d:=h;cases hb:Nat.beq g 0 with
 | false=>rw[hb] at h;cases h
 | true=>
  rw[hb] at h;cases h;rw[Nat.eq_of_beq_eq_true hb,hG.space];exact .vptr 0 (Gt Bj9)
end Go.Dl

-- Closed calls that the examples need, worked out by the kernel. MADE BY PROGRAM (gen_memo.py).
namespace Go.Dl
open Go Go.Proofs
set_option maxRecDepth 100000
def Bz8:DVal:= .vslice [(.int .u8 4),(.int .i64 1),(.str [40]),(.int .i64 0),(.int .u8 1),(.int .i64 1),(.str [82,101,100]),(.int .i64 0),(.int .u8 4),(.int .i64 1),(.str [44]),(.int .i64 0),(.int .u8 1),(.int .i64 1),(.str [71,114,101,101,110]),(.int .i64 0),(.int .u8 4),(.int .i64 1),(.str [41]),(.int .i64 0),(.int .u8 4),(.int .i64 1),(.str [59]),(.int .i64 0)] 6
def Bz9:DVal:= .vslice [(.int .u8 2),(.int .i64 1),(.str [108,105,109,105,116,101,100]),(.int .i64 0),(.int .u8 2),(.int .i64 1),(.str [112,114,105,118,97,116,101]),(.int .i64 0),(.int .u8 4),(.int .i64 1),(.str [59]),(.int .i64 0)] 3
def Ca0:DVal:= .vslice [(.int .u8 2),(.int .i64 1),(.str [110,117,108,108]),(.int .i64 0),(.int .u8 2),(.int .i64 1),(.str [114,101,99,111,114,100]),(.int .i64 0)] 2
def Ca1:DVal:= .vslice [(.int .u8 2),(.int .i64 1),(.str [114,101,99,111,114,100]),(.int .i64 0),(.int .u8 1),(.int .i64 1),(.str [65]),(.int .i64 0),(.int .u8 4),(.int .i64 1),(.str [58]),(.int .i64 0),(.int .u8 1),(.int .i64 1),(.str [84]),(.int .i64 0),(.int .u8 4),(.int .i64 1),(.str [59]),(.int .i64 0),(.int .u8 2),(.int .i64 1),(.str [99,97,115,101]),(.int .i64 0),(.int .u8 1),(.int .i64 1),(.str [68]),(.int .i64 0),(.int .u8 2),(.int .i64 1),(.str [105,115]),(.int .i64 0),(.int .u8 2),(.int .i64 1),(.str [119,104,101,110]),(.int .i64 0),(.int .u8 3),(.int .i64 1),(.str []),(.int .i64 1),(.int .u8 4),(.int .i64 1),(.str [61,62]),(.int .i64 0),(.int .u8 2),(.int .i64 1),(.str [110,117,108,108]),(.int .i64 0),(.int .u8 4),(.int .i64 1),(.str [59]),(.int .i64 0),(.int .u8 2),(.int .i64 1),(.str [101,110,100]),(.int .i64 0),(.int .u8 2),(.int .i64 1),(.str [99,97,115,101]),(.int .i64 0),(.int .u8 4),(.int .i64 1),(.str [59]),(.int .i64 0),(.int .u8 2),(.int .i64 1),(.str [101,110,100]),(.int .i64 0),(.int .u8 2),(.int .i64 1),(.str [114,101,99,111,114,100]),(.int .i64 0),(.int .u8 4),(.int .i64 1),(.str [59]),(.int .i64 0)] 19
def Ca2:DVal:= .vslice [(.int .u8 1),(.int .i64 1),(.str [73,110,116,101,103,101,114]),(.int .i64 0),(.int .u8 2),(.int .i64 1),(.str [114,97,110,103,101]),(.int .i64 0),(.int .u8 3),(.int .i64 1),(.str []),(.int .i64 1),(.int .u8 4),(.int .i64 1),(.str [46,46]),(.int .i64 0),(.int .u8 3),(.int .i64 1),(.str []),(.int .i64 10)] 5
def Ca3:DVal:= .vslice [(.int .u8 1),(.int .i64 1),(.str [84]),(.int .i64 0),(.int .u8 2),(.int .i64 1),(.str [114,97,110,103,101]),(.int .i64 0),(.int .u8 3),(.int .i64 1),(.str []),(.int .i64 1),(.int .u8 4),(.int .i64 1),(.str [46,46]),(.int .i64 0),(.int .u8 1),(.int .i64 1),(.str [78]),(.int .i64 0),(.int .u8 4),(.int .i64 1),(.str [41]),(.int .i64 0)] 6
def Ca4:DVal:= .vslice [(.int .u8 1),(.int .i64 1),(.str [84]),(.int .i64 0),(.int .u8 4),(.int .i64 1),(.str [40]),(.int .i64 0),(.int .u8 3),(.int .i64 1),(.str []),(.int .i64 1),(.int .u8 4),(.int .i64 1),(.str [41]),(.int .i64 0)] 4
def Ca5:DVal:= .vslice [(.int .u8 1),(.int .i64 1),(.str [65]),(.int .i64 0),(.int .u8 4),(.int .i64 1),(.str [58]),(.int .i64 0),(.int .u8 2),(.int .i64 1),(.str [105,110]),(.int .i64 0),(.int .u8 2),(.int .i64 1),(.str [111,117,116]),(.int .i64 0),(.int .u8 1),(.int .i64 1),(.str [84]),(.int .i64 0),(.int .u8 4),(.int .i64 1),(.str [59]),(.int .i64 0),(.int .u8 1),(.int .i64 1),(.str [66]),(.int .i64 0),(.int .u8 4),(.int .i64 1),(.str [44]),(.int .i64 0),(.int .u8 1),(.int .i64 1),(.str [67]),(.int .i64 0),(.int .u8 4),(.int .i64 1),(.str [58]),(.int .i64 0),(.int .u8 1),(.int .i64 1),(.str [84]),(.int .i64 0),(.int .u8 4),(.int .i64 1),(.str [58,61]),(.int .i64 0),(.int .u8 3),(.int .i64 1),(.str []),(.int .i64 1),(.int .u8 4),(.int .i64 1),(.str [41]),(.int .i64 0)] 14
def Da5:DVal:= .agg [(.int .u8 1),(.vslice [(.str [82,101,100]),(.str [71,114,101,101,110])] 2),(.int .u8 0),(.int .u8 0),(.int .i64 0),(.str []), .nilSlice, .nilSlice,(.int .i64 0),(.int .i64 0),(.int .i64 0),(.int .u8 0),(.int .u8 0),(.int .i64 0),(.str []), .nilSlice, .nilSlice,(.int .i64 0),(.int .i64 0),(.int .i64 0),(.int .u8 0),(.int .u8 0),(.int .i64 0),(.str []), .nilSlice, .nilSlice,(.int .i64 0),(.int .i64 0),(.int .i64 0),(.int .u8 0),(.int .u8 0),(.int .i64 0),(.str []), .nilSlice, .nilSlice,(.int .i64 0),(.int .i64 0),(.int .i64 0),(.int .u8 0),(.int .u8 0),(.int .i64 0),(.str []), .nilSlice, .nilSlice,(.int .i64 0),(.int .i64 0),(.int .i64 0),(.int .u8 0),(.int .u8 0),(.int .i64 0),(.str []), .nilSlice, .nilSlice,(.int .i64 0),(.int .i64 0),(.int .i64 0),(.int .u8 0),(.int .u8 0),(.int .i64 0),(.str []), .nilSlice, .nilSlice,(.int .i64 0),(.int .i64 0),(.int .i64 0),(.int .u8 0),(.int .u8 0),(.int .i64 0),(.str []), .nilSlice, .nilSlice,(.int .i64 0),(.int .i64 0),(.int .i64 0),(.int .u8 0),(.int .u8 0),(.int .i64 0),(.str []), .nilSlice, .nilSlice,(.int .i64 0),(.int .i64 0),(.int .i64 0), .nilSlice,(.str []), .nilSlice,(.bool false)]
def Da6:DVal:= .agg [(.int .u8 7), .nilSlice,(.int .u8 0),(.int .u8 0),(.int .i64 0),(.str []), .nilSlice, .nilSlice,(.int .i64 0),(.int .i64 0),(.int .i64 0),(.int .u8 0),(.int .u8 0),(.int .i64 0),(.str []), .nilSlice, .nilSlice,(.int .i64 0),(.int .i64 0),(.int .i64 0),(.int .u8 0),(.int .u8 0),(.int .i64 0),(.str []), .nilSlice, .nilSlice,(.int .i64 0),(.int .i64 0),(.int .i64 0),(.int .u8 0),(.int .u8 0),(.int .i64 0),(.str []), .nilSlice, .nilSlice,(.int .i64 0),(.int .i64 0),(.int .i64 0),(.int .u8 0),(.int .u8 0),(.int .i64 0),(.str []), .nilSlice, .nilSlice,(.int .i64 0),(.int .i64 0),(.int .i64 0),(.int .u8 0),(.int .u8 0),(.int .i64 0),(.str []), .nilSlice, .nilSlice,(.int .i64 0),(.int .i64 0),(.int .i64 0),(.int .u8 0),(.int .u8 0),(.int .i64 0),(.str []), .nilSlice, .nilSlice,(.int .i64 0),(.int .i64 0),(.int .i64 0),(.int .u8 0),(.int .u8 0),(.int .i64 0),(.str []), .nilSlice, .nilSlice,(.int .i64 0),(.int .i64 0),(.int .i64 0),(.int .u8 0),(.int .u8 0),(.int .i64 0),(.str []), .nilSlice, .nilSlice,(.int .i64 0),(.int .i64 0),(.int .i64 0), .nilSlice,(.str []), .nilSlice,(.bool true)]
def Da7:DVal:= .agg [(.int .u8 5), .nilSlice,(.int .u8 0),(.int .u8 0),(.int .i64 0),(.str []), .nilSlice, .nilSlice,(.int .i64 0),(.int .i64 0),(.int .i64 0),(.int .u8 0),(.int .u8 0),(.int .i64 0),(.str []), .nilSlice, .nilSlice,(.int .i64 0),(.int .i64 0),(.int .i64 0),(.int .u8 0),(.int .u8 0),(.int .i64 0),(.str []), .nilSlice, .nilSlice,(.int .i64 0),(.int .i64 0),(.int .i64 0),(.int .u8 0),(.int .u8 0),(.int .i64 0),(.str []), .nilSlice, .nilSlice,(.int .i64 0),(.int .i64 0),(.int .i64 0),(.int .u8 0),(.int .u8 0),(.int .i64 0),(.str []), .nilSlice, .nilSlice,(.int .i64 0),(.int .i64 0),(.int .i64 0),(.int .u8 0),(.int .u8 0),(.int .i64 0),(.str []), .nilSlice, .nilSlice,(.int .i64 0),(.int .i64 0),(.int .i64 0),(.int .u8 0),(.int .u8 0),(.int .i64 0),(.str []), .nilSlice, .nilSlice,(.int .i64 0),(.int .i64 0),(.int .i64 0),(.int .u8 0),(.int .u8 0),(.int .i64 0),(.str []), .nilSlice, .nilSlice,(.int .i64 0),(.int .i64 0),(.int .i64 0),(.int .u8 0),(.int .u8 0),(.int .i64 0),(.str []), .nilSlice, .nilSlice,(.int .i64 0),(.int .i64 0),(.int .i64 0), .nilSlice,(.str []), .nilSlice,(.bool false)]
def Da8:DVal:= .agg [(.int .u8 5), .nilSlice,(.int .u8 0),(.int .u8 0),(.int .i64 0),(.str []), .nilSlice, .nilSlice,(.int .i64 0),(.int .i64 0),(.int .i64 0),(.int .u8 0),(.int .u8 0),(.int .i64 0),(.str []), .nilSlice, .nilSlice,(.int .i64 0),(.int .i64 0),(.int .i64 0),(.int .u8 0),(.int .u8 0),(.int .i64 0),(.str []), .nilSlice, .nilSlice,(.int .i64 0),(.int .i64 0),(.int .i64 0),(.int .u8 0),(.int .u8 0),(.int .i64 0),(.str []), .nilSlice, .nilSlice,(.int .i64 0),(.int .i64 0),(.int .i64 0),(.int .u8 0),(.int .u8 0),(.int .i64 0),(.str []), .nilSlice, .nilSlice,(.int .i64 0),(.int .i64 0),(.int .i64 0),(.int .u8 0),(.int .u8 0),(.int .i64 0),(.str []), .nilSlice, .nilSlice,(.int .i64 0),(.int .i64 0),(.int .i64 0),(.int .u8 0),(.int .u8 0),(.int .i64 0),(.str []), .nilSlice, .nilSlice,(.int .i64 0),(.int .i64 0),(.int .i64 0),(.int .u8 0),(.int .u8 0),(.int .i64 0),(.str []), .nilSlice, .nilSlice,(.int .i64 0),(.int .i64 0),(.int .i64 0),(.int .u8 0),(.int .u8 0),(.int .i64 0),(.str []), .nilSlice, .nilSlice,(.int .i64 0),(.int .i64 0),(.int .i64 0),(.vslice [(.vslice [(.str [65])] 1),(.int .u8 3),(.int .u8 0),(.int .i64 0),(.str [84]), .nilSlice, .nilSlice,(.int .i64 1),(.int .i64 0),(.int .i64 0),(.int .u8 0),(.int .u8 0),(.int .i64 0),(.str []), .nilSlice, .nilSlice,(.int .i64 0),(.int .i64 0),(.int .i64 0),(.int .u8 0),(.int .u8 0),(.int .i64 0),(.str []), .nilSlice, .nilSlice,(.int .i64 0),(.int .i64 0),(.int .i64 0),(.int .u8 0),(.int .u8 0),(.int .i64 0),(.str []), .nilSlice, .nilSlice,(.int .i64 0),(.int .i64 0),(.int .i64 0),(.int .u8 0),(.int .u8 0),(.int .i64 0),(.str []), .nilSlice, .nilSlice,(.int .i64 0),(.int .i64 0),(.int .i64 0),(.int .i64 1)] 1),(.str [68]),(.vslice [(.vslice [(.int .u8 1),(.vslice [(.int .u8 1),(.int .u8 0),(.int .i64 1),(.str []), .nilSlice, .nilSlice,(.int .i64 1),(.int .i64 0),(.int .i64 0)] 1)] 1), .nilSlice] 1),(.bool false)]
def Da9:DVal:= .vslice [(.int .i64 0),(.vslice [(.int .u8 4),(.int .i64 0),(.str [40]),(.int .i64 0),(.int .u8 1),(.int .i64 0),(.str [82,101,100]),(.int .i64 0),(.int .u8 4),(.int .i64 0),(.str [44]),(.int .i64 0),(.int .u8 1),(.int .i64 0),(.str [71,114,101,101,110]),(.int .i64 0),(.int .u8 4),(.int .i64 0),(.str [41]),(.int .i64 0)] 5)] 1
def Db0:DVal:= .vslice [(.int .i64 0),(.vslice [(.int .u8 2),(.int .i64 0),(.str [108,105,109,105,116,101,100]),(.int .i64 0),(.int .u8 2),(.int .i64 0),(.str [112,114,105,118,97,116,101]),(.int .i64 0)] 2)] 1
def Db1:DVal:= .vslice [(.int .i64 0),(.vslice [(.int .u8 2),(.int .i64 0),(.str [110,117,108,108]),(.int .i64 0),(.int .u8 2),(.int .i64 0),(.str [114,101,99,111,114,100]),(.int .i64 0)] 2)] 1
def Db2:DVal:= .vslice [(.int .i64 0),(.vslice [(.int .u8 2),(.int .i64 0),(.str [114,101,99,111,114,100]),(.int .i64 0)] 1),(.int .i64 1),(.vslice [(.int .u8 1),(.int .i64 0),(.str [65]),(.int .i64 0),(.int .u8 4),(.int .i64 0),(.str [58]),(.int .i64 0),(.int .u8 1),(.int .i64 0),(.str [84]),(.int .i64 0),(.int .u8 4),(.int .i64 0),(.str [59]),(.int .i64 0)] 4),(.int .i64 1),(.vslice [(.int .u8 2),(.int .i64 0),(.str [99,97,115,101]),(.int .i64 0),(.int .u8 1),(.int .i64 0),(.str [68]),(.int .i64 0),(.int .u8 2),(.int .i64 0),(.str [105,115]),(.int .i64 0)] 3),(.int .i64 2),(.vslice [(.int .u8 2),(.int .i64 0),(.str [119,104,101,110]),(.int .i64 0),(.int .u8 3),(.int .i64 0),(.str []),(.int .i64 1),(.int .u8 4),(.int .i64 0),(.str [61,62]),(.int .i64 0)] 3),(.int .i64 3),(.vslice [(.int .u8 2),(.int .i64 0),(.str [110,117,108,108]),(.int .i64 0),(.int .u8 4),(.int .i64 0),(.str [59]),(.int .i64 0)] 2),(.int .i64 1),(.vslice [(.int .u8 2),(.int .i64 0),(.str [101,110,100]),(.int .i64 0),(.int .u8 2),(.int .i64 0),(.str [99,97,115,101]),(.int .i64 0),(.int .u8 4),(.int .i64 0),(.str [59]),(.int .i64 0)] 3),(.int .i64 0),(.vslice [(.int .u8 2),(.int .i64 0),(.str [101,110,100]),(.int .i64 0),(.int .u8 2),(.int .i64 0),(.str [114,101,99,111,114,100]),(.int .i64 0)] 2)] 7
noncomputable def mq0:XP:=xpM []
def Ec8:List (FuncId×List DVal×DVal):= [(217,[], .vslice [(.str [97,98,111,114,116]),(.str [97,98,115]),(.str [97,99,99,101,112,116]),(.str [97,99,99,101,115,115]),(.str [97,108,105,97,115,101,100]),(.str [97,108,108]),(.str [97,110,100]),(.str [97,114,114,97,121]),(.str [98,101,103,105,110]),(.str [98,111,100,121]),(.str [99,97,115,101]),(.str [99,111,110,115,116,97,110,116]),(.str [100,101,99,108,97,114,101]),(.str [100,101,108,97,121]),(.str [100,111]),(.str [101,108,115,101]),(.str [101,108,115,105,102]),(.str [101,110,100]),(.str [101,110,116,114,121]),(.str [101,120,99,101,112,116,105,111,110]),(.str [101,120,105,116]),(.str [102,111,114]),(.str [102,117,110,99,116,105,111,110]),(.str [103,101,110,101,114,105,99]),(.str [105,102]),(.str [105,110]),(.str [105,115]),(.str [108,105,109,105,116,101,100]),(.str [108,111,111,112]),(.str [109,111,100]),(.str [110,101,119]),(.str [110,111,116]),(.str [110,117,108,108]),(.str [111,102]),(.str [111,114]),(.str [111,116,104,101,114,115]),(.str [111,117,116]),(.str [112,97,99,107,97,103,101]),(.str [112,114,97,103,109,97]),(.str [112,114,105,118,97,116,101]),(.str [112,114,111,99,101,100,117,114,101]),(.str [112,114,111,116,101,99,116,101,100]),(.str [114,97,105,115,101]),(.str [114,97,110,103,101]),(.str [114,101,99,111,114,100]),(.str [114,101,109]),(.str [114,101,110,97,109,101,115]),(.str [114,101,113,117,101,117,101]),(.str [114,101,116,117,114,110]),(.str [114,101,118,101,114,115,101]),(.str [115,101,108,101,99,116]),(.str [115,101,112,97,114,97,116,101]),(.str [115,117,98,116,121,112,101]),(.str [116,97,115,107]),(.str [116,101,114,109,105,110,97,116,101]),(.str [116,104,101,110]),(.str [116,121,112,101]),(.str [117,110,116,105,108]),(.str [117,115,101]),(.str [119,104,101,110]),(.str [119,104,105,108,101]),(.str [119,105,116,104]),(.str [120,111,114])] 63)]
theorem Ej0:Dp mq0 3000 Ec8=true:=by kernel_rfl
noncomputable def mq1:XP:=mq0.more Ec8
theorem Ej1 {G:Nat->DVal} (h:XOk mq0 G):XOk mq1 G:=h.more Ej0
def Ec9:List (FuncId×List DVal×DVal):= [(157,[.str [40]], .bool false),
(157,[.str [41]], .bool false),
(157,[.str [44]], .bool false),
(157,[.str [124]], .bool false),
(157,[.str [61,62]], .bool false),
(157,[.str [46,46]], .bool false),
(157,[.str [46]], .bool false),
(157,[.str [39]], .bool false),
(157,[.str [110,111,116]], .bool true),
(157,[.str [105,110]], .bool true),
(157,[.str [97,110,100]], .bool true),
(157,[.str [111,114]], .bool true)]
theorem Ej2:Dp mq1 3000 Ec9=true:=by kernel_rfl
noncomputable def mq2:XP:=mq1.more Ec9
theorem Ej3 {G:Nat->DVal} (h:XOk mq1 G):XOk mq2 G:=h.more Ej2
def Ed0:List (FuncId×List DVal×DVal):= [(157,[.str [120,111,114]], .bool true),
(157,[.str [116,104,101,110]], .bool true),
(157,[.str [101,108,115,101]], .bool true),
(157,[.str [109,111,100]], .bool true),
(157,[.str [114,101,109]], .bool true),
(157,[.str [97,98,115]], .bool true),
(157,[.str [43]], .bool false),
(157,[.str [45]], .bool false),
(157,[.str [38]], .bool false),
(157,[.str [42]], .bool false),
(157,[.str [47]], .bool false),
(157,[.str [42,42]], .bool false)]
theorem Ej4:Dp mq2 3000 Ed0=true:=by kernel_rfl
noncomputable def mq3:XP:=mq2.more Ed0
theorem Ej5 {G:Nat->DVal} (h:XOk mq2 G):XOk mq3 G:=h.more Ej4
def Ed1:List (FuncId×List DVal×DVal):= [(157,[.str [61]], .bool false),
(157,[.str [47,61]], .bool false),
(157,[.str [60]], .bool false),
(157,[.str [60,61]], .bool false),
(157,[.str [62]], .bool false),
(157,[.str [62,61]], .bool false),
(157,[.str [110,117,108,108]], .bool true),
(157,[.str [110,101,119]], .bool true),
(157,[.str [111,116,104,101,114,115]], .bool true),
(157,[.str [97,108,108]], .bool true),
(157,[.str [114,97,110,103,101]], .bool true),
(157,[.str [97,114,114,97,121]], .bool true)]
theorem Ej6:Dp mq3 3000 Ed1=true:=by kernel_rfl
noncomputable def mq4:XP:=mq3.more Ed1
theorem Ej7 {G:Nat->DVal} (h:XOk mq3 G):XOk mq4 G:=h.more Ej6
def Ed2:List (FuncId×List DVal×DVal):= [(157,[.str [114,101,99,111,114,100]], .bool true),
(157,[.str [97,99,99,101,115,115]], .bool true),
(157,[.str [112,114,105,118,97,116,101]], .bool true),
(157,[.str [108,105,109,105,116,101,100]], .bool true),
(157,[.str [58]], .bool false),
(157,[.str [58,61]], .bool false),
(157,[.str [111,117,116]], .bool true),
(157,[.str [59]], .bool false),
(157,[.str [99,97,115,101]], .bool true),
(157,[.str [105,115]], .bool true),
(157,[.str [119,104,101,110]], .bool true),
(157,[.str [111,102]], .bool true)]
theorem Ej8:Dp mq4 3000 Ed2=true:=by kernel_rfl
noncomputable def mq5:XP:=mq4.more Ed2
theorem Ej9 {G:Nat->DVal} (h:XOk mq4 G):XOk mq5 G:=h.more Ej8
def Ed3:List (FuncId×List DVal×DVal):= [(157,[.str [101,110,100]], .bool true)]
theorem Ek0:Dp mq5 3000 Ed3=true:=by kernel_rfl
noncomputable def mq6:XP:=mq5.more Ed3
theorem Ek1 {G:Nat->DVal} (h:XOk mq5 G):XOk mq6 G:=h.more Ek0
def Ed4:List (FuncId×List DVal×DVal):= [(9,[.str [40,82,101,100,44,32,71,114,101,101,110,41,59]],Bz8),
(9,[.str [108,105,109,105,116,101,100,32,112,114,105,118,97,116,101,59]],Bz9),
(9,[.str [110,117,108,108,32,114,101,99,111,114,100]],Ca0)]
theorem Ek2:Dp mq6 3000 Ed4=true:=by kernel_rfl
noncomputable def mq7:XP:=mq6.more Ed4
theorem Ek3 {G:Nat->DVal} (h:XOk mq6 G):XOk mq7 G:=h.more Ek2
def Ed5:List (FuncId×List DVal×DVal):= [(9,[.str [114,101,99,111,114,100,32,65,32,58,32,84,59,32,99,97,115,101,32,68,32,105,115,32,119,104,101,110,32,49,32,61,62,32,110,117,108,108,59,32,101,110,100,32,99,97,115,101,59,32,101,110,100,32,114,101,99,111,114,100,59]],Ca1),
(9,[.str [73,110,116,101,103,101,114,32,114,97,110,103,101,32,49,32,46,46,32,49,48]],Ca2),
(9,[.str [84,32,114,97,110,103,101,32,49,32,46,46,32,78,41]],Ca3)]
theorem Ek4:Dp mq7 3000 Ed5=true:=by kernel_rfl
noncomputable def mq8:XP:=mq7.more Ed5
theorem Ek5 {G:Nat->DVal} (h:XOk mq7 G):XOk mq8 G:=h.more Ek4
def Ed6:List (FuncId×List DVal×DVal):= [(9,[.str [84,32,40,49,41]],Ca4),
(9,[.str [65,32,58,32,105,110,32,111,117,116,32,84,59,32,66,44,32,67,32,58,32,84,32,58,61,32,49,41]],Ca5),
(9,[.str [65,32,58,32,105,110,32,111,117,116,32,84]], .vslice [(.int .u8 1),(.int .i64 1),(.str [65]),(.int .i64 0),(.int .u8 4),(.int .i64 1),(.str [58]),(.int .i64 0),(.int .u8 2),(.int .i64 1),(.str [105,110]),(.int .i64 0),(.int .u8 2),(.int .i64 1),(.str [111,117,116]),(.int .i64 0),(.int .u8 1),(.int .i64 1),(.str [84]),(.int .i64 0)] 5)]
theorem Ek6:Dp mq8 3000 Ed6=true:=by kernel_rfl
noncomputable def mq9:XP:=mq8.more Ed6
theorem Ek7 {G:Nat->DVal} (h:XOk mq8 G):XOk mq9 G:=h.more Ek6
def Dn4:List (FuncId×List DVal×DVal):= [(135,[Bz8], .tuple [(.agg [(.int .u8 1),(.vslice [(.str [82,101,100]),(.str [71,114,101,101,110])] 2),(.int .u8 0),(.int .u8 0),(.int .i64 0),(.str []), .nilSlice, .nilSlice,(.int .i64 0),(.int .i64 0),(.int .i64 0),(.int .u8 0),(.int .u8 0),(.int .i64 0),(.str []), .nilSlice, .nilSlice,(.int .i64 0),(.int .i64 0),(.int .i64 0),(.int .u8 0),(.int .u8 0),(.int .i64 0),(.str []), .nilSlice, .nilSlice,(.int .i64 0),(.int .i64 0),(.int .i64 0),(.int .u8 0),(.int .u8 0),(.int .i64 0),(.str []), .nilSlice, .nilSlice,(.int .i64 0),(.int .i64 0),(.int .i64 0),(.int .u8 0),(.int .u8 0),(.int .i64 0),(.str []), .nilSlice, .nilSlice,(.int .i64 0),(.int .i64 0),(.int .i64 0),(.int .u8 0),(.int .u8 0),(.int .i64 0),(.str []), .nilSlice, .nilSlice,(.int .i64 0),(.int .i64 0),(.int .i64 0),(.int .u8 0),(.int .u8 0),(.int .i64 0),(.str []), .nilSlice, .nilSlice,(.int .i64 0),(.int .i64 0),(.int .i64 0),(.int .u8 0),(.int .u8 0),(.int .i64 0),(.str []), .nilSlice, .nilSlice,(.int .i64 0),(.int .i64 0),(.int .i64 0),(.int .u8 0),(.int .u8 0),(.int .i64 0),(.str []), .nilSlice, .nilSlice,(.int .i64 0),(.int .i64 0),(.int .i64 0), .nilSlice,(.str []), .nilSlice,(.bool false)]),(.int .i64 5),(.int .i64 0)])]
theorem Ed7:Dp mq9 3000 Dn4=true:=by kernel_rfl
noncomputable def Dx0:XP:=mq9.more Dn4
theorem Ed8 {G:Nat->DVal} (h:XOk mq9 G):XOk Dx0 G:=h.more Ed7
def Dn5:List (FuncId×List DVal×DVal):= [(135,[Bz9], .tuple [(.agg [(.int .u8 7), .nilSlice,(.int .u8 0),(.int .u8 0),(.int .i64 0),(.str []), .nilSlice, .nilSlice,(.int .i64 0),(.int .i64 0),(.int .i64 0),(.int .u8 0),(.int .u8 0),(.int .i64 0),(.str []), .nilSlice, .nilSlice,(.int .i64 0),(.int .i64 0),(.int .i64 0),(.int .u8 0),(.int .u8 0),(.int .i64 0),(.str []), .nilSlice, .nilSlice,(.int .i64 0),(.int .i64 0),(.int .i64 0),(.int .u8 0),(.int .u8 0),(.int .i64 0),(.str []), .nilSlice, .nilSlice,(.int .i64 0),(.int .i64 0),(.int .i64 0),(.int .u8 0),(.int .u8 0),(.int .i64 0),(.str []), .nilSlice, .nilSlice,(.int .i64 0),(.int .i64 0),(.int .i64 0),(.int .u8 0),(.int .u8 0),(.int .i64 0),(.str []), .nilSlice, .nilSlice,(.int .i64 0),(.int .i64 0),(.int .i64 0),(.int .u8 0),(.int .u8 0),(.int .i64 0),(.str []), .nilSlice, .nilSlice,(.int .i64 0),(.int .i64 0),(.int .i64 0),(.int .u8 0),(.int .u8 0),(.int .i64 0),(.str []), .nilSlice, .nilSlice,(.int .i64 0),(.int .i64 0),(.int .i64 0),(.int .u8 0),(.int .u8 0),(.int .i64 0),(.str []), .nilSlice, .nilSlice,(.int .i64 0),(.int .i64 0),(.int .i64 0), .nilSlice,(.str []), .nilSlice,(.bool true)]),(.int .i64 2),(.int .i64 0)])]
theorem Ed9:Dp Dx0 3000 Dn5=true:=by kernel_rfl
noncomputable def Dx1:XP:=Dx0.more Dn5
theorem Ee0 {G:Nat->DVal} (h:XOk Dx0 G):XOk Dx1 G:=h.more Ed9
def Dn6:List (FuncId×List DVal×DVal):= [(135,[Ca0], .tuple [(.agg [(.int .u8 5), .nilSlice,(.int .u8 0),(.int .u8 0),(.int .i64 0),(.str []), .nilSlice, .nilSlice,(.int .i64 0),(.int .i64 0),(.int .i64 0),(.int .u8 0),(.int .u8 0),(.int .i64 0),(.str []), .nilSlice, .nilSlice,(.int .i64 0),(.int .i64 0),(.int .i64 0),(.int .u8 0),(.int .u8 0),(.int .i64 0),(.str []), .nilSlice, .nilSlice,(.int .i64 0),(.int .i64 0),(.int .i64 0),(.int .u8 0),(.int .u8 0),(.int .i64 0),(.str []), .nilSlice, .nilSlice,(.int .i64 0),(.int .i64 0),(.int .i64 0),(.int .u8 0),(.int .u8 0),(.int .i64 0),(.str []), .nilSlice, .nilSlice,(.int .i64 0),(.int .i64 0),(.int .i64 0),(.int .u8 0),(.int .u8 0),(.int .i64 0),(.str []), .nilSlice, .nilSlice,(.int .i64 0),(.int .i64 0),(.int .i64 0),(.int .u8 0),(.int .u8 0),(.int .i64 0),(.str []), .nilSlice, .nilSlice,(.int .i64 0),(.int .i64 0),(.int .i64 0),(.int .u8 0),(.int .u8 0),(.int .i64 0),(.str []), .nilSlice, .nilSlice,(.int .i64 0),(.int .i64 0),(.int .i64 0),(.int .u8 0),(.int .u8 0),(.int .i64 0),(.str []), .nilSlice, .nilSlice,(.int .i64 0),(.int .i64 0),(.int .i64 0), .nilSlice,(.str []), .nilSlice,(.bool false)]),(.int .i64 2),(.int .i64 0)])]
theorem Ee1:Dp Dx1 3000 Dn6=true:=by kernel_rfl
noncomputable def Dx2:XP:=Dx1.more Dn6
theorem Ee2 {G:Nat->DVal} (h:XOk Dx1 G):XOk Dx2 G:=h.more Ee1
def Dn7:List (FuncId×List DVal×DVal):= [(135,[Ca1], .tuple [(.agg [(.int .u8 5), .nilSlice,(.int .u8 0),(.int .u8 0),(.int .i64 0),(.str []), .nilSlice, .nilSlice,(.int .i64 0),(.int .i64 0),(.int .i64 0),(.int .u8 0),(.int .u8 0),(.int .i64 0),(.str []), .nilSlice, .nilSlice,(.int .i64 0),(.int .i64 0),(.int .i64 0),(.int .u8 0),(.int .u8 0),(.int .i64 0),(.str []), .nilSlice, .nilSlice,(.int .i64 0),(.int .i64 0),(.int .i64 0),(.int .u8 0),(.int .u8 0),(.int .i64 0),(.str []), .nilSlice, .nilSlice,(.int .i64 0),(.int .i64 0),(.int .i64 0),(.int .u8 0),(.int .u8 0),(.int .i64 0),(.str []), .nilSlice, .nilSlice,(.int .i64 0),(.int .i64 0),(.int .i64 0),(.int .u8 0),(.int .u8 0),(.int .i64 0),(.str []), .nilSlice, .nilSlice,(.int .i64 0),(.int .i64 0),(.int .i64 0),(.int .u8 0),(.int .u8 0),(.int .i64 0),(.str []), .nilSlice, .nilSlice,(.int .i64 0),(.int .i64 0),(.int .i64 0),(.int .u8 0),(.int .u8 0),(.int .i64 0),(.str []), .nilSlice, .nilSlice,(.int .i64 0),(.int .i64 0),(.int .i64 0),(.int .u8 0),(.int .u8 0),(.int .i64 0),(.str []), .nilSlice, .nilSlice,(.int .i64 0),(.int .i64 0),(.int .i64 0),(.vslice [(.vslice [(.str [65])] 1),(.int .u8 3),(.int .u8 0),(.int .i64 0),(.str [84]), .nilSlice, .nilSlice,(.int .i64 1),(.int .i64 0),(.int .i64 0),(.int .u8 0),(.int .u8 0),(.int .i64 0),(.str []), .nilSlice, .nilSlice,(.int .i64 0),(.int .i64 0),(.int .i64 0),(.int .u8 0),(.int .u8 0),(.int .i64 0),(.str []), .nilSlice, .nilSlice,(.int .i64 0),(.int .i64 0),(.int .i64 0),(.int .u8 0),(.int .u8 0),(.int .i64 0),(.str []), .nilSlice, .nilSlice,(.int .i64 0),(.int .i64 0),(.int .i64 0),(.int .u8 0),(.int .u8 0),(.int .i64 0),(.str []), .nilSlice, .nilSlice,(.int .i64 0),(.int .i64 0),(.int .i64 0),(.int .i64 1)] 1),(.str [68]),(.vslice [(.vslice [(.int .u8 1),(.vslice [(.int .u8 1),(.int .u8 0),(.int .i64 1),(.str []), .nilSlice, .nilSlice,(.int .i64 1),(.int .i64 0),(.int .i64 0)] 1)] 1), .nilSlice] 1),(.bool false)]),(.int .i64 18),(.int .i64 0)])]
theorem Ee3:Dp Dx2 3000 Dn7=true:=by kernel_rfl
noncomputable def Dx3:XP:=Dx2.more Dn7
theorem Ee4 {G:Nat->DVal} (h:XOk Dx2 G):XOk Dx3 G:=h.more Ee3
def Dn8:List (FuncId×List DVal×DVal):= [(60,[Ca2], .tuple [(.agg [(.int .u8 3),(.int .u8 0),(.int .i64 0),(.str [73,110,116,101,103,101,114]), .nilSlice, .nilSlice,(.int .i64 1),(.int .i64 0),(.int .i64 0),(.int .u8 1),(.int .u8 0),(.int .i64 1),(.str []), .nilSlice, .nilSlice,(.int .i64 1),(.int .i64 0),(.int .i64 0),(.int .u8 1),(.int .u8 0),(.int .i64 10),(.str []), .nilSlice, .nilSlice,(.int .i64 1),(.int .i64 0),(.int .i64 0),(.int .u8 0),(.int .u8 0),(.int .i64 0),(.str []), .nilSlice, .nilSlice,(.int .i64 0),(.int .i64 0),(.int .i64 0)]),(.int .i64 5),(.int .i64 0)])]
theorem Ee5:Dp Dx3 3000 Dn8=true:=by kernel_rfl
noncomputable def Dx4:XP:=Dx3.more Dn8
theorem Ee6 {G:Nat->DVal} (h:XOk Dx3 G):XOk Dx4 G:=h.more Ee5
def Dn9:List (FuncId×List DVal×DVal):= [(61,[Ca3], .tuple [(.agg [(.int .u8 3),(.int .u8 0),(.int .i64 0),(.str [84]), .nilSlice, .nilSlice,(.int .i64 1),(.int .i64 0),(.int .i64 0),(.int .u8 1),(.int .u8 0),(.int .i64 1),(.str []), .nilSlice, .nilSlice,(.int .i64 1),(.int .i64 0),(.int .i64 0),(.int .u8 3),(.int .u8 0),(.int .i64 0),(.str [78]), .nilSlice, .nilSlice,(.int .i64 1),(.int .i64 0),(.int .i64 0)]),(.int .i64 5),(.int .i64 0)])]
theorem Ee7:Dp Dx4 3000 Dn9=true:=by kernel_rfl
noncomputable def Dx5:XP:=Dx4.more Dn9
theorem Ee8 {G:Nat->DVal} (h:XOk Dx4 G):XOk Dx5 G:=h.more Ee7
def Do0:List (FuncId×List DVal×DVal):= [(61,[Ca4], .tuple [(.agg [(.int .u8 0),(.int .u8 0),(.int .i64 0),(.str []), .nilSlice, .nilSlice,(.int .i64 0),(.int .i64 0),(.int .i64 0),(.int .u8 0),(.int .u8 0),(.int .i64 0),(.str []), .nilSlice, .nilSlice,(.int .i64 0),(.int .i64 0),(.int .i64 0),(.int .u8 0),(.int .u8 0),(.int .i64 0),(.str []), .nilSlice, .nilSlice,(.int .i64 0),(.int .i64 0),(.int .i64 0)]),(.int .i64 4),(.int .i64 40)])]
theorem Ee9:Dp Dx5 3000 Do0=true:=by kernel_rfl
noncomputable def Dx6:XP:=Dx5.more Do0
theorem Ef0 {G:Nat->DVal} (h:XOk Dx5 G):XOk Dx6 G:=h.more Ee9
def Do1:List (FuncId×List DVal×DVal):= [(10,[Ca5], .tuple [(.vslice [(.vslice [(.str [65])] 1),(.int .u8 3),(.int .u8 3),(.int .u8 0),(.int .i64 0),(.str [84]), .nilSlice, .nilSlice,(.int .i64 1),(.int .i64 0),(.int .i64 0),(.int .u8 0),(.int .u8 0),(.int .i64 0),(.str []), .nilSlice, .nilSlice,(.int .i64 0),(.int .i64 0),(.int .i64 0),(.int .i64 1),(.vslice [(.str [66]),(.str [67])] 2),(.int .u8 1),(.int .u8 3),(.int .u8 0),(.int .i64 0),(.str [84]), .nilSlice, .nilSlice,(.int .i64 1),(.int .i64 0),(.int .i64 0),(.int .u8 1),(.int .u8 0),(.int .i64 1),(.str []), .nilSlice, .nilSlice,(.int .i64 1),(.int .i64 0),(.int .i64 0),(.int .i64 1)] 2),(.int .i64 13),(.int .i64 0)])]
theorem Ef1:Dp Dx6 3000 Do1=true:=by kernel_rfl
noncomputable def Dx7:XP:=Dx6.more Do1
theorem Ef2 {G:Nat->DVal} (h:XOk Dx6 G):XOk Dx7 G:=h.more Ef1
def Do2:List (FuncId×List DVal×DVal):= [(49,[Da5, .int .i64 0], .tuple [(.vslice [(.int .i64 0),(.vslice [(.int .u8 4),(.int .i64 0),(.str [40]),(.int .i64 0),(.int .u8 1),(.int .i64 0),(.str [82,101,100]),(.int .i64 0),(.int .u8 4),(.int .i64 0),(.str [44]),(.int .i64 0),(.int .u8 1),(.int .i64 0),(.str [71,114,101,101,110]),(.int .i64 0),(.int .u8 4),(.int .i64 0),(.str [41]),(.int .i64 0)] 5)] 1),(.int .i64 0)]),
(49,[Da6, .int .i64 0], .tuple [(.vslice [(.int .i64 0),(.vslice [(.int .u8 2),(.int .i64 0),(.str [108,105,109,105,116,101,100]),(.int .i64 0),(.int .u8 2),(.int .i64 0),(.str [112,114,105,118,97,116,101]),(.int .i64 0)] 2)] 1),(.int .i64 0)])]
theorem Ef3:Dp Dx7 3000 Do2=true:=by kernel_rfl
noncomputable def Dx8:XP:=Dx7.more Do2
theorem Ef4 {G:Nat->DVal} (h:XOk Dx7 G):XOk Dx8 G:=h.more Ef3
def Do3:List (FuncId×List DVal×DVal):= [(49,[Da7, .int .i64 0], .tuple [(.vslice [(.int .i64 0),(.vslice [(.int .u8 2),(.int .i64 0),(.str [110,117,108,108]),(.int .i64 0),(.int .u8 2),(.int .i64 0),(.str [114,101,99,111,114,100]),(.int .i64 0)] 2)] 1),(.int .i64 0)]),
(49,[Da8, .int .i64 0], .tuple [(.vslice [(.int .i64 0),(.vslice [(.int .u8 2),(.int .i64 0),(.str [114,101,99,111,114,100]),(.int .i64 0)] 1),(.int .i64 1),(.vslice [(.int .u8 1),(.int .i64 0),(.str [65]),(.int .i64 0),(.int .u8 4),(.int .i64 0),(.str [58]),(.int .i64 0),(.int .u8 1),(.int .i64 0),(.str [84]),(.int .i64 0),(.int .u8 4),(.int .i64 0),(.str [59]),(.int .i64 0)] 4),(.int .i64 1),(.vslice [(.int .u8 2),(.int .i64 0),(.str [99,97,115,101]),(.int .i64 0),(.int .u8 1),(.int .i64 0),(.str [68]),(.int .i64 0),(.int .u8 2),(.int .i64 0),(.str [105,115]),(.int .i64 0)] 3),(.int .i64 2),(.vslice [(.int .u8 2),(.int .i64 0),(.str [119,104,101,110]),(.int .i64 0),(.int .u8 3),(.int .i64 0),(.str []),(.int .i64 1),(.int .u8 4),(.int .i64 0),(.str [61,62]),(.int .i64 0)] 3),(.int .i64 3),(.vslice [(.int .u8 2),(.int .i64 0),(.str [110,117,108,108]),(.int .i64 0),(.int .u8 4),(.int .i64 0),(.str [59]),(.int .i64 0)] 2),(.int .i64 1),(.vslice [(.int .u8 2),(.int .i64 0),(.str [101,110,100]),(.int .i64 0),(.int .u8 2),(.int .i64 0),(.str [99,97,115,101]),(.int .i64 0),(.int .u8 4),(.int .i64 0),(.str [59]),(.int .i64 0)] 3),(.int .i64 0),(.vslice [(.int .u8 2),(.int .i64 0),(.str [101,110,100]),(.int .i64 0),(.int .u8 2),(.int .i64 0),(.str [114,101,99,111,114,100]),(.int .i64 0)] 2)] 7),(.int .i64 0)])]
theorem Ef5:Dp Dx8 3000 Do3=true:=by kernel_rfl
noncomputable def Dx9:XP:=Dx8.more Do3
theorem Ef6 {G:Nat->DVal} (h:XOk Dx8 G):XOk Dx9 G:=h.more Ef5
def Do4:List (FuncId×List DVal×DVal):= [(136,[Da9], .tuple [(.str [40,82,101,100,44,32,71,114,101,101,110,41,10]),(.int .i64 0)]),
(136,[Db0], .tuple [(.str [108,105,109,105,116,101,100,32,112,114,105,118,97,116,101,10]),(.int .i64 0)])]
theorem Ef7:Dp Dx9 3000 Do4=true:=by kernel_rfl
noncomputable def Dy0:XP:=Dx9.more Do4
theorem Ef8 {G:Nat->DVal} (h:XOk Dx9 G):XOk Dy0 G:=h.more Ef7
def Do5:List (FuncId×List DVal×DVal):= [(136,[Db1], .tuple [(.str [110,117,108,108,32,114,101,99,111,114,100,10]),(.int .i64 0)]),
(136,[Db2], .tuple [(.str [114,101,99,111,114,100,10,32,32,65,32,58,32,84,59,10,32,32,99,97,115,101,32,68,32,105,115,10,32,32,32,32,119,104,101,110,32,49,32,61,62,10,32,32,32,32,32,32,110,117,108,108,59,10,32,32,101,110,100,32,99,97,115,101,59,10,101,110,100,32,114,101,99,111,114,100,10]),(.int .i64 0)])]
theorem Ef9:Dp Dy0 3000 Do5=true:=by kernel_rfl
noncomputable def Dy1:XP:=Dy0.more Do5
theorem Eg0 {G:Nat->DVal} (h:XOk Dy0 G):XOk Dy1 G:=h.more Ef9
def Do6:List (FuncId×List DVal×DVal):= [(59,[.str [40,82,101,100,44,32,71,114,101,101,110,41,59], .int .i64 5, .int .u8 1, .str [40,82,101,100,44,32,71,114,101,101,110,41,10]], .bool true),
(59,[.str [108,105,109,105,116,101,100,32,112,114,105,118,97,116,101,59], .int .i64 2, .int .u8 7, .str [108,105,109,105,116,101,100,32,112,114,105,118,97,116,101,10]], .bool true),
(59,[.str [110,117,108,108,32,114,101,99,111,114,100], .int .i64 2, .int .u8 5, .str [110,117,108,108,32,114,101,99,111,114,100,10]], .bool true),
(59,[.str [114,101,99,111,114,100,32,65,32,58,32,84,59,32,99,97,115,101,32,68,32,105,115,32,119,104,101,110,32,49,32,61,62,32,110,117,108,108,59,32,101,110,100,32,99,97,115,101,59,32,101,110,100,32,114,101,99,111,114,100,59], .int .i64 18, .int .u8 5, .str [114,101,99,111,114,100,10,32,32,65,32,58,32,84,59,10,32,32,99,97,115,101,32,68,32,105,115,10,32,32,32,32,119,104,101,110,32,49,32,61,62,10,32,32,32,32,32,32,110,117,108,108,59,10,32,32,101,110,100,32,99,97,115,101,59,10,101,110,100,32,114,101,99,111,114,100,10]], .bool true)]
theorem Eg1:Dp Dy1 3000 Do6=true:=by kernel_rfl
noncomputable def Dy2:XP:=Dy1.more Do6
theorem Eg2 {G:Nat->DVal} (h:XOk Dy1 G):XOk Dy2 G:=h.more Eg1
def Do7:List (FuncId×List DVal×DVal):= [(11,[], .bool true)]
theorem Eg3:Dp Dy2 3000 Do7=true:=by kernel_rfl
noncomputable def Eg4:XP:=Dy2.more Do7
theorem Eg5 {G:Nat->DVal} (h:XOk Dy2 G):XOk Eg4 G:=h.more Eg3
theorem Db3 {G:Nat->DVal} (h:XOk mq0 G) (H:Bb):Bh Tryz.prog G 11 [] H (Bt (.bool true) H):=(Eg5 (Eg2 (Eg0 (Ef8 (Ef6 (Ef4 (Ef2 (Ef0 (Ee8 (Ee6 (Ee4 (Ee2 (Ee0 (Ed8 (Ek7 (Ek5 (Ek3 (Ek1 (Ej9 (Ej7 (Ej5 (Ej3 (Ej1 (h)))))))))))))))))))))))).at (X:=Eg4) (List.mem_append_left _ (.head _)) H
end Go.Dl

-- Chapter 4: FormSames.
namespace Go.Dl
open Go Go.Proofs
set_option maxRecDepth 100000
section
variable (x:Fms)
theorem Js:((Mm x).drop 9).take 36=Fb x.s:=by rw[Mm,Cz _ _ 0,List.drop_zero,List.take_left' (Bl _)]
theorem Gu:((Mm x).drop 45).take 27=Gh x.d:=by
 rw[Mm,Cz _ _ 36,List.drop_left' (Bl _),List.take_left' (Bs _)]
theorem Aj2 (k:Nat):(Mm x)[72+k]? =(Ry x.p::Qj x.a::Bk x.c::Dr x.t)[k]? :=by
 have h1:Mm x=(dEx x.e++(Fb x.s++Gh x.d))++(Ry x.p::Qj x.a::Bk x.c::Dr x.t):=by simp [Mm]
 rw[h1,List.getElem?_append_right (by simp [Aa,Bl,Bs])];congr 1;simp [Aa,Bl,Bs]
theorem Gv:(Mm x)[72]? =some (Ry x.p):=Aj2 x 0
theorem Gw:(Mm x)[73]? =some (Qj x.a):=Aj2 x 1
theorem Gx:(Mm x)[74]? =some (Bk x.c):=Aj2 x 2
theorem Gy:((Mm x).drop 75).take 87=Dr x.t:=by
 have h1:Mm x=(dEx x.e++(Fb x.s++(Gh x.d++ [Ry x.p,Qj x.a,Bk x.c])))++Dr x.t:=by simp [Mm]
 rw[h1,List.drop_left' (by simp [Aa,Bl,Bs]),List.take_of_length_le (by rw[Ab];omega)]
end
section
end
end Go.Dl

-- Chapter 4: FormMays.
namespace Go.Dl
open Go Go.Proofs
set_option maxRecDepth 100000
theorem Jt (x:Fms):(Mm x).take 9=dEx x.e:=by rw[Mm,Iu]
section
variable {G:Nat->DVal} (hG:GX G) (H:Bb)
include hG
set_option maxHeartbeats 40000000 in
theorem Al7 (x:Fms) (hx:Bx9 1048576 x):Bh Tryz.prog G 4 [.agg (Mm x)] H (Bt (.bool true) H):=by
 have xG:=Ei9 hG;refine Bc Tryz.func4 Tryz.call4 rfl (by kernel_rfl) ?_;simp(disch:=omega) only[go_sem,↓reduceIte,DVal.cells];intro r1 hr1;dsimp only at hr1;obtain⟨K,hK⟩: ∃K',K'=upd H r1 (some (.cells (Mm x) 55)):=⟨_,rfl⟩;rw[<-hK];have gr1:K r1=some (.cells (Mm x) 55):=by rw[hK];exact Bp _ _ _
 have sK:Sub H K:=by rw[hK];exact(Sub.refl _).new hr1 _
 simp(disch:=omega) only[go_sem,↓reduceIte,gr1,Ee,Jt,Js,Gu,Gv,Gw,Gx,Gy];refine Gs (by kernel_rfl) (.take 0 (.take 1 (.take 3 (.take 4 (.go 2 [4] (.go 5 [] (.take 6 (.take 7 (.take 8 (.take 9 (.take 11 (.take 12 (.go 10 [12] (.go 13 [] (.take 14 (.take 15 (.take 16 (.take 17 (.take 18 (.take 20 (.take 21 (.go 19 [21] (.go 22 [] (.take 23 (.take 24 (.take 25 (.take 26 (.take 27 (.take 29 (.take 30 (.go 28 [30] (.go 31 [] (.take 32 (.take 33 (.take 34 .done))))))))))))))))))))))))))))))))))) (by kernel_rfl) ?_;simp(disch:=omega) only[go_sem,↓reduceIte,gr1,Ee,Jt,Js,Gu,Gv,Gw,Gx,Gy];refine Bh.monoR (Kh hG K x.e hx.1) ?_;simp(disch:=omega) only[go_sem,↓reduceIte,gr1,Ee,Jt,Js,Gu,Gv,Gw,Gx,Gy];refine Bh.monoR (Hg G K x.e hx.1) ?_;simp(disch:=omega) only[go_sem,↓reduceIte,gr1,Ee,Jt,Js,Gu,Gv,Gw,Gx,Gy];refine Bh.monoR (Kx hG K x.s hx.2.1) ?_;simp(disch:=omega) only[go_sem,↓reduceIte,gr1,Ee,Jt,Js,Gu,Gv,Gw,Gx,Gy];refine Bh.monoR (Dd G K x.s hx.2.1) ?_;simp(disch:=omega) only[go_sem,↓reduceIte,gr1,Ee,Jt,Js,Gu,Gv,Gw,Gx,Gy];refine Bh.monoR (Yx hG K x.d hx.2.2.1) ?_;simp(disch:=omega) only[go_sem,↓reduceIte,gr1,Ee,Jt,Js,Gu,Gv,Gw,Gx,Gy];refine Bh.monoR (Jm G K x.d hx.2.2.1) ?_;simp(disch:=omega) only[go_sem,↓reduceIte,gr1,Ee,Jt,Js,Gu,Gv,Gw,Gx,Gy];refine Bh.monoR (Ag5 hG K x.p hx.2.2.2.1) ?_;simp(disch:=omega) only[go_sem,↓reduceIte,gr1,Ee,Jt,Js,Gu,Gv,Gw,Gx,Gy];refine Bh.monoR (Zp G K x.p hx.2.2.2.1) ?_;simp(disch:=omega) only[go_sem,↓reduceIte,gr1,Ee,Jt,Js,Gu,Gv,Gw,Gx,Gy];refine Gs (by kernel_rfl) (.take 0 (.take 1 (.take 2 (.take 3 (.take 5 (.take 6 (.go 4 [6] (.go 7 [] (.take 8 (.take 9 (.take 10 (.take 11 (.take 12 (.take 14 (.take 15 (.go 13 [15] (.go 16 [] (.take 17 (.take 18 (.take 19 (.take 20 (.take 21 (.take 23 (.take 24 (.go 22 [24] (.go 25 [] (.take 26 (.take 27 (.take 28 (.go 29 [] (.take 30 (.take 31 .done)))))))))))))))))))))))))))))))) (by kernel_rfl) ?_;simp(disch:=omega) only[go_sem,↓reduceIte,gr1,Ee,Jt,Js,Gu,Gv,Gw,Gx,Gy];refine Bh.monoR (Zo hG K x.a hx.2.2.2.2.1) ?_;simp(disch:=omega) only[go_sem,↓reduceIte,gr1,Ee,Jt,Js,Gu,Gv,Gw,Gx,Gy];refine Bh.monoR (Xf G K x.a hx.2.2.2.2.1) ?_;simp(disch:=omega) only[go_sem,↓reduceIte,gr1,Ee,Jt,Js,Gu,Gv,Gw,Gx,Gy];refine Bh.monoR (Al0 hG K x.c hx.2.2.2.2.2.1) ?_;simp(disch:=omega) only[go_sem,↓reduceIte,gr1,Ee,Jt,Js,Gu,Gv,Gw,Gx,Gy];refine Bh.monoR (Ag6 G K x.c hx.2.2.2.2.2.1) ?_;simp(disch:=omega) only[go_sem,↓reduceIte,gr1,Ee,Jt,Js,Gu,Gv,Gw,Gx,Gy];refine Bh.monoR (Bh1 hG K x.t hx.2.2.2.2.2.2) ?_;simp(disch:=omega) only[go_sem,↓reduceIte,gr1,Ee,Jt,Js,Gu,Gv,Gw,Gx,Gy];refine Bh.monoR (Av3 G K x.t hx.2.2.2.2.2.2) ?_;simp(disch:=omega) only[go_sem,↓reduceIte,gr1,Ee,Jt,Js,Gu,Gv,Gw,Gx,Gy];refine Bh.monoR (Db3 xG K) ?_;simp(disch:=omega) only[go_sem,↓reduceIte,gr1,Ee,Jt,Js,Gu,Gv,Gw,Gx,Gy];exact Rm.sub sK (.refl ⟨rfl,rfl⟩)
end
end Go.Dl

-- THE READING, PART 1: what was read of the input before a call is read the same behind it, if the call left all old memory as it was.
namespace Go.Dl
open Go
section
variable {H:Type} {enc:TypeId×Value->H} {P:Program} {w w':World}
def Uk (w w':World):Prop:= ∀b,b<w.heap.size->w'.heap[b]? =w.heap[b]?
theorem Uk.cell (h:Uk w w') {a:Addr} {x:Value} (hc:w.cell? a=some x):w'.cell? a=some x:=by
 have hlt:a.block<w.heap.size:=by
  unfold World.cell? at hc;rcases Nat.lt_or_ge a.block w.heap.size with hl | hl
  ·exact hl
  ·simp [Array.getElem?_eq_none hl] at hc
 unfold World.cell? at hc⊢
 rw[h _ hlt];exact hc
theorem Kn {α β:Type} {f g:α->Option β}: ∀ {l:List α} {r:List β},l.mapM f=some r->(∀x∈l,∀y,f x=some y->y∈r->g x=some y)->l.mapM g=some r
 | [],r,h,_=>by simpa using h
 | x::l,r,h,hg=>by
  rw[List.mapM_cons] at h⊢
  simp only[Option.bind_eq_bind,Option.bind_eq_some_iff,Option.pure_def,Option.some.injEq] at h⊢
  obtain⟨y,hy,ys,hys,rfl⟩:=h;exact⟨y,hg x (by simp) y hy (by simp),ys,Kn hys (fun z hz u hu hm=>hg z (by simp [hz]) u hu (by simp [hm])),rfl⟩
theorem Uk.cells (h:Uk w w') {base:Nat} {a:Addr} {n:Nat} {cs:List Value} (hc:w.cells? base a n=some cs):w'.cells? base a n=some cs:=by
 unfold World.cells? at hc⊢
 split at hc
 ·rename_i hb;rw[if_pos hb];exact Kn hc fun i _ y hy _=>h.cell hy
 ·cases hc
structure Closed (P:Program) (T:TypeId->Prop):Prop where
 ptr: ∀t e,T t->P.underlying t=some (.pointer e)->T e
 slice: ∀t e,T t->P.underlying t=some (.slice e)->0<P.cellsOf e/\T e
 struct: ∀t fs,T t->P.underlying t=some (.struct fs)-> ∀f∈fs.toList,T f.type
 array: ∀t n e,T t->P.underlying t=some (.array n e)->T e
 iface: ∀t m,T t->P.underlying t≠some (.interface m)
 map: ∀t k e,T t->P.underlying t=some (.map k e)->T e
def Ca6 (P:Program) (ts:List TypeId):Bool:=ts.all fun t=>match P.underlying t with
 | some (.pointer e)=>ts.contains e
 | some (.slice e)=>decide (0<P.cellsOf e)&&ts.contains e
 | some (.struct fs)=>fs.toList.all fun f=>ts.contains f.type
 | some (.array _ e)=>ts.contains e
 | some (.interface _)=>false
 | some (.map _ e)=>ts.contains e
 | _=>true
theorem Cl8 {P:Program} {ts:List TypeId} (h:Ca6 P ts=true):Closed P (· ∈ts):=by
 unfold Ca6 at h;rw[List.all_eq_true] at h;refine⟨fun t e ht hu=> ?_,fun t e ht hu=> ?_,fun t fs ht hu=> ?_,fun t n e ht hu=> ?_,fun t m ht hu=> ?_,fun t k e ht hu=> ?_⟩;all_goals have h1:=h t ht;rw[hu] at h1
 ·simpa using h1
 ·simpa using h1
 ·intro f hf;simpa using List.all_eq_true.1 h1 f hf
 ·simpa using h1
 ·cases h1
 ·simpa using h1
theorem Aq3 (h:Uk w w') {T:TypeId->Prop} (hT:Closed P T) {base:Nat} {sp:Nat->Bool} {held:Bool}:
  ∀(Cw:Nat) (t:TypeId) (cs:List Value) (d:DataW H) (ps:List MemPlace),T t->DataW.trod enc P w base (fun _=>true) held Cw t cs=some (d,ps)->(∀p∈ps,sp p.block=true)->
   DataW.trod enc P w' base sp held Cw t cs=some (d,ps)
 | 0,_,_,_,_,_,hh,_=>by simp [DataW.trod] at hh
 | Cw+1,t,cs,d,ps,ht,hh,hp=>by
  have ih:= @Aq3 h T hT base sp held Cw;unfold DataW.trod at hh⊢
  split at hh<;>(try (first | exact hh | (simp at hh;done)))
  ·-- pointer
   rename_i e a hu
   simp only[Option.map_eq_some_iff,Option.bind_eq_some_iff,Prod.mk.injEq] at hh⊢
   obtain⟨x,⟨c,hc,hx⟩,rfl,rfl⟩:=hh;exact⟨x,⟨c,h.cells hc,ih _ _ x.1 x.2 (hT.ptr _ _ ht hu) hx fun p hpm=>hp p (by simp [hpm])⟩,rfl,rfl⟩
  ·-- slice
   rename_i e a len cap hu
   dsimp only at hh⊢
   split at hh
   ·rename_i hc
    rw[if_pos hc];simp only[Option.bind_eq_some_iff,Option.map_eq_some_iff,if_true,Prod.mk.injEq] at hh⊢
    obtain⟨elems,he,rest,hr,rfl,rfl⟩:=hh;have hp1: ∀y∈elems,∀p∈y.2,sp p.block=true:=fun y hy p hpm=>hp p (by
     simp only[List.mem_append,List.mem_flatMap];exact .inr ⟨y, .inl hy,hpm⟩)
    have hp2: ∀y∈rest,∀p∈y.2,sp p.block=true:=fun y hy p hpm=>hp p (by
     simp only[List.mem_append,List.mem_flatMap];exact .inr ⟨y, .inr hy,hpm⟩)
    refine⟨elems,Kn he (fun i _ y hy hym=> ?_),rest, ?_,rfl,rfl⟩
    ·simp only[Option.bind_eq_some_iff] at hy⊢
     obtain⟨c,hc1,hc2⟩:=hy;exact⟨c,h.cells hc1,ih _ _ y.1 y.2 (hT.slice _ _ ht hu).2 hc2 (hp1 y hym)⟩
    ·have hr':(List.range (cap-len)).mapM (fun j=>(w'.cells? base (a.add ((len+j)*P.cellsOf e)) (P.cellsOf e)).bind (DataW.trod enc P w' base sp held Cw e))=some rest:=by
      refine Kn hr (fun i _ y hy hym=> ?_);simp only[Option.bind_eq_some_iff] at hy⊢
      obtain⟨c,hc1,hc2⟩:=hy;exact⟨c,h.cells hc1,ih _ _ y.1 y.2 (hT.slice _ _ ht hu).2 hc2 (hp2 y hym)⟩
     by_cases hsp:sp a.block=true
     ·rw[if_pos hsp];exact hr'
     ·rw[if_neg hsp];have hpos:=(hT.slice t e ht hu).1;have hlen:rest.length=0:=by
       rcases Nat.eq_zero_or_pos rest.length with h0 | h0
       ·exact h0
       ·exfalso;refine hsp (hp (.cell a.block a.off) ?_);refine List.mem_append_left _ ?_;unfold MemPlace.row;refine List.mem_map.2 ⟨0,List.mem_range.2 (Nat.mul_pos (by omega) hpos),by simp⟩
      rw[List.eq_nil_of_length_eq_zero hlen]
   ·cases hh
  ·-- struct
   rename_i fs hu
   split at hh
   ·rename_i hl
    rw[if_pos hl];simp only[Option.map_eq_some_iff,Prod.mk.injEq] at hh⊢
    obtain⟨xs,hx,rfl,rfl⟩:=hh;exact⟨xs,Kn hx (fun f hf y hy hym=>ih _ _ y.1 y.2 (hT.struct _ _ ht hu f hf) hy fun p hpm=>hp p (List.mem_flatMap.2 ⟨y,hym,hpm⟩)),rfl,rfl⟩
   ·cases hh
  ·-- array
   rename_i hu
   split at hh
   ·rename_i hl
    rw[if_pos hl];simp only[Option.map_eq_some_iff,Prod.mk.injEq] at hh⊢
    obtain⟨xs,hx,rfl,rfl⟩:=hh;exact⟨xs,Kn hx (fun f hf y hy hym=>ih _ _ y.1 y.2 (hT.array _ _ _ ht hu) hy fun p hpm=>hp p (List.mem_flatMap.2 ⟨y,hym,hpm⟩)),rfl,rfl⟩
   ·cases hh
  ·-- interface
   rename_i hu
   exact(hT.iface _ _ ht hu).elim
  ·-- map
   rename_i k e b hu
   split at hh
   ·rename_i es clock hb
    have hlt:b<w.heap.size:=(Array.getElem?_eq_some_iff.1 hb).1;rw[h b hlt,hb];dsimp only at hh⊢
    split at hh
    ·rename_i hc
     rw[if_pos hc];simp only[Option.bind_eq_some_iff] at hh⊢
     obtain⟨entries,he,hr⟩:=hh;split at hr
     ·rename_i hri
      simp only[Option.some.injEq,Prod.mk.injEq] at hr;obtain⟨rfl,rfl⟩:=hr;refine⟨entries,Kn he (fun x _ y hy hym=> ?_),by rw[if_pos hri]⟩;simp only[Option.bind_eq_some_iff] at hy⊢
      obtain⟨key,hk,hy⟩:=hy;refine⟨key,hk, ?_⟩;split at hy
      ·rename_i hf
       rw[if_pos hf];simp only[Option.map_eq_some_iff] at hy⊢
       obtain⟨z,hz1,rfl⟩:=hy;exact⟨z,ih _ _ z.1 z.2 (hT.map _ _ _ ht hu) hz1 fun p hpm=>hp p (by
        simp only[List.mem_cons,List.mem_flatMap];exact .inr ⟨_,hym,hpm⟩),rfl⟩
      ·cases hy
     ·cases hr
    ·cases hh
   ·cases hh
theorem Trod.keep (h:Uk w w') {T:TypeId->Prop} (hT:Closed P T) {base:Nat} {sp:Nat->Bool} {held:Bool} {t:TypeId} {v:Value} {d:DataW H} {ps:List MemPlace}
  (ht:T t) (hh:DataW.Trod enc P w base (fun _=>true) held t v d ps) (hp: ∀p∈ps,sp p.block=true):DataW.Trod enc P w' base sp held t v d ps:=by
 obtain⟨Cw,hh⟩:=hh;exact⟨Cw,Aq3 h hT Cw _ _ _ _ ht hh hp⟩
theorem TrodAll.keep (h:Uk w w') {T:TypeId->Prop} (hT:Closed P T) {base:Nat} {sp:Nat->Bool} {held:Bool}:
  ∀ {ts:List TypeId} {vs:List Value} {ds:List (DataW H)} {ps:List MemPlace},(∀t∈ts,T t)->DataW.TrodAll enc P w base (fun _=>true) held ts vs ds ps->(∀p∈ps,sp p.block=true)->DataW.TrodAll enc P w' base sp held ts vs ds ps
 | [],[],[],_,_,hh,_=>hh
 | [],[],_::_,_,_,hh,_=>hh.elim
 | [],_::_,_,_,_,hh,_=>hh.elim
 | _::_,[],_,_,_,hh,_=>hh.elim
 | _::_,_::_,[],_,_,hh,_=>hh.elim
 | t::ts,v::vs,d::ds,_,ht,⟨p,q,h1,h2,rfl⟩,hp=>
  ⟨p,q,Trod.keep h hT (ht t (by simp)) h1 (fun x hx=>hp x (by simp [hx])),TrodAll.keep h hT (fun u hu=>ht u (by simp [hu])) h2 (fun x hx=>hp x (by simp [hx])),rfl⟩
end
end Go.Dl

-- THE READING, PART 2: what was read of the input is plain data, seen at the data level.
namespace Go.Dl
open Go Go.RowKit Go.Deep
def Gi (P:Program) (H:Type) (w:World) (t:TypeId) (α:Type) (f:α->List DVal) (g:α->DataW H->Prop):Prop:=
 ∀(enc:TypeId×Value->H) base sp held Cw cs d ps,DataW.trod enc P w base sp held Cw t cs=some (d,ps)-> ∃x,g x d/\Br w (fun _=>none) (f x) cs
section
variable {P:Program} {H:Type} {w:World}
theorem Xo {a:Addr} {x:Value} (h:w.cell? a=some x):a.spot=none:=by
 unfold World.cell? at h;split at h
 ·split at h
  ·cases h
  ·rename_i hs;simpa using hs
 ·cases h
theorem Om {α β:Type} {f:α->Option β}: ∀ {l:List α} {r:List β},l.mapM f=some r->r.length=l.length/\ ∀(i:Nat) (x:α),l[i]? =some x-> ∃y,r[i]? =some y/\f x=some y
 | [],r,h=>by simp at h;subst h;simp
 | x::l,r,h=>by
  rw[List.mapM_cons] at h;simp only[Option.bind_eq_bind,Option.bind_eq_some_iff,Option.pure_def,Option.some.injEq] at h;obtain⟨y,hy,ys,hys,rfl⟩:=h;obtain⟨h1,h2⟩:=Om hys;refine⟨by simp [h1],fun i z hz=> ?_⟩;cases i with
  | zero=>simp at hz;subst hz;exact⟨y,rfl,hy⟩
  | succ i=>simp at hz;obtain⟨u,hu,hf⟩:=h2 i z hz;exact⟨u,by simpa using hu,hf⟩
theorem Zd {base:Nat} {a:Addr} {n:Nat} {cs:List Value} (h:w.cells? base a n=some cs):cs.length=n/\Hr w a.block a.off cs:=by
 unfold World.cells? at h;split at h
 ·obtain⟨h1,h2⟩:=Om h;rw[List.length_range] at h1;refine⟨h1,fun i x hx=> ?_⟩;have hi:i<n:=by
   have:=(List.getElem?_eq_some_iff.1 hx).1;omega
  obtain⟨y,hy,hc⟩:=h2 i i (by simp [hi]);rw[hx] at hy;cases hy;by_cases h0:i=0
  ·subst h0;have:a.add 0=a:=rfl;rw[this] at hc;have hs:=Xo hc;have:(⟨a.block,a.off+0,none⟩:Addr)=a:=by cases a;simp at hs⊢;exact hs.symm
   rw[this];exact hc
  ·have:a.add i=⟨a.block,a.off+i,none⟩:=by simp [Addr.add,h0]
   rw[<-this];exact hc
 ·cases h
theorem Hr.append {b off:Nat} {xs ys:List Value} (h:Hr w b off xs) (k:Hr w b (off+xs.length) ys):Hr w b off (xs++ys):=by
 intro i x hx;by_cases hi:i<xs.length
 ·rw[List.getElem?_append_left hi] at hx;exact h i x hx
 ·rw[List.getElem?_append_right (by omega)] at hx;have:=k (i-xs.length) x hx;rw[show off+xs.length+(i-xs.length)=off+i by omega] at this;exact this
theorem Gj {t:TypeId} {k:IntKind} (ht:P.underlying t=some (.int k)):Gi P H w t Int (fun n=> [.int k n]) (fun n d=>(Lit.int k n).wf=true/\d= .lit (.int k n)):=by
 intro enc base sp held Cw cs d ps h;cases Cw with
 | zero=>simp [DataW.trod] at h
 | succ Cw=>
  unfold DataW.trod at h;rw[ht] at h;split at h<;>simp_all;obtain⟨⟨rfl,hw⟩,rfl,rfl⟩:=h;exact⟨_,⟨hw,rfl⟩,by simp [Br,Rel]⟩
theorem Bu7 {t:TypeId} (ht:P.underlying t=some .bool):Gi P H w t Bool (fun b=> [.bool b]) (fun b d=>d= .lit (.bool b)):=by
 intro enc base sp held Cw cs d ps h;cases Cw with
 | zero=>simp [DataW.trod] at h
 | succ Cw=>
  unfold DataW.trod at h;rw[ht] at h;split at h<;>try (simp_all;done)
  simp only[Option.some.injEq,Prod.mk.injEq] at h;obtain⟨rfl,rfl⟩:=h;exact⟨_,rfl,by simp [Br,Rel]⟩
theorem Ln {t:TypeId} (ht:P.underlying t=some .string):Gi P H w t (List UInt8) (fun s=> [.str s]) (fun s d=>s.length<=maxLen/\d= .lit (.string s)):=by
 intro enc base sp held Cw cs d ps h;cases Cw with
 | zero=>simp [DataW.trod] at h
 | succ Cw=>
  unfold DataW.trod at h;rw[ht] at h;split at h<;>simp_all
  rename_i s
  obtain⟨hl,rfl,rfl⟩:=h;exact⟨s.data.toList,⟨by simpa using hl,rfl⟩,by simp [Br,Rel]⟩
def Wg {α:Type} (g:α->DataW H->Prop):List α->List (DataW H)->Prop
 | [],[]=>True
 | x::xs,d::ds=>g x d/\Wg g xs ds
 | _,_=>False
theorem Wg.append {α:Type} {g:α->DataW H->Prop}: ∀ {xs ys:List α} {ds es:List (DataW H)},Wg g xs ds->Wg g ys es->Wg g (xs++ys) (ds++es)
 | [],_,[],_,_,k=>k
 | [],_,_::_,_,h,_=>h.elim
 | _::_,_,[],_,h,_=>h.elim
 | x::xs,ys,d::ds,es,h,k=>⟨h.1,Wg.append h.2 k⟩
theorem Iw {t e:TypeId} {α:Type} {f:α->List DVal} {g:α->DataW H->Prop} (ht:P.underlying t=some (.slice e)) (he:Gi P H w e α f g):
  Gi P H w t (List α) (fun xs=> [.vslice (xs.flatMap f) xs.length]) (fun xs d=>(d= .nil/\xs= [])\/ ∃es sp,d= .slice es sp/\xs.length<=maxLen/\Wg g xs es):=by
 intro enc base sp held Cw cs d ps h;rcases open_slice ht h with⟨rfl,hx⟩ | ⟨a,len,cap,m,n,D,Pl,rfl,hb,hl,hm,hmm,hx,hall⟩
 ·cases hx;exact⟨[], .inl ⟨rfl,rfl⟩,by simp [Br,Rel]⟩
 ·have hlm:len<=m:=by rw[hmm];split<;>omega
  simp only[Prod.mk.injEq] at hx;obtain⟨rfl,rfl⟩:=hx;have key: ∀k,k<=len-> ∃(xs:List α) (ys:List Value),xs.length=k/\Wg g xs ((List.range k).map D)/\ys.length=k*P.cellsOf e/\Hr w a.block a.off ys/\Br w (fun _=>none) (xs.flatMap f) ys:=by
   intro k
   induction k with
   | zero=>intro _;exact⟨[],[],rfl,trivial,by simp,fun i x hx=>by simp at hx,by simp [Br]⟩
   | succ k ih=>
    intro hk;obtain⟨xs,ys,h1,h2,h3,h4,h5⟩:=ih (by omega);obtain⟨cs',g1,g2⟩:=hall k (by omega);obtain⟨x,hg,hr⟩:=he _ _ _ _ _ _ _ _ g2;obtain⟨c1,c2⟩:=Zd g1;refine⟨xs++ [x],ys++cs',by simp [h1], ?_,by simp only[List.length_append,h3,c1,Nat.succ_mul],h4.append ?_, ?_⟩
    ·rw[List.range_succ,List.map_append];exact h2.append ⟨hg,trivial⟩
    ·rw[h3];have ha:(a.add (k*P.cellsOf e)).block=a.block/\(a.add (k*P.cellsOf e)).off=a.off+k*P.cellsOf e:=by
      unfold Addr.add;split
      ·rename_i h0;rw[h0];exact⟨rfl,rfl⟩
      ·exact⟨rfl,rfl⟩
     rw[ha.1,ha.2] at c2;exact c2
    ·rw[List.flatMap_append];simpa using h5.append hr
  obtain⟨xs,ys,h1,h2,h3,h4,h5⟩:=key len (Nat.le_refl _);refine⟨xs, .inr ⟨_,_,rfl,by omega,h2⟩, ?_⟩;have hrel:Rel w (fun _=>none) (.vslice (xs.flatMap f) xs.length) (.slice (some a) len cap):=by
   simp only[Rel];refine⟨some a,cap,by rw[h1],by omega, ?_⟩;cases hys:ys with
   | nil=>subst hys;left;exact List.eq_nil_of_length_eq_zero (by rw[h5.length];rfl)
   | cons y yr=>
    right;have h6:=h4 0 y (by rw[hys];rfl);have hpos:0<len/\0<P.cellsOf e:=by
     rw[hys] at h3;simp only[List.length_cons] at h3;constructor
     ·rcases Nat.eq_zero_or_pos len with h0 | h0
      ·subst h0;simp at h3
      ·exact h0
     ·rcases Nat.eq_zero_or_pos (P.cellsOf e) with h0 | h0
      ·rw[h0] at h3;simp at h3
      ·exact h0
    have hsp:a.spot=none:=by
     obtain⟨cs',g1,g2⟩:=hall 0 (by omega);unfold World.cells? at g1;split at g1
     ·obtain⟨_,m2⟩:=Om g1;obtain⟨z,_,hz⟩:=m2 0 0 (by simp [hpos.2]);have:(a.add (0*P.cellsOf e)).add 0=a:=by simp [Addr.add]
      rw[this] at hz;exact Xo hz
     ·cases g1
    refine⟨a.block,a.off,ys,by cases a;simp at hsp⊢;exact hsp, .inr ⟨rfl,h4⟩,h5⟩
  simp only[Br];exact⟨_,_,rfl,hrel,rfl⟩
end
end Go.Dl

-- THE READING, PART 3: a law's call at the data level, as the row wants it.
namespace Go.Dl
open Go Go.RowKit
section
variable {P:Program} {w:World}
theorem Ext.stands {w':World} {H':Bb} (h:Ext (fun _=>none) w H' w'):Uk w w':=fun b hb=>h.block b hb rfl
def Db4 (W w':World):Prop:=W.keptBut w' (fun _=>False)/\(∀a,a.block<W.heap.size->w'.frozen? a=W.frozen? a)/\W.heap.size<=w'.heap.size
theorem Db4.frame {W w':World} (h:Db4 W w') (may:MemPlace->Prop):W.keptBut w' may:=World.keptBut_mono (fun _ f=>f.elim) h.1
theorem Ext.grown {w':World} {H':Bb} (h:Ext (fun _=>none) w H' w'):Db4 w w':=by
 refine⟨⟨h.os,h.output,fun i hi=> ?_⟩,fun a ha=>h.fz a ha rfl,h.size⟩;rw[h.block i hi rfl];cases ho:w.heap[i]? with
 | none=>simp
 | some o=>cases o<;>simp
theorem Ay6 (w:World):Bw w (fun _=>none):=fun r o h=>by cases h
theorem Bh.row {G:Nat->DVal} {f:FuncId} {args:List DVal} {vs:Array Value} (h:Bh P G f args (fun _=>none) (fun e _=>e= .ret (.bool true))) (hv:Br w (fun _=>none) args vs.toList) (hG:GOk G w (fun _=>none)):
  Calls P f vs w fun e W'=>e= .returned (.bool true)/\Db4 w W'/\Uk w W':=by
 have:=h.2 vs.toList w hv (Ay6 w) hG;simp only[Array.toArray_toList] at this;refine this.mono fun e w' ⟨e',H',he,hr,_,hE⟩=> ?_;subst he;cases hr with
 | ret d v hv=>simp only[Rel] at hv;subst hv;exact⟨rfl,hE.grown,hE.stands⟩
theorem Br.cons {Hp:Bb} {d:DVal} {v:Value} {ds:List DVal} {vs:List Value} (h:Rel w Hp d v) (k:Br w Hp ds vs):Br w Hp (d::ds) (v::vs):=by
 simp only[Br];exact⟨v,vs,rfl,h,k⟩
end
end Go.Dl
namespace Go.ChangeShapes
open Go.WideShapes
section
variable {H:Type} {enc:TypeId×Value->H} {P:Program}
theorem Bk0 {f:Func} {s:ChangeSpec} {apart fresh handsOn Dl6:Bool} {W W':World} {args:Array Value} {v:Value} {ds gs:List (DataW H)} {before pa pv:List MemPlace}
  (hW:DataW.Whole enc P f.params.toList s.vars apart W args.toList ds gs before)
  (hres: ∀(b:Nat) (sp:Nat->Bool) (hd:Bool),DataW.TrodAll enc P W' b sp hd f.resultTypes.toList (v.resultList f.resultTypes.size) (s.fn H (ds++gs)).results [])
  (hargs: ∀sp:Nat->Bool,(∀p∈before,sp p.block=true)->DataW.TrodAll enc P W' 0 sp true f.params.toList args.toList (s.fn H (ds++gs)).args pa)
  (hvars: ∀sp:Nat->Bool,(∀p∈before,sp p.block=true)->DataW.TrodVars enc P W' sp s.vars (s.fn H (ds++gs)).vars pv)
  (hps:before=pa++pv) (hk:W.keptBut W' (· ∈before)) (hfz: ∀a,a.block<W.heap.size->W'.frozen? a=W.frozen? a)
  (hok: ∀(j:Nat) (t:TypeId) (r:Value),f.resultTypes[j]? =some t->(v.resultList f.resultTypes.size)[j]? =some r->Value.okWide P W' .any 0 t r):
  s.post enc P f apart fresh handsOn Dl6 W args v W':=by
 have hlt:=hW.lt;have hold: ∀p∈before,(fun b=>decide (b<W.heap.size)) p.block=true:=fun p hp=>by simpa using hlt p hp
 refine⟨ds,gs,before,[],pa,pv,hW,hres _ _ _,hargs _ hold,hvars _ hold,World.keptBut_mono (fun p hp=>⟨hp, .inr (List.mem_append.1 (hps▸hp))⟩) hk,fun _=> ?_⟩;obtain⟨_,_,_,_,_,hz,hn⟩:=hW;refine⟨hok,_,_,([]++pa)++pv,⟨[]++pa,pv,trodAll_append (hargs _ (fun _ _=>rfl)) (hres _ _ _),hvars _ (fun _ _=>rfl),rfl, ?_, ?_⟩, ?_⟩
 ·intro b off hp;have hp':MemPlace.cell b off∈before:=by rw[hps];simpa using hp
  exact(hfz _ (hlt _ hp')).trans (hz b off hp')
 ·intro ha;have:=hn ha;rw[hps] at this;simpa using this
 ·intro p hp _;rw[hps];simpa using hp
end
end Go.ChangeShapes

-- THE READING, PART 5: the bound on what is read, at plain data.
namespace Go.Dl
open Go Go.RowKit Go.Proofs.YtpkdkhoeaibpaaaGreatDoor
section
variable {H:Type}
theorem Bk1 (d:DataW H):1<=Rows.uptoBulk d:=by
 cases d
 case lit l=>cases l<;>simp only[Rows.uptoBulk]<;>omega
 all_goals simp only[Rows.uptoBulk]
 all_goals omega
theorem Bu8 {l:List (DataW H)} (h:Rows.uptoSmall H l=true):Rows.uptoBulkAll l<=1048576:=of_decide_eq_true h
theorem Bk2 {α:Type} {g:α->DataW H->Prop}: ∀ {xs:List α} {ds:List (DataW H)},Wg g xs ds->xs.length<=Rows.uptoBulkAll ds
 | [],[],_=>by simp
 | [],_::_,h=>h.elim
 | _::_,[],h=>h.elim
 | x::xs,d::ds,h=>by
  have:=Bk2 h.2;have:=Bk1 d;simp only[List.length_cons,Rows.uptoBulkAll];omega
def SlG {α:Type} (g:α->DataW H->Prop) (xs:List α) (d:DataW H):Prop:=(d= .nil/\xs= [])\/ ∃es sp,d= .slice es sp/\xs.length<=maxLen/\Wg g xs es
theorem Ca7 {α:Type} {g:α->DataW H->Prop} {xs:List α} {d:DataW H} (h:SlG g xs d):xs.length+1<=Rows.uptoBulk d:=by
 rcases h with⟨rfl,rfl⟩ | ⟨es,sp,rfl,_,h⟩
 ·simp [Rows.uptoBulk]
 ·have:=Bk2 h;simp only[Rows.uptoBulk];omega
end
section
end
end Go.Dl
