/- The data level and the contracts of the functions that are reached (part 3). -/
import Derived.Orders
import Derived.Test.YtddbdpcgikmiaaaGreatDoorProg
import Derived.KernelRfl
import Derived.Lib.ItoaMem
import Derived.Lib.ConvBytes
import Derived.Lib.LaidTab
import Derived.Lib.ItoaLen
import Derived.Lib.ParseIntBTie
import Derived.Test.YtddbdpcgikmiaaaGreatDoorPkb
set_option linter.unusedSimpArgs false
set_option linter.unusedVariables false
set_option linter.unusedSectionVars false
-- THE DATA LEVEL, PART Y: regions whose order is drawn: a plan takes operations that only compute as early as they may come; whatever order is drawn ends as the plan does.
namespace Go.Dl
open Go
def EVF (dst:Option Nat) (F:DK->DS->Prop):Prop:=
 ∀K s,F K s-> ∃d,Bb dst d K s/\ ∀K' s',Bb dst d K' s'->F K' s'
theorem Gc (dst:Option Nat) (d:DVal):EVF dst (Bb dst d):=fun K s h=>⟨d,h,fun K' s' h'=>h'⟩
theorem Hg (dst:Option Nat) {F:DK->DS->Prop} (h: ∀K s,¬F K s):EVF dst F:=fun K s hf=>(h K s hf).elim
theorem Bp {dst:Option Nat} {p:Prop} {F:DK->DS->Prop} (h:EVF dst F):EVF dst (fun K s=>p/\F K s):=fun K s ⟨hp,hf⟩=>by
 obtain⟨d,h1,h2⟩:=h K s hf;exact⟨d,h1,fun K' s' h'=>⟨hp,h2 K' s' h'⟩⟩
theorem Hw (dst:Option Nat) (o:Option DVal):EVF dst (Mz dst o):=by
 cases o with
 | none=>exact Hg _ fun K s h=>h
 | some d=>exact Gc dst d
theorem Dc1 (dst:Option Nat) (c a b:DVal):EVF dst (Aw5 dst c a b):=by
 intro K s h;revert h;unfold Aw5;split
 ·intro h;exact⟨_,h,fun _ _ h'=>h'⟩
 ·intro h;exact h.elim
theorem Cn3 (P:Program) (dst:Option Nat) (b:Bool) (t:Option TypeDesc) (z:Option DVal) (ps:List (Nat×DVal)):EVF dst (Ap4 P dst b t z ps):=by
 intro K s h;revert h;unfold Ap4;split
 ·intro h;exact Hw _ _ K s h
 ·intro h;exact Hw _ _ K s h
 ·intro h;exact h.elim
theorem Az9 (size:Nat) (dst:Option Nat) (ag:Option Bool) (cs:List DVal) (off:Nat):EVF dst (Zm size dst ag cs off):=by
 intro K s h;revert h;unfold Zm;split
 ·intro h;exact Bp (Gc _ _) K s h
 ·intro h;exact Hw _ _ K s h
 ·intro h;exact h.elim
theorem Cn4 (size:Nat) (ag:Option Bool) (dst:Option Nat) (off:Nat) (o:Option DObj):EVF dst (Ap5 size ag dst off o):=by
 intro K s h;revert h;unfold Ap5;split
 ·intro h;exact Az9 _ _ _ _ _ K s h
 ·intro h;exact h.elim
theorem Dc2 (size:Nat) (ag:Option Bool) (dst:Option Nat) (v:DVal) (K:DK) (s:DS) (h:Ak4 size ag dst v K s):
  ∃d,Bb dst d K s/\ ∀K' s',(∀r off,v= .optr r off->s'.heap r=s.heap r)->Bb dst d K' s'->Ak4 size ag dst v K' s':=by
 unfold Ak4 at h;split at h<;>try exact h.elim
 ·obtain⟨d,h1,h2⟩:=Az9 _ _ _ _ _ K s h;exact⟨d,h1,fun K' s' _ h'=>h2 K' s' h'⟩
 ·rename_i r off
  obtain⟨d,h1,h2⟩:=Cn4 _ _ _ _ _ K s h;exact⟨d,h1,fun K' s' hk h'=>by show Ap5 _ _ _ _ (s'.heap r) K' s';rw[hk r off rfl];exact h2 K' s' h'⟩
theorem Ba0 (dst:Option Nat) (v:DVal):EVF dst (Rb dst v):=by
 intro K s h;revert h;unfold Rb;split<;>intro h<;>first | exact h.elim | exact⟨_,h,fun _ _ h'=>h'⟩
theorem Bl7 (dst:Option Nat) (o b:Option Bool):EVF dst (Lk dst o b):=by
 intro K s h;revert h;unfold Lk;split<;>intro h<;>first | exact h.elim | exact⟨_,h,fun _ _ h'=>h'⟩
theorem Cd3 (k:IntKind) (a b:Int) (dst:Option Nat) (op:BinOp):EVF dst (fun K s=>Yw k a b dst K s op):=by
 intro K s h;revert h;unfold Yw;split<;>intro h<;>first | exact h.elim | exact⟨_,h,fun _ _ h'=>h'⟩ | exact⟨_,h.2,fun _ _ h'=>⟨h.1,h'⟩⟩
theorem Cn5 (k:IntKind) (a b:Int) (dst:Option Nat) (op:BinOp):EVF dst (fun K s=>Ap7 k a b dst K s op):=by
 intro K s h;revert h;unfold Ap7;split<;>intro h<;>first | exact h.elim | exact⟨_,h,fun _ _ h'=>h'⟩ | exact⟨_,h.2,fun _ _ h'=>⟨h.1,h'⟩⟩
theorem Cd4 (a b:List UInt8) (dst:Option Nat) (op:BinOp):EVF dst (fun K s=>Tl a b dst K s op):=by
 intro K s h;revert h;unfold Tl;split<;>intro h<;>first | exact h.elim | exact⟨_,h,fun _ _ h'=>h'⟩ | exact⟨_,h.2,fun _ _ h'=>⟨h.1,h'⟩⟩
theorem Dc3 (op:BinOp) (k k':IntKind) (a b:Int) (dst:Option Nat) (x:Bool):EVF dst (fun K s=>Bs7 op k k' a b dst K s x):=by
 cases x
 ·exact Bp (Cd3 k a b dst op)
 ·exact Cn5 k a b dst op
theorem Cn6 (P:Program) (t:TypeId) (c:Bool) (op:BinOp) (dst:Option Nat) (x y:DVal):EVF dst (Km P t c op dst x y):=by
 intro K s h;revert h;unfold Km;split
 ·intro h;exact Dc3 _ _ _ _ _ _ _ K s h
 ·intro h;exact Cd4 _ _ _ _ K s h
 ·intro h;exact Bp (Bp (Bl7 _ _ _)) K s h
 ·intro h;exact Bl7 _ _ _ K s h
theorem Du8 (dst:Option Nat) (op:UnOp) (x:DVal):EVF dst (dUn dst op x):=by
 intro K s h;revert h;unfold dUn;split<;>intro h<;>first | exact h.elim | exact⟨_,h,fun _ _ h'=>h'⟩
theorem Bl8 (dst:Option Nat) (a b:Option TypeDesc) (x:DVal):EVF dst (Tm dst a b x):=by
 intro K s h;revert h;unfold Tm;split<;>intro h<;>first | exact h.elim | exact⟨_,h,fun _ _ h'=>h'⟩
theorem As6 (t:TypeId) (x:DVal) (dst:Option Nat) (b:Bool):EVF dst (Nr t x dst b):=by
 intro K s h;revert h;unfold Nr;split<;>intro h<;>first | exact h.elim | exact⟨_,h,fun _ _ h'=>h'⟩
theorem Ba1 (l:List UInt8) (dst:Option Nat) (a b:Option Int):EVF dst (fun K s=>Vm l dst K s a b):=by
 cases a<;>cases b<;>first | exact Hg _ (fun K s h=>h) | exact Bp (Bp (Bp (Gc _ _)))
theorem Al3 (size:Nat) (cs:List DVal) (len:Nat) (dst:Option Nat) (a b:Option Int):EVF dst (fun K s=>Tn size cs len dst K s a b):=by
 cases a<;>cases b<;>first | exact Hg _ (fun K s h=>h) | exact Bp (Bp (Bp (Gc _ _)))
theorem Wa (size r off cap:Nat) (dst:Option Nat) (a b c:Option Int):EVF dst (fun K s=>Nu size r off cap dst K s a b c):=by
 cases a<;>cases b<;>cases c<;>first | exact Hg _ (fun K s h=>h) | exact Bp (Bp (Bp (Bp (Gc _ _))))
theorem Cd5 (dst:Option Nat) (a b:Option Int):EVF dst (fun K s=>Ap9 dst K s a b):=by
 cases a<;>cases b<;>first | exact Hg _ (fun K s h=>h) | exact Bp (Bp (Gc _ _))
theorem Cn7 (P:Program) (lo hi:Option DVal) (dst:Option Nat) (t:Option TypeDesc) (v:DVal) (m:Option DVal) (K:DK) (s:DS) (h:Vn P lo hi dst t v m K s):
  ∃d,Bb dst d K s/\ ∀K' s',(∀r off,v= .optr r off->s'.heap r=s.heap r)->Bb dst d K' s'->Vn P lo hi dst t v m K' s':=by
 have lift: ∀ {F:DK->DS->Prop},EVF dst F->F K s-> ∃d,Bb dst d K s/\ ∀K' s',(∀r off,v= .optr r off->s'.heap r=s.heap r)->Bb dst d K' s'->F K' s':=by
  intro F hF hf;obtain⟨d,h1,h2⟩:=hF K s hf;exact⟨d,h1,fun K' s' _ h'=>h2 K' s' h'⟩
 unfold Vn at h;split at h<;>try exact h.elim
 ·exact lift (Ba1 _ _ _ _) h
 ·exact lift (Bp (Cd5 _ _ _)) h
 ·exact lift (Bp (Al3 _ _ _ _ _ _)) h
 ·exact lift (Bp (Bp (Wa _ _ _ _ _ _ _ _))) h
 ·exact lift (Bp (Bp (Bp (Wa _ _ _ _ _ _ _ _)))) h
 ·rename_i n e r off
  obtain⟨h1,h2,h3⟩:=h;obtain⟨d,h4,h5⟩:=Wa _ _ _ _ _ _ _ _ K s h3;exact⟨d,h4,fun K' s' hk h'=>⟨h1,by rw[hk r off rfl];exact h2,h5 K' s' h'⟩⟩
 ·exact lift (Bp (Bp (Al3 _ _ _ _ _ _))) h
theorem Aj3 (P:Program) (x:DVal) (dst:Option Nat) (f:Option Field):EVF dst (Xp P x dst f):=by
 cases f with
 | none=>exact Hg _ (fun K s h=>h)
 | some f=>exact Bp (Hw _ _)
theorem As7 (P:Program) (f:Nat) (x:DVal) (dst:Option Nat) (t:Option TypeDesc):EVF dst (Lm P f x dst t):=by
 intro K s h;revert h;unfold Lm;split
 ·intro h;exact Aj3 _ _ _ _ K s h
 ·intro h;exact h.elim
theorem Bu1 (size:Nat) (cs:List DVal) (off:Nat) (dst:Option Nat) (b:Option Bool):EVF dst (Aw8 size cs off dst b):=by
 intro K s h;revert h;unfold Aw8;split
 ·intro h;exact Gc _ _ K s h
 ·intro h;exact Hw _ _ K s h
 ·intro h;exact h.elim
theorem Cd6 (P:Program) (cs:List DVal) (dst:Option Nat) (f:Option Field):EVF dst (Bt0 P cs dst f):=by
 cases f with
 | none=>exact Hg _ (fun K s h=>h)
 | some f=>exact Bu1 _ _ _ _ _
theorem Cn8 (P:Program) (f:Nat) (dst:Option Nat) (t:Option TypeDesc) (x:DVal):EVF dst (Zn P f dst t x):=by
 intro K s h;revert h;unfold Zn;split
 ·intro h;exact Cd6 _ _ _ _ K s h
 ·intro h;exact h.elim
theorem As8 (P:Program) (dst:Option Nat) (t:Option TypeDesc) (x i:DVal):EVF dst (Ln P dst t x i):=by
 intro K s h;revert h;unfold Ln;split
 ·intro h;exact Bp (Bp (Bp (Bp (Gc _ _)))) K s h
 ·intro h;exact Bp (Bp (Bp (Gc _ _))) K s h
 ·intro h;exact Bp (Bp (Bp (Hw _ _))) K s h
 ·intro h;exact h.elim
theorem Cn9 (P:Program) (dst:Option Nat) (t:Option TypeDesc) (x i:DVal):EVF dst (Zo P dst t x i):=by
 intro K s h;revert h;unfold Zo;split
 ·intro h;exact Bp (Bp (Bu1 _ _ _ _ _)) K s h
 ·intro h;exact Bp (Hw _ _) K s h
 ·intro h;exact h.elim
theorem Bl9 (i:Nat) (dst:Option Nat) (x:DVal):EVF dst (To i dst x):=by
 intro K s h;revert h;unfold To;split
 ·intro h;exact Hw _ _ K s h
 ·intro h;exact h.elim
theorem Ab2 (dst:Option Nat) (z:Option DVal):EVF dst (Zp dst z):=by
 cases z with
 | none=>exact Hg _ (fun K s h=>h)
 | some z=>exact Gc _ _
theorem Ba2 (v:DVal) (z:Option DVal) (dst:Option Nat) (a b:Bool):EVF dst (Vo v z dst a b):=by
 cases a<;>cases b
 ·exact Hg _ (fun K s h=>h)
 ·exact Gc _ _
 ·exact Ab2 _ _
 ·exact Gc _ _
theorem Aj4 (P:Program) (t:TypeId) (ok:Bool) (dst:Option Nat) (b:Bool) (x:DVal):EVF dst (Kg P t ok dst b x):=by
 intro K s h;revert h;unfold Kg;split
 ·intro h;exact Ba2 _ _ _ _ _ K s h
 ·intro h;exact Bp (Ab2 _ _) K s h
 ·intro h;exact h.elim
theorem Do8 (dst:Option Nat) (t:Option TypeDesc) (x:DVal):EVF dst (dLen dst t x):=by
 intro K s h;revert h;unfold dLen;split<;>intro h<;>first | exact h.elim | exact⟨_,h,fun _ _ h'=>h'⟩
theorem Co0 (P:Program) (x:DVal) (dst:Option Nat) (ts:List TypeId):EVF dst (Bh6 P x dst ts):=by
 intro K s h;revert h;unfold Bh6;split
 ·intro h;exact Do8 _ _ _ K s h
 ·intro h;exact h.elim
def Mq:Op->Bool
 | .move _ | .assign _ | .pick _ _ _ | .build _ _ | .load _ _ | .nilCheck _ | .unOp _ _ _ | .convert _ _ _ | .makeInterface _ _ | .makeFunc _ _ _
 | .slice _ _ _ _ _ | .fieldAddr _ _ _ | .field _ _ _ | .indexAddr _ _ _ | .index _ _ _ | .typeAssert _ _ _ _ | .extract _ _=>true
 | .binOp _ _ _ y _=>!Fu y
 | .call c=>match c.callee with
  | .builtin .len | .builtin .min | .builtin .max=>true
  | _=>false
 | _=>false
def As9:Op->Option Operand
 | .load _ a=>some a
 | .slice _ x _ _ _=>some x
 | .convert _ _ x=>some x
 | _=>none
def Hs (H H':Ab):DVal->Prop
 | .optr r _=>H' r=H r
 | .oslice _ r _ _ _=>H' r=H r
 | _=>True
theorem Fy {H:Ab} {v:DVal}:Hs H H v:=by
 unfold Hs;split<;>trivial
theorem Hs.ptr {H H':Ab} {d:DVal} (h:Hs H H' d): ∀r off,d= .optr r off->H' r=H r:=fun r off e=>by subst e;exact h
def Ba3 (G:Nat->DVal) (s s':DS) (op:Op):Prop:= ∀a,As9 op=some a->Hs s.heap s'.heap (dev G s.env a)
theorem Ba4 {H H':Ab} {x:DVal} (h:Hs H H' x):Sc H' x=Sc H x:=by
 unfold Sc;split<;>try rfl
 simp only[Hs] at h;rw[h]
theorem Co1 (P:Program) (dst:Option Nat) (a b:Option TypeDesc) (x:DVal) (K:DK) (s:DS) (h:Ps P dst a b x K s):
  ∃d,Bb dst d K s/\ ∀K' s',Hs s.heap s'.heap x->Bb dst d K' s'->Ps P dst a b x K' s':=by
 revert h;unfold Ps;split
 ·rintro⟨h1,h⟩;cases hb:(Sc s.heap x).bind Rq with
  | none=>rw[hb] at h;exact h.elim
  | some l=>
   rw[hb] at h;exact⟨_,h,fun K' s' hk h'=>⟨h1,by rw[Ba4 hk,hb];exact h'⟩⟩
 ·intro h;obtain⟨d,h1,h2⟩:=Bl8 _ _ _ _ K s h;exact⟨d,h1,fun K' s' _ h'=>h2 K' s' h'⟩
theorem Lu {G:Nat->DVal} {env env':Nat->DVal}: ∀ {xs:List Operand},(∀x∈xs,dev G env' x=dev G env x)->El G env' xs=El G env xs
 | [],_=>rfl
 | x::xs,h=>by
  simp only[El];rw[h x (by simp),Lu fun y hy=>h y (by simp [hy])]
theorem Oc {G:Nat->DVal} {env env':Nat->DVal}: ∀ {xs:List (Nat×Operand)},(∀x∈xs.map (·.2),dev G env' x=dev G env x)->Hq G env' xs=Hq G env xs
 | [],_=>rfl
 | (i,x)::xs,h=>by
  simp only[Hq];rw[h x (by simp),Oc fun y hy=>h y (by simp at hy⊢;exact .inr hy)]
theorem Od {G:Nat->DVal} {env env':Nat->DVal} {x:Option Operand} (h: ∀y∈x.toArray,dev G env' y=dev G env y):Kn G env' x=Kn G env x:=by
 cases x with
 | none=>rfl
 | some x=>simp only[Kn];rw[h x (by simp)]
def Mr (all:List Oper) (env:Nat->DVal) (o:Oper):Option Bool:=
 match o.guard with
 | none=>some true
 | some (j,b)=>match Ml all j with
  | some g=>match env g with
   | .bool v=>some (v==b)
   | .tuple []=>some false
   | _=>none
  | none=>none
end Go.Dl

-- THE DATA LEVEL, PART Z: an operation hangs on its operands alone.
namespace Go.Dl
open Go
section
variable {P:Program} {G:Nat->DVal}
theorem Sl {dst:Option Nat} {K:DK} {Q:DExit->DS->Prop} {s:DS} (op:Op) (he:Mq op=true) (h:dop P G dst K Q s op):
  ∃d,Bb dst d K s/\ ∀Q' K' s',(∀x∈op.operands,dev G s'.env x=dev G s.env x)->Ba3 G s s' op->Bb dst d K' s'->dop P G dst K' Q' s' op:=by
 have lift: ∀ {F:DK->DS->Prop},EVF dst F->F K s->(∀K' s',(∀x∈op.operands,dev G s'.env x=dev G s.env x)-> ∀Q',F K' s'->dop P G dst K' Q' s' op)->
   ∃d,Bb dst d K s/\ ∀Q' K' s',(∀x∈op.operands,dev G s'.env x=dev G s.env x)->Ba3 G s s' op->Bb dst d K' s'->dop P G dst K' Q' s' op:=by
  intro F hF hf hT;obtain⟨d,h1,h2⟩:=hF K s hf;exact⟨d,h1,fun Q' K' s' ha _ h'=>hT K' s' ha Q' (h2 K' s' h')⟩
 cases op<;>simp only[Mq] at he<;>try (cases he;done)
 case move x=>exact lift (Gc _ _) h fun K' s' ha Q' h'=>by simp only[dop];rw[ha x (by simp [Op.operands])];exact h'
 case assign x=>exact lift (Gc _ _) h fun K' s' ha Q' h'=>by simp only[dop];rw[ha x (by simp [Op.operands])];exact h'
 case pick c a b=>exact lift (Dc1 _ _ _ _) h fun K' s' ha Q' h'=>by simp only[dop];rw[ha c (by simp [Op.operands]),ha a (by simp [Op.operands]),ha b (by simp [Op.operands])];exact h'
 case build t ps=>
  exact lift (Cn3 _ _ _ _ _ _) h fun K' s' ha Q' h'=>by
   simp only[dop];rw[Oc (env:=s.env) (fun x hx=>ha x (by simpa [Op.operands] using hx))];exact h'
 case load t a=>
  obtain⟨d,h1,h2⟩:=Dc2 _ _ _ _ K s h;exact⟨d,h1,fun Q' K' s' ha hk h'=>by simp only[dop];rw[ha a (by simp [Op.operands])];exact h2 K' s' (hk a rfl).ptr h'⟩
 case nilCheck x=>exact lift (Ba0 _ _) h fun K' s' ha Q' h'=>by simp only[dop];rw[ha x (by simp [Op.operands])];exact h'
 case binOp op t x y _=>
  have hn:Fu y=false:=by simpa using he
  simp only[dop,hn,Mm] at h;exact lift (Cn6 _ _ _ _ _ _ _) h fun K' s' ha Q' h'=>by simp only[dop,hn,Mm];rw[ha x (by simp [Op.operands]),ha y (by simp [Op.operands])];exact h'
 case unOp op t x=>exact lift (Du8 _ _ _) h fun K' s' ha Q' h'=>by simp only[dop];rw[ha x (by simp [Op.operands])];exact h'
 case convert a t x=>
  obtain⟨d,h1,h2⟩:=Co1 _ _ _ _ _ K s h;exact⟨d,h1,fun Q' K' s' ha hk h'=>by simp only[dop];rw[ha x (by simp [Op.operands])];exact h2 K' s' (hk x rfl) h'⟩
 case makeInterface t x=>exact lift (As6 _ _ _ _) h fun K' s' ha Q' h'=>by simp only[dop];rw[ha x (by simp [Op.operands])];exact h'
 case makeFunc fn fs cs=>
  exact lift (Gc _ _) h fun K' s' ha Q' h'=>by
   simp only[dop];rw[Lu (env:=s.env) (xs:=fs.toList) (fun x hx=>ha x (by simp at hx;simp [Op.operands,hx])),Lu (env:=s.env) (xs:=cs.toList) (fun x hx=>ha x (by simp at hx;simp [Op.operands,hx]))];exact h'
 case slice t x lo hi mx=>
  obtain⟨d,h1,h2⟩:=Cn7 _ _ _ _ _ _ _ K s h;exact⟨d,h1,fun Q' K' s' ha hk h'=>by
   simp only[dop];rw[ha x (by simp [Op.operands]),Od (x:=lo) (env:=s.env) (fun y hy=>ha y (by simp at hy;simp [Op.operands,hy])),Od (x:=hi) (env:=s.env) (fun y hy=>ha y (by simp at hy;simp [Op.operands,hy])),Od (x:=mx) (env:=s.env) (fun y hy=>ha y (by simp at hy;simp [Op.operands,hy]))];exact h2 K' s' (hk x rfl).ptr h'⟩
 case fieldAddr t x f=>exact lift (As7 _ _ _ _ _) h fun K' s' ha Q' h'=>by simp only[dop];rw[ha x (by simp [Op.operands])];exact h'
 case field t x f=>exact lift (Cn8 _ _ _ _ _) h fun K' s' ha Q' h'=>by simp only[dop];rw[ha x (by simp [Op.operands])];exact h'
 case indexAddr t x i=>exact lift (As8 _ _ _ _ _) h fun K' s' ha Q' h'=>by simp only[dop];rw[ha x (by simp [Op.operands]),ha i (by simp [Op.operands])];exact h'
 case index t x i=>exact lift (Cn9 _ _ _ _ _) h fun K' s' ha Q' h'=>by simp only[dop];rw[ha x (by simp [Op.operands]),ha i (by simp [Op.operands])];exact h'
 case typeAssert x t u ok=>exact lift (Aj4 _ _ _ _ _ _) h fun K' s' ha Q' h'=>by simp only[dop];rw[ha x (by simp [Op.operands])];exact h'
 case extract x i=>exact lift (Bl9 _ _ _) h fun K' s' ha Q' h'=>by simp only[dop];rw[ha x (by simp [Op.operands])];exact h'
 case call c=>
  have hargs: ∀s':DS,(∀x∈(Op.call c).operands,dev G s'.env x=dev G s.env x)->El G s'.env c.args.toList=El G s.env c.args.toList:=by
   intro s' ha;exact Lu fun x hx=>ha x (by simp at hx;simp [Op.operands,Call.operands,hx])
  simp only[dop] at h⊢
  cases hc:c.callee with
  | value f=>rw[hc] at he;cases he
  | invoke r m=>rw[hc] at he;cases he
  | builtin b=>
   rw[hc] at h he;simp only[Nv] at h⊢
   cases b<;>simp only at he<;>try (cases he;done)
   case len=>
    cases hx:El G s.env c.args.toList with
    | nil=>rw[hx] at h;exact h.elim
    | cons x xs=>
     cases xs with
     | cons y ys=>rw[hx] at h;exact h.elim
     | nil=>
      rw[hx] at h;obtain⟨d,h1,h2⟩:=Co0 P x dst c.argTypes.toList K s h;exact⟨d,h1,fun Q' K' s' ha _ h'=>by rw[hargs s' ha,hx];exact h2 K' s' h'⟩
   case min=>
    obtain⟨d,h1,h2⟩:=Hw dst (Re false (El G s.env c.args.toList)) K s h;exact⟨d,h1,fun Q' K' s' ha _ h'=>by rw[hargs s' ha];exact h2 K' s' h'⟩
   case max=>
    obtain⟨d,h1,h2⟩:=Hw dst (Re true (El G s.env c.args.toList)) K s h;exact⟨d,h1,fun Q' K' s' ha _ h'=>by rw[hargs s' ha];exact h2 K' s' h'⟩
theorem Cd7 {dst:Option Nat} {K K':DK} {Q Q':DExit->DS->Prop} {s s':DS} (op:Op) (ha: ∀x∈op.operands,dev G s'.env x=dev G s.env x) (hh:s'.heap=s.heap)
  (hK: ∀d h,K ⟨Ep s.env dst d,h⟩->K' ⟨Ep s'.env dst d,h⟩) (hQ: ∀v h,Q (.panic v) ⟨s.env,h⟩->Q' (.panic v) ⟨s'.env,h⟩)
  (h:dop P G dst K Q s op):dop P G dst K' Q' s' op:=by
 by_cases he:Mq op=true
 ·obtain⟨d,h1,h2⟩:=Sl op he h;refine h2 Q' K' s' ha (fun a _=>by rw[hh];exact Fy) ?_;show K' ⟨Ep s'.env dst d,s'.heap⟩;rw[hh];exact hK _ _ h1
 ·have newP: ∀ {cs e},Ak3 cs e dst K s->Ak3 cs e dst K' s':=fun hn r hr=>by
   rw[hh] at hr⊢;exact hK _ _ (hn r hr)
  have newS: ∀ {cs e sz l c},Zk cs e sz l c dst K s->Zk cs e sz l c dst K' s':=fun hn r hr=>by
   rw[hh] at hr⊢;exact hK _ _ (hn r hr)
  have panic: ∀ {x},Se Q s x->Se Q' s' x:=by
   intro x hx;unfold Se at hx⊢
   split at hx<;>try exact hx.elim
   have:=hQ _ _ hx;rw[<-hh] at this;exact this
  cases op<;>(try exact(he rfl).elim)<;>(try exact h.elim)
  case binOp op t x y t'=>
   have hn:Fu y=true:=by
    simp only[Mq] at he;cases hy:Fu y with
    | true=>rfl
    | false=>rw[hy] at he;exact absurd rfl he
   simp only[dop] at h⊢
   rw[ha x (by simp [Op.operands]),ha y (by simp [Op.operands])];rw[hn] at h⊢
   generalize dev G s.env x=dx at h⊢
   generalize dev G s.env y=dy at h⊢
   have put: ∀d,Bb dst d K s->Bb dst d K' s':=fun d h=>by unfold Bb at*;rw[hh];exact hK _ _ h
   have rest:Km P t (Fa x || Fa y) op dst dx dy K s->Km P t (Fa x || Fa y) op dst dx dy K' s':=fun h=>by
    obtain⟨d,h1,h2⟩:=Cn6 _ _ _ _ _ _ _ K s h;exact h2 K' s' (put d h1)
   cases dx<;>first | exact rest h | skip
   simp only[Xn] at h⊢
   refine⟨h.1,fun b hb=> ?_⟩;obtain⟨d,h1,h2⟩:=Bl7 _ _ _ K s (h.2 b hb);exact h2 K' s' (put d h1)
  case range t x=>
   simp only[dop] at h⊢
   rw[ha x (by simp [Op.operands])];generalize P.underlying t=u at h⊢
   generalize dev G s.env x=dx at h⊢
   unfold Ap8 at h⊢
   split at h<;>try exact h.elim
   exact fun r hr=>by rw[hh] at hr⊢;exact hK _ _ (h r hr)
  case next x b=>
   simp only[dop] at h⊢
   rw[ha x (by simp [Op.operands])];generalize dev G s.env x=dx at h⊢
   unfold Bs9 at h⊢
   split at h<;>try exact h.elim
   rw[hh];unfold Bh5 at h⊢
   split at h<;>try exact h.elim
   refine⟨fun hp=>by rw[hh];exact hK _ _ (h.1 hp),fun hp=> ?_⟩;have:=h.2 hp;unfold Bb at*;rw[hh];exact hK _ _ this
  case makeMap t r=>
   simp only[dop] at h⊢
   rw[Od (x:=r) (env:=s.env) (fun y hy=>ha y (by simp at hy;simp [Op.operands,hy]))];generalize P.underlying t=u at h⊢
   generalize Kn G s.env r=v at h⊢
   unfold Pw at h⊢
   split at h<;>try exact h.elim
   all_goals exact fun r hr=>by rw[hh] at hr⊢;exact hK _ _ (h r hr)
  case lookup t x k ok=>
   simp only[dop] at h⊢
   rw[ha x (by simp [Op.operands]),ha k (by simp [Op.operands])];generalize P.underlying t=u at h⊢
   generalize dev G s.env x=dx at h⊢
   generalize dev G s.env k=dk at h⊢
   have put: ∀d,Bb dst d K s->Bb dst d K' s':=fun d h=>by unfold Bb at*;rw[hh];exact hK _ _ h
   have hF: ∀es z r,Zt es ok dst z r K s->Zt es ok dst z r K' s':=fun es z r h=>by
    unfold Zt at h⊢
    split at h<;>try exact h.elim
    ·obtain⟨p,h1,h2⟩:=h;exact⟨p,h1,put _ h2⟩
    ·exact put _ h
   unfold Yz at h⊢
   split at h<;>try exact h.elim
   ·refine⟨h.1, ?_⟩;have h2:=h.2;rw[hh];generalize s.heap _=ob at h2⊢
    unfold Bh8 at h2⊢
    split at h2<;>try exact h2.elim
    exact hF _ _ _ h2
   ·exact⟨h.1,hF _ _ _ h.2⟩
  case mapUpdate t m k x=>
   simp only[dop] at h⊢
   rw[ha m (by simp [Op.operands]),ha k (by simp [Op.operands]),ha x (by simp [Op.operands])];generalize P.underlying t=u at h⊢
   generalize dev G s.env m=dm at h⊢
   generalize dev G s.env k=dk at h⊢
   generalize dev G s.env x=dx at h⊢
   unfold Rc at h⊢
   split at h<;>try exact h.elim
   obtain⟨h1,h2,h3⟩:=h;refine⟨h1,h2, ?_⟩;rw[hh];generalize s.heap _=ob at h3⊢
   unfold Zs at h3⊢
   split at h3<;>try exact h3.elim
   refine⟨h3.1, ?_⟩;have h4:=h3.2;unfold Tr at h4⊢
   split at h4<;>try exact h4.elim
   subst h1;rw[hh];exact hK Cr _ h4
  case insert t m k x=>
   simp only[dop] at h⊢
   rw[ha m (by simp [Op.operands]),ha k (by simp [Op.operands]),ha x (by simp [Op.operands])];generalize P.underlying t=u at h⊢
   generalize dev G s.env m=dm at h⊢
   generalize dev G s.env k=dk at h⊢
   generalize dev G s.env x=dx at h⊢
   unfold Rc at h⊢
   split at h<;>try exact h.elim
   obtain⟨h1,h2,h3⟩:=h;refine⟨h1,h2, ?_⟩;rw[hh];generalize s.heap _=ob at h3⊢
   unfold Zs at h3⊢
   split at h3<;>try exact h3.elim
   refine⟨h3.1, ?_⟩;have h4:=h3.2;unfold Tr at h4⊢
   split at h4<;>try exact h4.elim
   subst h1;rw[hh];exact hK Cr _ h4
  case alloc e=>
   simp only[dop] at h⊢
   generalize Bm P e=z at h⊢
   cases z with
   | none=>exact h.elim
   | some z=>exact newP h
  case box e x=>simp only[dop] at h⊢;rw[ha x (by simp [Op.operands])];exact newP h
  case buildSlice t n ps=>
   simp only[dop] at h⊢
   rw[Oc (env:=s.env) (fun x hx=>ha x (by simpa [Op.operands] using hx))];generalize Hq G s.env ps.toList=qs at h⊢
   generalize P.underlying t=u at h⊢
   unfold Mj at h⊢
   split at h<;>try exact h.elim
   show Tk _ _ _ _ _ _ _ _;generalize Bm P _=z at h⊢
   cases z with
   | none=>exact h.elim
   | some z=>
    obtain⟨h1,h2,h3⟩:=h;refine⟨h1,h2, ?_⟩;generalize Ox _ _ _=f at h3⊢
    cases f with
    | none=>exact h3.elim
    | some f=>exact newS h3
  case store t a x=>
   simp only[dop] at h⊢
   obtain⟨h1,h2⟩:=h;refine⟨h1, ?_⟩;rw[ha a (by simp [Op.operands]),ha x (by simp [Op.operands])];generalize dev G s.env a=va at h2⊢
   generalize dev G s.env x=vx at h2⊢
   unfold Ap6 at h2⊢
   split at h2<;>try exact h2.elim
   rename_i hx0 hx1 hx2 hx3
   rw[hh];generalize s.heap _=ob at h2⊢
   unfold Bs3 at h2⊢
   split at h2<;>try exact h2.elim
   obtain⟨g1,g2,g3,g4⟩:=h2;refine⟨g1,g2,g3, ?_⟩;rw[hh];exact hK Cr _ g4
  case makeSlice t l c=>
   simp only[dop] at h⊢
   rw[ha l (by simp [Op.operands]),ha c (by simp [Op.operands])];generalize dev G s.env l=vl at h⊢
   generalize dev G s.env c=vc at h⊢
   generalize P.underlying t=u at h⊢
   unfold Ns at h⊢
   split at h<;>try exact h.elim
   show Xo _ _ _ _ _ _ _ _ _;generalize Bm P _=z at h⊢
   cases z with
   | none=>exact h.elim
   | some z=>
    obtain⟨h1,h2,h3,h4,h5,h6,h7⟩:=h;exact⟨h1,h2,h3,h4,h5,h6,newS h7⟩
  case panic x=>simp only[dop] at h⊢;rw[ha x (by simp [Op.operands])];exact panic h
  case call c=>
   have hargs:El G s'.env c.args.toList=El G s.env c.args.toList:=
    Lu fun x hx=>ha x (by simp at hx;simp [Op.operands,Call.operands,hx])
   simp only[dop] at h⊢
   cases hc:c.callee with
   | invoke r m=>rw[hc] at h;exact h.elim
   | value f=>
    rw[hc] at h;simp only[Nv] at h⊢
    rw[hargs,ha f (by simp [Op.operands,Call.operands,hc])];generalize dev G s.env f=vf at h⊢
    unfold Zw at h⊢
    split at h<;>try exact h.elim
    all_goals
     rw[hh];refine h.mono ?_;intro e H' hr;cases e with
     | ret v=>exact hK _ _ hr
     | panic v=>exact hQ _ _ hr
   | builtin b=>
    rw[hc] at h;simp only[Nv] at h⊢
    rw[hargs];generalize El G s.env c.args.toList=vs at h⊢
    cases b<;>(try (cases vs<;>exact h.elim))<;>(try (exfalso;refine he ?_;simp [Mq,hc];done))
    case cap=>
     cases vs with
     | nil=>exact h.elim
     | cons x vs=> ?_
     cases vs with
     | cons z vs=>exact h.elim
     | nil=> ?_
     simp only[Hv] at h⊢
     generalize c.argTypes.toList=ts at h⊢
     unfold Ck6 at h⊢
     split at h<;>try exact h.elim
     show Ck5 _ _ _ _ _;generalize P.underlying _=u at h⊢
     unfold Ck5 at h⊢
     split at h<;>try exact h.elim
     ·show K' ⟨_,s'.heap⟩;rw[hh];exact hK _ _ h
     ·intro c hc;show K' ⟨_,s'.heap⟩;rw[hh];exact hK _ _ (h c hc)
     ·intro c hc hc';show K' ⟨_,s'.heap⟩;rw[hh];exact hK _ _ (h c hc hc')
    case clear=>
     cases vs with
     | nil=>exact h.elim
     | cons x vs=> ?_
     cases vs with
     | cons z vs=>exact h.elim
     | nil=> ?_
     simp only[Hv] at h⊢
     generalize c.argTypes.toList=ts at h⊢
     unfold Ax0 at h⊢
     split at h<;>try exact h.elim
     show Zr _ _ _ _ _ _;generalize P.underlying _=u at h⊢
     unfold Zr at h⊢
     split at h<;>try exact h.elim
     generalize Bm _ _=zo at h⊢
     unfold Aq0 at h⊢
     split at h<;>try exact h.elim
     ·show K' ⟨_,s'.heap⟩;rw[hh];exact hK _ _ h
     ·refine⟨h.1,h.2.1, ?_⟩;have h2:=h.2.2;rw[hh];generalize s.heap _=ob at h2⊢
      unfold Bt1 at h2⊢
      split at h2<;>try exact h2.elim
      refine⟨h2.1,h2.2.1,h2.2.2.1, ?_⟩;rw[hh];exact hK _ _ h2.2.2.2
    case delete=>
     cases vs with
     | nil=>exact h.elim
     | cons x vs=> ?_
     cases vs with
     | nil=>exact h.elim
     | cons y vs=> ?_
     cases vs with
     | cons z vs=>exact h.elim
     | nil=> ?_
     simp only[Hv] at h⊢
     generalize c.argTypes.toList=ts at h⊢
     unfold Ak7 at h⊢
     split at h<;>try exact h.elim
     show Ts _ _ _ _ _ _ _;generalize P.underlying _=u at h⊢
     unfold Ts at h⊢
     split at h<;>try exact h.elim
     refine⟨h.1, ?_⟩;have h2:=h.2;rw[hh];generalize s.heap _=ob at h2⊢
     unfold Zv at h2⊢
     split at h2<;>try exact h2.elim
     unfold Zu at h2⊢
     split at h2<;>try exact h2.elim
     rw[hh];exact hK _ _ h2
    case append=>
     cases vs with
     | nil=>exact h.elim
     | cons x vs=> ?_
     cases vs with
     | nil=>exact h.elim
     | cons y vs=> ?_
     cases vs with
     | cons z vs=>exact h.elim
     | nil=> ?_
     simp only[Hv] at h⊢
     generalize c.argTypes.toList=ts at h⊢
     unfold Vq at h⊢
     split at h<;>try exact h.elim
     show Tq _ _ _ _ _ _ _ _ _;generalize Jo _=it at h⊢
     cases it with
     | true=>
      simp only[Tq] at h⊢
      generalize P.underlying _=u at h⊢
      unfold Tp at h⊢
      split at h<;>try exact h.elim
      generalize Bm _ _=zo at h⊢
      unfold Zq at h⊢
      split at h<;>try exact h.elim
      refine⟨h.1,h.2.1,fun hn=> ?_,fun hn=>⟨(h.2.2.2 hn).1,(h.2.2.2 hn).2.1,(h.2.2.2 hn).2.2.1,newS (h.2.2.2 hn).2.2.2⟩⟩;have:=h.2.2.1 hn;show K' ⟨_,s'.heap⟩;rw[hh];exact hK _ _ this
     | false=> ?_
     simp only[Tq] at h⊢
     generalize Vp _=u' at h⊢
     generalize P.underlying _=u at h⊢
     unfold Yy at h⊢
     split at h<;>try exact h.elim
     obtain⟨g1,g2,g3,g4,g5,g6⟩:=h;refine⟨g1,g2,g3,g4,g5, ?_⟩;rw[hh];generalize Pt _ _ _=sc at g6⊢
     unfold Aw9 at g6⊢
     split at g6<;>try exact g6.elim
     obtain⟨k1,k2,k3⟩:=g6;refine⟨k1,k2, ?_⟩;unfold Jn at k3⊢
     split at k3<;>try exact k3.elim
     ·refine⟨fun hn=> ?_,fun hn=>⟨(k3.2 hn).1,newS (k3.2 hn).2⟩⟩;have:=k3.1 hn;show K' ⟨_,s'.heap⟩;rw[hh];exact hK _ _ this
     ·refine⟨k3.1, ?_⟩;have k4:=k3.2;rw[hh];generalize s.heap _=ob at k4⊢
      unfold Lo at k4⊢
      split at k4<;>try exact k4.elim
      obtain⟨m1,m2,m3⟩:=k4;refine⟨m1,fun hl=>⟨(m2 hl).1, ?_⟩,fun hl=>⟨(m3 hl).1,(m3 hl).2.1,fun r' pre hr hp=> ?_⟩⟩
      ·rw[hh];exact hK _ _ (m2 hl).2
      ·rw[hh] at hr⊢;exact hK _ _ ((m3 hl).2.2 r' pre hr hp)
    case panic=>
     cases vs with
     | nil=>exact h.elim
     | cons x xs=>cases xs with
      | nil=>exact panic h
      | cons y ys=>exact h.elim
end
end Go.Dl

-- THE DATA LEVEL, PART 1: plans of regions whose order is drawn.
namespace Go.Dl
open Go
inductive Plan where
 | done
 | take (i:Nat) (p:Plan)
 | go (i:Nat) (ls:List Nat) (p:Plan)
 | alt (p q:Plan)
 deriving Inhabited
def En:List Oper->Nat->Option Oper
 | [],_=>none
 | o::_,0=>some o
 | _::r,n+1=>En r n
def Ub (P:Program) (G:Nat->DVal) (K:DK) (Q:DExit->DS->Prop) (dst:Option Nat) (op:Op) (s:DS):Bool->DVal->Prop
 | true, .bool true=>dop P G dst K Q s op
 | true, .bool false=>Bb dst Cr K s
 | false, .bool true=>Bb dst Cr K s
 | false, .bool false=>dop P G dst K Q s op
 | true, .tuple []=>Bb dst Cr K s
 | false, .tuple []=>Bb dst Cr K s
 | _,_=>False
def Uc (P:Program) (G:Nat->DVal) (K:DK) (Q:DExit->DS->Prop) (dst:Option Nat) (op:Op) (s:DS) (b:Bool):Option Nat->Prop
 | some g=>Ub P G K Q dst op s b (s.env g)
 | none=>False
def Do9 (P:Program) (G:Nat->DVal) (all:List Oper) (K:DK) (Q:DExit->DS->Prop) (s:DS) (dst:Option Nat) (op:Op):Option (Nat×Bool)->Prop
 | none=>dop P G dst K Q s op
 | some (j,b)=>Uc P G K Q dst op s b (Ml all j)
def dAt (P:Program) (G:Nat->DVal) (all:List Oper) (K:DK) (Q:DExit->DS->Prop) (s:DS):Option Oper->Prop
 | some o=>Do9 P G all K Q s o.dst o.op o.guard
 | none=>False
def Co2 (G:Nat->DVal) (s:DS) (H':Ab):Option Operand->Prop
 | some a=>Hs s.heap H' (dev G s.env a)
 | none=>True
def Ud:Option Oper->Option Operand
 | some o=>As9 o.op
 | none=>none
def Co3 (G:Nat->DVal) (all:List Oper) (s:DS) (H':Ab):List Nat->Prop
 | []=>True
 | l::ls=>Co2 G s H' (Ud (En all l))/\Co3 G all s H' ls
def Co4 (G:Nat->DVal) (all:List Oper) (ls:List Nat) (s:DS) (K:DK):DK:=fun s'=>Co3 G all s s'.heap ls/\K s'
def Kr (P:Program) (G:Nat->DVal) (all:List Oper) (Q:DExit->DS->Prop):Plan->DS->Prop
 | .done,s=>Q .normal s
 | .take i p,s=>dAt P G all (Kr P G all Q p) Q s (En all i)
 | .go i ls p,s=>dAt P G all (Co4 G all ls s (Kr P G all Q p)) Q s (En all i)
 | .alt p q,s=>Kr P G all Q p s/\Kr P G all Q q s
def QP (Q:DExit->DS->Prop):DExit->DS->Prop
 | .panic v,s=> ∀env,Q (.panic v) ⟨env,s.heap⟩
 | .normal,s=>Q .normal s
 | _,_=>False
def Mg (all:List Oper) (k j:Nat):Bool:=
 match En all k with
 | some o=>o.after.any fun e=>Region.binds .any e&&e.on==j
 | none=>false
def Ab3 (all:List Oper) (j k:Nat):Bool:=
 match En all j,En all k with
 | some x,some y=>x.apart all.toArray y
 | _,_=>true
def Bm0 (all:List Oper) (i:Nat):Bool:=
 match En all i with
 | some o=>Mq o.op
 | none=>false
def Wb (all:List Oper) (k:Nat) (T:List Nat):Bool:=
 match En all k with
 | some o=>o.after.all fun e=>!Region.binds .any e || T.contains e.on
 | none=>false
def It (all:List Oper) (j:Nat):Option Nat:=(En all j).bind (·.dst)
def Lv:Plan->List Nat
 | .go i _ _=> [i]
 | .alt p q=>Lv p++Lv q
 | _=> []
def Al4 (all:List Oper) (T:List Nat):Plan->Bool
 | .done=>true
 | .take _ _=>true
 | p=>(List.range all.length).all fun k=>T.contains k || (Lv p).contains k || !Wb all k T
def Ba5 (all:List Oper) (T:List Nat) (l:Nat):Operand->Bool
 | .tmp t=>T.all fun m=>It all m !=some t || Mg all l m
 | _=>true
def Co5 (all:List Oper) (k:Nat):List Nat:=
 match En all k with
 | some o=>(o.after.toList.filter fun e=>Region.binds .any e).map (·.on)
 | none=> []
def Zb (all:List Oper):Nat->List Nat->List Nat
 | 0,S=>S
 | k+1,S=>Zb all k (if S.contains k then Co5 all k++S else S)
def Dy5 (all:List Oper) (i:Nat):List Nat:=Zb all (i+1) [i]
def Bu2 (all:List Oper) (T:List Nat) (i:Nat) (ls:List Nat):Bool:=
 T.all fun l=>match Ud (En all l) with
  | none=>true
  | some a=>Mg all i l || (l !=i&&(Dy5 all i).contains l) || (ls.contains l&&Ba5 all T l a)
def Gd (all:List Oper):Plan->List Nat->Bool
 | .done,T=>(List.range all.length).all fun k=>T.contains k
 | .take i p,T=>decide (i<all.length)&&!T.contains i&&Bm0 all i&&Wb all i T&&
   ((List.range all.length).all fun k=>T.contains k || k==i || Mg all k i || Ab3 all i k)&&Al4 all (i::T) p&&Gd all p (i::T)
 | .go i ls p,T=>decide (i<all.length)&&!T.contains i&&Wb all i T&&Bu2 all T i ls&&Al4 all (i::T) p&&Gd all p (i::T)
 | .alt p q,T=>Gd all p T&&Gd all q T
section
variable {P:Program} {G:Nat->DVal} {N:Nat} {all:List Oper} {Q:DExit->DS->Prop} {s0:DS} {w0:World}
theorem Ld: ∀(all:List Oper) (j:Nat),En all j=all[j]?
 | [],j=>by simp [En]
 | o::r,0=>by simp [En]
 | o::r,j+1=>by simp [En,Ld r j]
theorem Ab4 {o:Oper} {K:DK} {s:DS}:dAt P G all K Q s (some o)↔
  (Mr all s.env o=some true/\dop P G o.dst K Q s o.op)\/(Mr all s.env o=some false/\Bb o.dst Cr K s):=by
 simp only[dAt];unfold Do9 Mr;cases o.guard with
 | none=>simp
 | some jb=>
  obtain⟨j,b⟩:=jb;simp only;cases Ml all j with
  | none=>simp [Uc]
  | some g=>
   simp only[Uc];cases hv:s.env g<;>(try (cases b<;>simp [Ub];done))
   case bool v=>cases b<;>cases v<;>simp [Ub]
   case tuple vs=>cases vs<;>cases b<;>simp [Ub]
def Dc4 (P:Program) (G:Nat->DVal) (all:List Oper) (j:Nat) (s:DS) (d:DVal):Prop:=
 ∃o,En all j=some o/\Mq o.op=true/\
  ((Mr all s.env o=some true/\ ∀K Q,Bb o.dst d K s->dop P G o.dst K Q s o.op)\/(Mr all s.env o=some false/\d=Cr))
def Seq (P:Program) (G:Nat->DVal) (all:List Oper):DS->List Nat->DS->Prop
 | s,[],s'=>s'=s
 | s,j::js,s'=> ∃d,Dc4 P G all j s d/\Seq P G all ⟨Ep s.env (It all j) d,s.heap⟩ js s'
def looks (all:List Oper) (j:Nat):List Nat:=
 match En all j with
 | some o=>o.looksAt all.toArray
 | none=> []
theorem Al5 {o:Oper} {env env':Nat->DVal} (h: ∀t∈o.looksAt all.toArray,env' t=env t): ∀x∈o.op.operands,dev G env' x=dev G env x:=by
 intro x hx;cases x with
 | tmp t=>
  refine h t ?_;unfold Oper.looksAt;refine List.mem_append_left _ (List.mem_filterMap.2 ⟨.tmp t,by simpa using hx,rfl⟩)
 | _=>rfl
theorem Ue {o:Oper} {env env':Nat->DVal} (h: ∀t∈o.looksAt all.toArray,env' t=env t):Mr all env' o=Mr all env o:=by
 unfold Mr;cases hg:o.guard with
 | none=>rfl
 | some jb=>
  obtain⟨j,b⟩:=jb;simp only;cases hj:Ml all j with
  | none=>rfl
  | some g=>
   simp only;rw[h g];unfold Oper.looksAt;refine List.mem_append_right _ ?_;rw[hg];rw[Tz] at hj;simp [hj]
theorem Dc4.agree {j:Nat} {s s':DS} {d:DVal} (h:Dc4 P G all j s d) (ha: ∀t∈looks all j,s'.env t=s.env t)
  (hk: ∀o a,En all j=some o->As9 o.op=some a->Hs s.heap s'.heap (dev G s.env a)):Dc4 P G all j s' d:=by
 obtain⟨o,ho,he,h⟩:=h;have ha': ∀t∈o.looksAt all.toArray,s'.env t=s.env t:=by
  intro t ht;exact ha t (by unfold looks;rw[ho];exact ht)
 refine⟨o,ho,he, ?_⟩;rw[Ue ha'];rcases h with⟨hw,h⟩ | h
 ·refine .inl ⟨hw,fun K' Q' hp=> ?_⟩;have h1:=h (fun s1=>s1=⟨Ep s.env o.dst d,s.heap⟩) Q' rfl;obtain⟨d',hd',hall⟩:=Sl o.op he h1;refine hall Q' K' s' (Al5 (all:=all) ha') ?_ ?_
  ·exact fun a hl=>hk o a ho hl
  ·unfold Bb at hd' hp⊢
   have he:Ep s.env o.dst d'=Ep s.env o.dst d:=congrArg DS.env hd';have:Ep s'.env o.dst d'=Ep s'.env o.dst d:=by
    cases hdst:o.dst with
    | none=>rfl
    | some t=>
     rw[hdst] at he;have h2:=congrFun he t;simp [Ep,upd] at h2;rw[h2]
   rw[this];exact hp
 ·exact .inr h
theorem Uf {env:Nat->DVal} {dst:Option Nat} {d:DVal} {t:Nat} (h:dst≠some t):Ep env dst d t=env t:=by
 cases dst with
 | none=>rfl
 | some k=>simp only[Ep,upd];rw[if_neg];intro e;exact h (by rw[e])
theorem Al6 {env:Nat->DVal} {x y:Option Nat} {d e:DVal} (h: ∀t,x=some t->y≠some t):Ep (Ep env x d) y e=Ep (Ep env y e) x d:=by
 cases x with
 | none=>rfl
 | some i=>
  cases y with
  | none=>rfl
  | some k=>
   have hne:k≠i:=fun hh=>h i rfl (by rw[hh]);funext t;simp only[Ep,upd];by_cases h1:t=k
   ·subst h1;rw[if_pos rfl,if_neg hne,if_pos rfl]
   ·rw[if_neg h1];by_cases h2:t=i
    ·rw[if_pos h2,if_pos h2]
    ·rw[if_neg h2,if_neg h2,if_neg h1]
structure Apart (all:List Oper) (j k:Nat):Prop where
 a: ∀t,It all j=some t->t∉looks all k
 b: ∀t,It all j=some t->It all k≠some t
 c: ∀t,It all k=some t->t∉looks all j
theorem Xu {j k:Nat} {x y:Oper} (hx:En all j=some x) (hy:En all k=some y) (h:Ab3 all j k=true):Apart all j k:=by
 unfold Ab3 at h;rw[hx,hy] at h;obtain⟨h1,h2,h3⟩:=Oper.apart_spec h;refine⟨?_, ?_, ?_⟩<;>simp only[It,looks,hx,hy,Option.bind_some]<;>assumption
theorem Seq.front: ∀ {A:List Nat} {k:Nat} {B:List Nat} {s s':DS},(∀j∈A,Apart all j k)->Seq P G all s (A++k::B) s'->Seq P G all s (k::(A++B)) s'
 | [],k,B,s,s',_,h=>h
 | j::A,k,B,s,s',hA,h=>by
  obtain⟨d,hd,h⟩:=h;obtain⟨dk,hk,h⟩:=Seq.front (fun i hi=>hA i (by simp [hi])) h;have ap:=hA j (by simp);refine⟨dk,hk.agree (fun t ht=>(Uf (fun e=>ap.a t e ht)).symm) (fun _ _ _ _=>Fy),d,hd.agree (fun t ht=>Uf (fun e=>ap.c t e ht)) (fun _ _ _ _=>Fy), ?_⟩;show Seq P G all ⟨Ep (Ep s.env _ dk) _ d,s.heap⟩ (A++B) s';rw[Al6 (fun t h1 h2=>ap.b t h2 h1)];exact h
theorem Seq.heap: ∀ {js:List Nat} {s s':DS},Seq P G all s js s'->s'.heap=s.heap
 | [],s,s',h=>by cases h;rfl
 | j::js,s,s',⟨d,_,h⟩=>by have:=Seq.heap h;exact this
theorem Seq.env: ∀ {js:List Nat} {s s':DS},Seq P G all s js s'-> ∀t,(∀j∈js,It all j≠some t)->s'.env t=s.env t
 | [],s,s',h,t,_=>by cases h;rfl
 | j::js,s,s',⟨d,_,h⟩,t,ht=>by
  rw[Seq.env h t fun i hi=>ht i (by simp [hi])];exact Uf (ht j (by simp))
theorem Seq.shift {k:Option Nat} {v:DVal} {h:Ab}: ∀ {js:List Nat} {s s':DS},Seq P G all s js s'->
  (∀j∈js,∀t,k=some t->t∉looks all j)->(∀j∈js,∀t,It all j=some t->k≠some t)->
  (∀A j B,js=A++j::B-> ∀o a,En all j=some o->As9 o.op=some a->(∀t,a= .tmp t-> ∀m∈j::B,It all m≠some t)/\Hs s.heap h (dev G s'.env a))->
  Seq P G all ⟨Ep s.env k v,h⟩ js ⟨Ep s'.env k v,h⟩
 | [],s,s',hs,_,_,_=>by cases hs;rfl
 | j::js,s,s',⟨d,hd,hs⟩,h1,h2,h3=>by
  refine⟨d,hd.agree (fun t ht=>Uf fun e=>h1 j (by simp) t e ht) (fun o a ho ha=> ?_), ?_⟩
  ·obtain⟨g1,g2⟩:=h3 [] j js rfl o a ho ha;have:dev G s'.env a=dev G s.env a:=by
    cases a with
    | tmp t=>
     have:=Seq.env hs t fun i hi=>g1 t rfl i (by simp [hi]);simp only[dev];rw[this];exact Uf (g1 t rfl j (by simp))
    | _=>rfl
   rw[<-this];exact g2
  ·have hs':=Seq.shift (k:=k) (v:=v) (h:=h) hs (fun i hi=>h1 i (by simp [hi])) (fun i hi=>h2 i (by simp [hi])) (fun A i B e=>h3 (j::A) i B (by rw[e];rfl));show Seq P G all ⟨Ep (Ep s.env k v) (It all j) d,h⟩ js _;rw[Al6 fun t e1 e2=>h2 j (by simp) t e2 e1];exact hs'
end
end Go.Dl
namespace Go.Dl
abbrev pL0:Plan:=.take 0 (.take 1 (.take 2 (.take 3 (.take 4 (.take 5 (.take 6 (.take 7 (.take 8 (.take 9 (.take 10 (.take 11 (.take 12 (.take 13 (.take 14 (.take 15 (.take 16 (.take 17 (.take 18 (.take 19 (.take 20 .done))))))))))))))))))))
abbrev pL1:Plan:=.take 0 (.take 2 (.take 3 (.go 1 [3] (.take 4 (.take 5 (.go 6 [] .done))))))
abbrev pL2:Plan:=.take 0 (.take 1 (.take 2 (.take 3 (.take 4 (.take 5 (.take 6 (.take 7 (.take 8 (.take 9 (.take 10 (.take 11 (.take 12 (.take 13 (.alt (.go 15 [11,7] (.go 14 [] (.go 16 [] (.take 17 .done)))) (.go 14 [] (.go 15 [11,7] (.go 16 [] (.take 17 .done))))))))))))))))))
abbrev pL3:Plan:=.take 0 (.take 1 (.go 2 [1] (.go 3 [1] (.go 4 [1] (.alt (.go 6 [1] (.go 5 [1] (.take 7 (.go 8 [1] (.go 9 [] (.take 10 (.go 11 [] .done))))))) (.go 5 [1] (.go 6 [1] (.take 7 (.go 8 [1] (.go 9 [] (.take 10 (.go 11 [] .done))))))))))))
abbrev pL4:Plan:=.take 0 (.take 1 (.take 2 (.take 3 (.take 4 (.take 5 (.take 6 (.take 7 (.take 8 (.take 9 (.take 10 (.take 11 (.go 12 [] .done))))))))))))
abbrev pL5:Plan:=.take 0 (.take 1 (.take 2 (.go 3 [1] (.go 4 [1] (.go 5 [] (.take 6 (.go 7 [] .done)))))))
abbrev pL6:Plan:=.take 0 (.take 1 (.take 2 (.take 3 (.take 4 (.take 5 (.take 6 (.take 7 (.take 8 (.take 9 (.take 10 (.take 11 .done)))))))))))
abbrev pL7:Plan:=.take 0 (.take 1 (.take 2 (.take 3 (.take 4 (.take 5 (.go 6 [4] (.go 7 [] (.take 8 (.take 9 (.go 10 [] .done))))))))))
abbrev pL8:Plan:=.take 0 (.take 1 (.take 2 (.take 3 (.take 4 (.take 5 (.take 6 (.take 7 (.take 8 (.go 9 [] .done)))))))))
abbrev pL9:Plan:=.take 0 (.take 1 (.go 2 [1] (.take 3 (.go 4 [1] (.go 5 [] (.take 6 (.go 7 [] .done)))))))
abbrev pL10:Plan:=.take 0 (.take 1 (.take 2 (.go 3 [1] (.go 4 [] (.go 5 [] .done)))))
end Go.Dl

-- THE DATA LEVEL, PART 2: what a plan ends with, every order that is drawn ends with.
namespace Go.Dl
open Go
section
variable {P:Program} {G:Nat->DVal} {N:Fr} {all:List Oper} {Q:DExit->DS->Prop} {s0:DS} {w0:World}
theorem Ab5 {F:Fence} {n:Nat} (hF:FOk F) {k:Nat} {o:Oper} {c:DS} {a:Act} {w:World} {K:DK} (hall:all.all (Gr N)=true) (hk:En all k=some o) (hS:Sim G N c a w) (hE:Ext s0.heap w0 c.heap w)
  (h:dAt P G all K Q c (some o)):wpOpIn F n P all.toArray (Kp G N Q s0 w0) k (Fd G N K c w) a w:=by
 have hko:all.toArray[k]? =some o:=by rw[Ld] at hk;simpa using hk
 have hok:Gr N o=true:=by
  rw[Ld] at hk;exact List.all_eq_true.1 hall o (List.mem_of_getElem? hk)
 unfold wpOpIn;simp only[hko];have skip:Bb o.dst Cr K c->Fd G N K c w (a.put o.dst undef) w:=fun hp=>
  ⟨⟨Ep c.env o.dst Cr,c.heap⟩,hp,hS.put (Jq hok) (Nw w c.heap),Ext.refl _ _⟩
 simp only[dAt] at h;unfold Do9 at h;cases hg:o.guard with
 | none=>
  rw[hg] at h;rw[if_pos (by simp [Region.wanted,hg])];exact Mp hF hok hS hE h
 | some jb=>
  obtain⟨j,b⟩:=jb;rw[hg] at h;simp only at h;cases hj:Ml all j with
  | none=>rw[hj] at h;exact h.elim
  | some g=>
   rw[hj] at h;simp only[Uc] at h;have hjo:(all[j]?).bind (·.dst)=some g:=by rw[<-Tz];exact hj
   obtain⟨oj,hoj,hdj⟩:=Option.bind_eq_some_iff.1 hjo;have hmem:oj∈all:=List.mem_of_getElem? hoj;have hgN:g<N:=by
    have:=List.all_eq_true.1 hall oj hmem;have:=Jq this;rw[hdj] at this;simpa [Bu] using this
   have hrel:=hS.tmps g hgN;have hy: ∀v,c.env g= .bool v->yielded all.toArray a.tmps j=some v:=by
    intro v hv;rw[hv] at hrel;simp only[Rel] at hrel;have h1:a.tmps[g]? =some (.bool v):=by
     rw[Array.getD_eq_getD_getElem?] at hrel;cases hq:a.tmps[g]? with
     | none=>
      have:=hS.size;rw[Array.getElem?_eq_none_iff] at hq;omega
     | some z=>rw[hq] at hrel;simpa using hrel
    simp [yielded,hoj,hdj,h1]
   by_cases hun:c.env g= .tuple []
   ·rw[hun] at h hrel;simp only[Rel,An] at hrel;obtain⟨xs,hxs,hx0⟩:=hrel;have hyn:yielded all.toArray a.tmps j=none:=by
     have h2: ∀z,a.tmps[g]? =some z->z= .tuple xs:=fun z hz=>by
      rw[Array.getD_eq_getD_getElem?,hz] at hxs;simpa using hxs
     unfold yielded;simp only[List.getElem?_toArray,hjo,Option.bind_some];cases hz:a.tmps[g]? with
     | none=>rfl
     | some z=>rw[h2 z hz]
    rw[if_neg (by simp [Region.wanted,hg,hyn])];exact⟨fun f _=>hF.fn f,skip (by cases b<;>exact h)⟩
   cases hv:c.env g<;>rw[hv] at h<;>(try (cases b<;>exact h.elim))
   case tuple vs=>cases vs with
    | nil=>exact absurd hv hun
    | cons _ _=>cases b<;>exact h.elim
   rename_i v
   have hy':=hy v hv;cases b<;>cases v<;>simp only[Ub] at h
   ·rw[if_pos (by simp [Region.wanted,hg,hy'])];exact Mp hF hok hS hE h
   ·rw[if_neg (by simp [Region.wanted,hg,hy'])];exact⟨fun f _=>hF.fn f,skip h⟩
   ·rw[if_neg (by simp [Region.wanted,hg,hy'])];exact⟨fun f _=>hF.fn f,skip h⟩
   ·rw[if_pos (by simp [Region.wanted,hg,hy'])];exact Mp hF hok hS hE h
structure Inv (P:Program) (G:Nat->DVal) (N:Fr) (all:List Oper) (Q:DExit->DS->Prop) (s0:DS) (w0:World)
  (T js:List Nat) (p:Plan) (c s:DS) (a:Act) (w:World) (listed:Array Bool):Prop where
 sim:Sim G N c a w
 ext:Ext s0.heap w0 c.heap w
 seq:Seq P G all c js s
 plan:Kr P G all Q p s
 ok:Gd all p T=true
 cov:Al4 all T p=true
 size:listed.size=all.length
 iff: ∀i,i<all.length->(listed.getD i true=true↔i∈T/\i∉js)
 sub: ∀i∈js,i∈T/\i<all.length
 tlt: ∀i∈T,i<all.length
 nodup:js.Nodup
 eager: ∀j∈js,Bm0 all j=true
 pair:js.Pairwise fun j k=>(Mg all k j=true\/Ab3 all j k=true)/\Mg all j k=false
 out: ∀j∈js,∀k,k<all.length->k∉T->Mg all k j=true\/Ab3 all j k=true
 deps: ∀j∈js,∀e,Mg all j e=true->e∈T/\e≠j
 clo: ∀k,k<all.length->listed.getD k true=true-> ∀e,Mg all k e=true->listed.getD e false=true
theorem Nf {i:Nat} (h:i<all.length): ∃o,En all i=some o:=by
 rw[Ld];exact⟨all[i],by simp [h]⟩
theorem Bm1 {k e:Nat} (h:e∈Co5 all k):Mg all k e=true:=by
 unfold Co5 at h;unfold Mg;split at h
 ·rename_i o ho
  simp only[List.mem_map,List.mem_filter,Array.mem_toList_iff] at h;obtain⟨x,⟨hx,hb⟩,rfl⟩:=h;exact Array.any_eq_true'.2 ⟨x,hx,by simp [hb]⟩
 ·cases h
theorem Ug {listed:Array Bool} {i:Nat} (hs:listed.size=all.length) (hi: ∀e,Mg all i e=true->listed.getD e false=true)
  (hc: ∀k,k<all.length->listed.getD k true=true-> ∀e,Mg all k e=true->listed.getD e false=true): ∀(n:Nat) (S:List Nat),(∀m∈S,m=i\/listed.getD m false=true)-> ∀m∈Zb all n S,m=i\/listed.getD m false=true
 | 0,S,h=>h
 | k+1,S,h=>by
  rw[Zb];refine Ug hs hi hc k _ ?_;split
  ·rename_i hk
   intro m hm;rcases List.mem_append.1 hm with hm | hm
   ·have hd:=Bm1 hm;rcases h k (List.contains_iff_mem.1 hk) with rfl | hl
    ·exact .inr (hi m hd)
    ·have hlt:k<listed.size:=by
      rcases Nat.lt_or_ge k listed.size with h' | h'
      ·exact h'
      ·simp [Array.getElem?_eq_none h'] at hl
     refine .inr (hc k (by rw[<-hs];exact hlt) ?_ m hd);simpa [hlt] using hl
   ·exact h m hm
  ·exact h
theorem Ms {k:Nat} {T:List Nat} (hk:k<all.length):Wb all k T=true↔ ∀e,Mg all k e=true->e∈T:=by
 obtain⟨o,ho⟩:=Nf hk;unfold Wb Mg;rw[ho];simp only[Array.all_eq_true_iff_forall_mem,Bool.or_eq_true,Bool.not_eq_true',List.contains_iff_mem];constructor
 ·intro h e he;obtain⟨x,hx,hb⟩:=Array.any_eq_true'.1 he;simp only[jF,beq_iff_eq] at hb;rcases h x hx with h1 | h1
  ·rw[hb.1] at h1;cases h1
  ·rw[<-hb.2];exact h1
 ·intro h x hx;by_cases hb:Region.binds .any x=true
  ·exact .inr (h x.on (Array.any_eq_true'.2 ⟨x,hx,by simp [hb]⟩))
  ·exact .inl (by simpa using hb)
theorem Oe {listed:Array Bool} {k:Nat} (hs:listed.size=all.length):k∈Region.ready .any all.toArray listed↔
  k<all.length/\listed.getD k true=false/\ ∀e,Mg all k e=true->listed.getD e false=true:=by
 rw[mem_ready];constructor
 ·rintro⟨h0,o,ho,h⟩;have ho':all[k]? =some o:=by simpa using ho
  have hlt:k<all.length:=(List.getElem?_eq_some_iff.1 ho').1;refine⟨hlt,h0,fun e he=> ?_⟩;unfold Mg at he;rw[Ld,ho'] at he;obtain⟨x,hx,hb⟩:=Array.any_eq_true'.1 he;simp only[jF,beq_iff_eq] at hb;rw[<-hb.2];exact h x hx hb.1
 ·rintro⟨hlt,h0,h⟩;refine⟨h0,all[k],by simp [hlt],fun x hx hb=>h x.on ?_⟩;unfold Mg;rw[Ld,List.getElem?_eq_getElem hlt];exact Array.any_eq_true'.2 ⟨x,hx,by simp [hb]⟩
theorem Pa {listed:Array Bool} {e:Nat} (h:e<listed.size):listed.getD e false=listed.getD e true:=by
 simp [h]
theorem Inv.advance {T js:List Nat} {i:Nat} {p:Plan} {c s:DS} {a:Act} {w:World} {listed:Array Bool} (h:Inv P G N all Q s0 w0 T js (.take i p) c s a w listed):
    ∃s',Inv P G N all Q s0 w0 (i::T) (js++ [i]) p c s' a w listed:=by
  have hok:=h.ok
  simp only[Gd,jF,decide_eq_true_eq,Bool.not_eq_true',List.all_eq_true,List.mem_range,Bool.or_eq_true,List.contains_iff_mem,beq_iff_eq] at hok
  obtain⟨⟨⟨⟨⟨⟨hi,hT⟩,he⟩,hd⟩,ha⟩,hc⟩,hp⟩:=hok
  have hT':i∉T:=by intro hm;rw[List.contains_iff_mem.2 hm] at hT;cases hT
  rw[Ms hi] at hd
  obtain⟨o,ho⟩:=Nf hi
  have hpl:=h.plan
  simp only[Kr,ho] at hpl
  have heo:Mq o.op=true:=by unfold Bm0 at he;rw[ho] at he;exact he
  have hst: ∃d,Dc4 P G all i s d/\Kr P G all Q p ⟨Ep s.env (It all i) d,s.heap⟩:=by
    have hdst:It all i=o.dst:=by simp [It,ho]
    rw[hdst]
    rcases Ab4.1 hpl with⟨hw,hdop⟩ | ⟨hw,hput⟩
    · obtain⟨d,hd1,hd2⟩:=Sl o.op heo hdop
      exact⟨d,⟨o,ho,heo, .inl ⟨hw,fun K Q hK=>hd2 Q K s (fun _ _=>rfl) (fun _ _=>Fy) hK⟩⟩,hd1⟩
    · exact⟨Cr,⟨o,ho,heo, .inr ⟨hw,rfl⟩⟩,hput⟩
  obtain⟨d,hev,hpl'⟩:=hst
  have seqApp: ∀(js:List Nat) (c:DS),Seq P G all c js s->Seq P G all c (js++ [i]) ⟨Ep s.env (It all i) d,s.heap⟩:=by
    intro js
    induction js with
    | nil=>intro c hc;cases hc;exact⟨d,hev,rfl⟩
    | cons j js ih=>intro c hc;obtain⟨d',h1,h2⟩:=hc;exact⟨d',h1,ih _ h2⟩
  refine⟨⟨Ep s.env (It all i) d,s.heap⟩, ?_⟩
  exact {
    sim:=h.sim,ext:=h.ext,seq:=seqApp js c h.seq,plan:=hpl',ok:=hp,cov:=hc,size:=h.size
    iff:=fun k hk=>by
      rw[h.iff k hk]
      simp only[List.mem_cons,List.mem_append,List.not_mem_nil,or_false,not_or]
      constructor
      · rintro⟨h1,h2⟩
        exact⟨.inr h1,h2,fun e=>hT' (e▸h1)⟩
      · rintro⟨h1,h2,h3⟩
        exact⟨h1.resolve_left h3,h2⟩
    sub:=fun k hk=>by
      simp only[List.mem_append,List.mem_cons,List.not_mem_nil,or_false] at hk⊢
      rcases hk with hk | rfl
      · exact⟨.inr (h.sub k hk).1,(h.sub k hk).2⟩
      · exact⟨.inl rfl,hi⟩
    tlt:=fun k hk=>by
      simp only[List.mem_cons] at hk
      rcases hk with rfl | hk
      · exact hi
      · exact h.tlt k hk
    nodup:=by
      rw[List.nodup_append]
      refine⟨h.nodup,by simp, ?_⟩
      intro x hx y hy e
      simp only[List.mem_cons,List.not_mem_nil,or_false] at hy
      subst hy;subst e
      exact hT' (h.sub x hx).1
    eager:=fun k hk=>by
      simp only[List.mem_append,List.mem_cons,List.not_mem_nil,or_false] at hk
      rcases hk with hk | rfl
      · exact h.eager k hk
      · exact he
    pair:=by
      rw[List.pairwise_append]
      refine⟨h.pair,by simp, ?_⟩
      intro j hj k hk
      simp only[List.mem_cons,List.not_mem_nil,or_false] at hk
      subst hk
      refine⟨h.out j hj k hi hT', ?_⟩
      cases hdep:Mg all j k with
      | false=>rfl
      | true=>exact(hT' (h.deps j hj k hdep).1).elim
    out:=fun j hj k hk hkT=>by
      simp only[List.mem_append,List.mem_cons,List.not_mem_nil,or_false,not_or] at hj hkT
      rcases hj with hj | rfl
      · exact h.out j hj k hk hkT.2
      · rcases ha k hk with((h1 | h1) | h1) | h1
        · exact(hkT.2 h1).elim
        · exact(hkT.1 h1).elim
        · exact .inl h1
        · exact .inr h1
    deps:=fun j hj e hde=>by
      simp only[List.mem_append,List.mem_cons,List.not_mem_nil,or_false] at hj⊢
      rcases hj with hj | rfl
      · exact⟨.inr (h.deps j hj e hde).1,(h.deps j hj e hde).2⟩
      · have:=hd e hde
        exact⟨.inr this,fun hh=>hT' (hh▸this)⟩
    clo:=h.clo }
def Bu3:Plan->Prop
 | .take _ _=>False
 | _=>True
theorem Inv.normal: ∀ {p:Plan} {T js:List Nat} {c s:DS} {a:Act} {w:World} {listed:Array Bool},Inv P G N all Q s0 w0 T js p c s a w listed->
  ∃T' js' p' s',Inv P G N all Q s0 w0 T' js' p' c s' a w listed/\Bu3 p'
 | .take i p,T,js,c,s,a,w,listed,h=>by
  obtain⟨s',h'⟩:=h.advance;exact h'.normal
 | .done,T,js,c,s,a,w,listed,h=>⟨T,js,_,s,h,trivial⟩
 | .go i ls p,T,js,c,s,a,w,listed,h=>⟨T,js,_,s,h,trivial⟩
 | .alt p q,T,js,c,s,a,w,listed,h=>⟨T,js,_,s,h,trivial⟩
theorem Wc: ∀(p:Plan) (T:List Nat) (s:DS),Gd all p T=true->Kr P G all Q p s->
  ((∀i,i<all.length->i∈T)/\Q .normal s)\/ ∃i,i<all.length/\i∉T/\ ∀e,Mg all i e=true->e∈T
 | .done,T,s,hok,h=>by
  simp only[Gd,List.all_eq_true,List.mem_range,List.contains_iff_mem] at hok;exact .inl ⟨hok,h⟩
 | .take i p,T,s,hok,h=>by
  simp only[Gd,jF,decide_eq_true_eq,Bool.not_eq_true'] at hok;obtain⟨⟨⟨⟨⟨⟨hi,hT⟩,he⟩,hd⟩,_⟩,_⟩,_⟩:=hok;exact .inr ⟨i,hi,(fun hm=>by rw[List.contains_iff_mem.2 hm] at hT;cases hT),(Ms hi).1 hd⟩
 | .go i ls p,T,s,hok,h=>by
  simp only[Gd,jF,decide_eq_true_eq,Bool.not_eq_true'] at hok;obtain⟨⟨⟨⟨⟨hi,hT⟩,hd⟩,_⟩,_⟩,_⟩:=hok;exact .inr ⟨i,hi,(fun hm=>by rw[List.contains_iff_mem.2 hm] at hT;cases hT),(Ms hi).1 hd⟩
 | .alt p q,T,s,hok,h=>by
  simp only[Gd,jF] at hok;exact Wc p T s hok.1 h.1
theorem Sm: ∀(p:Plan) (T:List Nat) (s:DS) (k:Nat),Gd all p T=true->Kr P G all Q p s->k∈Lv p->
  ∃ls p',Gd all (.go k ls p') T=true/\Kr P G all Q (.go k ls p') s
 | .done,T,s,k,_,_,hk=>by simp [Lv] at hk
 | .take i p,T,s,k,_,_,hk=>by simp [Lv] at hk
 | .go i ls p,T,s,k,hok,h,hk=>by
  simp only[Lv,List.mem_cons,List.not_mem_nil,or_false] at hk;subst hk;exact⟨ls,p,hok,h⟩
 | .alt p q,T,s,k,hok,h,hk=>by
  simp only[Gd,jF] at hok;simp only[Lv,List.mem_append] at hk;rcases hk with hk | hk
  ·exact Sm p T s k hok.1 h.1 hk
  ·exact Sm q T s k hok.2 h.2 hk
theorem Bm2 {p:Plan} {T:List Nat} (hc:Al4 all T p=true) (hok:Gd all p T=true) (hn:Bu3 p) {k:Nat} (hk:k<all.length) (hT:k∉T) (hd: ∀e,Mg all k e=true->e∈T):k∈Lv p:=by
 have gen:((List.range all.length).all fun k=>T.contains k || (Lv p).contains k || !Wb all k T)=true->k∈Lv p:=by
  intro h;simp only[List.all_eq_true,List.mem_range,Bool.or_eq_true,List.contains_iff_mem,Bool.not_eq_true'] at h;rcases h k hk with(h1 | h1) | h1
  ·exact(hT h1).elim
  ·exact h1
  ·rw[(Ms hk).2 hd] at h1;cases h1
 cases p with
 | done=>
  simp only[Gd,List.all_eq_true,List.mem_range,List.contains_iff_mem] at hok;exact(hT (hok k hk)).elim
 | take i p=>exact hn.elim
 | go i ls p=>exact gen hc
 | alt p q=>exact gen hc
theorem Al7 {s:DS} {H':Ab}: ∀ {ls:List Nat},Co3 G all s H' ls-> ∀l∈ls,Co2 G s H' (Ud (En all l))
 | [],_,l,hl=>by simp at hl
 | x::ls,h,l,hl=>by
  simp only[List.mem_cons] at hl;rcases hl with rfl | hl
  ·exact h.1
  ·exact Al7 h.2 l hl
theorem Inv.sound {F:Fence} {n:Nat} (hF:FOk F) (hall:all.all (Gr N)=true) (hQ: ∀v env env' h,Q (.panic v) ⟨env,h⟩->Q (.panic v) ⟨env',h⟩): ∀(Dy:Nat) (U T js:List Nat) (p:Plan) (c s:DS) (a:Act) (w:World) (listed:Array Bool),
    Inv P G N all Q s0 w0 T js p c s a w listed->U.length<=Dy->(∀i,i<all.length->listed.getD i true=false->i∈U)->
    wpAnyIn F n P .any all.toArray (Kp G N Q s0 w0) Dy listed a w:=by
  intro Dy
  induction Dy with
  | zero=>
    intro U T js p c s a w listed h hU hUm
    have hnil:U= []:=List.eq_nil_of_length_eq_zero (Nat.le_zero.1 hU)
    subst hnil
    have hall1: ∀i,i<all.length->listed.getD i true=true:=by
      intro i hi
      cases hl:listed.getD i true with
      | true=>rfl
      | false=>exact absurd (hUm i hi hl) (by simp)
    have hjs:js= []:=by
      cases js with
      | nil=>rfl
      | cons j js=>
        have hs:=h.sub j (by simp)
        exact absurd (by simp) ((h.iff j hs.2).1 (hall1 j hs.2)).2
    subst hjs
    have hsc:=h.seq
    simp only[Seq] at hsc
    refine⟨?_, ?_⟩
    · rw[List.eq_nil_iff_forall_not_mem]
      intro k hk
      rw[Oe h.size] at hk
      rw[hall1 k hk.1] at hk
      cases hk.2.1
    · rcases Wc p T s h.ok h.plan with⟨_,hq⟩ | ⟨i,hi,hiT,_⟩
      · subst hsc;exact⟨.normal,s,hq, .normal,h.sim,h.ext⟩
      · exact absurd ((h.iff i hi).1 (hall1 i hi)).1 hiT
  | succ Dy ih=>
    intro U T js p c s a w listed h0 hU hUm
    obtain⟨T,js,p,s,h,hnt⟩:=h0.normal
    have inList: ∀e,listed.getD e false=true->e∈T/\e∉js:=by
      intro e he
      have hlt:e<listed.size:=by
        rcases Nat.lt_or_ge e listed.size with h' | h'
        · exact h'
        · simp [Array.getElem?_eq_none h'] at he
      have:=he
      rw[Pa hlt] at this
      exact(h.iff e (by rw[<-h.size];exact hlt)).1 this
    refine⟨fun hr=> ?_,fun k hk=> ?_⟩
    · -- nothing may come up: all have
      have hno: ∀k,k∉Region.ready .any all.toArray listed:=by rw[hr];simp
      have toL: ∀e,e∈T->e∉js->e<all.length->listed.getD e false=true:=by
        intro e h1 h2 h3
        rw[Pa (by rw[h.size];exact h3)]
        exact(h.iff e h3).2 ⟨h1,h2⟩
      have unl: ∀i,i<all.length-> ¬(i∈T/\i∉js)->listed.getD i true=false:=by
        intro i hi hn
        cases hl:listed.getD i true with
        | false=>rfl
        | true=>exact(hn ((h.iff i hi).1 hl)).elim
      have hjs:js= []:=by
        cases js with
        | nil=>rfl
        | cons j js=>
          refine(hno j ((Oe h.size).2 ⟨(h.sub j (by simp)).2,unl j (h.sub j (by simp)).2 (fun hh=>hh.2 (by simp)),fun e he=> ?_⟩)).elim
          obtain⟨g1,g2⟩:=h.deps j (by simp) e he
          refine toL e g1 (fun hm=> ?_) (h.tlt e g1)
          simp only[List.mem_cons] at hm
          rcases hm with hm | hm
          · exact g2 hm
          · have:=((List.pairwise_cons.1 h.pair).1 e hm).2
            rw[he] at this;cases this
      subst hjs
      have hsc:=h.seq
      simp only[Seq] at hsc
      rcases Wc p T s h.ok h.plan with⟨_,hq⟩ | ⟨i,hi,hiT,hd⟩
      · subst hsc;exact⟨.normal,s,hq, .normal,h.sim,h.ext⟩
      · exact(hno i ((Oe h.size).2 ⟨hi,unl i hi (fun hh=>hiT hh.1),fun e he=>toL e (hd e he) (by simp) (h.tlt e (hd e he))⟩)).elim
    · rw[Oe h.size] at hk
      obtain⟨hkn,hun,hdep⟩:=hk
      obtain⟨o,ho⟩:=Nf hkn
      have hdepT: ∀e,Mg all k e=true->e∈T/\e∉js:=fun e he=>inList e (hdep e he)
      have hU':k∈U:=hUm k hkn hun
      have hUl:(U.erase k).length<=Dy:=by
        rw[List.length_erase_of_mem hU'];omega
      have hset: ∀i,i≠k->(listed.setIfInBounds k true).getD i true=listed.getD i true:=fun i hi=>getD_set_ne true (Ne.symm hi)
      have hsetk:(listed.setIfInBounds k true).getD k true=true:=by
        have:k<listed.size:=by rw[h.size];exact hkn
        simp [this]
      have hup: ∀e,listed.getD e false=true->(listed.setIfInBounds k true).getD e false=true:=by
        intro e he
        have hlt:e<listed.size:=by
          rcases Nat.lt_or_ge e listed.size with h' | h'
          · exact h'
          · simp [Array.getElem?_eq_none h'] at he
        by_cases hek:e=k
        · subst hek
          simp [hlt]
        · rw[getD_set_ne false (Ne.symm hek)];exact he
      have hclo: ∀i,i<all.length->(listed.setIfInBounds k true).getD i true=true-> ∀e,Mg all i e=true->(listed.setIfInBounds k true).getD e false=true:=by
        intro i hi hl e he
        by_cases hik:i=k
        · subst hik;exact hup e (hdep e he)
        · rw[hset i hik] at hl
          exact hup e (h.clo i hi hl e he)
      have hUm': ∀i,i<all.length->(listed.setIfInBounds k true).getD i true=false->i∈U.erase k:=by
        intro i hi hl
        by_cases hik:i=k
        · subst hik;rw[hsetk] at hl;cases hl
        · rw[hset i hik] at hl
          exact(List.mem_erase_of_ne hik).2 (hUm i hi hl)
      by_cases hkj:k∈js
      · -- it was taken before
        obtain⟨A,B,rfl⟩:=List.append_of_mem hkj
        have hpw:=List.pairwise_append.1 h.pair
        have hnd:=h.nodup
        rw[List.nodup_append] at hnd
        have apA: ∀j∈A,Apart all j k:=by
          intro j hj
          have hjlt:=(h.sub j (by simp [hj])).2
          obtain⟨x,hx⟩:=Nf hjlt
          rcases(hpw.2.2 j hj k (by simp)).1 with hd | ha
          · exact absurd (by simp [hj]) (hdepT j hd).2
          · exact Xu hx ho ha
        obtain⟨d,hev,hrest⟩:=Seq.front apA h.seq
        obtain⟨o',ho',heo,hev⟩:=hev
        rw[ho] at ho';cases ho'
        have hdst:It all k=o.dst:=by simp [It,ho]
        have hat:dAt P G all (fun s1=>s1=⟨Ep c.env o.dst d,c.heap⟩) Q c (some o):=by
          rw[Ab4]
          rcases hev with⟨hw,hv⟩ | ⟨hw,rfl⟩
          · exact .inl ⟨hw,hv _ _ rfl⟩
          · exact .inr ⟨hw,rfl⟩
        refine wpOpIn_mono ?_ (Ab5 hF hall ho h.sim h.ext hat)
        rintro a' w' ⟨s1,rfl,hS',hE'⟩
        refine ih (U.erase k) T (A++B) p ⟨Ep c.env o.dst d,c.heap⟩ s a' w' _ ?_ hUl hUm'
        have memE: ∀i,i∈A++B->i∈A++k::B:=fun i hi=>by
          simp only[List.mem_append,List.mem_cons] at hi⊢
          rcases hi with hi | hi
          · exact .inl hi
          · exact .inr (.inr hi)
        have subl:(A++B).Sublist (A++k::B):=List.Sublist.append (List.Sublist.refl A) (List.sublist_cons_self k B)
        have kno:k∉A++B:=by
          intro hm
          have:=h.nodup
          rw[(List.perm_middle (a:=k) (l₁:=A) (l₂:=B)).nodup_iff] at this
          exact(List.nodup_cons.1 this).1 hm
        exact {
          sim:=hS',ext:=h.ext.trans hE',seq:=by rw[hdst] at hrest;exact hrest,plan:=h.plan,ok:=h.ok,cov:=h.cov
          size:=by simp [h.size]
          iff:=fun i hi=>by
            by_cases hik:i=k
            · subst hik
              rw[hsetk]
              exact⟨fun _=>⟨(h.sub i (by simp)).1,kno⟩,fun _=>rfl⟩
            · rw[hset i hik,h.iff i hi]
              simp only[List.mem_append,List.mem_cons,not_or]
              constructor
              · rintro⟨g1,g2,g3⟩;exact⟨g1,g2,g3.2⟩
              · rintro⟨g1,g2,g3⟩;exact⟨g1,g2,hik,g3⟩
          sub:=fun i hi=>h.sub i (memE i hi)
          tlt:=h.tlt
          nodup:=h.nodup.sublist subl
          eager:=fun i hi=>h.eager i (memE i hi)
          pair:=h.pair.sublist subl
          out:=fun i hi=>h.out i (memE i hi)
          deps:=fun i hi=>h.deps i (memE i hi)
          clo:=hclo }
      · -- it is the plan's next
        have hkT:k∉T:=by
          intro hm
          have:=(h.iff k hkn).2 ⟨hm,hkj⟩
          rw[hun] at this;cases this
        have hf:=Bm2 h.cov h.ok hnt hkn hkT fun e he=>(hdepT e he).1
        obtain⟨ls,p',hok,hpl⟩:=Sm p T s k h.ok h.plan hf
        simp only[Gd,jF,decide_eq_true_eq,Bool.not_eq_true'] at hok
        obtain⟨⟨⟨⟨⟨_,_⟩,hd⟩,hlk⟩,hc'⟩,hp'⟩:=hok
        simp only[Kr,ho] at hpl
        have apJ: ∀j∈js,Apart all j k:=by
          intro j hj
          obtain⟨x,hx⟩:=Nf (h.sub j hj).2
          rcases h.out j hj k hkn hkT with hd | ha
          · exact absurd hj (hdepT j hd).2
          · exact Xu hx ho ha
        have hdst:It all k=o.dst:=by simp [It,ho]
        have hlooks:looks all k=o.looksAt all.toArray:=by simp [looks,ho]
        have agree: ∀t∈o.looksAt all.toArray,c.env t=s.env t:=by
          intro t ht
          refine(Seq.env h.seq t fun j hj e=> ?_).symm
          exact(apJ j hj).a t e (by rw[hlooks];exact ht)
        have shift: ∀d H',Co4 G all ls s (Kr P G all Q p') ⟨Ep s.env o.dst d,H'⟩->
            (∃s1,Kr P G all Q p' s1/\Seq P G all ⟨Ep c.env o.dst d,H'⟩ js s1):=by
          intro d H' hK
          refine⟨_,hK.2,Seq.shift h.seq (fun j hj t e=> ?_) (fun j hj t e e2=> ?_) ?_⟩
          · exact(apJ j hj).c t (by rw[hdst];exact e)
          · exact(apJ j hj).b t e (by rw[hdst];exact e2)
          · intro A j B e oj a hoj hla
            have hjm:j∈js:=by rw[e];simp
            have hjT:=(h.sub j hjm).1
            unfold Bu2 at hlk
            rw[List.all_eq_true] at hlk
            have hl:=hlk j hjT
            simp only[Ud,hoj,hla,Bool.or_eq_true,jF,List.contains_iff_mem,bne_iff_ne] at hl
            rcases hl with(hl | ⟨hl1,hl2⟩) | ⟨hl1,hl2⟩
            · exact absurd hjm (hdepT j hl).2
            · rcases Ug h.size hdep h.clo (k+1) [k] (fun m hm=> .inl (by simpa using hm)) j hl2 with hh | hh
              · exact absurd hh hl1
              · exact absurd hjm (inList j hh).2
            · refine⟨fun t ht m hm hdm=> ?_, ?_⟩
              · subst ht
                simp only[Ba5,List.all_eq_true,Bool.or_eq_true,bne_iff_ne] at hl2
                have hmj:m∈js:=by rw[e];exact List.mem_append_right _ hm
                rcases hl2 m (h.sub m hmj).1 with g | g
                · exact g hdm
                · simp only[List.mem_cons] at hm
                  rcases hm with rfl | hm
                  · exact(h.deps m hmj m g).2 rfl
                  · have hp:=h.pair
                    rw[e,List.pairwise_append] at hp
                    have:=(List.pairwise_cons.1 hp.2.1).1 m hm
                    rw[g] at this
                    cases this.2
              · have hkl:=Al7 hK.1 j hl1
                simp only[Ud,hoj,hla,Co2] at hkl
                rw[<-Seq.heap h.seq]
                exact hkl
        have hat:dAt P G all (fun c1=> ∃s1,Kr P G all Q p' s1/\Seq P G all c1 js s1) Q c (some o):=by
          rw[Ab4] at hpl⊢
          rw[Ue agree]
          have hheap:=Seq.heap h.seq
          rcases hpl with⟨hw,hop⟩ | ⟨hw,hput⟩
          · refine .inl ⟨hw,Cd7 o.op (Al5 (all:=all) agree) hheap.symm (fun d H' hK=>shift d H' hK) (fun v H' hq=>hQ v _ _ H' hq) hop⟩
          · refine .inr ⟨hw, ?_⟩
            unfold Bb at hput⊢
            rw[<-hheap]
            exact shift _ _ hput
        refine wpOpIn_mono ?_ (Ab5 hF hall ho h.sim h.ext hat)
        rintro a' w' ⟨c1,⟨s1,hp1,hseq⟩,hS',hE'⟩
        refine ih (U.erase k) (k::T) js p' c1 s1 a' w' _ ?_ hUl hUm'
        exact {
          sim:=hS',ext:=h.ext.trans hE',seq:=hseq,plan:=hp1,ok:=hp',cov:=hc'
          size:=by simp [h.size]
          iff:=fun i hi=>by
            by_cases hik:i=k
            · subst hik
              rw[hsetk]
              exact⟨fun _=>⟨by simp,hkj⟩,fun _=>rfl⟩
            · rw[hset i hik,h.iff i hi]
              simp [hik]
          sub:=fun i hi=>⟨by simp [(h.sub i hi).1],(h.sub i hi).2⟩
          tlt:=fun i hi=>by
            simp only[List.mem_cons] at hi
            rcases hi with rfl | hi
            · exact hkn
            · exact h.tlt i hi
          nodup:=h.nodup
          eager:=h.eager
          pair:=h.pair
          out:=fun i hi m hm hmT=>h.out i hi m hm (fun hh=>hmT (by simp [hh]))
          deps:=fun i hi e he=>⟨by simp [(h.deps i hi e he).1],(h.deps i hi e he).2⟩
          clo:=hclo }
theorem Dc5 {id:Nat} {ops:Array Oper} {s:DS} (hm:P.follows .mixedOrders=true) (p:Plan)
    (hp:(ops.toList.all (Gr N)&&Al4 ops.toList [] p&&Gd ops.toList p [])=true) (h:Kr P G ops.toList (QP Q) p s):DWp P G N (.region id ops true) Q s:=by
  intro F n B hF a w hS
  simp only[jF] at hp
  obtain⟨⟨hall,hc⟩,hok⟩:=hp
  have hE:Ext s.heap w s.heap { w with drawn:=w.drawn+1 }:=⟨rfl,rfl,rfl,Nat.le_refl _,fun _ _ _=>rfl,fun _ h=> .inl h,fun _ _=>rfl,fun _ _ _=>rfl⟩
  have hSH:Av { w with drawn:=w.drawn+1 } s.heap:=fun r o hr=>(hS.heap r o hr).lasts hE.lasts
  have hS':Sim G ⟨N.n,B⟩ s a { w with drawn:=w.drawn+1 }:=hS.ext hE hSH
  have key:=Inv.sound (n:=n) hF (P:=P) (G:=G) (N:=⟨N.n,B⟩) (all:=ops.toList) (Q:=QP Q) (s0:=s) (w0:=w) hall
    (fun v env env' h hq env''=>hq env'') ops.toList.length (List.range ops.toList.length) [] [] p s s a { w with drawn:=w.drawn+1 } (Array.replicate ops.size false)
    { sim:=hS',ext:=hE,seq:=rfl,plan:=h,ok:=hok,cov:=hc,size:=by simp
      iff:=fun i hi=>by
        have:i<ops.size:=by simpa using hi
        simp [this]
      sub:=by simp
      tlt:=by simp
      nodup:=by simp
      eager:=by simp
      pair:=by simp
      out:=by simp
      deps:=by simp
      clo:=fun k hk hl=>by
        have:k<ops.size:=by simpa using hk
        simp [this] at hl } (by simp) (fun i hi _=>by simpa using hi)
  have e1:ops.toList.toArray=ops:=by simp
  have e2:ops.toList.length=ops.size:=by simp
  rw[e1,e2] at key
  refine wpIn_mono (wpIn_region_any hm key) ?_
  rintro e a' w' ⟨e',s',hq,hx,hS1,hE1⟩
  refine⟨e',s', ?_,hx,hS1,hE1⟩
  cases hx with
  | normal=>exact hq
  | panic d v hv=>exact hq s'.env
  | exit=>exact hq.elim
  | goto=>exact hq.elim
  | ret=>exact hq.elim
end
end Go.Dl

-- THE DATA LEVEL, PART 3: plans run by simp.
namespace Go.Dl
open Go
attribute [go_sem] En.eq_1 En.eq_2 En.eq_3 Ub.eq_1 Ub.eq_2 Ub.eq_3 Ub.eq_4 Ub.eq_5 Ub.eq_6 Uc.eq_1 Do9.eq_1 Do9.eq_2 dAt.eq_1 Hs.eq_1 Hs.eq_2 Co2.eq_1 Co2.eq_2 Ud.eq_1 As9.eq_1 As9.eq_2 As9.eq_3 Co3.eq_1 Co3.eq_2 Kr.eq_1 Kr.eq_2 Kr.eq_3 Kr.eq_4 QP.eq_1 QP.eq_2
attribute [go_sem] Co4
section
variable (v:DVal) (H H':Ab)
@[go_sem] theorem Dk5 (cs:List DVal) (o:Nat):Hs H H' (.vptr cs o)=True:=rfl
@[go_sem] theorem Cz8 (cs:List DVal) (o:Nat):Hs H H' (.vslice cs o)=True:=rfl
@[go_sem] theorem Dp0 (k:IntKind) (n:Int):Hs H H' (.int k n)=True:=rfl
@[go_sem] theorem Dk6 (b:Bool):Hs H H' (.bool b)=True:=rfl
@[go_sem] theorem Ck3:Hs H H' .nilSlice=True:=rfl
@[go_sem] theorem Dp1 (s:List UInt8):Hs H H' (.str s)=True:=rfl
end
end Go.Dl

-- THE DATA LEVEL, PART 5: loops over iterators: a round, the statement.
namespace Go.Dl
open Go Go.RowKit
section
variable {P:Program} {G:Nat->DVal} {N:Nat} {w w':World} {Q:DExit->DS->Prop}
theorem Hx {α:Type} {f:Nat->Option α} {l:Nat} (h:f l=none) (x:Option α):upd (upd f l x) l none=f:=by
 funext i;simp only[upd];split
 ·rename_i e;subst e;exact h.symm
 ·rfl
end
end Go.Dl

-- THE DATA LEVEL, PART 6: a heap in two parts; the contract of an iterator; the loop over it.
namespace Go.Dl
open Go Go.RowKit
def Ba6 (Hi X:Ab):Ab:=fun r=>match X r with
 | some o=>some o
 | none=>Hi r
def Du9 (Hi X:Ab):Prop:= ∀r,X r≠none->Hi r=none
def h0:Ab:=fun _=>none
theorem Bu4 (Hi:Ab):Ba6 Hi h0=Hi:=rfl
theorem Bu5 {Hi X:Ab} {r:Nat} (h:X r=none):Ba6 Hi X r=Hi r:=by simp [Ba6,h]
theorem Dp2 {Hi X:Ab} {r:Nat} {o:DObj} (h:X r=some o):Ba6 Hi X r=some o:=by simp [Ba6,h]
theorem Dk7 {H:Ab} {r r':Nat} {o:DObj}:upd H r (some o) r'=none↔r'≠r/\r≠r'/\H r'=none:=by
 unfold upd;by_cases e:r'=r
 ·simp [e]
 ·simp [e,Ne.symm e,eq_comm]
section
end
end Go.Dl

-- THE DATA LEVEL, PART 7: own memory seen as memory that lasts; calls that only look.
namespace Go.Dl
open Go Go.RowKit
mutual
/-- The value, with block r (its cells: cs) seen as memory that lasts. -/
def fz (r:Nat) (cs:List DVal):DVal->DVal
 | .optr r' off=>if r'=r then .vptr cs off else .optr r' off
 | .oslice sz r' off len lo=>if r'=r then .vslice ((cs.drop off).take (len*sz)) len else .oslice sz r' off len lo
 | .func fn a c=> .func fn (fzs r cs a) (fzs r cs c)
 | .iface t v=> .iface t (fz r cs v)
 | .agg l=> .agg (fzs r cs l)
 | .tuple l=> .tuple (fzs r cs l)
 | .vptr l off=> .vptr (fzs r cs l) off
 | .vslice l n=> .vslice (fzs r cs l) n
 | d=>d
def fzs (r:Nat) (cs:List DVal):List DVal->List DVal
 | []=> []
 | d::ds=>fz r cs d::fzs r cs ds
end
section
variable {P:Program} {G:Nat->DVal} {w:World} {H:Ab}
theorem Ci (H:Ab) (r:Nat) (w:World):Lasts H w (upd H r none) w:=
 ⟨fun b i x hb hc=>⟨by simp only[upd];split;rfl;exact hb,hc⟩,Nat.le_refl _,fun _ _=>rfl⟩
theorem Qf (hH:Av w H) {r:Nat} {cs:List DVal} {e:TypeId} (hr:H r=some (.cells cs e)): ∃xs,An w (upd H r none) cs xs/\Mi w (upd H r none) r 0 xs:=by
 obtain⟨xs,hl,hh⟩:=hH.holds hr;exact⟨xs,hl.lasts (Ci H r w), .inr ⟨by simp [upd],fun i x hx=>by simpa using hh i x hx⟩⟩
theorem Mi.part {b off:Nat} {xs:List Value} (h:Mi w H b off xs) (m n:Nat):Mi w H b (off+m) ((xs.drop m).take n):=by
 rcases h with rfl | ⟨h1,h2⟩
 ·exact .inl (by simp)
 ·refine .inr ⟨h1,fun i x hx=> ?_⟩;have:xs[m+i]? =some x:=by
   rw[List.getElem?_take] at hx;split at hx
   ·simpa using hx
   ·cases hx
  have:=h2 _ x this
  rwa [<-Nat.add_assoc] at this
mutual
theorem Bm3 (hH:Av w H) {r:Nat} {cs:List DVal} {e:TypeId} (hr:H r=some (.cells cs e)): ∀(d:DVal) (v:Value),Rel w H d v->Rel w (upd H r none) (fz r cs d) v
 | .optr r' off,v,h=>by
  simp only[fz]
  split
  ·rename_i e';subst e'
   simp only[Rel] at h⊢
   obtain⟨xs,hl,hc⟩:=Qf hH hr
   exact⟨r',0,xs,by simpa using h,hc,hl⟩
  ·simpa [Rel] using h
 | .oslice sz r' off len lo,v,h=>by
  simp only[fz]
  split
  ·rename_i e';subst e'
   simp only[Rel] at h⊢
   obtain⟨o,cap,rfl,h1,h2,h3,h4⟩:=h
   obtain⟨xs,hl,hc⟩:=Qf hH hr
   refine⟨_,cap,rfl,h2, ?_⟩
   by_cases h0:cap=0
   ·have:len=0:=by omega
    subst this;left;simp
   ·have ho:o=off:=h3.resolve_left h0
    subst ho
    right
    refine⟨r',o,(xs.drop o).take (len*sz),rfl, ?_,(hl.drop o).take _⟩
    have:=hc.part o (len*sz)
    simpa using this
  ·exact Rel.lasts (Ci H r w) _ _ h
 | .func fn a c,v,h=>by
  simp only[Rel,fz] at h⊢
  obtain⟨xs,ys,rfl,h1,h2⟩:=h
  exact⟨xs,ys,rfl,Of hH hr _ _ h1,Of hH hr _ _ h2⟩
 | .iface t d,v,h=>by
  simp only[Rel,fz] at h⊢
  obtain⟨x,rfl,h1⟩:=h
  exact⟨x,rfl,Bm3 hH hr _ _ h1⟩
 | .agg l,v,h=>by
  simp only[Rel,fz] at h⊢
  obtain⟨x,rfl,h1⟩:=h
  exact⟨x,rfl,Of hH hr _ _ h1⟩
 | .tuple l,v,h=>by
  simp only[Rel,fz] at h⊢
  obtain⟨x,rfl,h1⟩:=h
  exact⟨x,rfl,Of hH hr _ _ h1⟩
 | .raw x,v,h=>by simp only[fz];exact Rel.lasts (Ci H r w) _ _ h
 | .bool x,v,h=>by simp only[fz];exact Rel.lasts (Ci H r w) _ _ h
 | .int x y,v,h=>by simp only[fz];exact Rel.lasts (Ci H r w) _ _ h
 | .str x,v,h=>by simp only[fz];exact Rel.lasts (Ci H r w) _ _ h
 | .nilPtr,v,h=>by simp only[fz];exact Rel.lasts (Ci H r w) _ _ h
 | .vptr l off,v,h=>by
  simp only[Rel,fz] at h⊢
  obtain⟨b,o,xs,rfl,h1,h2⟩:=h
  exact⟨b,o,xs,rfl,h1.lasts (Ci H r w),Of hH hr _ _ h2⟩
 | .nilSlice,v,h=>by simp only[fz];exact Rel.lasts (Ci H r w) _ _ h
 | .vslice l n,v,h=>by
  simp only[Rel,fz] at h⊢
  obtain⟨a,cap,rfl,hle,h1⟩:=h
  refine⟨a,cap,rfl,hle, ?_⟩
  rcases h1 with h1 | ⟨b,o,xs,rfl,h1,h2⟩
  ·subst h1;exact .inl rfl
  ·exact .inr ⟨b,o,xs,rfl,h1.lasts (Ci H r w),Of hH hr _ _ h2⟩
 | .nilMap,v,h=>by simp only[fz];exact Rel.lasts (Ci H r w) _ _ h
 | .omap x,v,h=>by simp only[fz];exact Rel.lasts (Ci H r w) _ _ h
 | .nilFunc,v,h=>by simp only[fz];exact Rel.lasts (Ci H r w) _ _ h
 | .nilIface,v,h=>by simp only[fz];exact Rel.lasts (Ci H r w) _ _ h
theorem Of (hH:Av w H) {r:Nat} {cs:List DVal} {e:TypeId} (hr:H r=some (.cells cs e)): ∀(ds:List DVal) (vs:List Value),An w H ds vs->An w (upd H r none) (fzs r cs ds) vs
 | [],vs,h=>by simpa [fzs,An] using h
 | d::ds,vs,h=>by
  simp only[fzs,An] at h⊢
  obtain⟨y,ys,rfl,h1,h2⟩:=h
  exact⟨y,ys,rfl,Bm3 hH hr _ _ h1,Of hH hr _ _ h2⟩
end
def Ht (H:Ab) (v:DVal) (H':Ab) (v':DVal):Prop:= ∀w,Av w H->Av w H'/\(∀b,H' b≠none->H b≠none)/\ ∀x,Rel w H v x->Rel w H' v' x
theorem Ht.trans {H H' H'':Ab} {v v' v'':DVal} (h:Ht H v H' v') (k:Ht H' v' H'' v''):Ht H v H'' v'':=fun w hw=>by
 obtain⟨h1,h2,h3⟩:=h w hw;obtain⟨k1,k2,k3⟩:=k w h1;exact⟨k1,fun b hb=>h2 b (k2 b hb),fun x hx=>k3 x (h3 x hx)⟩
theorem Ht.fz {H:Ab} {v:DVal} {r:Nat} {cs:List DVal} {e:TypeId} (hr:H r=some (.cells cs e)):Ht H v (upd H r none) (fz r cs v):=fun w hw=>
 ⟨hw.letGo r,fun b hb=>by simp only[upd] at hb;split at hb<;>simp_all,fun x hx=>Bm3 hw hr _ _ hx⟩
theorem Ht.drop (H:Ab) (v:DVal) (r:Nat):Ht H v (upd H r none) v:=fun w hw=>
 ⟨hw.letGo r,fun b hb=>by simp only[upd] at hb;split at hb<;>simp_all,fun x hx=>Rel.lasts (Ci H r w) _ _ hx⟩
theorem Pl.ghost {R:DEnd->Ab->Prop} {v v':DVal} {H H':Ab} (g:Ht H v H' v') (h:Pl R v' H'):Pl R v H:=by
 obtain⟨v2,H2,k,hR⟩:=h;exact⟨v2,H2,g.trans k,hR⟩
theorem Pl.fz {R:DEnd->Ab->Prop} {v:DVal} {H:Ab} (r:Nat) {cs:List DVal} {e:TypeId} (hr:H r=some (.cells cs e)) (h:Pl R (fz r cs v) (upd H r none)):Pl R v H:= .ghost (.fz hr) h
theorem Pl.drop {R:DEnd->Ab->Prop} {v:DVal} {H:Ab} (r:Nat) (h:Pl R v (upd H r none)):Pl R v H:= .ghost (.drop H v r) h
theorem Ae.ghost {f:FuncId} {args:List DVal} {H:Ab} {R R':DEnd->Ab->Prop} (h:Ae P G f args H R) (hr: ∀e H',R e H'-> ∃v v' H'',e= .ret v/\Ht H' v H'' v'/\R' (.ret v') H''):Ae P G f args H R':=by
 refine⟨h.1,fun vs w hv hH hG=>(h.2 vs w hv hH hG).mono fun e w' ⟨e',H',r,k1,k2,k3⟩=> ?_⟩;obtain⟨v,v',H'',rfl,g,r'⟩:=hr _ _ r;obtain⟨g1,g2,g3⟩:=g w' k2;cases k1 with
 | ret d x hx=>exact⟨.ret v',H'',r', .ret _ _ (g3 x hx),g1,k3.os,k3.tape,k3.output,k3.size,k3.block,fun b hb=>k3.own b (g2 b hb),k3.keep,k3.fz⟩
theorem Ae.pre {f:FuncId} {args args':List DVal} {H H':Ab} {R:DEnd->Ab->Prop} (g:Ht H (.tuple args) H' (.tuple args')) (h:Ae P G f args' H' R):Ae P G f args H R:=by
 refine⟨h.1,fun vs w hv hH hG=> ?_⟩;obtain⟨g1,g2,g3⟩:=g w hH;have hl:Lasts H w H' w:=⟨fun b i x hb hc=>⟨by
  cases e:H' b with
  | none=>rfl
  | some o=>exact absurd hb (g2 b (by simp [e])),hc⟩,Nat.le_refl _,fun _ _=>rfl⟩
 have hv':An w H' args' vs:=by
  have:=g3 (.tuple vs.toArray) (by simp only[Rel];exact⟨_,rfl,hv⟩);simp only[Rel] at this;obtain⟨xs,h1,h2⟩:=this;cases h1;exact h2
 refine(h.2 vs w hv' g1 (hG.lasts hl)).mono fun e w' ⟨e',H'',r,k1,k2,k3⟩=>⟨e',H'',r,k1,k2,k3.os,k3.tape,k3.output,k3.size,fun b hb hn=>k3.block b hb (by
  cases e:H' b with
  | none=>rfl
  | some o=>exact absurd hn (g2 b (by simp [e]))),fun b hb=> ?_,k3.keep,fun a ha hn=>k3.fz a ha (by
  cases e:H' a.block with
  | none=>rfl
  | some o=>exact absurd hn (g2 a.block (by simp [e])))⟩
 rcases k3.own b hb with k | k
 ·exact .inl (g2 b k)
 ·exact .inr k
theorem Ae.fzArgs {f:FuncId} {args:List DVal} {H:Ab} {R:DEnd->Ab->Prop} (r:Nat) {cs:List DVal} {e:TypeId} (hr:H r=some (.cells cs e)) (h:Ae P G f (fzs r cs args) (upd H r none) R):Ae P G f args H R:=
 .pre (by have:=Ht.fz (v:= .tuple args) hr;simpa only[fz] using this) h
def Co6:DVal->Bool
 | .bool _ | .int _ _ | .str _ | .nilPtr | .nilSlice | .nilMap | .nilFunc | .nilIface=>true
 | .tuple l=>plains l
 | .agg l=>plains l
 | _=>false
where plains:List DVal->Bool
 | []=>true
 | d::ds=>Co6 d&&plains ds
end
attribute [go_sem] fz.eq_1 fz.eq_2 fz.eq_3 fz.eq_4 fz.eq_5 fz.eq_6 fzs.eq_1 fzs.eq_2
end Go.Dl

-- THE DATA LEVEL, PART 8: loops over iterators, ready for use.
namespace Go.Dl
open Go Go.RowKit
attribute [go_sem] Bu4
theorem Gm {α:Type} (f:Nat->α) (r:Nat) (a b:α):upd (upd f r a) r b=upd f r b:=by
 funext i;simp only[upd];split<;>rfl
theorem Qg {α:Type} {r1 r2:Nat} (h:r1≠r2) (f:Nat->α) (a b:α):upd (upd f r2 b) r1 a=upd (upd f r1 a) r2 b:=by
 funext i;simp only[upd];by_cases e1:i=r1<;>by_cases e2:i=r2<;>simp_all
theorem Ba7 (xs ys:List DVal):Cj xs 0 ys=ys++xs.drop ys.length:=by simp [Cj]
theorem Ba8 (x:DVal) (xs ys:List DVal) (n:Nat):Cj (x::xs) (n+1) ys=x::Cj xs n ys:=by
 simp [Cj,Nat.add_right_comm]
attribute [go_sem] Gm Ba7 Ba8
theorem Ae.fzA {P:Program} {G:Nat->DVal} {f:FuncId} {args:List DVal} {H:Ab} {R:DEnd->Ab->Prop} (r:Nat) {cs:List DVal} {e:TypeId} (hr:H r=none) (h:Ae P G f (fzs r cs args) H R):Ae P G f args (upd H r (some (.cells cs e))) R:=
 Ae.fzArgs r (Aa _ _ _) (by rw[Hx hr];exact h)
theorem Pl.fzA {R:DEnd->Ab->Prop} {v:DVal} {H:Ab} (r:Nat) {cs:List DVal} {e:TypeId} (hr:H r=none) (h:Pl R (Dl.fz r cs v) H):Pl R v (upd H r (some (.cells cs e))):=
 Pl.fz r (Aa _ _ _) (by rw[Hx hr];exact h)
theorem Pl.dropA {R:DEnd->Ab->Prop} {v:DVal} {H:Ab} (r:Nat) {o:Option DObj} (hr:H r=none) (h:Pl R v H):Pl R v (upd H r o):=
 Pl.drop r (by rw[Hx hr];exact h)
section
variable {P:Program} {G:Nat->DVal} {N:Nat} {Q:DExit->DS->Prop}
theorem Am {id:Nat} {ops:List Oper} {s:DS} (hm:P.follows .mixedOrders=true) (p:Plan) (hp:(ops.all (Gr N)&&Al4 ops [] p&&Gd ops p [])=true) (h:Kr P G ops (QP Q) p s):dwp P G N (.region id ops.toArray true) Q s:=
 Dc5 (N:=⟨N,⟨0,[],false⟩⟩) hm p (by simpa using hp) (by simpa using h)
end
end Go.Dl

-- THE DATA LEVEL, PART 9: slices that are built up; plain lists seen as slices.
namespace Go.Dl
open Go Go.RowKit
abbrev Bo (v:DVal) (H:Ab):DEnd->Ab->Prop:=fun e H'=>e= .ret v/\H'=H
def Dc6 (H:Ab) (e:TypeId) (size n:Nat) (cs:List DVal) (v:DVal) (H':Ab):Prop:=
 (n=0/\cs= []/\v= .nilSlice/\H'=H)\/ ∃r,H r=none/\cs.length=n*size/\v= .oslice size r 0 n n/\H'=upd H r (some (.cells cs e))
section
variable {P:Program} {G:Nat->DVal} {Q:DExit->DS->Prop}
theorem Co7 {α:Type} {f:Nat->α} {r:Nat} {x:α} (h:f r=x):upd f r x=f:=by
 funext i;simp only[upd];split
 ·rename_i e;rw[e,h]
 ·rfl
theorem Xv {e:TypeId} {size bytes r off len lo n:Nat} {news:List DVal} {dst:Option Nat} {K:DK} {s:DS} {cs:List DVal} (h:len+n<=lo):
  Lo e size bytes r off len lo n news dst K s (some (.cells cs e))=(off+(len+n)*size<=cs.length/\
    K ⟨Ep s.env dst (.oslice size r off (len+n) lo),upd s.heap r (some (.cells (Cj cs (off+len*size) news) e))⟩):=by
 simp only[Lo,true_and,eq_iff_iff];exact⟨fun k=>k.1 h,fun k=>⟨fun _=>k,fun hn=>(hn h).elim⟩⟩
theorem Uh {e:TypeId} {size bytes r len lo n:Nat} {news:List DVal} {dst:Option Nat} {K:DK} {s:DS} {cs:List DVal} (hle:len<=lo) (h:lo<len+n):
  Lo e size bytes r 0 len lo n news dst K s (some (.cells cs e))=(len*size<=cs.length/\(len+n)*bytes<=35184372088832/\ ∀r',upd s.heap r none r'=none->
    K ⟨Ep s.env dst (.oslice size r' 0 (len+n) (len+n)),upd (upd s.heap r none) r' (some (.cells (cs.take (len*size)++news) e))⟩):=by
 simp only[Lo,true_and,eq_iff_iff,hle,true_or,if_true];have hn: ¬len+n<=lo:=by omega
 refine⟨fun k=> ?_,fun k=>⟨fun hh=>(hn hh).elim,fun _=> ?_⟩⟩
 ·obtain⟨k1,k2,k3⟩:=k.2 hn;refine⟨by omega,k2,fun r' hr=> ?_⟩;have:=k3 r' [] hr (fun _=>rfl);simpa using this
 ·obtain⟨k1,k2,k3⟩:=k;refine⟨by omega,k2,fun r' pre hr hp=> ?_⟩;have hpre:=hp trivial;subst hpre;have:=k3 r' hr;simpa using this
theorem Ht.slice {H:Ab} {e:TypeId} {size n lo:Nat} {cs rest:List DVal} {r:Nat} (hr:H r=none) (hl:cs.length=n*size):Ht (upd H r (some (.cells (cs++rest) e))) (.oslice size r 0 n lo) H (.vslice cs n):=by
 have:=Ht.fz (v:= .oslice size r 0 n lo) (Aa H r (some (.cells (cs++rest) e)));rw[Hx hr] at this;simp only[Dl.fz,if_pos,jJ] at this;rw[List.take_append_of_le_length (by omega),List.take_of_length_le (by omega)] at this;exact this
theorem Dc6.ghost {H H0:Ab} {e:TypeId} {size n:Nat} {cs:List DVal} {v:DVal} (hv:Dc6 H e size n cs v H0):Ht H0 v H (.vslice cs n):=by
 rcases hv with⟨rfl,rfl,rfl,rfl⟩ | ⟨r,hr,hl,rfl,rfl⟩
 ·intro w hw;refine⟨hw,fun _ h=>h,fun x hx=> ?_⟩;simp only[Rel] at hx⊢
  exact⟨none,0,hx,Nat.le_refl _, .inl (by simp)⟩
 ·have:=Ht.fz (v:= .oslice size r 0 n n) (Aa H r (some (.cells cs e)));rw[Hx hr] at this;simp only[fz,if_pos,jJ] at this;rw[List.take_of_length_le (by omega)] at this;exact this
end
def DLe (d d':DVal):Prop:= ∀(w:World) (H:Ab) (x:Value),Rel w H d x->Rel w H d' x
def Bm4 (ds ds':List DVal):Prop:= ∀(w:World) (H:Ab) (x:List Value),An w H ds x->An w H ds' x
theorem DLe.refl (d:DVal):DLe d d:=fun _ _ _ h=>h
theorem Bm4.nil:Bm4 [] []:=fun _ _ _ h=>h
theorem Bm4.refl (ds:List DVal):Bm4 ds ds:=fun _ _ _ h=>h
theorem Bm4.cons {d d':DVal} {ds ds':List DVal} (h:DLe d d') (k:Bm4 ds ds'):Bm4 (d::ds) (d'::ds'):=fun w H x hx=>by
 simp only[An] at hx⊢
 obtain⟨y,ys,rfl,h1,h2⟩:=hx;exact⟨y,ys,rfl,h _ _ _ h1,k _ _ _ h2⟩
theorem DLe.nil:DLe .nilSlice (.vslice [] 0):=fun w H x hx=>by
 simp only[Rel] at hx⊢
 exact⟨none,0,hx,Nat.le_refl _, .inl (by simp)⟩
theorem DLe.tuple {cs cs':List DVal} (h:Bm4 cs cs'):DLe (.tuple cs) (.tuple cs'):=fun w H x hx=>by
 simp only[Rel] at hx⊢
 obtain⟨xs,rfl,h1⟩:=hx;exact⟨xs,rfl,h _ _ _ h1⟩
theorem DLe.agg {cs cs':List DVal} (h:Bm4 cs cs'):DLe (.agg cs) (.agg cs'):=fun w H x hx=>by
 simp only[Rel] at hx⊢
 obtain⟨xs,rfl,h1⟩:=hx;exact⟨xs,rfl,h _ _ _ h1⟩
theorem Ba9 {H H':Ab} (h: ∀r o,H' r=some o->H r=some o) {b:Nat} (hb:H b=none):H' b=none:=by
 cases e:H' b with
 | none=>rfl
 | some o=>rw[h b o e] at hb;cases hb
theorem Hh {H H':Ab} (h: ∀r o,H' r=some o->H r=some o) (w:World):Lasts H w H' w:=
 ⟨fun b i x hb hc=>⟨Ba9 h hb,hc⟩,Nat.le_refl _,fun _ _=>rfl⟩
theorem Ht.sub {H H':Ab} (h: ∀r o,H' r=some o->H r=some o) (v:DVal):Ht H v H' v:=fun w hw=>
 ⟨fun r o ho=>(hw r o (h r o ho)).lasts (Hh h w),fun b hb e=>hb (Ba9 h e),fun x hx=>Rel.lasts (Hh h w) _ _ hx⟩
theorem Pl.sub {R:DEnd->Ab->Prop} {v:DVal} {H H':Ab} (h: ∀r o,H' r=some o->H r=some o) (k:Pl R v H'):Pl R v H:= .ghost (.sub h v) k
theorem Ad {α:Type} {H:Nat->Option α} {a b:Nat} {o:α} (ha:H a=none) (hb:H b=some o):b≠a:=fun e=>by rw[e,ha] at hb;cases hb
theorem Sn (r:Nat) (cs:List DVal) (l m:List DVal):fzs r cs (l++m)=fzs r cs l++fzs r cs m:=by
 induction l with
 | nil=>simp [fzs]
 | cons d l ih=>simp [fzs,ih]
theorem Ae.leArgs {P:Program} {G:Nat->DVal} {f:FuncId} {args args':List DVal} {H:Ab} {R:DEnd->Ab->Prop} (g:Bm4 args args') (h:Ae P G f args' H R):Ae P G f args H R:=
 .pre (fun w hw=>⟨hw,fun _ h=>h,fun x hx=>DLe.tuple g _ _ _ hx⟩) h
theorem Bb0 {α:Type} (p:α->Bool) (x:α):Option.all p (some x)=p x:=rfl
attribute [go_sem] Xv Uh Bb0
end Go.Dl

-- THE DATA LEVEL: the lemmas that the long simp call (simp (disch := omega) only [go_sem] in fill.py) takes besides the equations.
namespace Go.Dl
open Go
attribute [go_sem] jD Int.sub_zero Int.zero_add Int.add_zero Nat.add_sub_cancel Cd1 jA jB List.all_cons List.all_nil Bool.and_true jS Bool.or_false Bool.false_or
attribute [go_sem] jM jR jE jJ decide_true decide_false Nat.mul_one Nat.one_mul Nat.zero_add Nat.add_zero Nat.mul_zero Nat.zero_mul Bool.not_true Bool.not_false
attribute [go_sem] Option.map_some Option.map_none Nat.le_refl Nat.zero_lt_succ ne_eq not_true_eq_false not_false_eq_true Option.isSome_some Do7 Cn2 Cd2 true_imp_iff false_imp_iff beq_self_eq_true forall_const jK
end Go.Dl

-- Facts on the types of this seat, each by the kernel. MADE BY PROGRAM (facts.py).
namespace Go.Dl
open Go Go.Proofs
theorem Dc7:Tryz.prog.cellsOf 2=1:=by kernel_rfl
theorem Dp3:(Tryz.prog.info? 2).isSome=true:=by kernel_rfl
theorem Dv0:Dv Tryz.prog 2=some false:=by kernel_rfl
theorem Dc8:Tryz.prog.cellsOf 3=1:=by kernel_rfl
theorem Dp4:(Tryz.prog.info? 3).isSome=true:=by kernel_rfl
theorem Dv1:Dv Tryz.prog 3=some false:=by kernel_rfl
theorem Dp5:Bm Tryz.prog 3=some (.int .i64 0):=by kernel_rfl
theorem Dc9:Tryz.prog.cellsOf 9=1:=by kernel_rfl
theorem Dp6:(Tryz.prog.info? 9).isSome=true:=by kernel_rfl
theorem Dv2:Dv Tryz.prog 9=some false:=by kernel_rfl
theorem Dp7:Bm Tryz.prog 9=some (.str []):=by kernel_rfl
theorem Co8:Tryz.prog.cellsOf 22=1:=by kernel_rfl
theorem Dd0:(Tryz.prog.info? 22).isSome=true:=by kernel_rfl
theorem Dp8:Dv Tryz.prog 22=some false:=by kernel_rfl
theorem Co9:Tryz.prog.cellsOf 23=1:=by kernel_rfl
theorem Dd1:(Tryz.prog.info? 23).isSome=true:=by kernel_rfl
theorem Dp9:Dv Tryz.prog 23=some false:=by kernel_rfl
theorem Cp0:Tryz.prog.cellsOf 24=1:=by kernel_rfl
theorem Dd2:(Tryz.prog.info? 24).isSome=true:=by kernel_rfl
theorem Dq0:Dv Tryz.prog 24=some false:=by kernel_rfl
theorem Cp1:Tryz.prog.cellsOf 25=1:=by kernel_rfl
theorem Dd3:(Tryz.prog.info? 25).isSome=true:=by kernel_rfl
theorem Dq1:Dv Tryz.prog 25=some false:=by kernel_rfl
theorem Cp2:Tryz.prog.cellsOf 27=9:=by kernel_rfl
theorem Cp3:Tryz.prog.bytesOf 27=104:=by kernel_rfl
theorem Dd4:(Tryz.prog.info? 27).isSome=true:=by kernel_rfl
theorem Dq2:Dv Tryz.prog 27=some true:=by kernel_rfl
theorem Dq3:Ja Tryz.prog 27=true:=by kernel_rfl
theorem Dd5:Bm Tryz.prog 27=some (.agg [.int .u8 0, .int .u8 0, .int .i64 0, .str [], .nilSlice, .nilSlice, .int .i64 0, .int .i64 0, .int .i64 0]):=by kernel_rfl
theorem Cp4:Tryz.prog.cellsOf 29=1:=by kernel_rfl
theorem Dd6:(Tryz.prog.info? 29).isSome=true:=by kernel_rfl
theorem Dq4:Dv Tryz.prog 29=some false:=by kernel_rfl
theorem Cp5:Tryz.prog.cellsOf 31=4:=by kernel_rfl
theorem Cp6:Tryz.prog.bytesOf 31=40:=by kernel_rfl
theorem Dd7:(Tryz.prog.info? 31).isSome=true:=by kernel_rfl
theorem Dq5:Dv Tryz.prog 31=some true:=by kernel_rfl
theorem Dq6:Ja Tryz.prog 31=true:=by kernel_rfl
theorem Dd8:Bm Tryz.prog 31=some (.agg [.int .u8 0, .int .i64 0, .str [], .int .i64 0]):=by kernel_rfl
theorem Cp7:Tryz.prog.cellsOf 32=1:=by kernel_rfl
theorem Dd9:(Tryz.prog.info? 32).isSome=true:=by kernel_rfl
theorem Dq7:Dv Tryz.prog 32=some false:=by kernel_rfl
theorem De0:Bm Tryz.prog 32=some (.nilSlice):=by kernel_rfl
theorem Cp8:Tryz.prog.cellsOf 36=1:=by kernel_rfl
theorem De1:(Tryz.prog.info? 36).isSome=true:=by kernel_rfl
theorem Dq8:Dv Tryz.prog 36=some false:=by kernel_rfl
theorem De2:Bm Tryz.prog 36=some (.int .i64 0):=by kernel_rfl
theorem Cp9:Tryz.prog.cellsOf 41=1:=by kernel_rfl
theorem De3:(Tryz.prog.info? 41).isSome=true:=by kernel_rfl
theorem Dq9:Dv Tryz.prog 41=some false:=by kernel_rfl
theorem Cq0:Tryz.prog.cellsOf 44=10:=by kernel_rfl
theorem Cq1:Tryz.prog.bytesOf 44=128:=by kernel_rfl
theorem De4:(Tryz.prog.info? 44).isSome=true:=by kernel_rfl
theorem Dr0:Dv Tryz.prog 44=some true:=by kernel_rfl
theorem Dr1:Ja Tryz.prog 44=true:=by kernel_rfl
theorem De5:Bm Tryz.prog 44=some (.agg [.nilSlice, .int .u8 0, .int .u8 0, .int .i64 0, .str [], .nilSlice, .nilSlice, .int .i64 0, .int .i64 0, .int .i64 0]):=by kernel_rfl
theorem Cq2:Tryz.prog.cellsOf 45=1:=by kernel_rfl
theorem De6:(Tryz.prog.info? 45).isSome=true:=by kernel_rfl
theorem Dr2:Dv Tryz.prog 45=some false:=by kernel_rfl
theorem De7:Bm Tryz.prog 45=some (.int .u8 0):=by kernel_rfl
theorem Cq3:Tryz.prog.cellsOf 47=2:=by kernel_rfl
theorem Cq4:Tryz.prog.bytesOf 47=32:=by kernel_rfl
theorem De8:(Tryz.prog.info? 47).isSome=true:=by kernel_rfl
theorem Dr3:Dv Tryz.prog 47=some true:=by kernel_rfl
theorem Dr4:Ja Tryz.prog 47=true:=by kernel_rfl
theorem De9:Bm Tryz.prog 47=some (.agg [.int .u8 0, .nilSlice]):=by kernel_rfl
theorem Cq5:Tryz.prog.cellsOf 54=1:=by kernel_rfl
theorem Df0:(Tryz.prog.info? 54).isSome=true:=by kernel_rfl
theorem Dr5:Dv Tryz.prog 54=some false:=by kernel_rfl
theorem Df1:Bm Tryz.prog 54=some (.nilSlice):=by kernel_rfl
theorem Cd8:Tryz.prog.cellsOf 113=1:=by kernel_rfl
theorem Cq6:(Tryz.prog.info? 113).isSome=true:=by kernel_rfl
theorem Df2:Dv Tryz.prog 113=some false:=by kernel_rfl
theorem Cq7:Bm Tryz.prog 113=some (.nilFunc):=by kernel_rfl
theorem Cd9:Tryz.prog.cellsOf 119=1:=by kernel_rfl
theorem Cq8:(Tryz.prog.info? 119).isSome=true:=by kernel_rfl
theorem Df3:Dv Tryz.prog 119=some false:=by kernel_rfl
theorem Cq9:Bm Tryz.prog 119=some (.nilFunc):=by kernel_rfl
theorem Df4:Ja Tryz.prog 226=true:=by kernel_rfl
theorem Cr0:Bm Tryz.prog 226=some (.agg [.nilSlice, .int .i64 0]):=by kernel_rfl
theorem Ce0:Tryz.prog.cellsOf 231=1:=by kernel_rfl
theorem Cr1:(Tryz.prog.info? 231).isSome=true:=by kernel_rfl
theorem Df5:Ja Tryz.prog 231=true:=by kernel_rfl
theorem Cr2:Bm Tryz.prog 231=some (.agg [.int .i64 0]):=by kernel_rfl
theorem Ce1:Tryz.prog.cellsOf 236=1:=by kernel_rfl
theorem Cr3:(Tryz.prog.info? 236).isSome=true:=by kernel_rfl
theorem Df6:Dv Tryz.prog 236=some false:=by kernel_rfl
theorem Cr4:Bm Tryz.prog 236=some (.nilMap):=by kernel_rfl
theorem Df7:Ja Tryz.prog 241=true:=by kernel_rfl
theorem Cr5:Bm Tryz.prog 241=some (.agg [.nilSlice]):=by kernel_rfl
attribute [go_sem] Tryz.underlying0 Tryz.underlying1
attribute [go_sem] Dc7 Dp3 Dv0 Tryz.underlying2 Dc8 Dp4 Dv1 Dp5 Tryz.underlying3
attribute [go_sem] Tryz.underlying4 Tryz.underlying5
attribute [go_sem] Tryz.underlying6 Tryz.eqGuardType7
attribute [go_sem] Tryz.stoodInHeld7 Tryz.underlying7 Tryz.eqGuardType8 Tryz.stoodInHeld8 Tryz.underlying8
attribute [go_sem] Dc9 Dp6 Dv2 Dp7 Tryz.underlying9 Tryz.underlying10
attribute [go_sem] Tryz.underlying11 Tryz.underlying12
attribute [go_sem] Tryz.eqGuardType13 Tryz.stoodInHeld13 Tryz.underlying13
attribute [go_sem] Tryz.eqGuardType14 Tryz.stoodInHeld14 Tryz.underlying14 Tryz.underlying15
attribute [go_sem] Tryz.underlying16 Tryz.underlying17
attribute [go_sem] Tryz.eqGuardType18 Tryz.stoodInHeld18 Tryz.underlying18
attribute [go_sem] Tryz.eqGuardType19 Tryz.stoodInHeld19 Tryz.underlying19 Tryz.underlying20
attribute [go_sem] Tryz.underlying21 Co8 Dd0 Dp8 Tryz.underlying22
attribute [go_sem] Co9 Dd1 Dp9 Tryz.underlying23 Cp0 Dd2 Dq0 Tryz.underlying24
attribute [go_sem] Cp1 Dd3 Dq1 Tryz.underlying25 Tryz.eqGuardType26
attribute [go_sem] Tryz.stoodInHeld26 Tryz.underlying26 Cp2 Cp3 Dd4 Dq2 Dq3 Tryz.eqGuardType27 Tryz.stoodInHeld27 Dd5 Tryz.underlying27
attribute [go_sem] Tryz.underlying28 Cp4 Dd6 Dq4 Tryz.underlying29
attribute [go_sem] Tryz.eqGuardType30 Tryz.stoodInHeld30 Tryz.underlying30 Cp5 Cp6 Dd7
attribute [go_sem] Dq5 Dq6 Tryz.eqGuardType31 Tryz.stoodInHeld31 Dd8 Tryz.underlying31 Cp7 Dd9 Dq7 De0 Tryz.underlying32
attribute [go_sem] Tryz.underlying33 Tryz.underlying34
attribute [go_sem] Tryz.underlying35 Cp8 De1 Dq8 De2 Tryz.underlying36
attribute [go_sem] Tryz.underlying37 Tryz.underlying38
attribute [go_sem] Tryz.underlying39 Tryz.underlying40
attribute [go_sem] Cp9 De3 Dq9 Tryz.underlying41 Tryz.underlying42
attribute [go_sem] Tryz.eqGuardType43 Tryz.stoodInHeld43 Tryz.underlying43 Cq0 Cq1 De4
attribute [go_sem] Dr0 Dr1 Tryz.eqGuardType44 Tryz.stoodInHeld44 De5 Tryz.underlying44 Cq2 De6 Dr2 De7 Tryz.underlying45
attribute [go_sem] Tryz.eqGuardType46 Tryz.stoodInHeld46 Tryz.underlying46 Cq3 Cq4 De8
attribute [go_sem] Dr3 Dr4 Tryz.eqGuardType47 Tryz.stoodInHeld47 De9 Tryz.underlying47 Tryz.underlying48
attribute [go_sem] Tryz.underlying49 Tryz.underlying50
attribute [go_sem] Tryz.underlying51 Tryz.underlying52
attribute [go_sem] Tryz.underlying53 Cq5 Df0 Dr5 Df1 Tryz.underlying54
attribute [go_sem] Tryz.eqGuardType55 Tryz.stoodInHeld55 Tryz.underlying55
attribute [go_sem] Tryz.eqGuardType56 Tryz.stoodInHeld56 Tryz.underlying56 Tryz.eqGuardType57
attribute [go_sem] Tryz.stoodInHeld57 Tryz.underlying57 Tryz.eqGuardType58 Tryz.stoodInHeld58 Tryz.underlying58
attribute [go_sem] Tryz.underlying59 Tryz.underlying60
attribute [go_sem] Tryz.eqGuardType61 Tryz.stoodInHeld61 Tryz.underlying61
attribute [go_sem] Tryz.eqGuardType62 Tryz.stoodInHeld62 Tryz.underlying62 Tryz.underlying63
attribute [go_sem] Tryz.underlying64 Tryz.underlying65
attribute [go_sem] Tryz.underlying66 Tryz.underlying67
attribute [go_sem] Tryz.underlying68 Tryz.underlying69
attribute [go_sem] Tryz.underlying70 Tryz.underlying71
attribute [go_sem] Tryz.underlying72 Tryz.underlying73
attribute [go_sem] Tryz.underlying74 Tryz.underlying75
attribute [go_sem] Tryz.underlying76 Tryz.underlying77
attribute [go_sem] Tryz.underlying78 Tryz.underlying79
attribute [go_sem] Tryz.underlying80 Tryz.underlying81
attribute [go_sem] Tryz.underlying82 Tryz.underlying83
attribute [go_sem] Tryz.underlying84 Tryz.underlying85
attribute [go_sem] Tryz.eqGuardType86 Tryz.stoodInHeld86 Tryz.underlying86
attribute [go_sem] Tryz.eqGuardType87 Tryz.stoodInHeld87 Tryz.underlying87 Tryz.underlying88
attribute [go_sem] Tryz.underlying89 Tryz.underlying90
attribute [go_sem] Tryz.underlying91 Tryz.underlying92
attribute [go_sem] Tryz.underlying93 Tryz.underlying94
attribute [go_sem] Tryz.underlying95 Tryz.underlying96
attribute [go_sem] Tryz.underlying97 Tryz.underlying98
attribute [go_sem] Tryz.underlying99 Tryz.underlying100
attribute [go_sem] Tryz.underlying101 Tryz.underlying102
attribute [go_sem] Tryz.underlying103 Tryz.underlying104
attribute [go_sem] Tryz.underlying105 Tryz.underlying106
attribute [go_sem] Tryz.underlying107 Tryz.underlying108
attribute [go_sem] Tryz.underlying109 Tryz.underlying110
attribute [go_sem] Tryz.underlying111 Tryz.underlying112
attribute [go_sem] Cd8 Cq6 Df2 Cq7 Tryz.underlying113 Tryz.underlying114
attribute [go_sem] Tryz.underlying115 Tryz.underlying116
attribute [go_sem] Tryz.underlying117 Tryz.underlying118
attribute [go_sem] Cd9 Cq8 Df3 Cq9 Tryz.underlying119 Tryz.underlying120
attribute [go_sem] Tryz.underlying121 Tryz.underlying122
attribute [go_sem] Tryz.underlying123 Tryz.underlying124
attribute [go_sem] Tryz.underlying125 Tryz.underlying126
attribute [go_sem] Tryz.underlying127 Tryz.underlying128
attribute [go_sem] Tryz.underlying129 Tryz.underlying130
attribute [go_sem] Tryz.underlying131 Tryz.underlying132
attribute [go_sem] Tryz.underlying133 Tryz.underlying134
attribute [go_sem] Tryz.eqGuardType135 Tryz.stoodInHeld135 Tryz.underlying135
attribute [go_sem] Tryz.eqGuardType136 Tryz.stoodInHeld136 Tryz.underlying136 Tryz.underlying137
attribute [go_sem] Tryz.underlying138 Tryz.underlying139
attribute [go_sem] Tryz.underlying140 Tryz.underlying141
attribute [go_sem] Tryz.eqGuardType142 Tryz.stoodInHeld142 Tryz.underlying142
attribute [go_sem] Tryz.eqGuardType143 Tryz.stoodInHeld143 Tryz.underlying143 Tryz.underlying144
attribute [go_sem] Tryz.eqGuardType145 Tryz.stoodInHeld145 Tryz.underlying145
attribute [go_sem] Tryz.eqGuardType146 Tryz.stoodInHeld146 Tryz.underlying146 Tryz.underlying147
attribute [go_sem] Tryz.underlying148 Tryz.underlying149
attribute [go_sem] Tryz.underlying150 Tryz.underlying151
attribute [go_sem] Tryz.underlying152 Tryz.eqGuardType153
attribute [go_sem] Tryz.stoodInHeld153 Tryz.underlying153 Tryz.eqGuardType154 Tryz.stoodInHeld154 Tryz.underlying154
attribute [go_sem] Tryz.underlying155 Tryz.underlying156
attribute [go_sem] Tryz.eqGuardType157 Tryz.underlying157
attribute [go_sem] Tryz.underlying158 Tryz.underlying159
attribute [go_sem] Tryz.underlying160 Tryz.underlying161
attribute [go_sem] Tryz.underlying162 Tryz.eqGuardType163 Tryz.stoodInHeld163 Tryz.underlying163
attribute [go_sem] Tryz.eqGuardType164 Tryz.stoodInHeld164 Tryz.underlying164
attribute [go_sem] Tryz.underlying165 Tryz.underlying166
attribute [go_sem] Tryz.underlying167 Tryz.underlying168
attribute [go_sem] Tryz.underlying169 Tryz.underlying170
attribute [go_sem] Tryz.underlying171 Tryz.underlying172
attribute [go_sem] Tryz.underlying173 Tryz.underlying174
attribute [go_sem] Tryz.underlying175 Tryz.underlying176
attribute [go_sem] Tryz.underlying177 Tryz.underlying178
attribute [go_sem] Tryz.underlying179 Tryz.underlying180
attribute [go_sem] Tryz.underlying181 Tryz.underlying182
attribute [go_sem] Tryz.underlying183 Tryz.underlying184
attribute [go_sem] Tryz.underlying185 Tryz.eqGuardType186 Tryz.stoodInHeld186 Tryz.underlying186
attribute [go_sem] Tryz.eqGuardType187 Tryz.stoodInHeld187 Tryz.underlying187
attribute [go_sem] Tryz.underlying188 Tryz.underlying189
attribute [go_sem] Tryz.underlying190 Tryz.underlying191
attribute [go_sem] Tryz.underlying192 Tryz.underlying193
attribute [go_sem] Tryz.underlying194 Tryz.underlying195
attribute [go_sem] Tryz.underlying196 Tryz.underlying197
attribute [go_sem] Tryz.underlying198 Tryz.underlying199
attribute [go_sem] Tryz.underlying200 Tryz.eqGuardType201 Tryz.stoodInHeld201 Tryz.underlying201
attribute [go_sem] Tryz.eqGuardType202 Tryz.stoodInHeld202 Tryz.underlying202
attribute [go_sem] Tryz.underlying203 Tryz.underlying204
attribute [go_sem] Tryz.underlying205 Tryz.underlying206
attribute [go_sem] Tryz.underlying207 Tryz.underlying208
attribute [go_sem] Tryz.underlying209 Tryz.eqGuardType210 Tryz.stoodInHeld210 Tryz.underlying210
attribute [go_sem] Tryz.eqGuardType211 Tryz.stoodInHeld211 Tryz.underlying211
attribute [go_sem] Tryz.underlying212 Tryz.underlying213
attribute [go_sem] Tryz.underlying214 Tryz.underlying215
attribute [go_sem] Tryz.underlying216 Tryz.underlying217
attribute [go_sem] Tryz.underlying218 Tryz.underlying219
attribute [go_sem] Tryz.underlying220 Tryz.underlying221
attribute [go_sem] Tryz.underlying222 Tryz.underlying223
attribute [go_sem] Tryz.underlying224 Tryz.eqGuardType225 Tryz.stoodInHeld225 Tryz.underlying225
attribute [go_sem] Df4 Tryz.eqGuardType226 Tryz.stoodInHeld226 Cr0 Tryz.underlying226
attribute [go_sem] Tryz.underlying227 Tryz.underlying228
attribute [go_sem] Tryz.underlying229 Tryz.eqGuardType230 Tryz.stoodInHeld230 Tryz.underlying230 Ce0
attribute [go_sem] Cr1 Df5 Tryz.eqGuardType231 Tryz.stoodInHeld231 Cr2 Tryz.underlying231
attribute [go_sem] Tryz.underlying232 Tryz.underlying233
attribute [go_sem] Tryz.underlying234 Tryz.underlying235 Ce1 Cr3 Df6
attribute [go_sem] Cr4 Tryz.underlying236 Tryz.underlying237
attribute [go_sem] Tryz.underlying238 Tryz.underlying239
attribute [go_sem] Tryz.eqGuardType240 Tryz.stoodInHeld240 Tryz.underlying240 Df7 Tryz.eqGuardType241 Tryz.stoodInHeld241
attribute [go_sem] Cr5 Tryz.underlying241 Tryz.underlying242
attribute [go_sem] Tryz.underlying243 Tryz.underlying244
attribute [go_sem] Tryz.eqGuardType245 Tryz.stoodInHeld245 Tryz.underlying245 Tryz.eqGuardType246 Tryz.stoodInHeld246
attribute [go_sem] Tryz.underlying246 Tryz.eqGuardType247 Tryz.stoodInHeld247 Tryz.underlying247
attribute [go_sem] Tryz.eqGuardType248 Tryz.stoodInHeld248 Tryz.underlying248
attribute [go_sem] Tryz.underlying249 Tryz.eqGuardType250 Tryz.stoodInHeld250 Tryz.underlying250
attribute [go_sem] Tryz.eqGuardType251 Tryz.stoodInHeld251 Tryz.underlying251
attribute [go_sem] Tryz.underlying252 Tryz.underlying253
attribute [go_sem] Tryz.underlying254 Tryz.underlying255
attribute [go_sem] Tryz.underlying256 Tryz.underlying257
attribute [go_sem] Tryz.underlying258 Tryz.underlying259
attribute [go_sem] Tryz.underlying260 Tryz.underlying261
attribute [go_sem] Tryz.underlying262 Tryz.eqGuardType263 Tryz.underlying263
attribute [go_sem] Tryz.underlying264 Tryz.underlying265
attribute [go_sem] Tryz.underlying266 Tryz.underlying267
attribute [go_sem] Tryz.underlying268 Tryz.underlying269
attribute [go_sem] Tryz.underlying270 Tryz.underlying271
attribute [go_sem] Tryz.underlying272 Tryz.underlying273
attribute [go_sem] Tryz.underlying274 Tryz.underlying275
attribute [go_sem] Tryz.underlying276 Tryz.underlying277
attribute [go_sem] Tryz.underlying278 Tryz.underlying279
attribute [go_sem] Tryz.underlying280 Tryz.underlying281
attribute [go_sem] Tryz.underlying282 Tryz.underlying283
attribute [go_sem] Tryz.underlying284 Tryz.underlying285
attribute [go_sem] Tryz.underlying286 Tryz.underlying287
attribute [go_sem] Tryz.underlying288 Tryz.underlying289
attribute [go_sem] Tryz.underlying290 Tryz.underlying291
attribute [go_sem] Tryz.underlying292 Tryz.underlying293
attribute [go_sem] Tryz.underlying294 Tryz.underlying295
attribute [go_sem] Tryz.underlying296 Tryz.underlying297
attribute [go_sem] Tryz.underlying298 Tryz.underlying299
attribute [go_sem] Tryz.underlying300 Tryz.underlying301
attribute [go_sem] Tryz.underlying302 Tryz.underlying303
attribute [go_sem] Tryz.underlying304 Tryz.underlying305
attribute [go_sem] Tryz.underlying306 Tryz.underlying307
attribute [go_sem] Tryz.underlying308 Tryz.underlying309
attribute [go_sem] Tryz.underlying310 Tryz.underlying311
attribute [go_sem] Tryz.underlying312 Tryz.underlying313
attribute [go_sem] Tryz.underlying314 Tryz.underlying315
attribute [go_sem] Tryz.underlying316 Tryz.underlying317
attribute [go_sem] Tryz.underlying318 Tryz.underlying319
attribute [go_sem] Tryz.underlying320 Tryz.underlying321
attribute [go_sem] Tryz.underlying322 Tryz.underlying323
attribute [go_sem] Tryz.underlying324 Tryz.underlying325
attribute [go_sem] Tryz.underlying326 Tryz.underlying327
attribute [go_sem] Tryz.underlying328 Tryz.underlying329
attribute [go_sem] Tryz.underlying330 Tryz.underlying331
attribute [go_sem] Tryz.eqGuardType332 Tryz.underlying332 Tryz.underlying333
attribute [go_sem] Tryz.underlying334 Tryz.underlying335
attribute [go_sem] Tryz.underlying336 Tryz.eqGuardType337 Tryz.stoodInHeld337
attribute [go_sem] Tryz.underlying337 Tryz.eqGuardType338 Tryz.stoodInHeld338 Tryz.underlying338
attribute [go_sem] Tryz.underlying339 Tryz.underlying340
attribute [go_sem] Tryz.underlying341 Tryz.underlying342
attribute [go_sem] Tryz.eqGuardType343 Tryz.stoodInHeld343 Tryz.underlying343
attribute [go_sem] Tryz.eqGuardType344 Tryz.stoodInHeld344 Tryz.underlying344 Tryz.underlying345
attribute [go_sem] Tryz.eqGuardType346 Tryz.stoodInHeld346 Tryz.underlying346
attribute [go_sem] Tryz.eqGuardType347 Tryz.stoodInHeld347 Tryz.underlying347 Tryz.underlying348
attribute [go_sem] Tryz.eqGuardType349 Tryz.stoodInHeld349 Tryz.underlying349
attribute [go_sem] Tryz.eqGuardType350 Tryz.stoodInHeld350 Tryz.underlying350 Tryz.underlying351
attribute [go_sem] Tryz.underlying352 Tryz.underlying353
attribute [go_sem] Tryz.eqGuardType354 Tryz.stoodInHeld354 Tryz.underlying354
attribute [go_sem] Tryz.eqGuardType355 Tryz.stoodInHeld355 Tryz.underlying355 Tryz.eqGuardType356
attribute [go_sem] Tryz.underlying356 Tryz.eqGuardType357 Tryz.stoodInHeld357 Tryz.underlying357
attribute [go_sem] Tryz.eqGuardType358 Tryz.stoodInHeld358 Tryz.underlying358
attribute [go_sem] Tryz.underlying359 Tryz.underlying360
attribute [go_sem] Tryz.underlying361 Tryz.underlying362
attribute [go_sem] Tryz.underlying363 Tryz.eqGuardType364 Tryz.stoodInHeld364 Tryz.underlying364
attribute [go_sem] Tryz.eqGuardType365 Tryz.stoodInHeld365 Tryz.underlying365 Tryz.results0 Tryz.results1 Tryz.results2 Tryz.results3 Tryz.results4
attribute [go_sem] Tryz.results5 Tryz.results6 Tryz.results7 Tryz.results8 Tryz.results9 Tryz.results10 Tryz.results11 Tryz.results12 Tryz.results13 Tryz.results14 Tryz.results15 Tryz.results16
attribute [go_sem] Tryz.results17 Tryz.results18 Tryz.results19 Tryz.results20 Tryz.results21 Tryz.results22 Tryz.results23 Tryz.results24 Tryz.results25 Tryz.results26 Tryz.results27 Tryz.results28
attribute [go_sem] Tryz.results29 Tryz.results30 Tryz.results31 Tryz.results32 Tryz.results33 Tryz.results34 Tryz.results35 Tryz.results36 Tryz.results37 Tryz.results38 Tryz.results39 Tryz.results40
attribute [go_sem] Tryz.results41 Tryz.results42 Tryz.results43 Tryz.results44 Tryz.results45 Tryz.results46 Tryz.results47 Tryz.results48 Tryz.results49 Tryz.results50 Tryz.results51 Tryz.results52
attribute [go_sem] Tryz.results53 Tryz.results54 Tryz.results55 Tryz.results56 Tryz.results57 Tryz.results58 Tryz.results59 Tryz.results60 Tryz.results61 Tryz.results62 Tryz.results63 Tryz.results64
attribute [go_sem] Tryz.results65 Tryz.results66 Tryz.results67 Tryz.results68 Tryz.results69 Tryz.results70 Tryz.results71 Tryz.results72 Tryz.results73 Tryz.results74 Tryz.results75 Tryz.results76
attribute [go_sem] Tryz.results77 Tryz.results78 Tryz.results79 Tryz.results80 Tryz.results81 Tryz.results82 Tryz.results83 Tryz.results84 Tryz.results85 Tryz.results86 Tryz.results87 Tryz.results88
attribute [go_sem] Tryz.results89 Tryz.results90 Tryz.results91 Tryz.results92 Tryz.results93 Tryz.results94 Tryz.results95 Tryz.results96 Tryz.results97 Tryz.results98 Tryz.results99 Tryz.results100
attribute [go_sem] Tryz.results101 Tryz.results102 Tryz.results103 Tryz.results104 Tryz.results105 Tryz.results106 Tryz.results107 Tryz.results108 Tryz.results109 Tryz.results110 Tryz.results111 Tryz.results112
attribute [go_sem] Tryz.results113 Tryz.results114 Tryz.results115 Tryz.results116 Tryz.results117 Tryz.results118 Tryz.results119 Tryz.results120 Tryz.results121 Tryz.results122 Tryz.results123 Tryz.results124
attribute [go_sem] Tryz.results125 Tryz.results126 Tryz.results127 Tryz.results128 Tryz.results129 Tryz.results130 Tryz.results131 Tryz.results132 Tryz.results133 Tryz.results134 Tryz.results135 Tryz.results136
attribute [go_sem] Tryz.results137 Tryz.results138 Tryz.results139 Tryz.results140 Tryz.results141 Tryz.results142 Tryz.results143 Tryz.results144 Tryz.results145 Tryz.results146 Tryz.results147 Tryz.results148
attribute [go_sem] Tryz.results149 Tryz.results150 Tryz.results151 Tryz.results152 Tryz.results153 Tryz.results154 Tryz.results155 Tryz.results156 Tryz.results157 Tryz.results158 Tryz.results159 Tryz.results160
attribute [go_sem] Tryz.results161 Tryz.results162 Tryz.results163 Tryz.results164 Tryz.results165 Tryz.results166 Tryz.results167 Tryz.results168 Tryz.results169 Tryz.results170 Tryz.results171 Tryz.results172
attribute [go_sem] Tryz.results173 Tryz.results174 Tryz.results175 Tryz.results176 Tryz.results177 Tryz.results178 Tryz.results179 Tryz.results180 Tryz.results181 Tryz.results182 Tryz.results183 Tryz.results184
attribute [go_sem] Tryz.results185 Tryz.results186 Tryz.results187 Tryz.results188 Tryz.results189 Tryz.results190 Tryz.results191 Tryz.results192 Tryz.results193 Tryz.results194 Tryz.results195 Tryz.results196
attribute [go_sem] Tryz.results197 Tryz.results198 Tryz.results199 Tryz.results200 Tryz.results201 Tryz.results202 Tryz.results203 Tryz.results204 Tryz.results205 Tryz.results206 Tryz.results207 Tryz.results208
attribute [go_sem] Tryz.results209 Tryz.results210 Tryz.results211 Tryz.results212 Tryz.results213 Tryz.results214 Tryz.results215 Tryz.results216 Tryz.results217 Tryz.results218 Tryz.results219 Tryz.results220
attribute [go_sem] Tryz.results221 Tryz.results222 Tryz.results223 Tryz.results224 Tryz.results225 Tryz.results226 Tryz.results227 Tryz.results228 Tryz.results229 Tryz.results230 Tryz.results231 Tryz.results232
attribute [go_sem] Tryz.results233 Tryz.results234 Tryz.results235 Tryz.results236 Tryz.results237 Tryz.results238 Tryz.results239 Tryz.results240 Tryz.results241 Tryz.results242 Tryz.results243 Tryz.results244
attribute [go_sem] Tryz.results245 Tryz.results246 Tryz.results247 Tryz.results248 Tryz.results249 Tryz.results250 Tryz.results251 Tryz.results252 Tryz.results253 Tryz.results254 Tryz.results255 Tryz.results256
attribute [go_sem] Tryz.results257 Tryz.results258 Tryz.results259 Tryz.results260 Tryz.results261 Tryz.results262 Tryz.results263 Tryz.results264 Tryz.results265 Tryz.results266 Tryz.results267 Tryz.results268
attribute [go_sem] Tryz.results269 Tryz.results270 Tryz.results271 Tryz.results272 Tryz.results273 Tryz.results274 Tryz.results275 Tryz.results276 Tryz.results277 Tryz.results278 Tryz.results279 Tryz.results280
attribute [go_sem] Tryz.results281 Tryz.results282 Tryz.results283 Tryz.results284 Tryz.results285 Tryz.results286 Tryz.results287 Tryz.results288 Tryz.results289 Tryz.results290 Tryz.results291 Tryz.results292
attribute [go_sem] Tryz.results293 Tryz.results294 Tryz.results295 Tryz.results296 Tryz.results297 Tryz.results298 Tryz.results299 Tryz.results300 Tryz.results301 Tryz.results302 Tryz.results303 Tryz.results304
attribute [go_sem] Tryz.results305 Tryz.results306 Tryz.results307 Tryz.results308 Tryz.results309 Tryz.results310 Tryz.results311 Tryz.results312 Tryz.results313 Tryz.results314 Tryz.results315 Tryz.results316
attribute [go_sem] Tryz.results317 Tryz.results318 Tryz.results319 Tryz.results320 Tryz.results321 Tryz.results322 Tryz.results323 Tryz.results324 Tryz.results325 Tryz.results326 Tryz.results327 Tryz.results328
attribute [go_sem] Tryz.results329 Tryz.results330 Tryz.results331 Tryz.results332 Tryz.results333 Tryz.results334 Tryz.results335 Tryz.results336 Tryz.results337 Tryz.results338 Tryz.results339 Tryz.results340
attribute [go_sem] Tryz.results341 Tryz.results342 Tryz.results343 Tryz.results344 Tryz.results345 Tryz.results346 Tryz.results347 Tryz.results348 Tryz.results349 Tryz.results350 Tryz.results351 Tryz.results352
attribute [go_sem] Tryz.results353 Tryz.results354
end Go.Dl

-- THE LIBRARY's FUNCTIONS AT THE DATA LEVEL: what is common to all of them.
namespace Go.Dl
open Go Go.Proofs
set_option maxRecDepth 10000
section
variable {P:Program} {G:Nat->DVal}
structure Quiet (w w':World):Prop where
 os:w'.os=w.os
 tape:w'.tape=w.tape
 output:w'.output=w.output
 size:w.heap.size<=w'.heap.size
 block: ∀b,b<w.heap.size->w'.heap[b]? =w.heap[b]?
theorem Quiet.below {w w':World} (h:RowKit.Below w.heap.size w w'):Quiet w w':=⟨h.os,h.tape,h.output,h.size,h.block⟩
theorem Quiet.ext {w w':World} {H:Ab} (hH:Av w H) (h:Quiet w w'):Av w' H/\Ext H w H w':=by
 have hE:Ext H w H w':=⟨h.os,h.tape,h.output,h.size,fun b hb _=>h.block b hb,fun b hb=> .inl hb,fun b hb=>by rw[h.block b hb],fun a ha _=>by unfold World.frozen?;rw[h.block _ ha]⟩;refine⟨fun r o ho=> ?_,hE⟩;rw[h.block r (hH.lt (by simp [ho]))];exact(hH r o ho).lasts hE.lasts
theorem Ce2 {w:World} {H:Ab} {g:Nat} {cs:List DVal} {name:String} {k:IntKind} {zs:List Int} (hg:P.globalNamed name=some g) (h:Rel w H (.vptr cs 0) (.pointer (some ⟨g,0,none⟩)))
  (hcs:cs=zs.map fun z=> .int k z): ∀i z,zs[i]? =some z->w.cell? ⟨g,i,none⟩=some (.int k z):=by
 simp only[Rel] at h;obtain⟨b,o,xs,e,hc,hr⟩:=h;simp only[Value.pointer.injEq,Option.some.injEq,Addr.mk.injEq,Nat.add_zero,and_true] at e;obtain⟨rfl,rfl⟩:=e;intro i z hz;have h1:cs[i]? =some (.int k z):=by rw[hcs];simp [hz]
 obtain⟨y,hy,hrel⟩:=hr.get h1;simp only[Rel] at hrel;subst hrel;have:=hc.holds i _ hy;simpa using this
end
section
end
end Go.Dl

-- General plain laws: cells of lists of structs, positions, texts of integers, pieces.
namespace Go.Dl
open Go Go.Proofs
set_option maxRecDepth 10000
section
variable {α:Type} {c:α->List DVal} {k:Nat}
theorem Bl (hk: ∀x,(c x).length=k) (l:List α):(l.flatMap c).length=l.length*k:=by
 induction l with
 | nil=>simp
 | cons x l ih=>simp [List.flatMap_cons,ih,hk,Nat.add_mul];omega
theorem Al8 (hk: ∀x,(c x).length=k): ∀(l:List α) (i:Nat),(l.flatMap c).drop (i*k)=(l.drop i).flatMap c
 | l,0=>by simp
 | [],i+1=>by simp
 | x::l,i+1=>by
  rw[List.flatMap_cons,show(i+1)*k=(c x).length+i*k by rw[hk,Nat.add_mul];omega,List.drop_append,jE,<-Al8 hk l i];simp
theorem Dc (hk: ∀x,(c x).length=k) (l:List α) (i:Nat) (h:i<l.length):((l.flatMap c).drop (i*k)).take k=c l[i]:=by
 rw[Al8 hk,List.drop_eq_getElem_cons h,List.flatMap_cons,List.take_append_of_le_length (by rw[hk];omega),List.take_of_length_le (by rw[hk];omega)]
theorem Hy (hk: ∀x,(c x).length=k) (l:List α) (i:Nat) (h:i<l.length) (j:Nat) (hj:j<k):(l.flatMap c)[i*k+j]? =(c l[i])[j]? :=by
 rw[<-Dc hk l i h,List.getElem?_take,if_pos hj,List.getElem?_drop]
end
def At0 {α:Type} (p:α->Bool) (l:List α):Int:=match l.findIdx? p with | some i=>(i:Int) | none=> -1
theorem At1 {α:Type} {p:α->Bool} {l:List α} {i:Nat} (h:i<l.length) (hp:p l[i]=true) (hn: ∀x∈l.take i,p x=false):At0 p l=i:=by
 have:l.findIdx? p=some i:=by
  rw[List.findIdx?_eq_some_iff_getElem];exact⟨h,hp,fun j hj=>by have:=hn l[j] (List.mem_take_iff_getElem.2 ⟨j,by omega,rfl⟩);simp [this]⟩
 rw[At0,this]
theorem At2 {α:Type} {p:α->Bool} {l:List α} (hn: ∀x∈l,p x=false):At0 p l= -1:=by
 have:l.findIdx? p=none:=by rw[List.findIdx?_eq_none_iff];intro x hx;rw[hn x hx]
 rw[At0,this]
theorem Ab6 {α:Type} (p:α->Bool) (l:List α):decide (0<=At0 p l)=l.any p:=by
 unfold At0;cases h:l.findIdx? p with
 | some i=>
  obtain⟨h1,h2,_⟩:=List.findIdx?_eq_some_iff_getElem.1 h;have:l.any p=true:=List.any_eq_true.2 ⟨_,List.getElem_mem h1,h2⟩;rw[this];simp
 | none=>
  rw[List.findIdx?_eq_none_iff] at h;have:l.any p=false:=by rw[List.any_eq_false];intro x hx;rw[h x hx];simp
  rw[this];rfl
theorem Lf {α:Type} {p:α->Prop} {l:List α} {i:Nat} (h:i<l.length) (hn: ∀x∈l.take i,p x) (hx:p l[i]): ∀x∈l.take (i+1),p x:=by
 intro x hm;rw[List.take_succ_eq_append_getElem h,List.mem_append,List.mem_singleton] at hm;rcases hm with hm | rfl
 ·exact hn x hm
 ·exact hx
theorem Lw {c d:UInt8} (h:c≠d): ¬(c.toNat:Int)=(d.toNat:Int):=fun e=>h (UInt8.toNat_inj.1 (by omega))
def Rt (l:List (List UInt8)):DVal:= .vslice (l.map .str) l.length
end Go.Dl

-- Rows of the call's own: a list of lists of ints, each in a block of its own.
namespace Go.Dl
open Go
def Ui:DVal->Bool
 | .bool _ | .int _ _ | .str _ | .nilPtr | .nilSlice | .nilMap | .nilFunc | .nilIface=>true
 | .optr _ _ | .oslice _ _ _ _ _ | .omap _=>true
 | .tuple l=>looses l
 | .agg l=>looses l
 | _=>false
where looses:List DVal->Bool
 | []=>true
 | d::ds=>Ui d&&looses ds
mutual
theorem Rh {w:World} {H H':Ab}: ∀(d:DVal) (v:Value),Ui d=true->Rel w H d v->Rel w H' d v
 | .tuple l,v,hp,h=>by
  simp only[Ui] at hp
  simp only[Rel] at h⊢
  obtain⟨x,rfl,h1⟩:=h
  exact⟨x,rfl,Jt _ _ hp h1⟩
 | .agg l,v,hp,h=>by
  simp only[Ui] at hp
  simp only[Rel] at h⊢
  obtain⟨x,rfl,h1⟩:=h
  exact⟨x,rfl,Jt _ _ hp h1⟩
 | .bool x,v,hp,h=>by simpa [Rel] using h
 | .int x y,v,hp,h=>by simpa [Rel] using h
 | .str x,v,hp,h=>by simpa [Rel] using h
 | .nilPtr,v,hp,h=>by simpa [Rel] using h
 | .nilSlice,v,hp,h=>by simpa [Rel] using h
 | .nilMap,v,hp,h=>by simpa [Rel] using h
 | .nilFunc,v,hp,h=>by simpa [Rel] using h
 | .nilIface,v,hp,h=>by simpa [Rel] using h
 | .optr _ _,v,hp,h=>by simpa [Rel] using h
 | .oslice _ _ _ _ _,v,hp,h=>by simpa [Rel] using h
 | .omap _,v,hp,h=>by simpa [Rel] using h
 | .raw _,_,hp,_=>by cases hp
 | .vptr _ _,_,hp,_=>by cases hp
 | .vslice _ _,_,hp,_=>by cases hp
 | .func _ _ _,_,hp,_=>by cases hp
 | .iface _ _,_,hp,_=>by cases hp
theorem Jt {w:World} {H H':Ab}: ∀(ds:List DVal) (vs:List Value),Ui.looses ds=true->An w H ds vs->An w H' ds vs
 | [],_,_,h=>by simpa [An] using h
 | d::ds,vs,hp,h=>by
  simp only[Ui.looses,jF] at hp
  simp only[An] at h⊢
  obtain⟨y,ys,rfl,h1,h2⟩:=h
  exact⟨y,ys,rfl,Rh d y hp.1 h1,Jt ds ys hp.2 h2⟩
end
def Bm5:DObj->Bool
 | .cells cs _=>Ui.looses cs
 | .map es=>es.all fun p=>Ui p.1&&Ui p.2
 | .loop _ _ _=>false
 | .iter _ _=>true
def Dk8 (H H':Ab):Prop:= ∀r o,H' r=some o->H r=some o\/Bm5 o=true
theorem Dk8.refl (H:Ab):Dk8 H H:=fun _ _ h=> .inl h
end Go.Dl

-- THE DATA LEVEL, PART J: slices that are built up beside other memory of the call's own that nobody asks for any more.
namespace Go.Dl
open Go Go.RowKit
theorem Bb1 (H:Ab) (w:World):Lasts H w h0 w:=Hh (fun r o h=>by cases h) w
def Sub (H H':Ab):Prop:= ∀r o,H r=some o->H' r=some o
theorem Sub.refl (H:Ab):Sub H H:=fun _ _ h=>h
theorem Sub.trans {H H' H'':Ab} (h:Sub H H') (k:Sub H' H''):Sub H H'':=fun r o x=>k r o (h r o x)
theorem Sub.lo {H H':Ab} (h:Sub H H') {r:Nat} (hr:H' r=none):H r=none:=by
 cases e:H r with
 | none=>rfl
 | some o=>rw[h r o e] at hr;cases hr
theorem Sub.up {H H':Ab} (h:Sub H H') {r:Nat} (hr:H r=none) (x:Option DObj):Sub H (upd H' r x):=fun b o hb=>by
 have:b≠r:=fun e=>by rw[e,hr] at hb;cases hb
 simp only[upd,if_neg this];exact h b o hb
theorem Sub.new {H H':Ab} (h:Sub H H') {r:Nat} (hr:H' r=none) (x:Option DObj):Sub H (upd H' r x):=h.up (h.lo hr) x
theorem Sub.both {H H':Ab} (h:Sub H H') (r:Nat) (x:Option DObj):Sub (upd H r x) (upd H' r x):=fun b o hb=>by
 simp only[upd] at hb⊢;split<;>rename_i e
 ·rwa [if_pos e] at hb
 ·rw[if_neg e] at hb;exact h b o hb
def Er (H:Ab) (e:TypeId) (size n:Nat) (cs:List DVal) (v:DVal) (H':Ab):Prop:=
 (n=0/\cs= []/\v= .nilSlice/\Sub H H')\/ ∃r,H r=none/\cs.length=n*size/\v= .oslice size r 0 n n/\H' r=some (.cells cs e)/\Sub H H'
section
variable {P:Program} {G:Nat->DVal} {H H':Ab} {e:TypeId} {size n:Nat} {cs:List DVal} {v:DVal}
theorem Er.nil (e:TypeId) (size:Nat) (h:Sub H H'):Er H e size 0 [] .nilSlice H':= .inl ⟨rfl,rfl,rfl,h⟩
theorem Dc6.j (h:Dc6 H e size n cs v H'):Er H e size n cs v H':=by
 rcases h with⟨a,b,c,rfl⟩ | ⟨r,a,b,c,rfl⟩
 ·exact .inl ⟨a,b,c, .refl _⟩
 ·exact .inr ⟨r,a,b,c,Aa _ _ _,(Sub.refl H).up a _⟩
theorem Er.sub (h:Er H e size n cs v H'):Sub H H':=by
 rcases h with⟨_,_,_,h⟩ | ⟨_,_,_,_,_,h⟩<;>exact h
theorem Er.keep (h:Er H e size n cs v H') {r:Nat} {o:DObj} (hr:H r=some o):H' r=some o:=h.sub r o hr
theorem Er.more (h:Er H e size n cs v H') {H2:Ab} (k:Sub H' H2):Er H e size n cs v H2:=by
 rcases h with⟨a,b,c,d⟩ | ⟨r,a,b,c,d,f⟩
 ·exact .inl ⟨a,b,c,d.trans k⟩
 ·exact .inr ⟨r,a,b,c,k _ _ d,f.trans k⟩
theorem Er.new (h:Er H e size n cs v H') {r:Nat} (hr:H' r=none) (x:Option DObj):Er H e size n cs v (upd H' r x):=h.more ((Sub.refl H').up hr x)
theorem Er.less (h:Er H e size n cs v H') {H1:Ab} (k:Sub H1 H):Er H1 e size n cs v H':=by
 rcases h with⟨a,b,c,d⟩ | ⟨r,a,b,c,d,f⟩
 ·exact .inl ⟨a,b,c,k.trans d⟩
 ·exact .inr ⟨r,k.lo a,b,c,d,k.trans f⟩
theorem Er.frame (h:Er H e size n cs v H') {r:Nat} (hr:H' r=none) (o:DObj):Er (upd H r (some o)) e size n cs v (upd H' r (some o)):=by
 rcases h with⟨a,b,c,d⟩ | ⟨r0,a,b,c,d,f⟩
 ·exact .inl ⟨a,b,c,d.both _ _⟩
 ·have:r0≠r:=fun e=>by rw[e,hr] at d;cases d
  exact .inr ⟨r0,by simp [upd,this,a],b,c,by simp [upd,this,d],f.both _ _⟩
theorem Er.exact (h:Er H e size n cs v H'): ∃H1,Dc6 H e size n cs v H1/\Sub H1 H':=by
 rcases h with⟨a,b,c,d⟩ | ⟨r,a,b,c,d,f⟩
 ·exact⟨H, .inl ⟨a,b,c,rfl⟩,d⟩
 ·refine⟨_, .inr ⟨r,a,b,c,rfl⟩,fun k o hk=> ?_⟩;simp only[upd] at hk;split at hk
  ·rename_i e;subst e;cases hk;exact d
  ·exact f k o hk
theorem Er.append {m bytes:Nat} {news:List DVal} {dst:Option Nat} {K:DK} {env:Nat->DVal} (hv:Er H e size n cs v H') (hm:news.length=m*size) (hb:(n+m)*bytes<=35184372088832)
  (hK: ∀v' H2,Er H e size (n+m) (cs++news) v' H2->K ⟨Ep env dst v',H2⟩):Jn e size bytes m news dst v K ⟨env,H'⟩:=by
 rcases hv with⟨rfl,rfl,rfl,hs⟩ | ⟨r,hr,hl,rfl,hc,hs⟩
 ·simp only[Jn];refine⟨fun h0=> ?_,fun h0=>⟨by simpa using hb,fun r hr=> ?_⟩⟩
  ·subst h0;have:news= []:=List.length_eq_zero_iff.1 (by omega);subst this;exact hK _ _ (.inl ⟨rfl,rfl,rfl,hs⟩)
  ·refine hK _ _ (.inr ⟨r,hs.lo hr,by simpa using hm,by simp,by rw[jG];exact Aa _ _ _,hs.new hr _⟩)
 ·simp only[Jn,true_and];rw[hc];by_cases h0:m=0
  ·subst h0;have:news= []:=List.length_eq_zero_iff.1 (by omega);subst this;rw[Xv (by omega)];refine⟨by simp [hl], ?_⟩;have:=hK (.oslice size r 0 (n+0) n) H' (.inr ⟨r,hr,by simpa using hl,by simp,by simpa using hc,hs⟩);simp only[Cj,jB,jH,Nat.add_zero,List.take_append_drop];rw[Co7 hc];simpa using this
  ·rw[Uh (by omega) (by omega)];refine⟨by omega,hb,fun r' hr'=> ?_⟩;dsimp only at hr'⊢
   by_cases e1:r'=r
   ·subst e1;refine hK _ _ (.inr ⟨r',hr, ?_,rfl, ?_, ?_⟩)
    ·simp [hl,hm,Nat.add_mul]
    ·rw[Aa,List.take_of_length_le (by omega)]
    ·exact(hs.up hr _).up hr _
   ·have hr2:H' r'=none:=by simpa [upd,e1] using hr'
    refine hK _ _ (.inr ⟨r',hs.lo hr2, ?_,rfl, ?_, ?_⟩)
    ·simp [hl,hm,Nat.add_mul]
    ·rw[Aa,List.take_of_length_le (by omega)]
    ·exact(hs.up hr _).up (hs.lo hr2) _
theorem Er.appendO {r m bytes:Nat} {news:List DVal} {dst:Option Nat} {K:DK} {env:Nat->DVal} (hv:Er H e size n cs (.oslice size r 0 n n) H') (hm:news.length=m*size) (hb:(n+m)*bytes<=35184372088832)
  (hK: ∀v' H2,Er H e size (n+m) (cs++news) v' H2->K ⟨Ep env dst v',H2⟩):Lo e size bytes r 0 n n m news dst K ⟨env,H'⟩ (some (.cells cs e)):=by
 have h:=Er.append hv hm hb hK;have hc:H' r=some (.cells cs e):=by
  rcases hv with⟨_,_,h,_⟩ | ⟨r',_,_,h,hc,_⟩
  ·cases h
  ·cases h;exact hc
 simp only[Jn,true_and,hc] at h;exact h
theorem Er.ghost (hv:Er H e size n cs v H'):Ht H' v H (.vslice cs n):=by
 obtain⟨H1,h1,h2⟩:=hv.exact;exact(Ht.sub h2 v).trans h1.ghost
theorem Er.fin {R:DEnd->Ab->Prop} (hv:Er H e size n cs v H') (h:R (.ret (.vslice cs n)) H):Pl R v H':= .ghost hv.ghost (.refl h)
theorem Ae.frozenJ {f:FuncId} {args:List DVal} (h:Ae P G f args H fun x H'=> ∃v,x= .ret v/\Er H e size n cs v H'):Ae P G f args H (Bo (.vslice cs n) H):=
 h.ghost fun x H' ⟨v,h1,h2⟩=>⟨v,_,H,h1,h2.ghost,rfl,rfl⟩
theorem Lq.fzSlot {env:Nat->DVal} {k:Nat} (hv:Er H e size n cs (env k) H'):Lq G ⟨env,H'⟩ ⟨upd env k (.vslice cs n),H⟩:=fun w hH hG=>by
 obtain⟨h1,h2,h3⟩:=hv.ghost w hH;refine⟨h1,h2,hG.lasts (Hh hv.sub w),fun i x hx=> ?_⟩;by_cases e:i=k
 ·subst e;simp only[Aa];exact h3 x hx
 ·simp only[upd,if_neg e];exact Rel.lasts (Hh hv.sub w) _ _ hx
theorem Bt4.runG {body:(DExit->DS->Prop)->DK} {Q:DExit->DS->Prop} {s:DS} {ι:Type} (I:ι->(Nat->DVal)->Ab->Prop) (μ:ι->Nat) (i:ι) (s0:DS) (hg:Lq G s s0) (h0:I i s0.env s0.heap)
  (hr: ∀i env heap,I i env heap->body (Xq (fun s1=> ∃j s2,Lq G s1 s2/\I j s2.env s2.heap/\μ j<μ i) Q) ⟨env,heap⟩):Bt4 G body Q s:=
 ⟨ι,fun i s=>I i s.env s.heap,μ,⟨i,s0,hg,h0⟩,fun i s h=>hr i s.env s.heap h⟩
theorem Er.cell1 (h:Er H e size n cs v H'):v.cells= [v]/\v.one=true:=by
 rcases h with⟨_,_,rfl,_⟩ | ⟨_,_,_,rfl,_⟩<;>exact⟨rfl,rfl⟩
end
end Go.Dl

-- THE DATA LEVEL, PART K: the frame of a call: what a callee makes with no memory of the caller's at hand, it makes beside it.
namespace Go.Dl
open Go
set_option maxRecDepth 10000
theorem Ae.frame {P:Program} {G:Nat->DVal} {f:FuncId} {args args':List DVal} {H:Ab} {R:DEnd->Ab->Prop} (h:Ae P G f args' h0 R)
  (hb: ∀w vs,Av w H->An w H args vs->An w h0 args' vs) (hR: ∀e X,R e X-> ∃v,e= .ret v/\Ui v=true/\Dk8 h0 X):Ae P G f args H (fun e H'=> ∃X,R e X/\Du9 H X/\H'=Ba6 H X):=by
 refine⟨h.1,fun vs w hv hH hg=> ?_⟩;have hg0:GOk G w h0:=hg.lasts (Bb1 H w);refine(h.2 vs w (hb w vs hH hv) (fun r o hr=>by cases hr) hg0).mono fun x w' ⟨e',X,r,k1,k2,k3⟩=> ?_;obtain⟨v,rfl,hl,hX⟩:=hR _ _ r;have hown: ∀b,X b≠none->w.heap.size<=b:=fun b hb=>(k3.own b hb).resolve_left (fun k=>k rfl);have hd:Du9 H X:=fun b hb=>by
  cases e1:H b with
  | none=>rfl
  | some o=>have:=hH.lt (r:=b) (by simp [e1]);have:=hown b hb;omega
 have hE:Ext H w (Ba6 H X) w':=⟨k3.os,k3.tape,k3.output,k3.size,fun b hb _=>k3.block b hb rfl,fun b hb=>by
  by_cases e1:X b=none
  ·rw[Bu5 e1] at hb;exact .inl hb
  ·exact .inr (hown b e1),k3.keep,fun a ha _=>k3.fz a ha rfl⟩
 refine⟨.ret v,Ba6 H X,⟨X,r,hd,rfl⟩, ?_, ?_,hE⟩
 ·cases k1 with
  | ret d x hx=>exact .ret _ _ (Rh _ _ hl hx)
 ·intro b o ho;cases e1:X b with
  | none=>
   rw[Bu5 e1] at ho;rw[k3.block b (hH.lt (by simp [ho])) rfl];exact(hH b o ho).lasts hE.lasts
  | some o'=>
   rw[Dp2 e1] at ho;cases ho;have hlo:Bm5 o=true:=(hX b o e1).resolve_left (fun k=>by cases k);have hr:=k2 b o e1;cases o with
   | cells cs e=>
    obtain⟨xs,c,fz',h1,h2,h3,h4⟩:=hr;exact⟨xs,c,fz',h1,h2,Jt _ _ hlo h3,h4⟩
   | loop _ _ _=>cases hlo
   | iter _ _=>exact hr
   | map es=>
    obtain⟨ms,c,h1,h2⟩:=hr;refine⟨ms,c,h1, ?_⟩;simp only[Bm5,List.all_eq_true,jF] at hlo;clear h1 e1;generalize ms.toList=l at h2
    induction es generalizing l with
    | nil=>exact h2
    | cons p es ih=>
     obtain⟨m,ms',rfl,g1,g2,g3⟩:=h2;exact⟨m,ms',rfl,Rh _ _ (hlo p (by simp)).1 g1,Rh _ _ (hlo p (by simp)).2 g2,ih (fun q hq=>hlo q (List.mem_cons_of_mem _ hq)) _ g3⟩
theorem Ae.lent {P:Program} {G:Nat->DVal} {f:FuncId} {args args':List DVal} {H:Ab} {v:DVal} (h:Ae P G f args' h0 (Bo v h0))
  (hb: ∀w vs,Av w H->An w H args vs->An w h0 args' vs) (hv:Ui v=true):Ae P G f args H (Bo v H):=
 (h.frame hb (fun e X hr=>⟨v,hr.1,hv,by rw[hr.2];exact .refl _⟩)).mono fun e H' ⟨X,hr,_,hH⟩=>⟨hr.1,by rw[hH,hr.2,Bu4]⟩
end Go.Dl

-- Chapter 2: tokens: the plain laws, part 1: the words, the symbols, what a line yields.
namespace Go.Dl
open Go
set_option maxRecDepth 10000
def Al9:List (List UInt8):= [[97,98,111,114,116],
 [97,98,115],
 [97,99,99,101,112,116],
 [97,99,99,101,115,115],
 [97,108,105,97,115,101,100],
 [97,108,108],
 [97,110,100],
 [97,114,114,97,121],
 [98,101,103,105,110],
 [98,111,100,121],
 [99,97,115,101],
 [99,111,110,115,116,97,110,116],
 [100,101,99,108,97,114,101],
 [100,101,108,97,121],
 [100,111],
 [101,108,115,101],
 [101,108,115,105,102],
 [101,110,100],
 [101,110,116,114,121],
 [101,120,99,101,112,116,105,111,110],
 [101,120,105,116],
 [102,111,114],
 [102,117,110,99,116,105,111,110],
 [103,101,110,101,114,105,99],
 [105,102],
 [105,110],
 [105,115],
 [108,105,109,105,116,101,100],
 [108,111,111,112],
 [109,111,100],
 [110,101,119],
 [110,111,116],
 [110,117,108,108],
 [111,102],
 [111,114],
 [111,116,104,101,114,115],
 [111,117,116],
 [112,97,99,107,97,103,101],
 [112,114,97,103,109,97],
 [112,114,105,118,97,116,101],
 [112,114,111,99,101,100,117,114,101],
 [112,114,111,116,101,99,116,101,100],
 [114,97,105,115,101],
 [114,97,110,103,101],
 [114,101,99,111,114,100],
 [114,101,109],
 [114,101,110,97,109,101,115],
 [114,101,113,117,101,117,101],
 [114,101,116,117,114,110],
 [114,101,118,101,114,115,101],
 [115,101,108,101,99,116],
 [115,101,112,97,114,97,116,101],
 [115,117,98,116,121,112,101],
 [116,97,115,107],
 [116,101,114,109,105,110,97,116,101],
 [116,104,101,110],
 [116,121,112,101],
 [117,110,116,105,108],
 [117,115,101],
 [119,104,101,110],
 [119,104,105,108,101],
 [119,105,116,104],
 [120,111,114]]
def Et (c:UInt8):Bool:=decide (65<=c.toNat)&&decide (c.toNat<=90) || decide (97<=c.toNat)&&decide (c.toNat<=122)
def Ff (c:UInt8):Bool:=decide (48<=c.toNat)&&decide (c.toNat<=57)
def Dk (c:UInt8):Bool:=Et c || Ff c || decide (c=95)
def Cw (s:List UInt8):List UInt8:=s.takeWhile Dk
def So (s:List UInt8):Bool:=decide (s∈Al9)
def Pb (s:List UInt8):Bool:=(match s with | c::_=>Et c | []=>false)&&decide (s.length<=32)&&s.all Dk&&!So s
def Uj:List (UInt8×UInt8):= [(61,62),(46,46),(58,61),(47,61),(60,61),(62,61),(60,62)]
def Bb2:List UInt8:= [40,41,44,59,58,46,39,43,45,42,47,61,60,62,124]
def Pm:List UInt8->Nat
 | []=>0
 | [a]=>if a∈Bb2 then 1 else 0
 | a::b::_=>if(a,b)∈Uj then 2 else if a∈Bb2 then 1 else 0
structure Tok where
 kind:Int
 line:Int
 text:List UInt8
 n:Int
 deriving DecidableEq,Inhabited
def Wd:Tok:=⟨0,0,[],0⟩
def My (w:List UInt8):Nat:=w.foldl (fun v c=>10*v+(c.toNat-48)) 0
def Aj5 (w:List UInt8):Option Nat:=if w.length<=10/\w.all Ff=true/\My w<=2147483647 then some (My w) else none
def Cs (s:List UInt8):Tok×Nat:=
 match s with
 | []=>(Wd,0)
 | c::_=>if Et c then(if So (Cw s) then(⟨2,0,Cw s,0⟩,(Cw s).length) else if Pb (Cw s) then(⟨1,0,Cw s,0⟩,(Cw s).length) else(Wd,0))
  else if Ff c then(match Aj5 (Cw s) with | some v=>(⟨3,0,[],v⟩,(Cw s).length) | none=>(Wd,0))
  else(⟨4,0,s.take (Pm s),0⟩,Pm s)
def Ju (s:List UInt8):Bool:=s.all fun c=>decide (32<=c.toNat)&&decide (c.toNat<=126)
def Fj (s:List UInt8):List UInt8:=s.dropWhile (· ==32)
def Jj:List UInt8->Bool
 | 45::45::_=>true
 | _=>false
def We:Nat->List UInt8->List (Tok×Bool)
 | 0,_=> []
 | k+1,s=>
  if Fj s= []\/Jj (Fj s)=true then(if Ju (Fj s) then [] else [(Wd,false)])
  else if(Cs (Fj s)).2=0 then [((Cs (Fj s)).1,false)]
  else((Cs (Fj s)).1,true)::We k ((Fj s).drop (Cs (Fj s)).2)
def Kx (s:List UInt8):List (Tok×Bool):=We (s.length+1) s
theorem Am0 (s:List UInt8):(Fj s).length<=s.length:=by
 unfold Fj;exact(List.dropWhile_sublist _).length_le
theorem Xw: ∀(k k':Nat) (s:List UInt8),s.length<k->s.length<k'->We k s=We k' s
 | 0,_,_,h,_=>by omega
 | _,0,_,_,h=>by omega
 | k+1,k'+1,s,h,h'=>by
  unfold We;split
  ·rfl
  ·rename_i hc
   split
   ·rfl
   ·rename_i h0
    have hl:=Am0 s;have hne:Fj s≠ []:=fun e=>hc (.inl e);have hpos:0<(Fj s).length:=List.length_pos_iff.2 hne;rw[Xw k k' _ (by rw[List.length_drop];omega) (by rw[List.length_drop];omega)]
theorem Og (s:List UInt8):Kx s=
  if Fj s= []\/Jj (Fj s)=true then(if Ju (Fj s) then [] else [(Wd,false)])
  else if(Cs (Fj s)).2=0 then [((Cs (Fj s)).1,false)]
  else((Cs (Fj s)).1,true)::Kx ((Fj s).drop (Cs (Fj s)).2):=by
 unfold Kx;rw[We];split
 ·rfl
 ·rename_i hc
  split
  ·rfl
  ·rename_i h0
   have hl:=Am0 s;have hne:Fj s≠ []:=fun e=>hc (.inl e);have hpos:0<(Fj s).length:=List.length_pos_iff.2 hne;rw[Xw s.length _ ((Fj s).drop (Cs (Fj s)).2) (by rw[List.length_drop];omega) (Nat.lt_succ_self _)]
end Go.Dl

-- Chapter 2: tokens: the plain laws, part 2: lines, errors; comments and joined texts.
namespace Go.Dl
open Go
set_option maxRecDepth 10000
theorem Bb3 (s r:List UInt8) (c:UInt8) (hc:Dk c=false):Cw (s++c::r)=Cw s:=by
 unfold Cw;rw[List.takeWhile_append];split
 ·rename_i h
  have:s.takeWhile Dk=s:=(List.takeWhile_prefix Dk).eq_of_length h;rw[this];simp [hc]
 ·rfl
theorem Bm6 (s:List UInt8):Pm s<=s.length:=by
 match s with
 | []=>exact Nat.le_refl _
 | [a]=>simp only[Pm];split<;>simp
 | a::b::s=>simp only[Pm];split<;>(try split)<;>simp
theorem Bu6 (s:List UInt8):(Cw s).length<=s.length:=(List.takeWhile_sublist _).length_le
theorem Uk (s:List UInt8):(Cs s).2<=s.length:=by
 have hw:=Bu6 s
 have hs:=Bm6 s
 match s with
 | []=>exact Nat.le_refl _
 | c::s=>
  unfold Cs
  dsimp only
  split
  ·split
   ·exact hw
   ·split
    ·exact hw
    ·exact Nat.zero_le _
  ·split
   ·split
    ·exact hw
    ·exact Nat.zero_le _
   ·exact hs
theorem Ce3 (s r:List UInt8):Ju (s++r)=(Ju s&&Ju r):=by simp [Ju]
def Bw (c:UInt8):List UInt8->List UInt8->List (List UInt8)
 | [],cur=> [cur]
 | b::s,cur=>if b=c then cur::Bw c s [] else Bw c s (cur++ [b])
theorem Ab7 (c:UInt8) (w:List UInt8) (h:c∉w): ∀cur,Bw c w cur= [cur++w]:=by
 induction w with
 | nil=>intro cur;simp [Bw]
 | cons b w ih=>
  intro cur;simp only[List.mem_cons,not_or] at h;rw[Bw,if_neg (fun e=>h.1 e.symm),ih h.2];simp
theorem Ab8 (c:UInt8) (w r:List UInt8) (h:c∉w): ∀cur,Bw c (w++c::r) cur=(cur++w)::Bw c r []:=by
 induction w with
 | nil=>intro cur;simp [Bw]
 | cons b w ih=>
  intro cur;simp only[List.mem_cons,not_or] at h;rw[jI,Bw,if_neg (fun e=>h.1 e.symm),ih h.2];simp
theorem Xx (c:UInt8) (b:List UInt8): ∀(a cur:List UInt8),Bw c (a++c::b) cur=Bw c a cur++Bw c b []
 | [],cur=>by simp [Bw]
 | x::a,cur=>by
  rw[jI,Bw,Bw];split
  ·rw[Xx c b a []];rfl
  ·exact Xx c b a _
theorem Ab9 (c:UInt8): ∀(a cur:List UInt8),Bw c a cur≠ []
 | [],cur=>by simp [Bw]
 | x::a,cur=>by
  rw[Bw];split
  ·simp
  ·exact Ab9 c a _
theorem Qh (c:UInt8): ∀(a cur w:List UInt8),c∉cur->w∈Bw c a cur->c∉w
 | [],cur,w,h,hw=>by
  simp only[Bw,List.mem_singleton] at hw;rw[hw];exact h
 | x::a,cur,w,h,hw=>by
  rw[Bw] at hw;split at hw
  ·rcases List.mem_cons.1 hw with rfl | hw
   ·exact h
   ·exact Qh c a [] w (by simp) hw
  ·rename_i hx
   exact Qh c a _ w (by simp only[List.mem_append,List.mem_singleton,not_or];exact⟨h,fun e=>hx e.symm⟩) hw
def Ru:List (List UInt8)->List UInt8
 | []=> []
 | [s]=>s
 | s::t::l=>s++10::Ru (t::l)
def Ec (s:List UInt8):List (List UInt8):=Bw 10 s []
theorem Ac0: ∀ls:List (List UInt8),ls≠ []->(∀s∈ls,(10:UInt8)∉s)->Ec (Ru ls)=ls
 | [],h,_=>absurd rfl h
 | [s],_,hs=>by rw[Ru,Ec,Ab7 10 s (hs s (by simp))];rfl
 | s::t::l,_,hs=>by
  have:=Ac0 (t::l) (by simp) fun u hu=>hs u (List.mem_cons_of_mem _ hu);rw[Ec] at this⊢
  rw[Ru,Ab8 10 s _ (hs s (by simp)),this];rfl
theorem Bm7 (s:List UInt8): ∀cur,Ru (Bw 10 s cur)=cur++s:=by
 induction s with
 | nil=>intro cur;simp [Bw,Ru]
 | cons x s ih=>
  intro cur;rw[Bw];split
  ·rename_i h
   subst h;have:=ih [];cases hsp:Bw 10 s [] with
   | nil=>exact absurd hsp (Ab9 _ _ _)
   | cons t l=>rw[hsp] at this;rw[Ru,this];rfl
  ·rw[ih];simp
def Oh:List (List UInt8)->Nat->List (Tok×Bool×Int)
 | [],_=> []
 | s::ls,i=>(Kx s).map (fun p=>({ p.1 with line:=i },p.2,(i:Int)))++Oh ls (i+1)
def Bm8:List (Tok×Bool×Int)->Nat->Option (Int×Int)
 | [],_=>none
 | p::r,n=>if p.2.1=false then some (p.2.2,20) else if n=8192 then some (p.2.2,3) else Bm8 r (n+1)
def Bv (src:List UInt8):List Tok×Int×Int:=
 if 65536<src.length then([],0,3) else match Bm8 (Oh (Ec src) 1) 0 with
  | some e=>([],e.1,e.2)
  | none=>((Oh (Ec src) 1).map (·.1),0,0)
end Go.Dl

-- Chapter 2: tokens: the plain laws, part 3: the text of tokens, and the tokens of that text.
namespace Go.Dl
open Go
set_option maxRecDepth 10000
theorem Bb4 {c:UInt8} (h:Et c=true):Dk c=true:=by simp [Dk,h]
theorem Ce4 (w:List UInt8) (c:UInt8):My (w++ [c])=10*My w+(c.toNat-48):=by simp [My,List.foldl_append]
theorem Bm9 {c:UInt8} (h:Ff c=true):Dk c=true:=by simp [Dk,h]
theorem Ul: ∀w:List UInt8,w.all Dk=true->Cw w=w
 | [],_=>rfl
 | c::w,h=>by
  rw[List.all_cons,jF] at h;show List.takeWhile Dk (c::w)=_;rw[List.takeWhile_cons,h.1];have:=Ul w h.2;unfold Cw at this;simp [this]
end Go.Dl

-- Chapter 2: tokens: the plain laws, part 4: the tokens of the text of tokens.
namespace Go.Dl
open Go
set_option maxRecDepth 10000
theorem Ce5 {c:UInt8} (h:Dk c=true):33<=c.toNat/\c.toNat<=126:=by
 have hu:c=95->c.toNat=95:=fun e=>by rw[e];rfl
 unfold Dk Et Ff at h;simp only[Bool.or_eq_true,jF,decide_eq_true_eq] at h;rcases h with((h | h) | h) | h
 ·omega
 ·omega
 ·omega
 ·have:=hu h;omega
end Go.Dl

-- Chapter 2: tokens: the plain laws, part 6: numbers; a text again.
namespace Go.Dl
open Go
set_option maxRecDepth 10000
theorem Df8 {c:UInt8} (r:List UInt8) (h:c≠32):Fj (c::r)=c::r:=by
 unfold Fj;rw[List.dropWhile_cons,beq_eq_false_iff_ne.2 h];rfl
theorem Dr6 {c:UInt8} (r:List UInt8) (h:c≠45):Jj (c::r)=false:=by
 unfold Jj;split
 ·rename_i e;simp at e;exact absurd e.1 h
 ·rfl
theorem Bb5 {c:UInt8} {r:List UInt8} (h32:c≠32) (hc:Jj (c::r)=false):Kx (c::r)=if(Cs (c::r)).2=0 then [((Cs (c::r)).1,false)] else((Cs (c::r)).1,true)::Kx ((c::r).drop (Cs (c::r)).2):=by
 rw[Og,Df8 r h32,if_neg (fun h=>h.elim (by simp) (fun h=>by rw[hc] at h;cases h))]
end Go.Dl
