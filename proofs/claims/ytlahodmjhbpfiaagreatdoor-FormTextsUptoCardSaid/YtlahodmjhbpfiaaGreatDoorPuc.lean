/- The data level and the contracts of the functions that are reached (part 3). -/
import Derived.Orders
import Derived.Test.YtlahodmjhbpfiaaGreatDoorProg
import Derived.KernelRfl
import Derived.Lib.ItoaMem
import Derived.Lib.ConvBytes
import Derived.Lib.LaidTab
import Derived.Lib.ItoaLen
import Derived.Lib.ParseIntBTie
import Derived.Test.YtlahodmjhbpfiaaGreatDoorPub
set_option linter.unusedSimpArgs false
set_option linter.unusedVariables false
set_option linter.unusedSectionVars false
-- THE DATA LEVEL, PART Y: regions whose order is drawn: a plan takes operations that only compute as early as they may come; whatever order is drawn ends as the plan does.
namespace Go.Dl
open Go
def EVF (dst:Option Nat) (F:DK->DS->Prop):Prop:=
 ∀K s,F K s-> ∃d,Bz dst d K s/\ ∀K' s',Bz dst d K' s'->F K' s'
theorem Jo (dst:Option Nat) (d:DVal):EVF dst (Bz dst d):=fun K s h=>⟨d,h,fun K' s' h'=>h'⟩
theorem Ku (dst:Option Nat) {F:DK->DS->Prop} (h: ∀K s,¬F K s):EVF dst F:=fun K s hf=>(h K s hf).elim
theorem Cp {dst:Option Nat} {p:Prop} {F:DK->DS->Prop} (h:EVF dst F):EVF dst (fun K s=>p/\F K s):=fun K s ⟨hp,hf⟩=>by
 obtain⟨d,h1,h2⟩:=h K s hf;exact⟨d,h1,fun K' s' h'=>⟨hp,h2 K' s' h'⟩⟩
theorem Ln (dst:Option Nat) (o:Option DVal):EVF dst (Lk dst o):=by
 cases o with
 | none=>exact Ku _ fun K s h=>h
 | some d=>exact Jo dst d
theorem En3 (dst:Option Nat) (c a b:DVal):EVF dst (Bi3 dst c a b):=by
 intro K s h;revert h;unfold Bi3;split
 ·intro h;exact⟨_,h,fun _ _ h'=>h'⟩
 ·intro h;exact h.elim
theorem Dv6 (P:Program) (dst:Option Nat) (b:Bool) (t:Option TypeDesc) (z:Option DVal) (ps:List (Nat×DVal)):EVF dst (Zl P dst b t z ps):=by
 intro K s h;revert h;unfold Zl;split
 ·intro h;exact Ln _ _ K s h
 ·intro h;exact Ln _ _ K s h
 ·intro h;exact h.elim
theorem Cc8 (size:Nat) (dst:Option Nat) (ag:Option Bool) (cs:List DVal) (off:Nat):EVF dst (Zm size dst ag cs off):=by
 intro K s h;revert h;unfold Zm;split
 ·intro h;exact Cp (Jo _ _) K s h
 ·intro h;exact Ln _ _ K s h
 ·intro h;exact h.elim
theorem Dv7 (size:Nat) (ag:Option Bool) (dst:Option Nat) (off:Nat) (o:Option DObj):EVF dst (Av8 size ag dst off o):=by
 intro K s h;revert h;unfold Av8;split
 ·intro h;exact Cc8 _ _ _ _ _ K s h
 ·intro h;exact h.elim
theorem En4 (size:Nat) (ag:Option Bool) (dst:Option Nat) (v:DVal) (K:DK) (s:DS) (h:An6 size ag dst v K s):
  ∃d,Bz dst d K s/\ ∀K' s',(∀r off,v= .optr r off->s'.heap r=s.heap r)->Bz dst d K' s'->An6 size ag dst v K' s':=by
 unfold An6 at h;split at h<;>try exact h.elim
 ·obtain⟨d,h1,h2⟩:=Cc8 _ _ _ _ _ K s h;exact⟨d,h1,fun K' s' _ h'=>h2 K' s' h'⟩
 ·rename_i r off
  obtain⟨d,h1,h2⟩:=Dv7 _ _ _ _ _ K s h;exact⟨d,h1,fun K' s' hk h'=>by show Av8 _ _ _ _ (s'.heap r) K' s';rw[hk r off rfl];exact h2 K' s' h'⟩
theorem Cc9 (dst:Option Nat) (v:DVal):EVF dst (Th dst v):=by
 intro K s h;revert h;unfold Th;split<;>intro h<;>first | exact h.elim | exact⟨_,h,fun _ _ h'=>h'⟩
theorem Cq6 (dst:Option Nat) (o b:Option Bool):EVF dst (Pb dst o b):=by
 intro K s h;revert h;unfold Pb;split<;>intro h<;>first | exact h.elim | exact⟨_,h,fun _ _ h'=>h'⟩
theorem Dl0 (k:IntKind) (a b:Int) (dst:Option Nat) (op:BinOp):EVF dst (fun K s=>Ac3 k a b dst K s op):=by
 intro K s h;revert h;unfold Ac3;split<;>intro h<;>first | exact h.elim | exact⟨_,h,fun _ _ h'=>h'⟩ | exact⟨_,h.2,fun _ _ h'=>⟨h.1,h'⟩⟩
theorem Dv8 (k:IntKind) (a b:Int) (dst:Option Nat) (op:BinOp):EVF dst (fun K s=>Av9 k a b dst K s op):=by
 intro K s h;revert h;unfold Av9;split<;>intro h<;>first | exact h.elim | exact⟨_,h,fun _ _ h'=>h'⟩ | exact⟨_,h.2,fun _ _ h'=>⟨h.1,h'⟩⟩
theorem Dl1 (a b:List UInt8) (dst:Option Nat) (op:BinOp):EVF dst (fun K s=>Yf a b dst K s op):=by
 intro K s h;revert h;unfold Yf;split<;>intro h<;>first | exact h.elim | exact⟨_,h,fun _ _ h'=>h'⟩ | exact⟨_,h.2,fun _ _ h'=>⟨h.1,h'⟩⟩
theorem En5 (op:BinOp) (k k':IntKind) (a b:Int) (dst:Option Nat) (x:Bool):EVF dst (fun K s=>Bi6 op k k' a b dst K s x):=by
 cases x
 ·exact Cp (Dl0 k a b dst op)
 ·exact Dv8 k a b dst op
theorem Dv9 (P:Program) (t:TypeId) (c:Bool) (op:BinOp) (dst:Option Nat) (x y:DVal):EVF dst (Ll P t c op dst x y):=by
 intro K s h;revert h;unfold Ll;split
 ·intro h;exact En5 _ _ _ _ _ _ _ K s h
 ·intro h;exact Dl1 _ _ _ _ K s h
 ·intro h;exact Cp (Cp (Cq6 _ _ _)) K s h
 ·intro h;exact Cq6 _ _ _ K s h
theorem Fn0 (dst:Option Nat) (op:UnOp) (x:DVal):EVF dst (dUn dst op x):=by
 intro K s h;revert h;unfold dUn;split<;>intro h<;>first | exact h.elim | exact⟨_,h,fun _ _ h'=>h'⟩
theorem Cq7 (dst:Option Nat) (a b:Option TypeDesc) (x:DVal):EVF dst (Qv dst a b x):=by
 intro K s h;revert h;unfold Qv;split<;>intro h<;>first | exact h.elim | exact⟨_,h,fun _ _ h'=>h'⟩
theorem Bs1 (t:TypeId) (x:DVal) (dst:Option Nat) (b:Bool):EVF dst (Qw t x dst b):=by
 intro K s h;revert h;unfold Qw;split<;>intro h<;>first | exact h.elim | exact⟨_,h,fun _ _ h'=>h'⟩
theorem Cd0 (l:List UInt8) (dst:Option Nat) (a b:Option Int):EVF dst (fun K s=>Yg l dst K s a b):=by
 cases a<;>cases b<;>first | exact Ku _ (fun K s h=>h) | exact Cp (Cp (Cp (Jo _ _)))
theorem Bj4 (size:Nat) (cs:List DVal) (len:Nat) (dst:Option Nat) (a b:Option Int):EVF dst (fun K s=>Yh size cs len dst K s a b):=by
 cases a<;>cases b<;>first | exact Ku _ (fun K s h=>h) | exact Cp (Cp (Cp (Jo _ _)))
theorem Ak3 (size r off cap:Nat) (dst:Option Nat) (a b c:Option Int):EVF dst (fun K s=>Rv size r off cap dst K s a b c):=by
 cases a<;>cases b<;>cases c<;>first | exact Ku _ (fun K s h=>h) | exact Cp (Cp (Cp (Cp (Jo _ _))))
theorem Dl2 (dst:Option Nat) (a b:Option Int):EVF dst (fun K s=>At6 dst K s a b):=by
 cases a<;>cases b<;>first | exact Ku _ (fun K s h=>h) | exact Cp (Cp (Jo _ _))
theorem Dw0 (P:Program) (lo hi:Option DVal) (dst:Option Nat) (t:Option TypeDesc) (v:DVal) (m:Option DVal) (K:DK) (s:DS) (h:Zn P lo hi dst t v m K s):
  ∃d,Bz dst d K s/\ ∀K' s',(∀r off,v= .optr r off->s'.heap r=s.heap r)->Bz dst d K' s'->Zn P lo hi dst t v m K' s':=by
 have lift: ∀ {F:DK->DS->Prop},EVF dst F->F K s-> ∃d,Bz dst d K s/\ ∀K' s',(∀r off,v= .optr r off->s'.heap r=s.heap r)->Bz dst d K' s'->F K' s':=by
  intro F hF hf;obtain⟨d,h1,h2⟩:=hF K s hf;exact⟨d,h1,fun K' s' _ h'=>h2 K' s' h'⟩
 unfold Zn at h;split at h<;>try exact h.elim
 ·exact lift (Cd0 _ _ _ _) h
 ·exact lift (Cp (Dl2 _ _ _)) h
 ·exact lift (Cp (Bj4 _ _ _ _ _ _)) h
 ·exact lift (Cp (Cp (Ak3 _ _ _ _ _ _ _ _))) h
 ·exact lift (Cp (Cp (Cp (Ak3 _ _ _ _ _ _ _ _)))) h
 ·rename_i n e r off
  obtain⟨h1,h2,h3⟩:=h;obtain⟨d,h4,h5⟩:=Ak3 _ _ _ _ _ _ _ _ K s h3;exact⟨d,h4,fun K' s' hk h'=>⟨h1,by rw[hk r off rfl];exact h2,h5 K' s' h'⟩⟩
 ·exact lift (Cp (Cp (Bj4 _ _ _ _ _ _))) h
theorem Bg5 (P:Program) (x:DVal) (dst:Option Nat) (f:Option Field):EVF dst (Wp P x dst f):=by
 cases f with
 | none=>exact Ku _ (fun K s h=>h)
 | some f=>exact Cp (Ln _ _)
theorem Bs2 (P:Program) (f:Nat) (x:DVal) (dst:Option Nat) (t:Option TypeDesc):EVF dst (Lx P f x dst t):=by
 intro K s h;revert h;unfold Lx;split
 ·intro h;exact Bg5 _ _ _ _ K s h
 ·intro h;exact h.elim
theorem Da1 (size:Nat) (cs:List DVal) (off:Nat) (dst:Option Nat) (b:Option Bool):EVF dst (Aw1 size cs off dst b):=by
 intro K s h;revert h;unfold Aw1;split
 ·intro h;exact Jo _ _ K s h
 ·intro h;exact Ln _ _ K s h
 ·intro h;exact h.elim
theorem Dl3 (P:Program) (cs:List DVal) (dst:Option Nat) (f:Option Field):EVF dst (Bp3 P cs dst f):=by
 cases f with
 | none=>exact Ku _ (fun K s h=>h)
 | some f=>exact Da1 _ _ _ _ _
theorem Dw1 (P:Program) (f:Nat) (dst:Option Nat) (t:Option TypeDesc) (x:DVal):EVF dst (Zo P f dst t x):=by
 intro K s h;revert h;unfold Zo;split
 ·intro h;exact Dl3 _ _ _ _ K s h
 ·intro h;exact h.elim
theorem Bs3 (P:Program) (dst:Option Nat) (t:Option TypeDesc) (x i:DVal):EVF dst (Ly P dst t x i):=by
 intro K s h;revert h;unfold Ly;split
 ·intro h;exact Cp (Cp (Cp (Cp (Jo _ _)))) K s h
 ·intro h;exact Cp (Cp (Cp (Jo _ _))) K s h
 ·intro h;exact Cp (Cp (Cp (Ln _ _))) K s h
 ·intro h;exact h.elim
theorem Dw2 (P:Program) (dst:Option Nat) (t:Option TypeDesc) (x i:DVal):EVF dst (Aj2 P dst t x i):=by
 intro K s h;revert h;unfold Aj2;split
 ·intro h;exact Cp (Cp (Da1 _ _ _ _ _)) K s h
 ·intro h;exact Cp (Ln _ _) K s h
 ·intro h;exact h.elim
theorem Cq8 (i:Nat) (dst:Option Nat) (x:DVal):EVF dst (Ti i dst x):=by
 intro K s h;revert h;unfold Ti;split
 ·intro h;exact Ln _ _ K s h
 ·intro h;exact h.elim
theorem Ay2 (dst:Option Nat) (z:Option DVal):EVF dst (Ac4 dst z):=by
 cases z with
 | none=>exact Ku _ (fun K s h=>h)
 | some z=>exact Jo _ _
theorem Cd1 (v:DVal) (z:Option DVal) (dst:Option Nat) (a b:Bool):EVF dst (Qq v z dst a b):=by
 cases a<;>cases b
 ·exact Ku _ (fun K s h=>h)
 ·exact Jo _ _
 ·exact Ay2 _ _
 ·exact Jo _ _
theorem Bg6 (P:Program) (t:TypeId) (ok:Bool) (dst:Option Nat) (b:Bool) (x:DVal):EVF dst (Fz P t ok dst b x):=by
 intro K s h;revert h;unfold Fz;split
 ·intro h;exact Cd1 _ _ _ _ _ K s h
 ·intro h;exact Cp (Ay2 _ _) K s h
 ·intro h;exact h.elim
theorem Fc3 (dst:Option Nat) (t:Option TypeDesc) (x:DVal):EVF dst (Dg2 dst t x):=by
 intro K s h;revert h;unfold Dg2;split<;>intro h<;>first | exact h.elim | exact⟨_,h,fun _ _ h'=>h'⟩
theorem Dw3 (P:Program) (x:DVal) (dst:Option Nat) (ts:List TypeId):EVF dst (Bp4 P x dst ts):=by
 intro K s h;revert h;unfold Bp4;split
 ·intro h;exact Fc3 _ _ _ K s h
 ·intro h;exact h.elim
def Sc:Op->Bool
 | .move _ | .assign _ | .pick _ _ _ | .build _ _ | .load _ _ | .nilCheck _ | .unOp _ _ _ | .convert _ _ _ | .makeInterface _ _ | .makeFunc _ _ _
 | .slice _ _ _ _ _ | .fieldAddr _ _ _ | .field _ _ _ | .indexAddr _ _ _ | .index _ _ _ | .typeAssert _ _ _ _ | .extract _ _=>true
 | .binOp _ _ _ y _=>!Hj y
 | .call c=>match c.callee with
  | .builtin .len | .builtin .min | .builtin .max=>true
  | _=>false
 | _=>false
def Bs4:Op->Option Operand
 | .load _ a=>some a
 | .slice _ x _ _ _=>some x
 | .convert _ _ x=>some x
 | _=>none
def Kd (H H':Ab):DVal->Prop
 | .optr r _=>H' r=H r
 | .oslice _ r _ _ _=>H' r=H r
 | _=>True
theorem Sd {H:Ab} {v:DVal}:Kd H H v:=by
 unfold Kd;split<;>trivial
theorem Kd.ptr {H H':Ab} {d:DVal} (h:Kd H H' d): ∀r off,d= .optr r off->H' r=H r:=fun r off e=>by subst e;exact h
def Cd2 (G:Nat->DVal) (s s':DS) (op:Op):Prop:= ∀a,Bs4 op=some a->Kd s.heap s'.heap (dev G s.env a)
theorem Cd3 {H H':Ab} {x:DVal} (h:Kd H H' x):Up H' x=Up H x:=by
 unfold Up;split<;>try rfl
 simp only[Kd] at h;rw[h]
theorem Dw4 (P:Program) (dst:Option Nat) (a b:Option TypeDesc) (x:DVal) (K:DK) (s:DS) (h:Ng P dst a b x K s):
  ∃d,Bz dst d K s/\ ∀K' s',Kd s.heap s'.heap x->Bz dst d K' s'->Ng P dst a b x K' s':=by
 revert h;unfold Ng;split
 ·rintro⟨h1,h⟩;cases hb:(Up s.heap x).bind Pu with
  | none=>rw[hb] at h;exact h.elim
  | some l=>
   rw[hb] at h;exact⟨_,h,fun K' s' hk h'=>⟨h1,by rw[Cd3 hk,hb];exact h'⟩⟩
 ·intro h;obtain⟨d,h1,h2⟩:=Cq7 _ _ _ _ K s h;exact⟨d,h1,fun K' s' _ h'=>h2 K' s' h'⟩
theorem Rb {G:Nat->DVal} {env env':Nat->DVal}: ∀ {xs:List Operand},(∀x∈xs,dev G env' x=dev G env x)->Fy G env' xs=Fy G env xs
 | [],_=>rfl
 | x::xs,h=>by
  simp only[Fy];rw[h x (by simp),Rb fun y hy=>h y (by simp [hy])]
theorem Ux {G:Nat->DVal} {env env':Nat->DVal}: ∀ {xs:List (Nat×Operand)},(∀x∈xs.map (·.2),dev G env' x=dev G env x)->Kc G env' xs=Kc G env xs
 | [],_=>rfl
 | (i,x)::xs,h=>by
  simp only[Kc];rw[h x (by simp),Ux fun y hy=>h y (by simp at hy⊢;exact .inr hy)]
theorem Uy {G:Nat->DVal} {env env':Nat->DVal} {x:Option Operand} (h: ∀y∈x.toArray,dev G env' y=dev G env y):Pc G env' x=Pc G env x:=by
 cases x with
 | none=>rfl
 | some x=>simp only[Pc];rw[h x (by simp)]
def Se (all:List Oper) (env:Nat->DVal) (o:Oper):Option Bool:=
 match o.guard with
 | none=>some true
 | some (j,b)=>match Pv all j with
  | some g=>match env g with
   | .bool v=>some (v==b)
   | .tuple []=>some false
   | _=>none
  | none=>none
end Go.Dl

-- THE DATA LEVEL, PART Z: an operation hangs on its operands alone.
namespace Go.Dl
open Go
section
variable {P:Program} {G:Nat->DVal}
theorem Zx {dst:Option Nat} {K:DK} {Q:DExit->DS->Prop} {s:DS} (op:Op) (he:Sc op=true) (h:dop P G dst K Q s op):
  ∃d,Bz dst d K s/\ ∀Q' K' s',(∀x∈op.operands,dev G s'.env x=dev G s.env x)->Cd2 G s s' op->Bz dst d K' s'->dop P G dst K' Q' s' op:=by
 have lift: ∀ {F:DK->DS->Prop},EVF dst F->F K s->(∀K' s',(∀x∈op.operands,dev G s'.env x=dev G s.env x)-> ∀Q',F K' s'->dop P G dst K' Q' s' op)->
   ∃d,Bz dst d K s/\ ∀Q' K' s',(∀x∈op.operands,dev G s'.env x=dev G s.env x)->Cd2 G s s' op->Bz dst d K' s'->dop P G dst K' Q' s' op:=by
  intro F hF hf hT;obtain⟨d,h1,h2⟩:=hF K s hf;exact⟨d,h1,fun Q' K' s' ha _ h'=>hT K' s' ha Q' (h2 K' s' h')⟩
 cases op<;>simp only[Sc] at he<;>try (cases he;done)
 case move x=>exact lift (Jo _ _) h fun K' s' ha Q' h'=>by simp only[dop];rw[ha x (by simp [Op.operands])];exact h'
 case assign x=>exact lift (Jo _ _) h fun K' s' ha Q' h'=>by simp only[dop];rw[ha x (by simp [Op.operands])];exact h'
 case pick c a b=>exact lift (En3 _ _ _ _) h fun K' s' ha Q' h'=>by simp only[dop];rw[ha c (by simp [Op.operands]),ha a (by simp [Op.operands]),ha b (by simp [Op.operands])];exact h'
 case build t ps=>
  exact lift (Dv6 _ _ _ _ _ _) h fun K' s' ha Q' h'=>by
   simp only[dop];rw[Ux (env:=s.env) (fun x hx=>ha x (by simpa [Op.operands] using hx))];exact h'
 case load t a=>
  obtain⟨d,h1,h2⟩:=En4 _ _ _ _ K s h;exact⟨d,h1,fun Q' K' s' ha hk h'=>by simp only[dop];rw[ha a (by simp [Op.operands])];exact h2 K' s' (hk a rfl).ptr h'⟩
 case nilCheck x=>exact lift (Cc9 _ _) h fun K' s' ha Q' h'=>by simp only[dop];rw[ha x (by simp [Op.operands])];exact h'
 case binOp op t x y _=>
  have hn:Hj y=false:=by simpa using he
  simp only[dop,hn,Pd] at h;exact lift (Dv9 _ _ _ _ _ _ _) h fun K' s' ha Q' h'=>by simp only[dop,hn,Pd];rw[ha x (by simp [Op.operands]),ha y (by simp [Op.operands])];exact h'
 case unOp op t x=>exact lift (Fn0 _ _ _) h fun K' s' ha Q' h'=>by simp only[dop];rw[ha x (by simp [Op.operands])];exact h'
 case convert a t x=>
  obtain⟨d,h1,h2⟩:=Dw4 _ _ _ _ _ K s h;exact⟨d,h1,fun Q' K' s' ha hk h'=>by simp only[dop];rw[ha x (by simp [Op.operands])];exact h2 K' s' (hk x rfl) h'⟩
 case makeInterface t x=>exact lift (Bs1 _ _ _ _) h fun K' s' ha Q' h'=>by simp only[dop];rw[ha x (by simp [Op.operands])];exact h'
 case makeFunc fn fs cs=>
  exact lift (Jo _ _) h fun K' s' ha Q' h'=>by
   simp only[dop];rw[Rb (env:=s.env) (xs:=fs.toList) (fun x hx=>ha x (by simp at hx;simp [Op.operands,hx])),Rb (env:=s.env) (xs:=cs.toList) (fun x hx=>ha x (by simp at hx;simp [Op.operands,hx]))];exact h'
 case slice t x lo hi mx=>
  obtain⟨d,h1,h2⟩:=Dw0 _ _ _ _ _ _ _ K s h;exact⟨d,h1,fun Q' K' s' ha hk h'=>by
   simp only[dop];rw[ha x (by simp [Op.operands]),Uy (x:=lo) (env:=s.env) (fun y hy=>ha y (by simp at hy;simp [Op.operands,hy])),Uy (x:=hi) (env:=s.env) (fun y hy=>ha y (by simp at hy;simp [Op.operands,hy])),Uy (x:=mx) (env:=s.env) (fun y hy=>ha y (by simp at hy;simp [Op.operands,hy]))];exact h2 K' s' (hk x rfl).ptr h'⟩
 case fieldAddr t x f=>exact lift (Bs2 _ _ _ _ _) h fun K' s' ha Q' h'=>by simp only[dop];rw[ha x (by simp [Op.operands])];exact h'
 case field t x f=>exact lift (Dw1 _ _ _ _ _) h fun K' s' ha Q' h'=>by simp only[dop];rw[ha x (by simp [Op.operands])];exact h'
 case indexAddr t x i=>exact lift (Bs3 _ _ _ _ _) h fun K' s' ha Q' h'=>by simp only[dop];rw[ha x (by simp [Op.operands]),ha i (by simp [Op.operands])];exact h'
 case index t x i=>exact lift (Dw2 _ _ _ _ _) h fun K' s' ha Q' h'=>by simp only[dop];rw[ha x (by simp [Op.operands]),ha i (by simp [Op.operands])];exact h'
 case typeAssert x t u ok=>exact lift (Bg6 _ _ _ _ _ _) h fun K' s' ha Q' h'=>by simp only[dop];rw[ha x (by simp [Op.operands])];exact h'
 case extract x i=>exact lift (Cq8 _ _ _) h fun K' s' ha Q' h'=>by simp only[dop];rw[ha x (by simp [Op.operands])];exact h'
 case call c=>
  have hargs: ∀s':DS,(∀x∈(Op.call c).operands,dev G s'.env x=dev G s.env x)->Fy G s'.env c.args.toList=Fy G s.env c.args.toList:=by
   intro s' ha;exact Rb fun x hx=>ha x (by simp at hx;simp [Op.operands,Call.operands,hx])
  simp only[dop] at h⊢
  cases hc:c.callee with
  | value f=>rw[hc] at he;cases he
  | invoke r m=>rw[hc] at he;cases he
  | builtin b=>
   rw[hc] at h he;simp only[Rx] at h⊢
   cases b<;>simp only at he<;>try (cases he;done)
   case len=>
    cases hx:Fy G s.env c.args.toList with
    | nil=>rw[hx] at h;exact h.elim
    | cons x xs=>
     cases xs with
     | cons y ys=>rw[hx] at h;exact h.elim
     | nil=>
      rw[hx] at h;obtain⟨d,h1,h2⟩:=Dw3 P x dst c.argTypes.toList K s h;exact⟨d,h1,fun Q' K' s' ha _ h'=>by rw[hargs s' ha,hx];exact h2 K' s' h'⟩
   case min=>
    obtain⟨d,h1,h2⟩:=Ln dst (Ls false (Fy G s.env c.args.toList)) K s h;exact⟨d,h1,fun Q' K' s' ha _ h'=>by rw[hargs s' ha];exact h2 K' s' h'⟩
   case max=>
    obtain⟨d,h1,h2⟩:=Ln dst (Ls true (Fy G s.env c.args.toList)) K s h;exact⟨d,h1,fun Q' K' s' ha _ h'=>by rw[hargs s' ha];exact h2 K' s' h'⟩
theorem Dl4 {dst:Option Nat} {K K':DK} {Q Q':DExit->DS->Prop} {s s':DS} (op:Op) (ha: ∀x∈op.operands,dev G s'.env x=dev G s.env x) (hh:s'.heap=s.heap)
  (hK: ∀d h,K ⟨Gr s.env dst d,h⟩->K' ⟨Gr s'.env dst d,h⟩) (hQ: ∀v h,Q (.panic v) ⟨s.env,h⟩->Q' (.panic v) ⟨s'.env,h⟩)
  (h:dop P G dst K Q s op):dop P G dst K' Q' s' op:=by
 by_cases he:Sc op=true
 ·obtain⟨d,h1,h2⟩:=Zx op he h;refine h2 Q' K' s' ha (fun a _=>by rw[hh];exact Sd) ?_;show K' ⟨Gr s'.env dst d,s'.heap⟩;rw[hh];exact hK _ _ h1
 ·have newP: ∀ {cs e},Av7 cs e dst K s->Av7 cs e dst K' s':=fun hn r hr=>by
   rw[hh] at hr⊢;exact hK _ _ (hn r hr)
  have newS: ∀ {cs e sz l c},An5 cs e sz l c dst K s->An5 cs e sz l c dst K' s':=fun hn r hr=>by
   rw[hh] at hr⊢;exact hK _ _ (hn r hr)
  have panic: ∀ {x},Wr Q s x->Wr Q' s' x:=by
   intro x hx;unfold Wr at hx⊢
   split at hx<;>try exact hx.elim
   have:=hQ _ _ hx;rw[<-hh] at this;exact this
  cases op<;>(try exact(he rfl).elim)<;>(try exact h.elim)
  case binOp op t x y t'=>
   have hn:Hj y=true:=by
    simp only[Sc] at he;cases hy:Hj y with
    | true=>rfl
    | false=>rw[hy] at he;exact absurd rfl he
   simp only[dop] at h⊢
   rw[ha x (by simp [Op.operands]),ha y (by simp [Op.operands])];rw[hn] at h⊢
   generalize dev G s.env x=dx at h⊢
   generalize dev G s.env y=dy at h⊢
   have put: ∀d,Bz dst d K s->Bz dst d K' s':=fun d h=>by unfold Bz at*;rw[hh];exact hK _ _ h
   have rest:Ll P t (Fl x || Fl y) op dst dx dy K s->Ll P t (Fl x || Fl y) op dst dx dy K' s':=fun h=>by
    obtain⟨d,h1,h2⟩:=Dv9 _ _ _ _ _ _ _ K s h;exact h2 K' s' (put d h1)
   cases dx<;>first | exact rest h | skip
   simp only[Yy] at h⊢
   refine⟨h.1,fun b hb=> ?_⟩;obtain⟨d,h1,h2⟩:=Cq6 _ _ _ K s (h.2 b hb);exact h2 K' s' (put d h1)
  case range t x=>
   simp only[dop] at h⊢
   rw[ha x (by simp [Op.operands])];generalize P.underlying t=u at h⊢
   generalize dev G s.env x=dx at h⊢
   unfold Aw0 at h⊢
   split at h<;>try exact h.elim
   exact fun r hr=>by rw[hh] at hr⊢;exact hK _ _ (h r hr)
  case next x b=>
   simp only[dop] at h⊢
   rw[ha x (by simp [Op.operands])];generalize dev G s.env x=dx at h⊢
   unfold Bi7 at h⊢
   split at h<;>try exact h.elim
   rw[hh];unfold Bp2 at h⊢
   split at h<;>try exact h.elim
   refine⟨fun hp=>by rw[hh];exact hK _ _ (h.1 hp),fun hp=> ?_⟩;have:=h.2 hp;unfold Bz at*;rw[hh];exact hK _ _ this
  case makeMap t r=>
   simp only[dop] at h⊢
   rw[Uy (x:=r) (env:=s.env) (fun y hy=>ha y (by simp at hy;simp [Op.operands,hy]))];generalize P.underlying t=u at h⊢
   generalize Pc G s.env r=v at h⊢
   unfold Tl at h⊢
   split at h<;>try exact h.elim
   all_goals exact fun r hr=>by rw[hh] at hr⊢;exact hK _ _ (h r hr)
  case lookup t x k ok=>
   simp only[dop] at h⊢
   rw[ha x (by simp [Op.operands]),ha k (by simp [Op.operands])];generalize P.underlying t=u at h⊢
   generalize dev G s.env x=dx at h⊢
   generalize dev G s.env k=dk at h⊢
   have put: ∀d,Bz dst d K s->Bz dst d K' s':=fun d h=>by unfold Bz at*;rw[hh];exact hK _ _ h
   have hF: ∀es z r,Zq es ok dst z r K s->Zq es ok dst z r K' s':=fun es z r h=>by
    unfold Zq at h⊢
    split at h<;>try exact h.elim
    ·obtain⟨p,h1,h2⟩:=h;exact⟨p,h1,put _ h2⟩
    ·exact put _ h
   unfold Ac9 at h⊢
   split at h<;>try exact h.elim
   ·refine⟨h.1, ?_⟩;have h2:=h.2;rw[hh];generalize s.heap _=ob at h2⊢
    unfold Cm8 at h2⊢
    split at h2<;>try exact h2.elim
    exact hF _ _ _ h2
   ·exact⟨h.1,hF _ _ _ h.2⟩
  case mapUpdate t m k x=>
   simp only[dop] at h⊢
   rw[ha m (by simp [Op.operands]),ha k (by simp [Op.operands]),ha x (by simp [Op.operands])];generalize P.underlying t=u at h⊢
   generalize dev G s.env m=dm at h⊢
   generalize dev G s.env k=dk at h⊢
   generalize dev G s.env x=dx at h⊢
   unfold Rw at h⊢
   split at h<;>try exact h.elim
   obtain⟨h1,h2,h3⟩:=h;refine⟨h1,h2, ?_⟩;rw[hh];generalize s.heap _=ob at h3⊢
   unfold Ac8 at h3⊢
   split at h3<;>try exact h3.elim
   refine⟨h3.1, ?_⟩;have h4:=h3.2;unfold Ac7 at h4⊢
   split at h4<;>try exact h4.elim
   subst h1;rw[hh];exact hK El _ h4
  case insert t m k x=>
   simp only[dop] at h⊢
   rw[ha m (by simp [Op.operands]),ha k (by simp [Op.operands]),ha x (by simp [Op.operands])];generalize P.underlying t=u at h⊢
   generalize dev G s.env m=dm at h⊢
   generalize dev G s.env k=dk at h⊢
   generalize dev G s.env x=dx at h⊢
   unfold Rw at h⊢
   split at h<;>try exact h.elim
   obtain⟨h1,h2,h3⟩:=h;refine⟨h1,h2, ?_⟩;rw[hh];generalize s.heap _=ob at h3⊢
   unfold Ac8 at h3⊢
   split at h3<;>try exact h3.elim
   refine⟨h3.1, ?_⟩;have h4:=h3.2;unfold Ac7 at h4⊢
   split at h4<;>try exact h4.elim
   subst h1;rw[hh];exact hK El _ h4
  case alloc e=>
   simp only[dop] at h⊢
   generalize Bq P e=z at h⊢
   cases z with
   | none=>exact h.elim
   | some z=>exact newP h
  case box e x=>simp only[dop] at h⊢;rw[ha x (by simp [Op.operands])];exact newP h
  case buildSlice t n ps=>
   simp only[dop] at h⊢
   rw[Ux (env:=s.env) (fun x hx=>ha x (by simpa [Op.operands] using hx))];generalize Kc G s.env ps.toList=qs at h⊢
   generalize P.underlying t=u at h⊢
   unfold Mi at h⊢
   split at h<;>try exact h.elim
   show Un _ _ _ _ _ _ _ _;generalize Bq P _=z at h⊢
   cases z with
   | none=>exact h.elim
   | some z=>
    obtain⟨h1,h2,h3⟩:=h;refine⟨h1,h2, ?_⟩;generalize Nf _ _ _=f at h3⊢
    cases f with
    | none=>exact h3.elim
    | some f=>exact newS h3
  case store t a x=>
   simp only[dop] at h⊢
   obtain⟨h1,h2⟩:=h;refine⟨h1, ?_⟩;rw[ha a (by simp [Op.operands]),ha x (by simp [Op.operands])];generalize dev G s.env a=va at h2⊢
   generalize dev G s.env x=vx at h2⊢
   unfold Aj1 at h2⊢
   split at h2<;>try exact h2.elim
   rename_i hx0 hx1 hx2 hx3
   rw[hh];generalize s.heap _=ob at h2⊢
   unfold Bp1 at h2⊢
   split at h2<;>try exact h2.elim
   obtain⟨g1,g2,g3,g4⟩:=h2;refine⟨g1,g2,g3, ?_⟩;rw[hh];exact hK El _ g4
  case makeSlice t l c=>
   simp only[dop] at h⊢
   rw[ha l (by simp [Op.operands]),ha c (by simp [Op.operands])];generalize dev G s.env l=vl at h⊢
   generalize dev G s.env c=vc at h⊢
   generalize P.underlying t=u at h⊢
   unfold Oe at h⊢
   split at h<;>try exact h.elim
   show Wo _ _ _ _ _ _ _ _ _;generalize Bq P _=z at h⊢
   cases z with
   | none=>exact h.elim
   | some z=>
    obtain⟨h1,h2,h3,h4,h5,h6,h7⟩:=h;exact⟨h1,h2,h3,h4,h5,h6,newS h7⟩
  case panic x=>simp only[dop] at h⊢;rw[ha x (by simp [Op.operands])];exact panic h
  case call c=>
   have hargs:Fy G s'.env c.args.toList=Fy G s.env c.args.toList:=
    Rb fun x hx=>ha x (by simp at hx;simp [Op.operands,Call.operands,hx])
   simp only[dop] at h⊢
   cases hc:c.callee with
   | invoke r m=>rw[hc] at h;exact h.elim
   | value f=>
    rw[hc] at h;simp only[Rx] at h⊢
    rw[hargs,ha f (by simp [Op.operands,Call.operands,hc])];generalize dev G s.env f=vf at h⊢
    unfold Aj3 at h⊢
    split at h<;>try exact h.elim
    all_goals
     rw[hh];refine h.mono ?_;intro e H' hr;cases e with
     | ret v=>exact hK _ _ hr
     | panic v=>exact hQ _ _ hr
   | builtin b=>
    rw[hc] at h;simp only[Rx] at h⊢
    rw[hargs];generalize Fy G s.env c.args.toList=vs at h⊢
    cases b<;>(try (cases vs<;>exact h.elim))<;>(try (exfalso;refine he ?_;simp [Sc,hc];done))
    case cap=>
     cases vs with
     | nil=>exact h.elim
     | cons x vs=> ?_
     cases vs with
     | cons z vs=>exact h.elim
     | nil=> ?_
     simp only[Kb] at h⊢
     generalize c.argTypes.toList=ts at h⊢
     unfold Ds9 at h⊢
     split at h<;>try exact h.elim
     show Ds8 _ _ _ _ _;generalize P.underlying _=u at h⊢
     unfold Ds8 at h⊢
     split at h<;>try exact h.elim
     ·show K' ⟨_,s'.heap⟩;rw[hh];exact hK _ _ h
     ·intro c hc;show K' ⟨_,s'.heap⟩;rw[hh];exact hK _ _ (h c hc)
     ·intro c hc hc';show K' ⟨_,s'.heap⟩;rw[hh];exact hK _ _ (h c hc hc')
    case clear=>
     cases vs with
     | nil=>exact h.elim
     | cons x vs=> ?_
     cases vs with
     | cons z vs=>exact h.elim
     | nil=> ?_
     simp only[Kb] at h⊢
     generalize c.argTypes.toList=ts at h⊢
     unfold Bz9 at h⊢
     split at h<;>try exact h.elim
     show Aw4 _ _ _ _ _ _;generalize P.underlying _=u at h⊢
     unfold Aw4 at h⊢
     split at h<;>try exact h.elim
     generalize Bq _ _=zo at h⊢
     unfold Bp5 at h⊢
     split at h<;>try exact h.elim
     ·show K' ⟨_,s'.heap⟩;rw[hh];exact hK _ _ h
     ·refine⟨h.1,h.2.1, ?_⟩;have h2:=h.2.2;rw[hh];generalize s.heap _=ob at h2⊢
      unfold Cz2 at h2⊢
      split at h2<;>try exact h2.elim
      refine⟨h2.1,h2.2.1,h2.2.2.1, ?_⟩;rw[hh];exact hK _ _ h2.2.2.2
    case delete=>
     cases vs with
     | nil=>exact h.elim
     | cons x vs=> ?_
     cases vs with
     | nil=>exact h.elim
     | cons y vs=> ?_
     cases vs with
     | cons z vs=>exact h.elim
     | nil=> ?_
     simp only[Kb] at h⊢
     generalize c.argTypes.toList=ts at h⊢
     unfold Bi9 at h⊢
     split at h<;>try exact h.elim
     show Ad0 _ _ _ _ _ _ _;generalize P.underlying _=u at h⊢
     unfold Ad0 at h⊢
     split at h<;>try exact h.elim
     refine⟨h.1, ?_⟩;have h2:=h.2;rw[hh];generalize s.heap _=ob at h2⊢
     unfold Aw6 at h2⊢
     split at h2<;>try exact h2.elim
     unfold Aw5 at h2⊢
     split at h2<;>try exact h2.elim
     rw[hh];exact hK _ _ h2
    case append=>
     cases vs with
     | nil=>exact h.elim
     | cons x vs=> ?_
     cases vs with
     | nil=>exact h.elim
     | cons y vs=> ?_
     cases vs with
     | cons z vs=>exact h.elim
     | nil=> ?_
     simp only[Kb] at h⊢
     generalize c.argTypes.toList=ts at h⊢
     unfold Tk at h⊢
     split at h<;>try exact h.elim
     show Wq _ _ _ _ _ _ _ _ _;generalize Nj _=it at h⊢
     cases it with
     | true=>
      simp only[Wq] at h⊢
      generalize P.underlying _=u at h⊢
      unfold Ac6 at h⊢
      split at h<;>try exact h.elim
      generalize Bq _ _=zo at h⊢
      unfold Aw3 at h⊢
      split at h<;>try exact h.elim
      refine⟨h.1,h.2.1,fun hn=> ?_,fun hn=>⟨(h.2.2.2 hn).1,(h.2.2.2 hn).2.1,(h.2.2.2 hn).2.2.1,newS (h.2.2.2 hn).2.2.2⟩⟩;have:=h.2.2.1 hn;show K' ⟨_,s'.heap⟩;rw[hh];exact hK _ _ this
     | false=> ?_
     simp only[Wq] at h⊢
     generalize Zp _=u' at h⊢
     generalize P.underlying _=u at h⊢
     unfold Ac5 at h⊢
     split at h<;>try exact h.elim
     obtain⟨g1,g2,g3,g4,g5,g6⟩:=h;refine⟨g1,g2,g3,g4,g5, ?_⟩;rw[hh];generalize Qy _ _ _=sc at g6⊢
     unfold Aw2 at g6⊢
     split at g6<;>try exact g6.elim
     obtain⟨k1,k2,k3⟩:=g6;refine⟨k1,k2, ?_⟩;unfold Kq at k3⊢
     split at k3<;>try exact k3.elim
     ·refine⟨fun hn=> ?_,fun hn=>⟨(k3.2 hn).1,newS (k3.2 hn).2⟩⟩;have:=k3.1 hn;show K' ⟨_,s'.heap⟩;rw[hh];exact hK _ _ this
     ·refine⟨k3.1, ?_⟩;have k4:=k3.2;rw[hh];generalize s.heap _=ob at k4⊢
      unfold Ni at k4⊢
      split at k4<;>try exact k4.elim
      obtain⟨m1,m2,m3⟩:=k4;refine⟨m1,fun hl=>⟨(m2 hl).1, ?_⟩,fun hl=>⟨(m3 hl).1,(m3 hl).2.1,fun r' pre hr hp=> ?_⟩⟩
      ·rw[hh];exact hK _ _ (m2 hl).2
      ·rw[hh] at hr⊢;exact hK _ _ ((m3 hl).2.2 r' pre hr hp)
    case panic=>
     cases vs with
     | nil=>exact h.elim
     | cons x xs=>cases xs with
      | nil=>exact panic h
      | cons y ys=>exact h.elim
end
end Go.Dl

-- THE DATA LEVEL, PART 1: plans of regions whose order is drawn.
namespace Go.Dl
open Go
inductive Plan where
 | done
 | take (i:Nat) (p:Plan)
 | go (i:Nat) (ls:List Nat) (p:Plan)
 | alt (p q:Plan)
 deriving Inhabited
def Fe:List Oper->Nat->Option Oper
 | [],_=>none
 | o::_,0=>some o
 | _::r,n+1=>Fe r n
def Ad8 (P:Program) (G:Nat->DVal) (K:DK) (Q:DExit->DS->Prop) (dst:Option Nat) (op:Op) (s:DS):Bool->DVal->Prop
 | true, .bool true=>dop P G dst K Q s op
 | true, .bool false=>Bz dst El K s
 | false, .bool true=>Bz dst El K s
 | false, .bool false=>dop P G dst K Q s op
 | true, .tuple []=>Bz dst El K s
 | false, .tuple []=>Bz dst El K s
 | _,_=>False
def Tq (P:Program) (G:Nat->DVal) (K:DK) (Q:DExit->DS->Prop) (dst:Option Nat) (op:Op) (s:DS) (b:Bool):Option Nat->Prop
 | some g=>Ad8 P G K Q dst op s b (s.env g)
 | none=>False
def Dl5 (P:Program) (G:Nat->DVal) (all:List Oper) (K:DK) (Q:DExit->DS->Prop) (s:DS) (dst:Option Nat) (op:Op):Option (Nat×Bool)->Prop
 | none=>dop P G dst K Q s op
 | some (j,b)=>Tq P G K Q dst op s b (Pv all j)
def dAt (P:Program) (G:Nat->DVal) (all:List Oper) (K:DK) (Q:DExit->DS->Prop) (s:DS):Option Oper->Prop
 | some o=>Dl5 P G all K Q s o.dst o.op o.guard
 | none=>False
def Dw5 (G:Nat->DVal) (s:DS) (H':Ab):Option Operand->Prop
 | some a=>Kd s.heap H' (dev G s.env a)
 | none=>True
def Uz:Option Oper->Option Operand
 | some o=>Bs4 o.op
 | none=>none
def Da2 (G:Nat->DVal) (all:List Oper) (s:DS) (H':Ab):List Nat->Prop
 | []=>True
 | l::ls=>Dw5 G s H' (Uz (Fe all l))/\Da2 G all s H' ls
def Da3 (G:Nat->DVal) (all:List Oper) (ls:List Nat) (s:DS) (K:DK):DK:=fun s'=>Da2 G all s s'.heap ls/\K s'
def Lo (P:Program) (G:Nat->DVal) (all:List Oper) (Q:DExit->DS->Prop):Plan->DS->Prop
 | .done,s=>Q .normal s
 | .take i p,s=>dAt P G all (Lo P G all Q p) Q s (Fe all i)
 | .go i ls p,s=>dAt P G all (Da3 G all ls s (Lo P G all Q p)) Q s (Fe all i)
 | .alt p q,s=>Lo P G all Q p s/\Lo P G all Q q s
def QP (Q:DExit->DS->Prop):DExit->DS->Prop
 | .panic v,s=> ∀env,Q (.panic v) ⟨env,s.heap⟩
 | .normal,s=>Q .normal s
 | _,_=>False
def Rr (all:List Oper) (k j:Nat):Bool:=
 match Fe all k with
 | some o=>o.after.any fun e=>Region.binds .any e&&e.on==j
 | none=>false
def Ay3 (all:List Oper) (j k:Nat):Bool:=
 match Fe all j,Fe all k with
 | some x,some y=>x.apart all.toArray y
 | _,_=>true
def Cq9 (all:List Oper) (i:Nat):Bool:=
 match Fe all i with
 | some o=>Sc o.op
 | none=>false
def Ak4 (all:List Oper) (k:Nat) (T:List Nat):Bool:=
 match Fe all k with
 | some o=>o.after.all fun e=>!Region.binds .any e || T.contains e.on
 | none=>false
def Mp (all:List Oper) (j:Nat):Option Nat:=(Fe all j).bind (·.dst)
def Rc:Plan->List Nat
 | .go i _ _=> [i]
 | .alt p q=>Rc p++Rc q
 | _=> []
def Ao4 (all:List Oper) (T:List Nat):Plan->Bool
 | .done=>true
 | .take _ _=>true
 | p=>(List.range all.length).all fun k=>T.contains k || (Rc p).contains k || !Ak4 all k T
def Cd4 (all:List Oper) (T:List Nat) (l:Nat):Operand->Bool
 | .tmp t=>T.all fun m=>Mp all m !=some t || Rr all l m
 | _=>true
def Dw6 (all:List Oper) (k:Nat):List Nat:=
 match Fe all k with
 | some o=>(o.after.toList.filter fun e=>Region.binds .any e).map (·.on)
 | none=> []
def At9 (all:List Oper):Nat->List Nat->List Nat
 | 0,S=>S
 | k+1,S=>At9 all k (if S.contains k then Dw6 all k++S else S)
def Fw0 (all:List Oper) (i:Nat):List Nat:=At9 all (i+1) [i]
def Da4 (all:List Oper) (T:List Nat) (i:Nat) (ls:List Nat):Bool:=
 T.all fun l=>match Uz (Fe all l) with
  | none=>true
  | some a=>Rr all i l || (l !=i&&(Fw0 all i).contains l) || (ls.contains l&&Cd4 all T l a)
def Ii (all:List Oper):Plan->List Nat->Bool
 | .done,T=>(List.range all.length).all fun k=>T.contains k
 | .take i p,T=>decide (i<all.length)&&!T.contains i&&Cq9 all i&&Ak4 all i T&&
   ((List.range all.length).all fun k=>T.contains k || k==i || Rr all k i || Ay3 all i k)&&Ao4 all (i::T) p&&Ii all p (i::T)
 | .go i ls p,T=>decide (i<all.length)&&!T.contains i&&Ak4 all i T&&Da4 all T i ls&&Ao4 all (i::T) p&&Ii all p (i::T)
 | .alt p q,T=>Ii all p T&&Ii all q T
section
variable {P:Program} {G:Nat->DVal} {N:Nat} {all:List Oper} {Q:DExit->DS->Prop} {s0:DS} {w0:World}
theorem Qr: ∀(all:List Oper) (j:Nat),Fe all j=all[j]?
 | [],j=>by simp [Fe]
 | o::r,0=>by simp [Fe]
 | o::r,j+1=>by simp [Fe,Qr r j]
theorem Ay4 {o:Oper} {K:DK} {s:DS}:dAt P G all K Q s (some o)↔
  (Se all s.env o=some true/\dop P G o.dst K Q s o.op)\/(Se all s.env o=some false/\Bz o.dst El K s):=by
 simp only[dAt];unfold Dl5 Se;cases o.guard with
 | none=>simp
 | some jb=>
  obtain⟨j,b⟩:=jb;simp only;cases Pv all j with
  | none=>simp [Tq]
  | some g=>
   simp only[Tq];cases hv:s.env g<;>(try (cases b<;>simp [Ad8];done))
   case bool v=>cases b<;>cases v<;>simp [Ad8]
   case tuple vs=>cases vs<;>cases b<;>simp [Ad8]
def En6 (P:Program) (G:Nat->DVal) (all:List Oper) (j:Nat) (s:DS) (d:DVal):Prop:=
 ∃o,Fe all j=some o/\Sc o.op=true/\
  ((Se all s.env o=some true/\ ∀K Q,Bz o.dst d K s->dop P G o.dst K Q s o.op)\/(Se all s.env o=some false/\d=El))
def Seq (P:Program) (G:Nat->DVal) (all:List Oper):DS->List Nat->DS->Prop
 | s,[],s'=>s'=s
 | s,j::js,s'=> ∃d,En6 P G all j s d/\Seq P G all ⟨Gr s.env (Mp all j) d,s.heap⟩ js s'
def looks (all:List Oper) (j:Nat):List Nat:=
 match Fe all j with
 | some o=>o.looksAt all.toArray
 | none=> []
theorem Bj5 {o:Oper} {env env':Nat->DVal} (h: ∀t∈o.looksAt all.toArray,env' t=env t): ∀x∈o.op.operands,dev G env' x=dev G env x:=by
 intro x hx;cases x with
 | tmp t=>
  refine h t ?_;unfold Oper.looksAt;refine List.mem_append_left _ (List.mem_filterMap.2 ⟨.tmp t,by simpa using hx,rfl⟩)
 | _=>rfl
theorem Ad9 {o:Oper} {env env':Nat->DVal} (h: ∀t∈o.looksAt all.toArray,env' t=env t):Se all env' o=Se all env o:=by
 unfold Se;cases hg:o.guard with
 | none=>rfl
 | some jb=>
  obtain⟨j,b⟩:=jb;simp only;cases hj:Pv all j with
  | none=>rfl
  | some g=>
   simp only;rw[h g];unfold Oper.looksAt;refine List.mem_append_right _ ?_;rw[hg];rw[Ad7] at hj;simp [hj]
theorem En6.agree {j:Nat} {s s':DS} {d:DVal} (h:En6 P G all j s d) (ha: ∀t∈looks all j,s'.env t=s.env t)
  (hk: ∀o a,Fe all j=some o->Bs4 o.op=some a->Kd s.heap s'.heap (dev G s.env a)):En6 P G all j s' d:=by
 obtain⟨o,ho,he,h⟩:=h;have ha': ∀t∈o.looksAt all.toArray,s'.env t=s.env t:=by
  intro t ht;exact ha t (by unfold looks;rw[ho];exact ht)
 refine⟨o,ho,he, ?_⟩;rw[Ad9 ha'];rcases h with⟨hw,h⟩ | h
 ·refine .inl ⟨hw,fun K' Q' hp=> ?_⟩;have h1:=h (fun s1=>s1=⟨Gr s.env o.dst d,s.heap⟩) Q' rfl;obtain⟨d',hd',hall⟩:=Zx o.op he h1;refine hall Q' K' s' (Bj5 (all:=all) ha') ?_ ?_
  ·exact fun a hl=>hk o a ho hl
  ·unfold Bz at hd' hp⊢
   have he:Gr s.env o.dst d'=Gr s.env o.dst d:=congrArg DS.env hd';have:Gr s'.env o.dst d'=Gr s'.env o.dst d:=by
    cases hdst:o.dst with
    | none=>rfl
    | some t=>
     rw[hdst] at he;have h2:=congrFun he t;simp [Gr,upd] at h2;rw[h2]
   rw[this];exact hp
 ·exact .inr h
theorem Ae0 {env:Nat->DVal} {dst:Option Nat} {d:DVal} {t:Nat} (h:dst≠some t):Gr env dst d t=env t:=by
 cases dst with
 | none=>rfl
 | some k=>simp only[Gr,upd];rw[if_neg];intro e;exact h (by rw[e])
theorem Bj6 {env:Nat->DVal} {x y:Option Nat} {d e:DVal} (h: ∀t,x=some t->y≠some t):Gr (Gr env x d) y e=Gr (Gr env y e) x d:=by
 cases x with
 | none=>rfl
 | some i=>
  cases y with
  | none=>rfl
  | some k=>
   have hne:k≠i:=fun hh=>h i rfl (by rw[hh]);funext t;simp only[Gr,upd];by_cases h1:t=k
   ·subst h1;rw[if_pos rfl,if_neg hne,if_pos rfl]
   ·rw[if_neg h1];by_cases h2:t=i
    ·rw[if_pos h2,if_pos h2]
    ·rw[if_neg h2,if_neg h2,if_neg h1]
structure Apart (all:List Oper) (j k:Nat):Prop where
 a: ∀t,Mp all j=some t->t∉looks all k
 b: ∀t,Mp all j=some t->Mp all k≠some t
 c: ∀t,Mp all k=some t->t∉looks all j
theorem Ao5 {j k:Nat} {x y:Oper} (hx:Fe all j=some x) (hy:Fe all k=some y) (h:Ay3 all j k=true):Apart all j k:=by
 unfold Ay3 at h;rw[hx,hy] at h;obtain⟨h1,h2,h3⟩:=Oper.apart_spec h;refine⟨?_, ?_, ?_⟩<;>simp only[Mp,looks,hx,hy,Option.bind_some]<;>assumption
theorem Seq.front: ∀ {A:List Nat} {k:Nat} {B:List Nat} {s s':DS},(∀j∈A,Apart all j k)->Seq P G all s (A++k::B) s'->Seq P G all s (k::(A++B)) s'
 | [],k,B,s,s',_,h=>h
 | j::A,k,B,s,s',hA,h=>by
  obtain⟨d,hd,h⟩:=h;obtain⟨dk,hk,h⟩:=Seq.front (fun i hi=>hA i (by simp [hi])) h;have ap:=hA j (by simp);refine⟨dk,hk.agree (fun t ht=>(Ae0 (fun e=>ap.a t e ht)).symm) (fun _ _ _ _=>Sd),d,hd.agree (fun t ht=>Ae0 (fun e=>ap.c t e ht)) (fun _ _ _ _=>Sd), ?_⟩;show Seq P G all ⟨Gr (Gr s.env _ dk) _ d,s.heap⟩ (A++B) s';rw[Bj6 (fun t h1 h2=>ap.b t h2 h1)];exact h
theorem Seq.heap: ∀ {js:List Nat} {s s':DS},Seq P G all s js s'->s'.heap=s.heap
 | [],s,s',h=>by cases h;rfl
 | j::js,s,s',⟨d,_,h⟩=>by have:=Seq.heap h;exact this
theorem Seq.env: ∀ {js:List Nat} {s s':DS},Seq P G all s js s'-> ∀t,(∀j∈js,Mp all j≠some t)->s'.env t=s.env t
 | [],s,s',h,t,_=>by cases h;rfl
 | j::js,s,s',⟨d,_,h⟩,t,ht=>by
  rw[Seq.env h t fun i hi=>ht i (by simp [hi])];exact Ae0 (ht j (by simp))
theorem Seq.shift {k:Option Nat} {v:DVal} {h:Ab}: ∀ {js:List Nat} {s s':DS},Seq P G all s js s'->
  (∀j∈js,∀t,k=some t->t∉looks all j)->(∀j∈js,∀t,Mp all j=some t->k≠some t)->
  (∀A j B,js=A++j::B-> ∀o a,Fe all j=some o->Bs4 o.op=some a->(∀t,a= .tmp t-> ∀m∈j::B,Mp all m≠some t)/\Kd s.heap h (dev G s'.env a))->
  Seq P G all ⟨Gr s.env k v,h⟩ js ⟨Gr s'.env k v,h⟩
 | [],s,s',hs,_,_,_=>by cases hs;rfl
 | j::js,s,s',⟨d,hd,hs⟩,h1,h2,h3=>by
  refine⟨d,hd.agree (fun t ht=>Ae0 fun e=>h1 j (by simp) t e ht) (fun o a ho ha=> ?_), ?_⟩
  ·obtain⟨g1,g2⟩:=h3 [] j js rfl o a ho ha;have:dev G s'.env a=dev G s.env a:=by
    cases a with
    | tmp t=>
     have:=Seq.env hs t fun i hi=>g1 t rfl i (by simp [hi]);simp only[dev];rw[this];exact Ae0 (g1 t rfl j (by simp))
    | _=>rfl
   rw[<-this];exact g2
  ·have hs':=Seq.shift (k:=k) (v:=v) (h:=h) hs (fun i hi=>h1 i (by simp [hi])) (fun i hi=>h2 i (by simp [hi])) (fun A i B e=>h3 (j::A) i B (by rw[e];rfl));show Seq P G all ⟨Gr (Gr s.env k v) (Mp all j) d,h⟩ js _;rw[Bj6 fun t e1 e2=>h2 j (by simp) t e2 e1];exact hs'
end
end Go.Dl
namespace Go.Dl
abbrev pL0:Plan:=.take 0 (.take 1 (.take 2 (.take 6 (.take 7 (.alt (.go 4 [7] (.alt (.go 8 [] (.alt (.go 10 [7] (.go 3 [7] (.go 5 [7] (.go 9 [] (.go 11 [] (.go 12 [] .done)))))) (.go 3 [7] (.alt (.go 10 [7] (.go 5 [7] (.go 9 [] (.go 11 [] (.go 12 [] .done))))) (.go 5 [7] (.alt (.go 10 [7] (.go 9 [] (.go 11 [] (.go 12 [] .done)))) (.go 9 [] (.go 10 [7] (.go 11 [] (.go 12 [] .done)))))))))) (.alt (.go 10 [7] (.alt (.go 8 [] (.go 3 [7] (.go 5 [7] (.go 9 [] (.go 11 [] (.go 12 [] .done)))))) (.go 3 [7] (.alt (.go 8 [] (.go 5 [7] (.go 9 [] (.go 11 [] (.go 12 [] .done))))) (.go 5 [7] (.go 8 [] (.go 9 [] (.go 11 [] (.go 12 [] .done))))))))) (.go 3 [7] (.alt (.go 8 [] (.alt (.go 10 [7] (.go 5 [7] (.go 9 [] (.go 11 [] (.go 12 [] .done))))) (.go 5 [7] (.alt (.go 10 [7] (.go 9 [] (.go 11 [] (.go 12 [] .done)))) (.go 9 [] (.go 10 [7] (.go 11 [] (.go 12 [] .done)))))))) (.alt (.go 10 [7] (.alt (.go 8 [] (.go 5 [7] (.go 9 [] (.go 11 [] (.go 12 [] .done))))) (.go 5 [7] (.go 8 [] (.go 9 [] (.go 11 [] (.go 12 [] .done))))))) (.go 5 [7] (.alt (.go 10 [7] (.go 8 [] (.go 9 [] (.go 11 [] (.go 12 [] .done))))) (.go 8 [] (.alt (.go 10 [7] (.go 9 [] (.go 11 [] (.go 12 [] .done)))) (.go 9 [] (.go 10 [7] (.go 11 [] (.go 12 [] .done)))))))))))))) (.alt (.go 8 [] (.alt (.go 4 [7] (.alt (.go 10 [7] (.go 3 [7] (.go 5 [7] (.go 9 [] (.go 11 [] (.go 12 [] .done)))))) (.go 3 [7] (.alt (.go 10 [7] (.go 5 [7] (.go 9 [] (.go 11 [] (.go 12 [] .done))))) (.go 5 [7] (.alt (.go 10 [7] (.go 9 [] (.go 11 [] (.go 12 [] .done)))) (.go 9 [] (.go 10 [7] (.go 11 [] (.go 12 [] .done)))))))))) (.alt (.go 10 [7] (.alt (.go 4 [7] (.go 3 [7] (.go 5 [7] (.go 9 [] (.go 11 [] (.go 12 [] .done)))))) (.go 3 [7] (.go 4 [7] (.go 5 [7] (.go 9 [] (.go 11 [] (.go 12 [] .done)))))))) (.go 3 [7] (.alt (.go 10 [7] (.go 4 [7] (.go 5 [7] (.go 9 [] (.go 11 [] (.go 12 [] .done)))))) (.go 4 [7] (.alt (.go 10 [7] (.go 5 [7] (.go 9 [] (.go 11 [] (.go 12 [] .done))))) (.go 5 [7] (.alt (.go 10 [7] (.go 9 [] (.go 11 [] (.go 12 [] .done)))) (.go 9 [] (.go 10 [7] (.go 11 [] (.go 12 [] .done))))))))))))) (.alt (.go 10 [7] (.alt (.go 4 [7] (.alt (.go 8 [] (.go 3 [7] (.go 5 [7] (.go 9 [] (.go 11 [] (.go 12 [] .done)))))) (.go 3 [7] (.alt (.go 8 [] (.go 5 [7] (.go 9 [] (.go 11 [] (.go 12 [] .done))))) (.go 5 [7] (.go 8 [] (.go 9 [] (.go 11 [] (.go 12 [] .done))))))))) (.alt (.go 8 [] (.alt (.go 4 [7] (.go 3 [7] (.go 5 [7] (.go 9 [] (.go 11 [] (.go 12 [] .done)))))) (.go 3 [7] (.go 4 [7] (.go 5 [7] (.go 9 [] (.go 11 [] (.go 12 [] .done)))))))) (.go 3 [7] (.alt (.go 8 [] (.go 4 [7] (.go 5 [7] (.go 9 [] (.go 11 [] (.go 12 [] .done)))))) (.go 4 [7] (.alt (.go 8 [] (.go 5 [7] (.go 9 [] (.go 11 [] (.go 12 [] .done))))) (.go 5 [7] (.go 8 [] (.go 9 [] (.go 11 [] (.go 12 [] .done)))))))))))) (.go 3 [7] (.alt (.go 8 [] (.alt (.go 10 [7] (.go 4 [7] (.go 5 [7] (.go 9 [] (.go 11 [] (.go 12 [] .done)))))) (.go 4 [7] (.alt (.go 10 [7] (.go 5 [7] (.go 9 [] (.go 11 [] (.go 12 [] .done))))) (.go 5 [7] (.alt (.go 10 [7] (.go 9 [] (.go 11 [] (.go 12 [] .done)))) (.go 9 [] (.go 10 [7] (.go 11 [] (.go 12 [] .done)))))))))) (.alt (.go 10 [7] (.alt (.go 8 [] (.go 4 [7] (.go 5 [7] (.go 9 [] (.go 11 [] (.go 12 [] .done)))))) (.go 4 [7] (.alt (.go 8 [] (.go 5 [7] (.go 9 [] (.go 11 [] (.go 12 [] .done))))) (.go 5 [7] (.go 8 [] (.go 9 [] (.go 11 [] (.go 12 [] .done))))))))) (.go 4 [7] (.alt (.go 8 [] (.alt (.go 10 [7] (.go 5 [7] (.go 9 [] (.go 11 [] (.go 12 [] .done))))) (.go 5 [7] (.alt (.go 10 [7] (.go 9 [] (.go 11 [] (.go 12 [] .done)))) (.go 9 [] (.go 10 [7] (.go 11 [] (.go 12 [] .done)))))))) (.alt (.go 10 [7] (.alt (.go 8 [] (.go 5 [7] (.go 9 [] (.go 11 [] (.go 12 [] .done))))) (.go 5 [7] (.go 8 [] (.go 9 [] (.go 11 [] (.go 12 [] .done))))))) (.go 5 [7] (.alt (.go 10 [7] (.go 8 [] (.go 9 [] (.go 11 [] (.go 12 [] .done))))) (.go 8 [] (.alt (.go 10 [7] (.go 9 [] (.go 11 [] (.go 12 [] .done)))) (.go 9 [] (.go 10 [7] (.go 11 [] (.go 12 [] .done)))))))))))))))))))))
abbrev pL1:Plan:=.take 0 (.take 1 (.take 2 (.take 6 (.take 7 (.take 8 (.take 11 (.take 12 (.take 14 (.take 15 (.alt (.go 4 [15,12,8,2] (.alt (.go 9 [15,12,2] (.go 3 [15,12,8] (.go 5 [15,12,8] (.go 10 [15,12] (.go 13 [15] (.go 16 [] .done)))))) (.go 3 [15,12,8] (.alt (.go 9 [15,12,2] (.go 5 [15,12,8] (.go 10 [15,12] (.go 13 [15] (.go 16 [] .done))))) (.go 5 [15,12,8] (.go 9 [15,12,2] (.go 10 [15,12] (.go 13 [15] (.go 16 [] .done))))))))) (.alt (.go 9 [15,12,2] (.alt (.go 4 [15,12,8,2] (.go 3 [15,12,8] (.go 5 [15,12,8] (.go 10 [15,12] (.go 13 [15] (.go 16 [] .done)))))) (.go 3 [15,12,8] (.go 4 [15,12,8,2] (.go 5 [15,12,8] (.go 10 [15,12] (.go 13 [15] (.go 16 [] .done)))))))) (.go 3 [15,12,8] (.alt (.go 9 [15,12,2] (.go 4 [15,12,8,2] (.go 5 [15,12,8] (.go 10 [15,12] (.go 13 [15] (.go 16 [] .done)))))) (.go 4 [15,12,8,2] (.alt (.go 9 [15,12,2] (.go 5 [15,12,8] (.go 10 [15,12] (.go 13 [15] (.go 16 [] .done))))) (.go 5 [15,12,8] (.go 9 [15,12,2] (.go 10 [15,12] (.go 13 [15] (.go 16 [] .done))))))))))))))))))))
abbrev pL2:Plan:=.take 0 (.take 1 (.take 3 (.take 4 (.take 8 (.take 9 (.take 11 (.take 12 (.alt (.go 6 [12,9,4] (.alt (.go 14 [12,9,4] (.go 2 [12,9,4] (.go 5 [12,9] (.go 7 [12,9] (.go 10 [12] (.go 13 [] (.go 15 [] (.go 16 [] .done)))))))) (.go 2 [12,9,4] (.alt (.go 14 [12,9,4] (.go 5 [12,9] (.go 7 [12,9] (.go 10 [12] (.go 13 [] (.go 15 [] (.go 16 [] .done))))))) (.go 5 [12,9] (.alt (.go 14 [12,9,4] (.go 7 [12,9] (.go 10 [12] (.go 13 [] (.go 15 [] (.go 16 [] .done)))))) (.go 7 [12,9] (.alt (.go 14 [12,9,4] (.go 10 [12] (.go 13 [] (.go 15 [] (.go 16 [] .done))))) (.go 10 [12] (.alt (.go 14 [12,9,4] (.go 13 [] (.go 15 [] (.go 16 [] .done)))) (.go 13 [] (.go 14 [12,9,4] (.go 15 [] (.go 16 [] .done)))))))))))))) (.alt (.go 14 [12,9,4] (.alt (.go 6 [12,9,4] (.go 2 [12,9,4] (.go 5 [12,9] (.go 7 [12,9] (.go 10 [12] (.go 13 [] (.go 15 [] (.go 16 [] .done)))))))) (.go 2 [12,9,4] (.alt (.go 6 [12,9,4] (.go 5 [12,9] (.go 7 [12,9] (.go 10 [12] (.go 13 [] (.go 15 [] (.go 16 [] .done))))))) (.go 5 [12,9] (.go 6 [12,9,4] (.go 7 [12,9] (.go 10 [12] (.go 13 [] (.go 15 [] (.go 16 [] .done))))))))))) (.go 2 [12,9,4] (.alt (.go 6 [12,9,4] (.alt (.go 14 [12,9,4] (.go 5 [12,9] (.go 7 [12,9] (.go 10 [12] (.go 13 [] (.go 15 [] (.go 16 [] .done))))))) (.go 5 [12,9] (.alt (.go 14 [12,9,4] (.go 7 [12,9] (.go 10 [12] (.go 13 [] (.go 15 [] (.go 16 [] .done)))))) (.go 7 [12,9] (.alt (.go 14 [12,9,4] (.go 10 [12] (.go 13 [] (.go 15 [] (.go 16 [] .done))))) (.go 10 [12] (.alt (.go 14 [12,9,4] (.go 13 [] (.go 15 [] (.go 16 [] .done)))) (.go 13 [] (.go 14 [12,9,4] (.go 15 [] (.go 16 [] .done)))))))))))) (.alt (.go 14 [12,9,4] (.alt (.go 6 [12,9,4] (.go 5 [12,9] (.go 7 [12,9] (.go 10 [12] (.go 13 [] (.go 15 [] (.go 16 [] .done))))))) (.go 5 [12,9] (.go 6 [12,9,4] (.go 7 [12,9] (.go 10 [12] (.go 13 [] (.go 15 [] (.go 16 [] .done))))))))) (.go 5 [12,9] (.alt (.go 14 [12,9,4] (.go 6 [12,9,4] (.go 7 [12,9] (.go 10 [12] (.go 13 [] (.go 15 [] (.go 16 [] .done))))))) (.go 6 [12,9,4] (.alt (.go 14 [12,9,4] (.go 7 [12,9] (.go 10 [12] (.go 13 [] (.go 15 [] (.go 16 [] .done)))))) (.go 7 [12,9] (.alt (.go 14 [12,9,4] (.go 10 [12] (.go 13 [] (.go 15 [] (.go 16 [] .done))))) (.go 10 [12] (.alt (.go 14 [12,9,4] (.go 13 [] (.go 15 [] (.go 16 [] .done)))) (.go 13 [] (.go 14 [12,9,4] (.go 15 [] (.go 16 [] .done))))))))))))))))))))))))
abbrev pL3:Plan:=.take 0 (.take 1 (.take 2 (.take 3 (.take 4 (.take 5 (.take 8 (.take 9 (.take 10 (.take 11 (.take 12 (.take 13 (.take 15 (.take 16 (.take 17 (.take 18 (.take 19 (.go 6 [19,13] (.go 7 [19,13] (.go 14 [19] (.go 20 [] (.go 21 [] (.go 22 [] (.take 23 .done)))))))))))))))))))))))
abbrev pL4:Plan:=.take 0 (.take 1 (.take 2 (.take 3 (.take 4 (.take 5 (.take 6 (.take 7 (.take 8 (.take 9 (.take 10 (.take 11 (.take 12 (.take 13 (.take 14 (.take 15 (.take 16 (.take 17 (.take 18 (.take 19 .done)))))))))))))))))))
abbrev pL5:Plan:=.take 0 (.take 1 (.take 2 (.take 3 (.take 4 (.take 5 (.take 6 (.take 7 (.take 8 (.take 9 (.take 10 (.take 11 (.take 12 (.take 13 (.take 14 (.take 15 (.take 16 (.take 17 (.take 18 (.take 19 (.take 20 (.take 21 (.take 22 (.take 23 (.take 24 (.take 25 (.take 26 (.take 27 (.take 28 (.take 29 (.take 30 (.take 31 (.take 32 (.take 33 (.take 34 (.take 35 (.take 36 (.take 37 (.take 38 (.take 39 (.take 40 (.take 41 (.take 42 (.take 43 (.take 44 (.take 45 (.take 46 (.take 47 (.take 48 (.take 49 (.take 50 (.take 51 (.take 52 (.take 53 .done)))))))))))))))))))))))))))))))))))))))))))))))))))))
abbrev pL6:Plan:=.take 0 (.take 1 (.take 2 (.take 3 (.take 4 (.take 5 (.take 6 (.take 7 (.take 8 (.take 9 (.take 10 (.take 11 (.take 12 (.take 13 (.take 14 (.take 15 (.take 16 (.take 17 (.take 18 (.take 19 (.take 20 .done))))))))))))))))))))
abbrev pL7:Plan:=.take 0 (.take 3 (.take 4 (.alt (.go 6 [4] (.go 1 [4] (.go 2 [4] (.go 5 [] (.go 7 [] .done))))) (.go 1 [4] (.alt (.go 6 [4] (.go 2 [4] (.go 5 [] (.go 7 [] .done)))) (.go 2 [4] (.alt (.go 6 [4] (.go 5 [] (.go 7 [] .done))) (.go 5 [] (.go 6 [4] (.go 7 [] .done))))))))))
abbrev pL8:Plan:=.take 0 (.take 1 (.take 2 (.take 3 (.take 4 (.take 5 (.go 6 [4] (.go 7 [] (.take 8 (.take 9 (.go 10 [] .done))))))))))
abbrev pL9:Plan:=.take 4 (.take 5 (.take 6 (.take 7 (.take 12 (.take 13 (.take 14 (.take 15 (.take 20 (.take 21 (.take 22 (.take 23 (.go 0 [23,21,15,13,7,5] (.go 1 [23,21,15,13,7,5] (.go 2 [23,21,15,13,7,5] (.go 3 [23,21,15,13,7,5] (.go 8 [23,21,15,13] (.go 9 [23,21,15,13] (.go 10 [23,21,15,13] (.go 11 [23,21,15,13] (.go 16 [23,21] (.go 17 [23,21] (.go 18 [23,21] (.go 19 [23,21] (.go 24 [] (.go 25 [] (.go 26 [] (.go 27 [] (.go 28 [] (.go 29 [] (.take 30 .done))))))))))))))))))))))))))))))
abbrev pL10:Plan:=.take 0 (.take 1 (.take 2 (.take 3 (.take 4 (.take 5 (.take 6 (.take 7 (.take 12 (.take 13 (.take 14 (.take 15 (.take 16 (.take 17 (.take 18 (.go 8 [18,16] (.go 9 [18,16] (.go 10 [18,16] (.go 11 [18,16] (.go 19 [] (.go 20 [] (.go 21 [] (.take 22 .done))))))))))))))))))))))
abbrev pL11:Plan:=.take 0 (.take 1 (.take 2 (.take 3 (.take 4 (.take 5 (.take 6 (.take 7 (.take 8 (.take 9 (.take 10 (.take 11 (.take 12 (.take 13 (.take 14 (.take 15 (.take 16 (.take 17 (.take 18 (.take 19 (.take 20 (.take 21 (.go 22 [] (.take 23 (.take 24 .done))))))))))))))))))))))))
abbrev pL12:Plan:=.take 0 (.take 1 (.take 2 (.take 3 (.take 4 (.take 5 (.take 6 (.take 7 (.take 8 (.take 9 (.take 10 (.take 11 (.take 12 (.take 13 (.take 14 (.take 15 (.take 16 (.take 17 (.take 18 (.take 19 (.take 20 (.take 21 (.take 22 (.take 23 (.take 24 (.take 25 (.take 26 (.take 27 (.take 28 (.take 29 (.take 30 (.take 31 (.take 32 (.take 33 (.take 34 (.take 35 (.take 36 .done))))))))))))))))))))))))))))))))))))
abbrev pL13:Plan:=.take 0 (.take 1 (.take 2 (.take 3 (.take 5 (.take 6 (.take 7 (.take 8 (.take 9 (.go 4 [9,7] (.go 10 [] (.go 11 [] (.go 12 [] (.take 13 .done)))))))))))))
abbrev pL14:Plan:=.take 0 (.take 1 (.take 2 (.take 7 (.take 8 (.alt (.go 5 [8,2] (.go 3 [8] (.go 4 [8] (.go 6 [8] (.go 9 [] .done))))) (.go 3 [8] (.alt (.go 5 [8,2] (.go 4 [8] (.go 6 [8] (.go 9 [] .done)))) (.go 4 [8] (.go 5 [8,2] (.go 6 [8] (.go 9 [] .done)))))))))))
abbrev pL15:Plan:=.take 0 (.take 3 (.take 4 (.take 8 (.take 9 (.alt (.go 6 [9,4] (.go 1 [9,4] (.go 2 [9,4] (.go 5 [9] (.go 7 [9] (.go 10 [] .done)))))) (.go 1 [9,4] (.alt (.go 6 [9,4] (.go 2 [9,4] (.go 5 [9] (.go 7 [9] (.go 10 [] .done))))) (.go 2 [9,4] (.alt (.go 6 [9,4] (.go 5 [9] (.go 7 [9] (.go 10 [] .done)))) (.go 5 [9] (.go 6 [9,4] (.go 7 [9] (.go 10 [] .done)))))))))))))
abbrev pL16:Plan:=.take 0 (.take 1 (.take 2 (.take 3 (.take 7 (.take 8 (.alt (.go 9 [3,1] (.go 4 [8] (.go 5 [8] (.take 6 (.go 10 [] (.take 11 (.take 12 (.take 13 .done)))))))) (.go 4 [8] (.alt (.go 9 [3,1] (.go 5 [8] (.take 6 (.go 10 [] (.take 11 (.take 12 (.take 13 .done))))))) (.go 5 [8] (.take 6 (.go 9 [3,1] (.go 10 [] (.take 11 (.take 12 (.take 13 .done)))))))))))))))
abbrev pL17:Plan:=.take 0 (.take 2 (.take 3 (.go 1 [3] (.take 4 (.take 5 (.go 6 [] .done))))))
abbrev pL18:Plan:=.take 0 (.take 1 (.take 2 (.take 3 (.take 4 (.take 5 (.take 6 (.take 7 (.take 8 (.take 9 (.take 10 (.take 11 (.take 12 (.take 13 (.take 14 (.take 15 (.take 16 (.take 17 (.take 18 (.take 19 (.take 20 (.take 21 (.take 22 (.take 23 (.take 24 (.take 25 (.take 26 (.take 27 (.take 28 (.take 29 (.take 30 (.take 31 .done)))))))))))))))))))))))))))))))
abbrev pL19:Plan:=.take 0 (.take 2 (.take 4 (.alt (.go 3 [0] (.go 1 [] (.take 5 (.go 6 [] .done)))) (.go 1 [] (.go 3 [0] (.take 5 (.go 6 [] .done)))))))
abbrev pL20:Plan:=.take 0 (.take 1 (.take 2 (.take 3 (.take 4 (.take 5 (.take 6 (.take 9 (.take 10 (.take 11 (.take 12 (.take 13 (.take 15 (.take 16 (.take 17 (.take 18 (.take 19 (.go 7 [19,13] (.go 8 [19,13] (.go 14 [19] (.go 20 [] (.go 21 [] (.go 22 [] (.go 23 [] (.take 24 (.go 25 [] (.go 26 [] (.take 27 .done)))))))))))))))))))))))))))
abbrev pL21:Plan:=.take 0 (.take 1 (.take 2 (.take 3 (.take 6 (.take 7 (.go 4 [7] (.go 5 [7] (.go 8 [] (.go 9 [] (.go 10 [] (.go 11 [] (.go 12 [] (.take 13 .done)))))))))))))
abbrev pL22:Plan:=.take 0 (.take 3 (.alt (.go 5 [3] (.go 1 [3] (.go 2 [3] (.go 4 [] (.go 6 [] (.take 7 .done)))))) (.go 1 [3] (.alt (.go 5 [3] (.go 2 [3] (.go 4 [] (.go 6 [] (.take 7 .done))))) (.go 2 [3] (.alt (.go 5 [3] (.go 4 [] (.go 6 [] (.take 7 .done)))) (.go 4 [] (.go 5 [3] (.go 6 [] (.take 7 .done))))))))))
abbrev pL23:Plan:=.take 0 (.take 1 (.take 2 (.take 3 (.take 8 (.take 9 (.take 10 (.take 11 (.go 4 [11,9] (.go 5 [11,9] (.go 6 [11,9] (.go 7 [11,9] (.go 12 [] (.go 13 [] (.go 14 [] (.take 15 .done)))))))))))))))
abbrev pL24:Plan:=.take 0 (.take 1 (.take 2 (.take 3 (.take 4 (.take 5 (.take 8 (.take 9 (.take 10 (.take 11 (.take 12 (.go 6 [12] (.go 7 [12] (.go 13 [] (.go 14 [] (.go 15 [] (.take 16 .done))))))))))))))))
abbrev pL25:Plan:=.take 0 (.take 1 (.take 2 (.take 3 (.take 4 (.take 5 (.take 6 (.take 7 (.take 8 (.take 9 (.go 10 [] (.take 11 (.take 12 (.take 13 (.take 14 (.take 15 (.take 16 (.take 17 (.take 18 (.take 19 (.take 20 (.take 21 (.take 22 (.go 23 [] (.take 24 (.take 25 .done)))))))))))))))))))))))))
abbrev pL26:Plan:=.take 0 (.take 1 (.take 2 (.take 3 (.take 4 (.take 7 (.take 8 (.take 10 (.take 11 (.take 12 (.take 13 (.take 14 (.go 5 [14,13,11,8,3,1] (.go 6 [14,13,11,8] (.go 9 [14,13,11] (.go 15 [13,11] (.go 16 [] (.go 17 [] (.go 18 [] (.take 19 .done)))))))))))))))))))
abbrev pL27:Plan:=.take 0 (.take 1 (.take 2 (.take 3 (.take 9 (.take 10 (.take 11 (.take 12 (.go 4 [12,10] (.go 5 [12,10] (.go 6 [12,10] (.go 7 [12,10] (.go 8 [12,10] (.go 13 [] (.go 14 [] (.go 15 [] (.go 16 [] (.go 17 [] (.go 18 [] (.take 19 .done)))))))))))))))))))
abbrev pL28:Plan:=.take 0 (.take 1 (.take 2 (.take 4 (.take 5 (.go 3 [5] (.go 6 [] (.go 7 [] (.go 8 [] (.go 9 [] (.take 10 (.go 11 [] (.go 12 [] (.take 13 .done)))))))))))))
abbrev pL29:Plan:=.take 0 (.take 4 (.take 5 (.take 6 (.take 7 (.go 1 [7,5] (.go 2 [7,5] (.go 3 [7,5] (.go 8 [] (.go 9 [] (.go 10 [] (.take 11 .done)))))))))))
abbrev pL30:Plan:=.take 0 (.take 1 (.take 2 (.take 3 (.take 4 (.take 5 (.take 6 (.take 7 (.take 8 (.go 9 [] .done)))))))))
abbrev pL31:Plan:=.take 0 (.take 1 (.take 2 (.take 3 (.take 4 (.take 5 (.take 6 (.take 7 (.take 8 (.take 9 .done)))))))))
abbrev pL32:Plan:=.take 0 (.take 1 (.take 2 (.take 3 (.take 4 (.take 5 (.take 6 (.take 7 (.go 8 [] (.take 9 (.take 10 (.take 11 (.take 12 (.take 13 (.take 14 (.go 15 [11] (.go 16 [] (.take 17 (.take 18 .done))))))))))))))))))
abbrev pL33:Plan:=.take 0 (.take 1 (.take 2 (.take 3 (.take 4 (.take 5 (.take 6 (.take 7 (.take 8 (.take 9 (.take 10 (.take 11 (.take 12 .done))))))))))))
abbrev pL34:Plan:=.take 0 (.take 1 (.take 2 (.take 3 (.go 4 [3] (.go 5 [] .done)))))
abbrev pL35:Plan:=.take 0 (.take 1 (.take 2 (.take 3 (.take 8 (.take 9 (.go 4 [9] (.go 5 [9] (.go 6 [9] (.go 7 [9] (.go 10 [] (.go 11 [] (.go 12 [] (.go 13 [] (.go 14 [] (.go 15 [] (.take 16 .done))))))))))))))))
abbrev pL36:Plan:=.take 0 (.take 1 (.take 2 (.take 3 (.take 4 (.take 5 (.take 6 (.take 7 (.take 8 (.take 9 (.take 10 (.take 11 .done)))))))))))
abbrev pL37:Plan:=.take 0 (.take 1 (.take 2 (.take 3 (.take 4 (.take 5 (.take 6 (.take 7 (.take 8 .done))))))))
abbrev pL38:Plan:=.take 0 (.take 3 (.take 4 (.take 5 (.take 6 (.go 1 [6,4] (.go 2 [6,4] (.go 7 [] .done)))))))
abbrev pL39:Plan:=.take 0 (.take 1 (.take 2 (.take 3 (.take 4 (.go 5 [4] (.go 6 [] (.go 7 [] .done)))))))
abbrev pL40:Plan:=.take 0 (.take 1 (.take 2 (.take 3 (.take 4 (.take 5 (.take 6 (.take 7 (.take 8 (.take 9 (.take 10 (.go 11 [4] (.go 12 [] (.take 13 (.take 14 (.go 15 [] .done)))))))))))))))
abbrev pL41:Plan:=.take 0 (.take 1 (.take 2 (.take 3 (.take 4 (.take 5 (.go 6 [] (.go 7 [] .done)))))))
abbrev pL42:Plan:=.take 0 (.take 1 (.take 2 (.go 3 [1] (.go 4 [] (.go 5 [] .done)))))
abbrev pL43:Plan:=.take 0 (.take 1 (.take 5 (.alt (.go 3 [5,1] (.go 2 [5] (.go 4 [5] (.go 6 [] (.take 7 .done))))) (.go 2 [5] (.go 3 [5,1] (.go 4 [5] (.go 6 [] (.take 7 .done))))))))
abbrev pL44:Plan:=.take 1 (.take 2 (.go 0 [2] (.go 3 [] (.go 4 [] (.go 5 [] (.take 6 .done))))))
abbrev pL45:Plan:=.take 2 (.take 3 (.take 7 (.take 8 (.go 0 [8,3] (.go 1 [8,3] (.go 4 [8] (.go 5 [8] (.go 6 [8] (.go 9 [] (.go 10 [] (.go 11 [] (.take 12 .done))))))))))))
abbrev pL46:Plan:=.take 0 (.take 1 (.take 3 (.take 4 (.take 5 (.take 6 (.take 7 (.go 2 [7,6,4] (.go 8 [6,4] (.go 9 [] (.go 10 [] (.go 11 [] (.take 12 .done))))))))))))
abbrev pL47:Plan:=.take 0 (.take 1 (.take 2 (.take 3 (.take 4 (.take 5 (.take 6 (.take 7 (.go 8 [4] (.go 9 [] (.take 10 (.take 11 (.go 12 [] .done))))))))))))
abbrev pL48:Plan:=.take 0 (.take 3 (.take 4 (.go 1 [4] (.go 2 [4] (.go 5 [] .done)))))
abbrev pL49:Plan:=.take 3 (.take 4 (.go 0 [4] (.go 1 [4] (.go 2 [4] (.go 5 [] (.go 6 [] (.go 7 [] (.go 8 [] (.go 9 [] (.go 10 [] (.take 11 .done)))))))))))
abbrev pL50:Plan:=.take 0 (.take 1 (.take 2 (.take 3 (.take 4 (.take 5 (.take 6 (.take 7 (.take 8 (.take 9 (.take 10 (.take 11 (.go 12 [] .done))))))))))))
abbrev pL51:Plan:=.take 0 (.take 1 (.take 4 (.take 5 (.take 6 (.take 7 (.go 2 [7,5] (.go 3 [7,5] (.go 8 [] (.go 9 [] (.go 10 [] (.take 11 .done)))))))))))
abbrev pL52:Plan:=.take 0 (.take 1 (.take 2 (.take 3 (.take 4 (.take 5 (.take 6 (.take 7 (.take 8 (.take 9 (.go 10 [] (.take 11 .done)))))))))))
abbrev pL53:Plan:=.take 3 (.go 0 [3] (.go 1 [3] (.go 2 [3] (.go 4 [] (.go 5 [] (.go 6 [] (.go 7 [] (.go 8 [] (.go 9 [] (.take 10 .done))))))))))
abbrev pL54:Plan:=.take 0 (.take 2 (.take 3 (.take 4 (.take 5 (.go 1 [5,3] (.go 6 [] (.go 7 [] (.go 8 [] (.take 9 .done)))))))))
abbrev pL55:Plan:=.take 0 (.take 1 (.take 2 (.take 3 (.take 4 (.go 5 [1] (.go 6 [1] (.take 7 (.take 8 (.take 9 .done)))))))))
abbrev pL56:Plan:=.take 0 (.take 1 (.take 2 (.take 3 (.take 4 (.take 5 (.take 6 (.take 7 (.go 8 [] (.take 9 .done)))))))))
abbrev pL57:Plan:=.take 1 (.take 2 (.take 3 (.take 4 (.go 0 [4,2] (.go 5 [] (.go 6 [] (.go 7 [] (.take 8 .done))))))))
abbrev pL58:Plan:=.take 0 (.take 2 (.take 3 (.go 1 [3] (.go 4 [] (.go 5 [] (.go 6 [] (.go 7 [] (.take 8 .done))))))))
abbrev pL59:Plan:=.take 0 (.take 3 (.go 1 [3] (.go 2 [3] (.go 4 [] (.go 5 [] (.go 6 [] (.take 7 .done)))))))
abbrev pL60:Plan:=.take 1 (.take 2 (.go 0 [2] (.go 3 [] (.go 4 [] (.go 5 [] (.go 6 [] (.take 7 .done)))))))
abbrev pL61:Plan:=.take 0 (.take 1 (.take 2 (.take 3 (.go 4 [1] (.go 5 [1] (.go 6 [] (.go 7 [] .done)))))))
abbrev pL62:Plan:=.take 0 (.take 1 (.take 2 (.go 3 [1] (.go 4 [1] (.go 5 [] (.take 6 (.go 7 [] .done)))))))
abbrev pL63:Plan:=.take 0 (.take 1 (.go 2 [0] (.take 3 (.go 4 [] .done))))
abbrev pL64:Plan:=.take 0 (.take 1 (.take 2 (.take 3 (.take 4 (.go 5 [4] (.take 6 (.take 7 .done)))))))
abbrev pL65:Plan:=.take 1 (.go 0 [1] (.go 2 [] (.go 3 [] (.go 4 [] (.go 5 [] (.take 6 .done))))))
abbrev pL66:Plan:=.take 0 (.take 3 (.go 1 [3] (.go 2 [3] (.go 4 [] (.take 5 .done)))))
abbrev pL67:Plan:=.take 1 (.go 0 [1] (.go 2 [] (.go 3 [] (.go 4 [] (.take 5 .done)))))
abbrev pL68:Plan:=.take 0 (.take 1 (.go 2 [0] (.go 3 [] (.take 4 (.go 5 [] .done)))))
end Go.Dl

-- THE DATA LEVEL, PART 2: what a plan ends with, every order that is drawn ends with.
namespace Go.Dl
open Go
section
variable {P:Program} {G:Nat->DVal} {N:Fr} {all:List Oper} {Q:DExit->DS->Prop} {s0:DS} {w0:World}
theorem Ay5 {F:Fence} {n:Nat} (hF:FOk F) {k:Nat} {o:Oper} {c:DS} {a:Act} {w:World} {K:DK} (hall:all.all (Jm N)=true) (hk:Fe all k=some o) (hS:Sim G N c a w) (hE:Ext s0.heap w0 c.heap w)
  (h:dAt P G all K Q c (some o)):wpOpIn F n P all.toArray (Pw G N Q s0 w0) k (Hh G N K c w) a w:=by
 have hko:all.toArray[k]? =some o:=by rw[Qr] at hk;simpa using hk
 have hok:Jm N o=true:=by
  rw[Qr] at hk;exact List.all_eq_true.1 hall o (List.mem_of_getElem? hk)
 unfold wpOpIn;simp only[hko];have skip:Bz o.dst El K c->Hh G N K c w (a.put o.dst undef) w:=fun hp=>
  ⟨⟨Gr c.env o.dst El,c.heap⟩,hp,hS.put (Oh hok) (Ur w c.heap),Ext.refl _ _⟩
 simp only[dAt] at h;unfold Dl5 at h;cases hg:o.guard with
 | none=>
  rw[hg] at h;rw[if_pos (by simp [Region.wanted,hg])];exact Sa hF hok hS hE h
 | some jb=>
  obtain⟨j,b⟩:=jb;rw[hg] at h;simp only at h;cases hj:Pv all j with
  | none=>rw[hj] at h;exact h.elim
  | some g=>
   rw[hj] at h;simp only[Tq] at h;have hjo:(all[j]?).bind (·.dst)=some g:=by rw[<-Ad7];exact hj
   obtain⟨oj,hoj,hdj⟩:=Option.bind_eq_some_iff.1 hjo;have hmem:oj∈all:=List.mem_of_getElem? hoj;have hgN:g<N:=by
    have:=List.all_eq_true.1 hall oj hmem;have:=Oh this;rw[hdj] at this;simpa [Db] using this
   have hrel:=hS.tmps g hgN;have hy: ∀v,c.env g= .bool v->yielded all.toArray a.tmps j=some v:=by
    intro v hv;rw[hv] at hrel;simp only[Rel] at hrel;have h1:a.tmps[g]? =some (.bool v):=by
     rw[Array.getD_eq_getD_getElem?] at hrel;cases hq:a.tmps[g]? with
     | none=>
      have:=hS.size;rw[Array.getElem?_eq_none_iff] at hq;omega
     | some z=>rw[hq] at hrel;simpa using hrel
    simp [yielded,hoj,hdj,h1]
   by_cases hun:c.env g= .tuple []
   ·rw[hun] at h hrel;simp only[Rel,Be] at hrel;obtain⟨xs,hxs,hx0⟩:=hrel;have hyn:yielded all.toArray a.tmps j=none:=by
     have h2: ∀z,a.tmps[g]? =some z->z= .tuple xs:=fun z hz=>by
      rw[Array.getD_eq_getD_getElem?,hz] at hxs;simpa using hxs
     unfold yielded;simp only[List.getElem?_toArray,hjo,Option.bind_some];cases hz:a.tmps[g]? with
     | none=>rfl
     | some z=>rw[h2 z hz]
    rw[if_neg (by simp [Region.wanted,hg,hyn])];exact⟨fun f _=>hF.fn f,skip (by cases b<;>exact h)⟩
   cases hv:c.env g<;>rw[hv] at h<;>(try (cases b<;>exact h.elim))
   case tuple vs=>cases vs with
    | nil=>exact absurd hv hun
    | cons _ _=>cases b<;>exact h.elim
   rename_i v
   have hy':=hy v hv;cases b<;>cases v<;>simp only[Ad8] at h
   ·rw[if_pos (by simp [Region.wanted,hg,hy'])];exact Sa hF hok hS hE h
   ·rw[if_neg (by simp [Region.wanted,hg,hy'])];exact⟨fun f _=>hF.fn f,skip h⟩
   ·rw[if_neg (by simp [Region.wanted,hg,hy'])];exact⟨fun f _=>hF.fn f,skip h⟩
   ·rw[if_pos (by simp [Region.wanted,hg,hy'])];exact Sa hF hok hS hE h
structure Inv (P:Program) (G:Nat->DVal) (N:Fr) (all:List Oper) (Q:DExit->DS->Prop) (s0:DS) (w0:World)
  (T js:List Nat) (p:Plan) (c s:DS) (a:Act) (w:World) (listed:Array Bool):Prop where
 sim:Sim G N c a w
 ext:Ext s0.heap w0 c.heap w
 seq:Seq P G all c js s
 plan:Lo P G all Q p s
 ok:Ii all p T=true
 cov:Ao4 all T p=true
 size:listed.size=all.length
 iff: ∀i,i<all.length->(listed.getD i true=true↔i∈T/\i∉js)
 sub: ∀i∈js,i∈T/\i<all.length
 tlt: ∀i∈T,i<all.length
 nodup:js.Nodup
 eager: ∀j∈js,Cq9 all j=true
 pair:js.Pairwise fun j k=>(Rr all k j=true\/Ay3 all j k=true)/\Rr all j k=false
 out: ∀j∈js,∀k,k<all.length->k∉T->Rr all k j=true\/Ay3 all j k=true
 deps: ∀j∈js,∀e,Rr all j e=true->e∈T/\e≠j
 clo: ∀k,k<all.length->listed.getD k true=true-> ∀e,Rr all k e=true->listed.getD e false=true
theorem Ts {i:Nat} (h:i<all.length): ∃o,Fe all i=some o:=by
 rw[Qr];exact⟨all[i],by simp [h]⟩
theorem Cr0 {k e:Nat} (h:e∈Dw6 all k):Rr all k e=true:=by
 unfold Dw6 at h;unfold Rr;split at h
 ·rename_i o ho
  simp only[List.mem_map,List.mem_filter,Array.mem_toList_iff] at h;obtain⟨x,⟨hx,hb⟩,rfl⟩:=h;exact Array.any_eq_true'.2 ⟨x,hx,by simp [hb]⟩
 ·cases h
theorem Ae1 {listed:Array Bool} {i:Nat} (hs:listed.size=all.length) (hi: ∀e,Rr all i e=true->listed.getD e false=true)
  (hc: ∀k,k<all.length->listed.getD k true=true-> ∀e,Rr all k e=true->listed.getD e false=true): ∀(n:Nat) (S:List Nat),(∀m∈S,m=i\/listed.getD m false=true)-> ∀m∈At9 all n S,m=i\/listed.getD m false=true
 | 0,S,h=>h
 | k+1,S,h=>by
  rw[At9];refine Ae1 hs hi hc k _ ?_;split
  ·rename_i hk
   intro m hm;rcases List.mem_append.1 hm with hm | hm
   ·have hd:=Cr0 hm;rcases h k (List.contains_iff_mem.1 hk) with rfl | hl
    ·exact .inr (hi m hd)
    ·have hlt:k<listed.size:=by
      rcases Nat.lt_or_ge k listed.size with h' | h'
      ·exact h'
      ·simp [Array.getElem?_eq_none h'] at hl
     refine .inr (hc k (by rw[<-hs];exact hlt) ?_ m hd);simpa [hlt] using hl
   ·exact h m hm
  ·exact h
theorem Sf {k:Nat} {T:List Nat} (hk:k<all.length):Ak4 all k T=true↔ ∀e,Rr all k e=true->e∈T:=by
 obtain⟨o,ho⟩:=Ts hk;unfold Ak4 Rr;rw[ho];simp only[Array.all_eq_true_iff_forall_mem,Bool.or_eq_true,Bool.not_eq_true',List.contains_iff_mem];constructor
 ·intro h e he;obtain⟨x,hx,hb⟩:=Array.any_eq_true'.1 he;simp only[jF,beq_iff_eq] at hb;rcases h x hx with h1 | h1
  ·rw[hb.1] at h1;cases h1
  ·rw[<-hb.2];exact h1
 ·intro h x hx;by_cases hb:Region.binds .any x=true
  ·exact .inr (h x.on (Array.any_eq_true'.2 ⟨x,hx,by simp [hb]⟩))
  ·exact .inl (by simpa using hb)
theorem Va {listed:Array Bool} {k:Nat} (hs:listed.size=all.length):k∈Region.ready .any all.toArray listed↔
  k<all.length/\listed.getD k true=false/\ ∀e,Rr all k e=true->listed.getD e false=true:=by
 rw[mem_ready];constructor
 ·rintro⟨h0,o,ho,h⟩;have ho':all[k]? =some o:=by simpa using ho
  have hlt:k<all.length:=(List.getElem?_eq_some_iff.1 ho').1;refine⟨hlt,h0,fun e he=> ?_⟩;unfold Rr at he;rw[Qr,ho'] at he;obtain⟨x,hx,hb⟩:=Array.any_eq_true'.1 he;simp only[jF,beq_iff_eq] at hb;rw[<-hb.2];exact h x hx hb.1
 ·rintro⟨hlt,h0,h⟩;refine⟨h0,all[k],by simp [hlt],fun x hx hb=>h x.on ?_⟩;unfold Rr;rw[Qr,List.getElem?_eq_getElem hlt];exact Array.any_eq_true'.2 ⟨x,hx,by simp [hb]⟩
theorem We {listed:Array Bool} {e:Nat} (h:e<listed.size):listed.getD e false=listed.getD e true:=by
 simp [h]
theorem Inv.advance {T js:List Nat} {i:Nat} {p:Plan} {c s:DS} {a:Act} {w:World} {listed:Array Bool} (h:Inv P G N all Q s0 w0 T js (.take i p) c s a w listed):
    ∃s',Inv P G N all Q s0 w0 (i::T) (js++ [i]) p c s' a w listed:=by
  have hok:=h.ok
  simp only[Ii,jF,decide_eq_true_eq,Bool.not_eq_true',List.all_eq_true,List.mem_range,Bool.or_eq_true,List.contains_iff_mem,beq_iff_eq] at hok
  obtain⟨⟨⟨⟨⟨⟨hi,hT⟩,he⟩,hd⟩,ha⟩,hc⟩,hp⟩:=hok
  have hT':i∉T:=by intro hm;rw[List.contains_iff_mem.2 hm] at hT;cases hT
  rw[Sf hi] at hd
  obtain⟨o,ho⟩:=Ts hi
  have hpl:=h.plan
  simp only[Lo,ho] at hpl
  have heo:Sc o.op=true:=by unfold Cq9 at he;rw[ho] at he;exact he
  have hst: ∃d,En6 P G all i s d/\Lo P G all Q p ⟨Gr s.env (Mp all i) d,s.heap⟩:=by
    have hdst:Mp all i=o.dst:=by simp [Mp,ho]
    rw[hdst]
    rcases Ay4.1 hpl with⟨hw,hdop⟩ | ⟨hw,hput⟩
    · obtain⟨d,hd1,hd2⟩:=Zx o.op heo hdop
      exact⟨d,⟨o,ho,heo, .inl ⟨hw,fun K Q hK=>hd2 Q K s (fun _ _=>rfl) (fun _ _=>Sd) hK⟩⟩,hd1⟩
    · exact⟨El,⟨o,ho,heo, .inr ⟨hw,rfl⟩⟩,hput⟩
  obtain⟨d,hev,hpl'⟩:=hst
  have seqApp: ∀(js:List Nat) (c:DS),Seq P G all c js s->Seq P G all c (js++ [i]) ⟨Gr s.env (Mp all i) d,s.heap⟩:=by
    intro js
    induction js with
    | nil=>intro c hc;cases hc;exact⟨d,hev,rfl⟩
    | cons j js ih=>intro c hc;obtain⟨d',h1,h2⟩:=hc;exact⟨d',h1,ih _ h2⟩
  refine⟨⟨Gr s.env (Mp all i) d,s.heap⟩, ?_⟩
  exact {
    sim:=h.sim,ext:=h.ext,seq:=seqApp js c h.seq,plan:=hpl',ok:=hp,cov:=hc,size:=h.size
    iff:=fun k hk=>by
      rw[h.iff k hk]
      simp only[List.mem_cons,List.mem_append,List.not_mem_nil,or_false,not_or]
      constructor
      · rintro⟨h1,h2⟩
        exact⟨.inr h1,h2,fun e=>hT' (e▸h1)⟩
      · rintro⟨h1,h2,h3⟩
        exact⟨h1.resolve_left h3,h2⟩
    sub:=fun k hk=>by
      simp only[List.mem_append,List.mem_cons,List.not_mem_nil,or_false] at hk⊢
      rcases hk with hk | rfl
      · exact⟨.inr (h.sub k hk).1,(h.sub k hk).2⟩
      · exact⟨.inl rfl,hi⟩
    tlt:=fun k hk=>by
      simp only[List.mem_cons] at hk
      rcases hk with rfl | hk
      · exact hi
      · exact h.tlt k hk
    nodup:=by
      rw[List.nodup_append]
      refine⟨h.nodup,by simp, ?_⟩
      intro x hx y hy e
      simp only[List.mem_cons,List.not_mem_nil,or_false] at hy
      subst hy;subst e
      exact hT' (h.sub x hx).1
    eager:=fun k hk=>by
      simp only[List.mem_append,List.mem_cons,List.not_mem_nil,or_false] at hk
      rcases hk with hk | rfl
      · exact h.eager k hk
      · exact he
    pair:=by
      rw[List.pairwise_append]
      refine⟨h.pair,by simp, ?_⟩
      intro j hj k hk
      simp only[List.mem_cons,List.not_mem_nil,or_false] at hk
      subst hk
      refine⟨h.out j hj k hi hT', ?_⟩
      cases hdep:Rr all j k with
      | false=>rfl
      | true=>exact(hT' (h.deps j hj k hdep).1).elim
    out:=fun j hj k hk hkT=>by
      simp only[List.mem_append,List.mem_cons,List.not_mem_nil,or_false,not_or] at hj hkT
      rcases hj with hj | rfl
      · exact h.out j hj k hk hkT.2
      · rcases ha k hk with((h1 | h1) | h1) | h1
        · exact(hkT.2 h1).elim
        · exact(hkT.1 h1).elim
        · exact .inl h1
        · exact .inr h1
    deps:=fun j hj e hde=>by
      simp only[List.mem_append,List.mem_cons,List.not_mem_nil,or_false] at hj⊢
      rcases hj with hj | rfl
      · exact⟨.inr (h.deps j hj e hde).1,(h.deps j hj e hde).2⟩
      · have:=hd e hde
        exact⟨.inr this,fun hh=>hT' (hh▸this)⟩
    clo:=h.clo }
def Da5:Plan->Prop
 | .take _ _=>False
 | _=>True
theorem Inv.normal: ∀ {p:Plan} {T js:List Nat} {c s:DS} {a:Act} {w:World} {listed:Array Bool},Inv P G N all Q s0 w0 T js p c s a w listed->
  ∃T' js' p' s',Inv P G N all Q s0 w0 T' js' p' c s' a w listed/\Da5 p'
 | .take i p,T,js,c,s,a,w,listed,h=>by
  obtain⟨s',h'⟩:=h.advance;exact h'.normal
 | .done,T,js,c,s,a,w,listed,h=>⟨T,js,_,s,h,trivial⟩
 | .go i ls p,T,js,c,s,a,w,listed,h=>⟨T,js,_,s,h,trivial⟩
 | .alt p q,T,js,c,s,a,w,listed,h=>⟨T,js,_,s,h,trivial⟩
theorem Ak5: ∀(p:Plan) (T:List Nat) (s:DS),Ii all p T=true->Lo P G all Q p s->
  ((∀i,i<all.length->i∈T)/\Q .normal s)\/ ∃i,i<all.length/\i∉T/\ ∀e,Rr all i e=true->e∈T
 | .done,T,s,hok,h=>by
  simp only[Ii,List.all_eq_true,List.mem_range,List.contains_iff_mem] at hok;exact .inl ⟨hok,h⟩
 | .take i p,T,s,hok,h=>by
  simp only[Ii,jF,decide_eq_true_eq,Bool.not_eq_true'] at hok;obtain⟨⟨⟨⟨⟨⟨hi,hT⟩,he⟩,hd⟩,_⟩,_⟩,_⟩:=hok;exact .inr ⟨i,hi,(fun hm=>by rw[List.contains_iff_mem.2 hm] at hT;cases hT),(Sf hi).1 hd⟩
 | .go i ls p,T,s,hok,h=>by
  simp only[Ii,jF,decide_eq_true_eq,Bool.not_eq_true'] at hok;obtain⟨⟨⟨⟨⟨hi,hT⟩,hd⟩,_⟩,_⟩,_⟩:=hok;exact .inr ⟨i,hi,(fun hm=>by rw[List.contains_iff_mem.2 hm] at hT;cases hT),(Sf hi).1 hd⟩
 | .alt p q,T,s,hok,h=>by
  simp only[Ii,jF] at hok;exact Ak5 p T s hok.1 h.1
theorem Zy: ∀(p:Plan) (T:List Nat) (s:DS) (k:Nat),Ii all p T=true->Lo P G all Q p s->k∈Rc p->
  ∃ls p',Ii all (.go k ls p') T=true/\Lo P G all Q (.go k ls p') s
 | .done,T,s,k,_,_,hk=>by simp [Rc] at hk
 | .take i p,T,s,k,_,_,hk=>by simp [Rc] at hk
 | .go i ls p,T,s,k,hok,h,hk=>by
  simp only[Rc,List.mem_cons,List.not_mem_nil,or_false] at hk;subst hk;exact⟨ls,p,hok,h⟩
 | .alt p q,T,s,k,hok,h,hk=>by
  simp only[Ii,jF] at hok;simp only[Rc,List.mem_append] at hk;rcases hk with hk | hk
  ·exact Zy p T s k hok.1 h.1 hk
  ·exact Zy q T s k hok.2 h.2 hk
theorem Cr1 {p:Plan} {T:List Nat} (hc:Ao4 all T p=true) (hok:Ii all p T=true) (hn:Da5 p) {k:Nat} (hk:k<all.length) (hT:k∉T) (hd: ∀e,Rr all k e=true->e∈T):k∈Rc p:=by
 have gen:((List.range all.length).all fun k=>T.contains k || (Rc p).contains k || !Ak4 all k T)=true->k∈Rc p:=by
  intro h;simp only[List.all_eq_true,List.mem_range,Bool.or_eq_true,List.contains_iff_mem,Bool.not_eq_true'] at h;rcases h k hk with(h1 | h1) | h1
  ·exact(hT h1).elim
  ·exact h1
  ·rw[(Sf hk).2 hd] at h1;cases h1
 cases p with
 | done=>
  simp only[Ii,List.all_eq_true,List.mem_range,List.contains_iff_mem] at hok;exact(hT (hok k hk)).elim
 | take i p=>exact hn.elim
 | go i ls p=>exact gen hc
 | alt p q=>exact gen hc
theorem Bj7 {s:DS} {H':Ab}: ∀ {ls:List Nat},Da2 G all s H' ls-> ∀l∈ls,Dw5 G s H' (Uz (Fe all l))
 | [],_,l,hl=>by simp at hl
 | x::ls,h,l,hl=>by
  simp only[List.mem_cons] at hl;rcases hl with rfl | hl
  ·exact h.1
  ·exact Bj7 h.2 l hl
theorem Inv.sound {F:Fence} {n:Nat} (hF:FOk F) (hall:all.all (Jm N)=true) (hQ: ∀v env env' h,Q (.panic v) ⟨env,h⟩->Q (.panic v) ⟨env',h⟩): ∀(Dk:Nat) (U T js:List Nat) (p:Plan) (c s:DS) (a:Act) (w:World) (listed:Array Bool),
    Inv P G N all Q s0 w0 T js p c s a w listed->U.length<=Dk->(∀i,i<all.length->listed.getD i true=false->i∈U)->
    wpAnyIn F n P .any all.toArray (Pw G N Q s0 w0) Dk listed a w:=by
  intro Dk
  induction Dk with
  | zero=>
    intro U T js p c s a w listed h hU hUm
    have hnil:U= []:=List.eq_nil_of_length_eq_zero (Nat.le_zero.1 hU)
    subst hnil
    have hall1: ∀i,i<all.length->listed.getD i true=true:=by
      intro i hi
      cases hl:listed.getD i true with
      | true=>rfl
      | false=>exact absurd (hUm i hi hl) (by simp)
    have hjs:js= []:=by
      cases js with
      | nil=>rfl
      | cons j js=>
        have hs:=h.sub j (by simp)
        exact absurd (by simp) ((h.iff j hs.2).1 (hall1 j hs.2)).2
    subst hjs
    have hsc:=h.seq
    simp only[Seq] at hsc
    refine⟨?_, ?_⟩
    · rw[List.eq_nil_iff_forall_not_mem]
      intro k hk
      rw[Va h.size] at hk
      rw[hall1 k hk.1] at hk
      cases hk.2.1
    · rcases Ak5 p T s h.ok h.plan with⟨_,hq⟩ | ⟨i,hi,hiT,_⟩
      · subst hsc;exact⟨.normal,s,hq, .normal,h.sim,h.ext⟩
      · exact absurd ((h.iff i hi).1 (hall1 i hi)).1 hiT
  | succ Dk ih=>
    intro U T js p c s a w listed h0 hU hUm
    obtain⟨T,js,p,s,h,hnt⟩:=h0.normal
    have inList: ∀e,listed.getD e false=true->e∈T/\e∉js:=by
      intro e he
      have hlt:e<listed.size:=by
        rcases Nat.lt_or_ge e listed.size with h' | h'
        · exact h'
        · simp [Array.getElem?_eq_none h'] at he
      have:=he
      rw[We hlt] at this
      exact(h.iff e (by rw[<-h.size];exact hlt)).1 this
    refine⟨fun hr=> ?_,fun k hk=> ?_⟩
    · -- nothing may come up: all have
      have hno: ∀k,k∉Region.ready .any all.toArray listed:=by rw[hr];simp
      have toL: ∀e,e∈T->e∉js->e<all.length->listed.getD e false=true:=by
        intro e h1 h2 h3
        rw[We (by rw[h.size];exact h3)]
        exact(h.iff e h3).2 ⟨h1,h2⟩
      have unl: ∀i,i<all.length-> ¬(i∈T/\i∉js)->listed.getD i true=false:=by
        intro i hi hn
        cases hl:listed.getD i true with
        | false=>rfl
        | true=>exact(hn ((h.iff i hi).1 hl)).elim
      have hjs:js= []:=by
        cases js with
        | nil=>rfl
        | cons j js=>
          refine(hno j ((Va h.size).2 ⟨(h.sub j (by simp)).2,unl j (h.sub j (by simp)).2 (fun hh=>hh.2 (by simp)),fun e he=> ?_⟩)).elim
          obtain⟨g1,g2⟩:=h.deps j (by simp) e he
          refine toL e g1 (fun hm=> ?_) (h.tlt e g1)
          simp only[List.mem_cons] at hm
          rcases hm with hm | hm
          · exact g2 hm
          · have:=((List.pairwise_cons.1 h.pair).1 e hm).2
            rw[he] at this;cases this
      subst hjs
      have hsc:=h.seq
      simp only[Seq] at hsc
      rcases Ak5 p T s h.ok h.plan with⟨_,hq⟩ | ⟨i,hi,hiT,hd⟩
      · subst hsc;exact⟨.normal,s,hq, .normal,h.sim,h.ext⟩
      · exact(hno i ((Va h.size).2 ⟨hi,unl i hi (fun hh=>hiT hh.1),fun e he=>toL e (hd e he) (by simp) (h.tlt e (hd e he))⟩)).elim
    · rw[Va h.size] at hk
      obtain⟨hkn,hun,hdep⟩:=hk
      obtain⟨o,ho⟩:=Ts hkn
      have hdepT: ∀e,Rr all k e=true->e∈T/\e∉js:=fun e he=>inList e (hdep e he)
      have hU':k∈U:=hUm k hkn hun
      have hUl:(U.erase k).length<=Dk:=by
        rw[List.length_erase_of_mem hU'];omega
      have hset: ∀i,i≠k->(listed.setIfInBounds k true).getD i true=listed.getD i true:=fun i hi=>getD_set_ne true (Ne.symm hi)
      have hsetk:(listed.setIfInBounds k true).getD k true=true:=by
        have:k<listed.size:=by rw[h.size];exact hkn
        simp [this]
      have hup: ∀e,listed.getD e false=true->(listed.setIfInBounds k true).getD e false=true:=by
        intro e he
        have hlt:e<listed.size:=by
          rcases Nat.lt_or_ge e listed.size with h' | h'
          · exact h'
          · simp [Array.getElem?_eq_none h'] at he
        by_cases hek:e=k
        · subst hek
          simp [hlt]
        · rw[getD_set_ne false (Ne.symm hek)];exact he
      have hclo: ∀i,i<all.length->(listed.setIfInBounds k true).getD i true=true-> ∀e,Rr all i e=true->(listed.setIfInBounds k true).getD e false=true:=by
        intro i hi hl e he
        by_cases hik:i=k
        · subst hik;exact hup e (hdep e he)
        · rw[hset i hik] at hl
          exact hup e (h.clo i hi hl e he)
      have hUm': ∀i,i<all.length->(listed.setIfInBounds k true).getD i true=false->i∈U.erase k:=by
        intro i hi hl
        by_cases hik:i=k
        · subst hik;rw[hsetk] at hl;cases hl
        · rw[hset i hik] at hl
          exact(List.mem_erase_of_ne hik).2 (hUm i hi hl)
      by_cases hkj:k∈js
      · -- it was taken before
        obtain⟨A,B,rfl⟩:=List.append_of_mem hkj
        have hpw:=List.pairwise_append.1 h.pair
        have hnd:=h.nodup
        rw[List.nodup_append] at hnd
        have apA: ∀j∈A,Apart all j k:=by
          intro j hj
          have hjlt:=(h.sub j (by simp [hj])).2
          obtain⟨x,hx⟩:=Ts hjlt
          rcases(hpw.2.2 j hj k (by simp)).1 with hd | ha
          · exact absurd (by simp [hj]) (hdepT j hd).2
          · exact Ao5 hx ho ha
        obtain⟨d,hev,hrest⟩:=Seq.front apA h.seq
        obtain⟨o',ho',heo,hev⟩:=hev
        rw[ho] at ho';cases ho'
        have hdst:Mp all k=o.dst:=by simp [Mp,ho]
        have hat:dAt P G all (fun s1=>s1=⟨Gr c.env o.dst d,c.heap⟩) Q c (some o):=by
          rw[Ay4]
          rcases hev with⟨hw,hv⟩ | ⟨hw,rfl⟩
          · exact .inl ⟨hw,hv _ _ rfl⟩
          · exact .inr ⟨hw,rfl⟩
        refine wpOpIn_mono ?_ (Ay5 hF hall ho h.sim h.ext hat)
        rintro a' w' ⟨s1,rfl,hS',hE'⟩
        refine ih (U.erase k) T (A++B) p ⟨Gr c.env o.dst d,c.heap⟩ s a' w' _ ?_ hUl hUm'
        have memE: ∀i,i∈A++B->i∈A++k::B:=fun i hi=>by
          simp only[List.mem_append,List.mem_cons] at hi⊢
          rcases hi with hi | hi
          · exact .inl hi
          · exact .inr (.inr hi)
        have subl:(A++B).Sublist (A++k::B):=List.Sublist.append (List.Sublist.refl A) (List.sublist_cons_self k B)
        have kno:k∉A++B:=by
          intro hm
          have:=h.nodup
          rw[(List.perm_middle (a:=k) (l₁:=A) (l₂:=B)).nodup_iff] at this
          exact(List.nodup_cons.1 this).1 hm
        exact {
          sim:=hS',ext:=h.ext.trans hE',seq:=by rw[hdst] at hrest;exact hrest,plan:=h.plan,ok:=h.ok,cov:=h.cov
          size:=by simp [h.size]
          iff:=fun i hi=>by
            by_cases hik:i=k
            · subst hik
              rw[hsetk]
              exact⟨fun _=>⟨(h.sub i (by simp)).1,kno⟩,fun _=>rfl⟩
            · rw[hset i hik,h.iff i hi]
              simp only[List.mem_append,List.mem_cons,not_or]
              constructor
              · rintro⟨g1,g2,g3⟩;exact⟨g1,g2,g3.2⟩
              · rintro⟨g1,g2,g3⟩;exact⟨g1,g2,hik,g3⟩
          sub:=fun i hi=>h.sub i (memE i hi)
          tlt:=h.tlt
          nodup:=h.nodup.sublist subl
          eager:=fun i hi=>h.eager i (memE i hi)
          pair:=h.pair.sublist subl
          out:=fun i hi=>h.out i (memE i hi)
          deps:=fun i hi=>h.deps i (memE i hi)
          clo:=hclo }
      · -- it is the plan's next
        have hkT:k∉T:=by
          intro hm
          have:=(h.iff k hkn).2 ⟨hm,hkj⟩
          rw[hun] at this;cases this
        have hf:=Cr1 h.cov h.ok hnt hkn hkT fun e he=>(hdepT e he).1
        obtain⟨ls,p',hok,hpl⟩:=Zy p T s k h.ok h.plan hf
        simp only[Ii,jF,decide_eq_true_eq,Bool.not_eq_true'] at hok
        obtain⟨⟨⟨⟨⟨_,_⟩,hd⟩,hlk⟩,hc'⟩,hp'⟩:=hok
        simp only[Lo,ho] at hpl
        have apJ: ∀j∈js,Apart all j k:=by
          intro j hj
          obtain⟨x,hx⟩:=Ts (h.sub j hj).2
          rcases h.out j hj k hkn hkT with hd | ha
          · exact absurd hj (hdepT j hd).2
          · exact Ao5 hx ho ha
        have hdst:Mp all k=o.dst:=by simp [Mp,ho]
        have hlooks:looks all k=o.looksAt all.toArray:=by simp [looks,ho]
        have agree: ∀t∈o.looksAt all.toArray,c.env t=s.env t:=by
          intro t ht
          refine(Seq.env h.seq t fun j hj e=> ?_).symm
          exact(apJ j hj).a t e (by rw[hlooks];exact ht)
        have shift: ∀d H',Da3 G all ls s (Lo P G all Q p') ⟨Gr s.env o.dst d,H'⟩->
            (∃s1,Lo P G all Q p' s1/\Seq P G all ⟨Gr c.env o.dst d,H'⟩ js s1):=by
          intro d H' hK
          refine⟨_,hK.2,Seq.shift h.seq (fun j hj t e=> ?_) (fun j hj t e e2=> ?_) ?_⟩
          · exact(apJ j hj).c t (by rw[hdst];exact e)
          · exact(apJ j hj).b t e (by rw[hdst];exact e2)
          · intro A j B e oj a hoj hla
            have hjm:j∈js:=by rw[e];simp
            have hjT:=(h.sub j hjm).1
            unfold Da4 at hlk
            rw[List.all_eq_true] at hlk
            have hl:=hlk j hjT
            simp only[Uz,hoj,hla,Bool.or_eq_true,jF,List.contains_iff_mem,bne_iff_ne] at hl
            rcases hl with(hl | ⟨hl1,hl2⟩) | ⟨hl1,hl2⟩
            · exact absurd hjm (hdepT j hl).2
            · rcases Ae1 h.size hdep h.clo (k+1) [k] (fun m hm=> .inl (by simpa using hm)) j hl2 with hh | hh
              · exact absurd hh hl1
              · exact absurd hjm (inList j hh).2
            · refine⟨fun t ht m hm hdm=> ?_, ?_⟩
              · subst ht
                simp only[Cd4,List.all_eq_true,Bool.or_eq_true,bne_iff_ne] at hl2
                have hmj:m∈js:=by rw[e];exact List.mem_append_right _ hm
                rcases hl2 m (h.sub m hmj).1 with g | g
                · exact g hdm
                · simp only[List.mem_cons] at hm
                  rcases hm with rfl | hm
                  · exact(h.deps m hmj m g).2 rfl
                  · have hp:=h.pair
                    rw[e,List.pairwise_append] at hp
                    have:=(List.pairwise_cons.1 hp.2.1).1 m hm
                    rw[g] at this
                    cases this.2
              · have hkl:=Bj7 hK.1 j hl1
                simp only[Uz,hoj,hla,Dw5] at hkl
                rw[<-Seq.heap h.seq]
                exact hkl
        have hat:dAt P G all (fun c1=> ∃s1,Lo P G all Q p' s1/\Seq P G all c1 js s1) Q c (some o):=by
          rw[Ay4] at hpl⊢
          rw[Ad9 agree]
          have hheap:=Seq.heap h.seq
          rcases hpl with⟨hw,hop⟩ | ⟨hw,hput⟩
          · refine .inl ⟨hw,Dl4 o.op (Bj5 (all:=all) agree) hheap.symm (fun d H' hK=>shift d H' hK) (fun v H' hq=>hQ v _ _ H' hq) hop⟩
          · refine .inr ⟨hw, ?_⟩
            unfold Bz at hput⊢
            rw[<-hheap]
            exact shift _ _ hput
        refine wpOpIn_mono ?_ (Ay5 hF hall ho h.sim h.ext hat)
        rintro a' w' ⟨c1,⟨s1,hp1,hseq⟩,hS',hE'⟩
        refine ih (U.erase k) (k::T) js p' c1 s1 a' w' _ ?_ hUl hUm'
        exact {
          sim:=hS',ext:=h.ext.trans hE',seq:=hseq,plan:=hp1,ok:=hp',cov:=hc'
          size:=by simp [h.size]
          iff:=fun i hi=>by
            by_cases hik:i=k
            · subst hik
              rw[hsetk]
              exact⟨fun _=>⟨by simp,hkj⟩,fun _=>rfl⟩
            · rw[hset i hik,h.iff i hi]
              simp [hik]
          sub:=fun i hi=>⟨by simp [(h.sub i hi).1],(h.sub i hi).2⟩
          tlt:=fun i hi=>by
            simp only[List.mem_cons] at hi
            rcases hi with rfl | hi
            · exact hkn
            · exact h.tlt i hi
          nodup:=h.nodup
          eager:=h.eager
          pair:=h.pair
          out:=fun i hi m hm hmT=>h.out i hi m hm (fun hh=>hmT (by simp [hh]))
          deps:=fun i hi e he=>⟨by simp [(h.deps i hi e he).1],(h.deps i hi e he).2⟩
          clo:=hclo }
theorem Da6 {id:Nat} {ops:Array Oper} {s:DS} (hm:P.follows .mixedOrders=true) (p:Plan)
    (hp:(ops.toList.all (Jm N)&&Ao4 ops.toList [] p&&Ii ops.toList p [])=true) (h:Lo P G ops.toList (QP Q) p s):DWp P G N (.region id ops true) Q s:=by
  intro F n B hF a w hS
  simp only[jF] at hp
  obtain⟨⟨hall,hc⟩,hok⟩:=hp
  have hE:Ext s.heap w s.heap { w with drawn:=w.drawn+1 }:=⟨rfl,rfl,rfl,Nat.le_refl _,fun _ _ _=>rfl,fun _ h=> .inl h,fun _ _=>rfl,fun _ _ _=>rfl⟩
  have hSH:Br { w with drawn:=w.drawn+1 } s.heap:=fun r o hr=>(hS.heap r o hr).lasts hE.lasts
  have hS':Sim G ⟨N.n,B⟩ s a { w with drawn:=w.drawn+1 }:=hS.ext hE hSH
  have key:=Inv.sound (n:=n) hF (P:=P) (G:=G) (N:=⟨N.n,B⟩) (all:=ops.toList) (Q:=QP Q) (s0:=s) (w0:=w) hall
    (fun v env env' h hq env''=>hq env'') ops.toList.length (List.range ops.toList.length) [] [] p s s a { w with drawn:=w.drawn+1 } (Array.replicate ops.size false)
    { sim:=hS',ext:=hE,seq:=rfl,plan:=h,ok:=hok,cov:=hc,size:=by simp
      iff:=fun i hi=>by
        have:i<ops.size:=by simpa using hi
        simp [this]
      sub:=by simp
      tlt:=by simp
      nodup:=by simp
      eager:=by simp
      pair:=by simp
      out:=by simp
      deps:=by simp
      clo:=fun k hk hl=>by
        have:k<ops.size:=by simpa using hk
        simp [this] at hl } (by simp) (fun i hi _=>by simpa using hi)
  have e1:ops.toList.toArray=ops:=by simp
  have e2:ops.toList.length=ops.size:=by simp
  rw[e1,e2] at key
  refine wpIn_mono (wpIn_region_any hm key) ?_
  rintro e a' w' ⟨e',s',hq,hx,hS1,hE1⟩
  refine⟨e',s', ?_,hx,hS1,hE1⟩
  cases hx with
  | normal=>exact hq
  | panic d v hv=>exact hq s'.env
  | exit=>exact hq.elim
  | goto=>exact hq.elim
  | ret=>exact hq.elim
end
end Go.Dl

-- THE DATA LEVEL, PART 3: plans run by simp.
namespace Go.Dl
open Go
attribute [go_sem] Fe.eq_1 Fe.eq_2 Fe.eq_3 Ad8.eq_1 Ad8.eq_2 Ad8.eq_3 Ad8.eq_4 Ad8.eq_5 Ad8.eq_6 Tq.eq_1 Dl5.eq_1 Dl5.eq_2 dAt.eq_1 Kd.eq_1 Kd.eq_2 Dw5.eq_1 Dw5.eq_2 Uz.eq_1 Bs4.eq_1 Bs4.eq_2 Bs4.eq_3 Da2.eq_1 Da2.eq_2 Lo.eq_1 Lo.eq_2 Lo.eq_3 Lo.eq_4 QP.eq_1 QP.eq_2
attribute [go_sem] Da3
section
variable (v:DVal) (H H':Ab)
@[go_sem] theorem Ex6 (cs:List DVal) (o:Nat):Kd H H' (.vptr cs o)=True:=rfl
@[go_sem] theorem El0 (cs:List DVal) (o:Nat):Kd H H' (.vslice cs o)=True:=rfl
@[go_sem] theorem Fc4 (k:IntKind) (n:Int):Kd H H' (.int k n)=True:=rfl
@[go_sem] theorem Ex7 (b:Bool):Kd H H' (.bool b)=True:=rfl
@[go_sem] theorem Ds6:Kd H H' .nilSlice=True:=rfl
@[go_sem] theorem Fc5 (s:List UInt8):Kd H H' (.str s)=True:=rfl
end
end Go.Dl

-- THE DATA LEVEL, PART 5: loops over iterators: a round, the statement.
namespace Go.Dl
open Go Go.RowKit
section
variable {P:Program} {G:Nat->DVal} {N:Nat} {w w':World} {Q:DExit->DS->Prop}
theorem Lp {α:Type} {f:Nat->Option α} {l:Nat} (h:f l=none) (x:Option α):upd (upd f l x) l none=f:=by
 funext i;simp only[upd];split
 ·rename_i e;subst e;exact h.symm
 ·rfl
end
end Go.Dl

-- THE DATA LEVEL, PART 6: a heap in two parts; the contract of an iterator; the loop over it.
namespace Go.Dl
open Go Go.RowKit
def Bg7 (Hi X:Ab):Ab:=fun r=>match X r with
 | some o=>some o
 | none=>Hi r
def En7 (Hi X:Ab):Prop:= ∀r,X r≠none->Hi r=none
def h0:Ab:=fun _=>none
theorem Da7 (Hi:Ab):Bg7 Hi h0=Hi:=rfl
theorem Bs5 {Hi X:Ab} {r:Nat} (h:X r=none):Bg7 Hi X r=Hi r:=by simp [Bg7,h]
theorem Dw7 {Hi X:Ab} {r:Nat} {o:DObj} (h:X r=some o):Bg7 Hi X r=some o:=by simp [Bg7,h]
theorem Ex8 {H:Ab} {r r':Nat} {o:DObj}:upd H r (some o) r'=none↔r'≠r/\r≠r'/\H r'=none:=by
 unfold upd;by_cases e:r'=r
 ·simp [e]
 ·simp [e,Ne.symm e,eq_comm]
theorem En7.x {Hi X:Ab} (h:En7 Hi X) {r:Nat} (hr:Hi r≠none):X r=none:=by
 cases e:X r with
 | none=>rfl
 | some o=>exact(hr (h r (by simp [e]))).elim
section
end
end Go.Dl

-- THE DATA LEVEL, PART 7: own memory seen as memory that lasts; calls that only look.
namespace Go.Dl
open Go Go.RowKit
mutual
/-- The value, with block r (its cells: cs) seen as memory that lasts. -/
def fz (r:Nat) (cs:List DVal):DVal->DVal
 | .optr r' off=>if r'=r then .vptr cs off else .optr r' off
 | .oslice sz r' off len lo=>if r'=r then .vslice ((cs.drop off).take (len*sz)) len else .oslice sz r' off len lo
 | .func fn a c=> .func fn (fzs r cs a) (fzs r cs c)
 | .iface t v=> .iface t (fz r cs v)
 | .agg l=> .agg (fzs r cs l)
 | .tuple l=> .tuple (fzs r cs l)
 | .vptr l off=> .vptr (fzs r cs l) off
 | .vslice l n=> .vslice (fzs r cs l) n
 | d=>d
def fzs (r:Nat) (cs:List DVal):List DVal->List DVal
 | []=> []
 | d::ds=>fz r cs d::fzs r cs ds
end
section
variable {P:Program} {G:Nat->DVal} {w:World} {H:Ab}
theorem Dt (H:Ab) (r:Nat) (w:World):Lasts H w (upd H r none) w:=
 ⟨fun b i x hb hc=>⟨by simp only[upd];split;rfl;exact hb,hc⟩,Nat.le_refl _,fun _ _=>rfl⟩
theorem Xb (hH:Br w H) {r:Nat} {cs:List DVal} {e:TypeId} (hr:H r=some (.cells cs e)): ∃xs,Be w (upd H r none) cs xs/\Ru w (upd H r none) r 0 xs:=by
 obtain⟨xs,hl,hh⟩:=hH.holds hr;exact⟨xs,hl.lasts (Dt H r w), .inr ⟨by simp [upd],fun i x hx=>by simpa using hh i x hx⟩⟩
theorem Ru.part {b off:Nat} {xs:List Value} (h:Ru w H b off xs) (m n:Nat):Ru w H b (off+m) ((xs.drop m).take n):=by
 rcases h with rfl | ⟨h1,h2⟩
 ·exact .inl (by simp)
 ·refine .inr ⟨h1,fun i x hx=> ?_⟩;have:xs[m+i]? =some x:=by
   rw[List.getElem?_take] at hx;split at hx
   ·simpa using hx
   ·cases hx
  have:=h2 _ x this
  rwa [<-Nat.add_assoc] at this
mutual
theorem Cr2 (hH:Br w H) {r:Nat} {cs:List DVal} {e:TypeId} (hr:H r=some (.cells cs e)): ∀(d:DVal) (v:Value),Rel w H d v->Rel w (upd H r none) (fz r cs d) v
 | .optr r' off,v,h=>by
  simp only[fz]
  split
  ·rename_i e';subst e'
   simp only[Rel] at h⊢
   obtain⟨xs,hl,hc⟩:=Xb hH hr
   exact⟨r',0,xs,by simpa using h,hc,hl⟩
  ·simpa [Rel] using h
 | .oslice sz r' off len lo,v,h=>by
  simp only[fz]
  split
  ·rename_i e';subst e'
   simp only[Rel] at h⊢
   obtain⟨o,cap,rfl,h1,h2,h3,h4⟩:=h
   obtain⟨xs,hl,hc⟩:=Xb hH hr
   refine⟨_,cap,rfl,h2, ?_⟩
   by_cases h0:cap=0
   ·have:len=0:=by omega
    subst this;left;simp
   ·have ho:o=off:=h3.resolve_left h0
    subst ho
    right
    refine⟨r',o,(xs.drop o).take (len*sz),rfl, ?_,(hl.drop o).take _⟩
    have:=hc.part o (len*sz)
    simpa using this
  ·exact Rel.lasts (Dt H r w) _ _ h
 | .func fn a c,v,h=>by
  simp only[Rel,fz] at h⊢
  obtain⟨xs,ys,rfl,h1,h2⟩:=h
  exact⟨xs,ys,rfl,Vb hH hr _ _ h1,Vb hH hr _ _ h2⟩
 | .iface t d,v,h=>by
  simp only[Rel,fz] at h⊢
  obtain⟨x,rfl,h1⟩:=h
  exact⟨x,rfl,Cr2 hH hr _ _ h1⟩
 | .agg l,v,h=>by
  simp only[Rel,fz] at h⊢
  obtain⟨x,rfl,h1⟩:=h
  exact⟨x,rfl,Vb hH hr _ _ h1⟩
 | .tuple l,v,h=>by
  simp only[Rel,fz] at h⊢
  obtain⟨x,rfl,h1⟩:=h
  exact⟨x,rfl,Vb hH hr _ _ h1⟩
 | .raw x,v,h=>by simp only[fz];exact Rel.lasts (Dt H r w) _ _ h
 | .bool x,v,h=>by simp only[fz];exact Rel.lasts (Dt H r w) _ _ h
 | .int x y,v,h=>by simp only[fz];exact Rel.lasts (Dt H r w) _ _ h
 | .str x,v,h=>by simp only[fz];exact Rel.lasts (Dt H r w) _ _ h
 | .nilPtr,v,h=>by simp only[fz];exact Rel.lasts (Dt H r w) _ _ h
 | .vptr l off,v,h=>by
  simp only[Rel,fz] at h⊢
  obtain⟨b,o,xs,rfl,h1,h2⟩:=h
  exact⟨b,o,xs,rfl,h1.lasts (Dt H r w),Vb hH hr _ _ h2⟩
 | .nilSlice,v,h=>by simp only[fz];exact Rel.lasts (Dt H r w) _ _ h
 | .vslice l n,v,h=>by
  simp only[Rel,fz] at h⊢
  obtain⟨a,cap,rfl,hle,h1⟩:=h
  refine⟨a,cap,rfl,hle, ?_⟩
  rcases h1 with h1 | ⟨b,o,xs,rfl,h1,h2⟩
  ·subst h1;exact .inl rfl
  ·exact .inr ⟨b,o,xs,rfl,h1.lasts (Dt H r w),Vb hH hr _ _ h2⟩
 | .nilMap,v,h=>by simp only[fz];exact Rel.lasts (Dt H r w) _ _ h
 | .omap x,v,h=>by simp only[fz];exact Rel.lasts (Dt H r w) _ _ h
 | .nilFunc,v,h=>by simp only[fz];exact Rel.lasts (Dt H r w) _ _ h
 | .nilIface,v,h=>by simp only[fz];exact Rel.lasts (Dt H r w) _ _ h
theorem Vb (hH:Br w H) {r:Nat} {cs:List DVal} {e:TypeId} (hr:H r=some (.cells cs e)): ∀(ds:List DVal) (vs:List Value),Be w H ds vs->Be w (upd H r none) (fzs r cs ds) vs
 | [],vs,h=>by simpa [fzs,Be] using h
 | d::ds,vs,h=>by
  simp only[fzs,Be] at h⊢
  obtain⟨y,ys,rfl,h1,h2⟩:=h
  exact⟨y,ys,rfl,Cr2 hH hr _ _ h1,Vb hH hr _ _ h2⟩
end
def Ok (H:Ab) (v:DVal) (H':Ab) (v':DVal):Prop:= ∀w,Br w H->Br w H'/\(∀b,H' b≠none->H b≠none)/\ ∀x,Rel w H v x->Rel w H' v' x
theorem Ok.trans {H H' H'':Ab} {v v' v'':DVal} (h:Ok H v H' v') (k:Ok H' v' H'' v''):Ok H v H'' v'':=fun w hw=>by
 obtain⟨h1,h2,h3⟩:=h w hw;obtain⟨k1,k2,k3⟩:=k w h1;exact⟨k1,fun b hb=>h2 b (k2 b hb),fun x hx=>k3 x (h3 x hx)⟩
theorem Ok.fz {H:Ab} {v:DVal} {r:Nat} {cs:List DVal} {e:TypeId} (hr:H r=some (.cells cs e)):Ok H v (upd H r none) (fz r cs v):=fun w hw=>
 ⟨hw.letGo r,fun b hb=>by simp only[upd] at hb;split at hb<;>simp_all,fun x hx=>Cr2 hw hr _ _ hx⟩
theorem Ok.drop (H:Ab) (v:DVal) (r:Nat):Ok H v (upd H r none) v:=fun w hw=>
 ⟨hw.letGo r,fun b hb=>by simp only[upd] at hb;split at hb<;>simp_all,fun x hx=>Rel.lasts (Dt H r w) _ _ hx⟩
theorem Wj.ghost {R:DEnd->Ab->Prop} {v v':DVal} {H H':Ab} (g:Ok H v H' v') (h:Wj R v' H'):Wj R v H:=by
 obtain⟨v2,H2,k,hR⟩:=h;exact⟨v2,H2,g.trans k,hR⟩
theorem Wj.fz {R:DEnd->Ab->Prop} {v:DVal} {H:Ab} (r:Nat) {cs:List DVal} {e:TypeId} (hr:H r=some (.cells cs e)) (h:Wj R (fz r cs v) (upd H r none)):Wj R v H:= .ghost (.fz hr) h
theorem Wj.drop {R:DEnd->Ab->Prop} {v:DVal} {H:Ab} (r:Nat) (h:Wj R v (upd H r none)):Wj R v H:= .ghost (.drop H v r) h
theorem Ae.ghost {f:FuncId} {args:List DVal} {H:Ab} {R R':DEnd->Ab->Prop} (h:Ae P G f args H R) (hr: ∀e H',R e H'-> ∃v v' H'',e= .ret v/\Ok H' v H'' v'/\R' (.ret v') H''):Ae P G f args H R':=by
 refine⟨h.1,fun vs w hv hH hG=>(h.2 vs w hv hH hG).mono fun e w' ⟨e',H',r,k1,k2,k3⟩=> ?_⟩;obtain⟨v,v',H'',rfl,g,r'⟩:=hr _ _ r;obtain⟨g1,g2,g3⟩:=g w' k2;cases k1 with
 | ret d x hx=>exact⟨.ret v',H'',r', .ret _ _ (g3 x hx),g1,k3.os,k3.tape,k3.output,k3.size,k3.block,fun b hb=>k3.own b (g2 b hb),k3.keep,k3.fz⟩
theorem Ae.pre {f:FuncId} {args args':List DVal} {H H':Ab} {R:DEnd->Ab->Prop} (g:Ok H (.tuple args) H' (.tuple args')) (h:Ae P G f args' H' R):Ae P G f args H R:=by
 refine⟨h.1,fun vs w hv hH hG=> ?_⟩;obtain⟨g1,g2,g3⟩:=g w hH;have hl:Lasts H w H' w:=⟨fun b i x hb hc=>⟨by
  cases e:H' b with
  | none=>rfl
  | some o=>exact absurd hb (g2 b (by simp [e])),hc⟩,Nat.le_refl _,fun _ _=>rfl⟩
 have hv':Be w H' args' vs:=by
  have:=g3 (.tuple vs.toArray) (by simp only[Rel];exact⟨_,rfl,hv⟩);simp only[Rel] at this;obtain⟨xs,h1,h2⟩:=this;cases h1;exact h2
 refine(h.2 vs w hv' g1 (hG.lasts hl)).mono fun e w' ⟨e',H'',r,k1,k2,k3⟩=>⟨e',H'',r,k1,k2,k3.os,k3.tape,k3.output,k3.size,fun b hb hn=>k3.block b hb (by
  cases e:H' b with
  | none=>rfl
  | some o=>exact absurd hn (g2 b (by simp [e]))),fun b hb=> ?_,k3.keep,fun a ha hn=>k3.fz a ha (by
  cases e:H' a.block with
  | none=>rfl
  | some o=>exact absurd hn (g2 a.block (by simp [e])))⟩
 rcases k3.own b hb with k | k
 ·exact .inl (g2 b k)
 ·exact .inr k
theorem Ae.fzArgs {f:FuncId} {args:List DVal} {H:Ab} {R:DEnd->Ab->Prop} (r:Nat) {cs:List DVal} {e:TypeId} (hr:H r=some (.cells cs e)) (h:Ae P G f (fzs r cs args) (upd H r none) R):Ae P G f args H R:=
 .pre (by have:=Ok.fz (v:= .tuple args) hr;simpa only[fz] using this) h
def plain:DVal->Bool
 | .bool _ | .int _ _ | .str _ | .nilPtr | .nilSlice | .nilMap | .nilFunc | .nilIface=>true
 | .tuple l=>plains l
 | .agg l=>plains l
 | _=>false
where plains:List DVal->Bool
 | []=>true
 | d::ds=>plain d&&plains ds
end
attribute [go_sem] fz.eq_1 fz.eq_2 fz.eq_3 fz.eq_4 fz.eq_5 fz.eq_6 fzs.eq_1 fzs.eq_2
end Go.Dl

-- THE DATA LEVEL, PART 8: loops over iterators, ready for use.
namespace Go.Dl
open Go Go.RowKit
attribute [go_sem] Da7
theorem Ht {α:Type} (f:Nat->α) (r:Nat) (a b:α):upd (upd f r a) r b=upd f r b:=by
 funext i;simp only[upd];split<;>rfl
theorem Ay6 {α:Type} {r1 r2:Nat} (h:r1≠r2) (f:Nat->α) (a b:α):upd (upd f r2 b) r1 a=upd (upd f r1 a) r2 b:=by
 funext i;simp only[upd];by_cases e1:i=r1<;>by_cases e2:i=r2<;>simp_all
theorem Cd5 (xs ys:List DVal):splice xs 0 ys=ys++xs.drop ys.length:=by simp [splice]
attribute [go_sem] Ht Cd5
theorem Ae.fzA {P:Program} {G:Nat->DVal} {f:FuncId} {args:List DVal} {H:Ab} {R:DEnd->Ab->Prop} (r:Nat) {cs:List DVal} {e:TypeId} (hr:H r=none) (h:Ae P G f (fzs r cs args) H R):Ae P G f args (upd H r (some (.cells cs e))) R:=
 Ae.fzArgs r (Ac _ _ _) (by rw[Lp hr];exact h)
theorem Wj.fzA {R:DEnd->Ab->Prop} {v:DVal} {H:Ab} (r:Nat) {cs:List DVal} {e:TypeId} (hr:H r=none) (h:Wj R (Dl.fz r cs v) H):Wj R v (upd H r (some (.cells cs e))):=
 Wj.fz r (Ac _ _ _) (by rw[Lp hr];exact h)
theorem Wj.dropA {R:DEnd->Ab->Prop} {v:DVal} {H:Ab} (r:Nat) {o:Option DObj} (hr:H r=none) (h:Wj R v H):Wj R v (upd H r o):=
 Wj.drop r (by rw[Lp hr];exact h)
section
variable {P:Program} {G:Nat->DVal} {N:Nat} {Q:DExit->DS->Prop}
theorem Ak {id:Nat} {ops:List Oper} {s:DS} (hm:P.follows .mixedOrders=true) (p:Plan) (hp:(ops.all (Jm N)&&Ao4 ops [] p&&Ii ops p [])=true) (h:Lo P G ops (QP Q) p s):dwp P G N (.region id ops.toArray true) Q s:=
 Da6 (N:=⟨N,⟨0,[],false⟩⟩) hm p (by simpa using hp) (by simpa using h)
end
end Go.Dl

-- THE DATA LEVEL, PART 9: slices that are built up; plain lists seen as slices.
namespace Go.Dl
open Go Go.RowKit
abbrev Ba (v:DVal) (H:Ab):DEnd->Ab->Prop:=fun e H'=>e= .ret v/\H'=H
def Dl6 (H:Ab) (e:TypeId) (size n:Nat) (cs:List DVal) (v:DVal) (H':Ab):Prop:=
 (n=0/\cs= []/\v= .nilSlice/\H'=H)\/ ∃r,H r=none/\cs.length=n*size/\v= .oslice size r 0 n n/\H'=upd H r (some (.cells cs e))
section
variable {P:Program} {G:Nat->DVal} {Q:DExit->DS->Prop}
theorem Rd {α:Type} {f:Nat->α} {r:Nat} {x:α} (h:f r=x):upd f r x=f:=by
 funext i;simp only[upd];split
 ·rename_i e;rw[e,h]
 ·rfl
theorem Ao6 {e:TypeId} {size bytes r off len lo n:Nat} {news:List DVal} {dst:Option Nat} {K:DK} {s:DS} {cs:List DVal} (h:len+n<=lo):
  Ni e size bytes r off len lo n news dst K s (some (.cells cs e))=(off+(len+n)*size<=cs.length/\
    K ⟨Gr s.env dst (.oslice size r off (len+n) lo),upd s.heap r (some (.cells (splice cs (off+len*size) news) e))⟩):=by
 simp only[Ni,true_and,eq_iff_iff];exact⟨fun k=>k.1 h,fun k=>⟨fun _=>k,fun hn=>(hn h).elim⟩⟩
theorem Ae2 {e:TypeId} {size bytes r len lo n:Nat} {news:List DVal} {dst:Option Nat} {K:DK} {s:DS} {cs:List DVal} (hle:len<=lo) (h:lo<len+n):
  Ni e size bytes r 0 len lo n news dst K s (some (.cells cs e))=(len*size<=cs.length/\(len+n)*bytes<=35184372088832/\ ∀r',upd s.heap r none r'=none->
    K ⟨Gr s.env dst (.oslice size r' 0 (len+n) (len+n)),upd (upd s.heap r none) r' (some (.cells (cs.take (len*size)++news) e))⟩):=by
 simp only[Ni,true_and,eq_iff_iff,hle,true_or,if_true];have hn: ¬len+n<=lo:=by omega
 refine⟨fun k=> ?_,fun k=>⟨fun hh=>(hn hh).elim,fun _=> ?_⟩⟩
 ·obtain⟨k1,k2,k3⟩:=k.2 hn;refine⟨by omega,k2,fun r' hr=> ?_⟩;have:=k3 r' [] hr (fun _=>rfl);simpa using this
 ·obtain⟨k1,k2,k3⟩:=k;refine⟨by omega,k2,fun r' pre hr hp=> ?_⟩;have hpre:=hp trivial;subst hpre;have:=k3 r' hr;simpa using this
theorem Ok.slice {H:Ab} {e:TypeId} {size n lo:Nat} {cs rest:List DVal} {r:Nat} (hr:H r=none) (hl:cs.length=n*size):Ok (upd H r (some (.cells (cs++rest) e))) (.oslice size r 0 n lo) H (.vslice cs n):=by
 have:=Ok.fz (v:= .oslice size r 0 n lo) (Ac H r (some (.cells (cs++rest) e)));rw[Lp hr] at this;simp only[Dl.fz,if_pos,jJ] at this;rw[List.take_append_of_le_length (by omega),List.take_of_length_le (by omega)] at this;exact this
theorem Dl6.ghost {H H0:Ab} {e:TypeId} {size n:Nat} {cs:List DVal} {v:DVal} (hv:Dl6 H e size n cs v H0):Ok H0 v H (.vslice cs n):=by
 rcases hv with⟨rfl,rfl,rfl,rfl⟩ | ⟨r,hr,hl,rfl,rfl⟩
 ·intro w hw;refine⟨hw,fun _ h=>h,fun x hx=> ?_⟩;simp only[Rel] at hx⊢
  exact⟨none,0,hx,Nat.le_refl _, .inl (by simp)⟩
 ·have:=Ok.fz (v:= .oslice size r 0 n n) (Ac H r (some (.cells cs e)));rw[Lp hr] at this;simp only[fz,if_pos,jJ] at this;rw[List.take_of_length_le (by omega)] at this;exact this
end
def DLe (d d':DVal):Prop:= ∀(w:World) (H:Ab) (x:Value),Rel w H d x->Rel w H d' x
theorem DLe.nil:DLe .nilSlice (.vslice [] 0):=fun w H x hx=>by
 simp only[Rel] at hx⊢
 exact⟨none,0,hx,Nat.le_refl _, .inl (by simp)⟩
theorem Ws.drop {G:Nat->DVal} (s:DS) (r:Nat):Ws G s ⟨s.env,upd s.heap r none⟩:=fun w hH hG=>
 ⟨hH.letGo r,fun b hb=>by simp only[upd] at hb;split at hb<;>simp_all,hG.lasts (Dt _ r w),fun i x hx=>Rel.lasts (Dt _ r w) _ _ hx⟩
theorem Cd6 {H H':Ab} (h: ∀r o,H' r=some o->H r=some o) {b:Nat} (hb:H b=none):H' b=none:=by
 cases e:H' b with
 | none=>rfl
 | some o=>rw[h b o e] at hb;cases hb
theorem Di {H H':Ab} (h: ∀r o,H' r=some o->H r=some o) (w:World):Lasts H w H' w:=
 ⟨fun b i x hb hc=>⟨Cd6 h hb,hc⟩,Nat.le_refl _,fun _ _=>rfl⟩
theorem Ok.sub {H H':Ab} (h: ∀r o,H' r=some o->H r=some o) (v:DVal):Ok H v H' v:=fun w hw=>
 ⟨fun r o ho=>(hw r o (h r o ho)).lasts (Di h w),fun b hb e=>hb (Cd6 h e),fun x hx=>Rel.lasts (Di h w) _ _ hx⟩
theorem Wj.sub {R:DEnd->Ab->Prop} {v:DVal} {H H':Ab} (h: ∀r o,H' r=some o->H r=some o) (k:Wj R v H'):Wj R v H:= .ghost (.sub h v) k
theorem Am {α:Type} {H:Nat->Option α} {a b:Nat} {o:α} (ha:H a=none) (hb:H b=some o):b≠a:=fun e=>by rw[e,ha] at hb;cases hb
theorem Zz (r:Nat) (cs:List DVal) (l m:List DVal):fzs r cs (l++m)=fzs r cs l++fzs r cs m:=by
 induction l with
 | nil=>simp [fzs]
 | cons d l ih=>simp [fzs,ih]
theorem Cd7 {α:Type} (p:α->Bool) (x:α):Option.all p (some x)=p x:=rfl
attribute [go_sem] Ao6 Ae2 Cd7
end Go.Dl

-- THE DATA LEVEL: the lemmas that the long simp call (simp (disch := omega) only [go_sem] in fill.py) takes besides the equations.
namespace Go.Dl
open Go
attribute [go_sem] jD Int.sub_zero Int.zero_add Int.add_zero Nat.add_sub_cancel Dk8 jA jB List.all_cons List.all_nil Bool.and_true jS Bool.or_false Bool.false_or
attribute [go_sem] jM jR jE jJ decide_true decide_false Nat.mul_one Nat.one_mul Nat.zero_add Nat.add_zero Nat.mul_zero Nat.zero_mul Bool.not_true Bool.not_false
attribute [go_sem] Option.map_some Option.map_none Nat.le_refl Nat.zero_lt_succ ne_eq not_true_eq_false not_false_eq_true Option.isSome_some Fc2 Dv5 Dk9 true_imp_iff false_imp_iff beq_self_eq_true forall_const Cc7 jK
end Go.Dl

-- Facts on the types of this seat, each by the kernel. MADE BY PROGRAM (facts.py).
namespace Go.Dl
open Go Go.Proofs
theorem En8:Tryz.prog.cellsOf 2=1:=by kernel_rfl
theorem Fc6:(Tryz.prog.info? 2).isSome=true:=by kernel_rfl
theorem Fn1:Du Tryz.prog 2=some false:=by kernel_rfl
theorem En9:Tryz.prog.cellsOf 3=1:=by kernel_rfl
theorem Fc7:(Tryz.prog.info? 3).isSome=true:=by kernel_rfl
theorem Fn2:Du Tryz.prog 3=some false:=by kernel_rfl
theorem Fc8:Bq Tryz.prog 3=some (.int .i64 0):=by kernel_rfl
theorem Eo0:Tryz.prog.cellsOf 4=1:=by kernel_rfl
theorem Fn3:Du Tryz.prog 4=some false:=by kernel_rfl
theorem Eo1:Tryz.prog.cellsOf 9=1:=by kernel_rfl
theorem Fc9:(Tryz.prog.info? 9).isSome=true:=by kernel_rfl
theorem Fn4:Du Tryz.prog 9=some false:=by kernel_rfl
theorem Fd0:Bq Tryz.prog 9=some (.str []):=by kernel_rfl
theorem Dw8:Tryz.prog.cellsOf 22=1:=by kernel_rfl
theorem Eo2:(Tryz.prog.info? 22).isSome=true:=by kernel_rfl
theorem Fd1:Du Tryz.prog 22=some false:=by kernel_rfl
theorem Dw9:Tryz.prog.cellsOf 23=1:=by kernel_rfl
theorem Eo3:(Tryz.prog.info? 23).isSome=true:=by kernel_rfl
theorem Fd2:Du Tryz.prog 23=some false:=by kernel_rfl
theorem Dx0:Tryz.prog.cellsOf 24=1:=by kernel_rfl
theorem Eo4:(Tryz.prog.info? 24).isSome=true:=by kernel_rfl
theorem Fd3:Du Tryz.prog 24=some false:=by kernel_rfl
theorem Dx1:Tryz.prog.cellsOf 25=1:=by kernel_rfl
theorem Eo5:(Tryz.prog.info? 25).isSome=true:=by kernel_rfl
theorem Fd4:Du Tryz.prog 25=some false:=by kernel_rfl
theorem Dx2:Tryz.prog.cellsOf 27=9:=by kernel_rfl
theorem Dx3:Tryz.prog.bytesOf 27=104:=by kernel_rfl
theorem Eo6:(Tryz.prog.info? 27).isSome=true:=by kernel_rfl
theorem Fd5:Du Tryz.prog 27=some true:=by kernel_rfl
theorem Fd6:Kp Tryz.prog 27=true:=by kernel_rfl
theorem Eo7:Bq Tryz.prog 27=some (.agg [.int .u8 0, .int .u8 0, .int .i64 0, .str [], .nilSlice, .nilSlice, .int .i64 0, .int .i64 0, .int .i64 0]):=by kernel_rfl
theorem Dx4:Tryz.prog.cellsOf 29=1:=by kernel_rfl
theorem Eo8:(Tryz.prog.info? 29).isSome=true:=by kernel_rfl
theorem Fd7:Du Tryz.prog 29=some false:=by kernel_rfl
theorem Dx5:Tryz.prog.cellsOf 31=4:=by kernel_rfl
theorem Dx6:Tryz.prog.bytesOf 31=40:=by kernel_rfl
theorem Eo9:(Tryz.prog.info? 31).isSome=true:=by kernel_rfl
theorem Fd8:Du Tryz.prog 31=some true:=by kernel_rfl
theorem Fd9:Kp Tryz.prog 31=true:=by kernel_rfl
theorem Ep0:Bq Tryz.prog 31=some (.agg [.int .u8 0, .int .i64 0, .str [], .int .i64 0]):=by kernel_rfl
theorem Dx7:Tryz.prog.cellsOf 32=1:=by kernel_rfl
theorem Ep1:(Tryz.prog.info? 32).isSome=true:=by kernel_rfl
theorem Fe0:Du Tryz.prog 32=some false:=by kernel_rfl
theorem Ep2:Bq Tryz.prog 32=some (.nilSlice):=by kernel_rfl
theorem Dx8:Tryz.prog.cellsOf 41=1:=by kernel_rfl
theorem Fe1:Du Tryz.prog 41=some false:=by kernel_rfl
theorem Dx9:Tryz.prog.cellsOf 44=10:=by kernel_rfl
theorem Ep3:(Tryz.prog.info? 44).isSome=true:=by kernel_rfl
theorem Fe2:Du Tryz.prog 44=some true:=by kernel_rfl
theorem Ep4:Bq Tryz.prog 44=some (.agg [.nilSlice, .int .u8 0, .int .u8 0, .int .i64 0, .str [], .nilSlice, .nilSlice, .int .i64 0, .int .i64 0, .int .i64 0]):=by kernel_rfl
theorem Dy0:Tryz.prog.cellsOf 45=1:=by kernel_rfl
theorem Fe3:Du Tryz.prog 45=some false:=by kernel_rfl
theorem Dy1:Tryz.prog.cellsOf 47=2:=by kernel_rfl
theorem Ep5:(Tryz.prog.info? 47).isSome=true:=by kernel_rfl
theorem Fe4:Du Tryz.prog 47=some true:=by kernel_rfl
theorem Ep6:Bq Tryz.prog 47=some (.agg [.int .u8 0, .nilSlice]):=by kernel_rfl
theorem Dy2:Tryz.prog.cellsOf 51=1:=by kernel_rfl
theorem Ep7:(Tryz.prog.info? 51).isSome=true:=by kernel_rfl
theorem Fe5:Du Tryz.prog 51=some false:=by kernel_rfl
theorem Dy3:Tryz.prog.cellsOf 53=1:=by kernel_rfl
theorem Ep8:(Tryz.prog.info? 53).isSome=true:=by kernel_rfl
theorem Fe6:Du Tryz.prog 53=some false:=by kernel_rfl
theorem Ep9:Bq Tryz.prog 53=some (.int .u8 0):=by kernel_rfl
theorem Dy4:Tryz.prog.cellsOf 54=1:=by kernel_rfl
theorem Eq0:(Tryz.prog.info? 54).isSome=true:=by kernel_rfl
theorem Fe7:Du Tryz.prog 54=some false:=by kernel_rfl
theorem Eq1:Bq Tryz.prog 54=some (.nilSlice):=by kernel_rfl
theorem Dy5:Tryz.prog.cellsOf 56=36:=by kernel_rfl
theorem Fe8:Du Tryz.prog 56=some true:=by kernel_rfl
theorem Dy6:Tryz.prog.cellsOf 58=27:=by kernel_rfl
theorem Fe9:Du Tryz.prog 58=some true:=by kernel_rfl
theorem Dy7:Tryz.prog.cellsOf 59=1:=by kernel_rfl
theorem Ff0:Du Tryz.prog 59=some false:=by kernel_rfl
theorem Dy8:Tryz.prog.cellsOf 60=1:=by kernel_rfl
theorem Ff1:Du Tryz.prog 60=some false:=by kernel_rfl
theorem Dy9:Tryz.prog.cellsOf 62=87:=by kernel_rfl
theorem Ff2:Du Tryz.prog 62=some true:=by kernel_rfl
theorem Dz0:Tryz.prog.cellsOf 65=1:=by kernel_rfl
theorem Eq2:(Tryz.prog.info? 65).isSome=true:=by kernel_rfl
theorem Ff3:Du Tryz.prog 65=some false:=by kernel_rfl
theorem Dz1:Tryz.prog.cellsOf 72=1:=by kernel_rfl
theorem Ff4:Du Tryz.prog 72=some false:=by kernel_rfl
theorem Dz2:Tryz.prog.cellsOf 87=1:=by kernel_rfl
theorem Ff5:Du Tryz.prog 87=some false:=by kernel_rfl
theorem Dz3:Tryz.prog.cellsOf 95=1:=by kernel_rfl
theorem Ff6:Du Tryz.prog 95=some false:=by kernel_rfl
theorem Dz4:Tryz.prog.cellsOf 97=21:=by kernel_rfl
theorem Eq3:(Tryz.prog.info? 97).isSome=true:=by kernel_rfl
theorem Ff7:Du Tryz.prog 97=some true:=by kernel_rfl
theorem Eq4:Bq Tryz.prog 97=some (.agg [.nilSlice, .int .u8 0, .int .u8 0, .int .u8 0, .int .i64 0, .str [], .nilSlice, .nilSlice, .int .i64 0, .int .i64 0, .int .i64 0, .int .u8 0, .int .u8 0, .int .i64 0, .str [], .nilSlice, .nilSlice, .int .i64 0, .int .i64 0, .int .i64 0, .int .i64 0]):=by kernel_rfl
theorem Dz5:Tryz.prog.cellsOf 99=47:=by kernel_rfl
theorem Eq5:(Tryz.prog.info? 99).isSome=true:=by kernel_rfl
theorem Ff8:Du Tryz.prog 99=some true:=by kernel_rfl
theorem Eq6:Bq Tryz.prog 99=some (.agg [.nilSlice, .int .u8 0, .int .u8 0, .int .i64 0, .str [], .nilSlice, .nilSlice, .int .i64 0, .int .i64 0, .int .i64 0, .int .u8 0, .int .u8 0, .int .i64 0, .str [], .nilSlice, .nilSlice, .int .i64 0, .int .i64 0, .int .i64 0, .int .u8 0, .int .u8 0, .int .i64 0, .str [], .nilSlice, .nilSlice, .int .i64 0, .int .i64 0, .int .i64 0, .int .u8 0, .int .u8 0, .int .i64 0, .str [], .nilSlice, .nilSlice, .int .i64 0, .int .i64 0, .int .i64 0, .int .u8 0, .int .u8 0, .int .i64 0, .str [], .nilSlice, .nilSlice, .int .i64 0, .int .i64 0, .int .i64 0, .int .i64 0]):=by kernel_rfl
theorem Dl7:Tryz.prog.cellsOf 127=1:=by kernel_rfl
theorem Dz6:(Tryz.prog.info? 127).isSome=true:=by kernel_rfl
theorem Eq7:Du Tryz.prog 127=some false:=by kernel_rfl
theorem Dz7:Bq Tryz.prog 127=some (.nilFunc):=by kernel_rfl
theorem Eq8:Kp Tryz.prog 147=true:=by kernel_rfl
theorem Dz8:Bq Tryz.prog 147=some (.agg [.nilSlice]):=by kernel_rfl
theorem Eq9:Kp Tryz.prog 150=true:=by kernel_rfl
theorem Dz9:Bq Tryz.prog 150=some (.agg [.nilSlice]):=by kernel_rfl
theorem Dl8:Tryz.prog.cellsOf 158=2:=by kernel_rfl
theorem Dl9:Tryz.prog.bytesOf 158=32:=by kernel_rfl
theorem Ea0:(Tryz.prog.info? 158).isSome=true:=by kernel_rfl
theorem Er0:Du Tryz.prog 158=some true:=by kernel_rfl
theorem Er1:Kp Tryz.prog 158=true:=by kernel_rfl
theorem Ea1:Bq Tryz.prog 158=some (.agg [.int .i64 0, .nilSlice]):=by kernel_rfl
theorem Dm0:Tryz.prog.cellsOf 161=8:=by kernel_rfl
theorem Ea2:(Tryz.prog.info? 161).isSome=true:=by kernel_rfl
theorem Er2:Kp Tryz.prog 161=true:=by kernel_rfl
theorem Ea3:Bq Tryz.prog 161=some (.agg [.nilFunc, .nilFunc, .nilFunc, .nilFunc, .nilFunc, .nilFunc, .nilFunc, .nilFunc]):=by kernel_rfl
theorem Dm1:Tryz.prog.cellsOf 168=2:=by kernel_rfl
theorem Ea4:(Tryz.prog.info? 168).isSome=true:=by kernel_rfl
theorem Er3:Du Tryz.prog 168=some true:=by kernel_rfl
theorem Ea5:Bq Tryz.prog 168=some (.agg [.nilSlice, .nilSlice]):=by kernel_rfl
theorem Dm2:Tryz.prog.cellsOf 198=10:=by kernel_rfl
theorem Ea6:(Tryz.prog.info? 198).isSome=true:=by kernel_rfl
theorem Er4:Du Tryz.prog 198=some true:=by kernel_rfl
theorem Ea7:Bq Tryz.prog 198=some (.agg [.str [], .int .u8 0, .int .u8 0, .int .i64 0, .str [], .nilSlice, .nilSlice, .int .i64 0, .int .i64 0, .int .i64 0]):=by kernel_rfl
theorem Dm3:Tryz.prog.cellsOf 252=1:=by kernel_rfl
theorem Ea8:(Tryz.prog.info? 252).isSome=true:=by kernel_rfl
theorem Er5:Du Tryz.prog 252=some false:=by kernel_rfl
theorem Ea9:Bq Tryz.prog 252=some (.nilMap):=by kernel_rfl
theorem Er6:Kp Tryz.prog 257=true:=by kernel_rfl
theorem Eb0:Bq Tryz.prog 257=some (.agg [.nilSlice]):=by kernel_rfl
attribute [go_sem] Tryz.underlying0 Tryz.underlying1
attribute [go_sem] En8 Fc6 Fn1 Tryz.underlying2 En9 Fc7 Fn2 Fc8 Tryz.underlying3
attribute [go_sem] Eo0 Fn3 Tryz.underlying4 Tryz.underlying5
attribute [go_sem] Tryz.underlying6 Tryz.eqGuardType7
attribute [go_sem] Tryz.stoodInHeld7 Tryz.underlying7 Tryz.eqGuardType8 Tryz.stoodInHeld8 Tryz.underlying8
attribute [go_sem] Eo1 Fc9 Fn4 Fd0 Tryz.underlying9 Tryz.underlying10
attribute [go_sem] Tryz.underlying11 Tryz.underlying12
attribute [go_sem] Tryz.eqGuardType13 Tryz.stoodInHeld13 Tryz.underlying13
attribute [go_sem] Tryz.eqGuardType14 Tryz.stoodInHeld14 Tryz.underlying14 Tryz.underlying15
attribute [go_sem] Tryz.underlying16 Tryz.underlying17
attribute [go_sem] Tryz.eqGuardType18 Tryz.stoodInHeld18 Tryz.underlying18
attribute [go_sem] Tryz.eqGuardType19 Tryz.stoodInHeld19 Tryz.underlying19 Tryz.underlying20
attribute [go_sem] Tryz.underlying21 Dw8 Eo2 Fd1 Tryz.underlying22
attribute [go_sem] Dw9 Eo3 Fd2 Tryz.underlying23 Dx0 Eo4 Fd3 Tryz.underlying24
attribute [go_sem] Dx1 Eo5 Fd4 Tryz.underlying25 Tryz.eqGuardType26
attribute [go_sem] Tryz.stoodInHeld26 Tryz.underlying26 Dx2 Dx3 Eo6 Fd5 Fd6 Tryz.eqGuardType27 Tryz.stoodInHeld27 Eo7 Tryz.underlying27
attribute [go_sem] Tryz.underlying28 Dx4 Eo8 Fd7 Tryz.underlying29
attribute [go_sem] Tryz.eqGuardType30 Tryz.stoodInHeld30 Tryz.underlying30 Dx5 Dx6 Eo9
attribute [go_sem] Fd8 Fd9 Tryz.eqGuardType31 Tryz.stoodInHeld31 Ep0 Tryz.underlying31 Dx7 Ep1 Fe0 Ep2 Tryz.underlying32
attribute [go_sem] Tryz.underlying33 Tryz.underlying34
attribute [go_sem] Tryz.underlying35 Tryz.underlying36
attribute [go_sem] Tryz.underlying37 Tryz.underlying38
attribute [go_sem] Tryz.underlying39 Tryz.underlying40
attribute [go_sem] Dx8 Fe1 Tryz.underlying41 Tryz.underlying42
attribute [go_sem] Tryz.eqGuardType43 Tryz.stoodInHeld43 Tryz.underlying43 Dx9 Ep3
attribute [go_sem] Fe2 Tryz.eqGuardType44 Tryz.stoodInHeld44 Ep4 Tryz.underlying44 Dy0 Fe3 Tryz.underlying45
attribute [go_sem] Tryz.eqGuardType46 Tryz.stoodInHeld46 Tryz.underlying46 Dy1 Ep5
attribute [go_sem] Fe4 Tryz.eqGuardType47 Tryz.stoodInHeld47 Ep6 Tryz.underlying47 Tryz.underlying48
attribute [go_sem] Tryz.underlying49 Tryz.underlying50
attribute [go_sem] Dy2 Ep7 Fe5 Tryz.underlying51 Tryz.underlying52
attribute [go_sem] Dy3 Ep8 Fe6 Ep9 Tryz.underlying53 Dy4 Eq0 Fe7 Eq1 Tryz.underlying54
attribute [go_sem] Tryz.eqGuardType55 Tryz.stoodInHeld55 Tryz.underlying55 Dy5
attribute [go_sem] Fe8 Tryz.eqGuardType56 Tryz.stoodInHeld56 Tryz.underlying56 Tryz.eqGuardType57
attribute [go_sem] Tryz.stoodInHeld57 Tryz.underlying57 Dy6 Fe9 Tryz.eqGuardType58 Tryz.stoodInHeld58 Tryz.underlying58
attribute [go_sem] Dy7 Ff0 Tryz.underlying59 Dy8 Ff1 Tryz.underlying60
attribute [go_sem] Tryz.eqGuardType61 Tryz.stoodInHeld61 Tryz.underlying61 Dy9
attribute [go_sem] Ff2 Tryz.eqGuardType62 Tryz.stoodInHeld62 Tryz.underlying62 Tryz.underlying63
attribute [go_sem] Tryz.underlying64 Dz0 Eq2 Ff3 Tryz.underlying65
attribute [go_sem] Tryz.underlying66 Tryz.underlying67
attribute [go_sem] Tryz.underlying68 Tryz.underlying69
attribute [go_sem] Tryz.underlying70 Tryz.underlying71
attribute [go_sem] Dz1 Ff4 Tryz.underlying72 Tryz.underlying73
attribute [go_sem] Tryz.underlying74 Tryz.underlying75
attribute [go_sem] Tryz.underlying76 Tryz.underlying77
attribute [go_sem] Tryz.underlying78 Tryz.underlying79
attribute [go_sem] Tryz.underlying80 Tryz.underlying81
attribute [go_sem] Tryz.underlying82 Tryz.underlying83
attribute [go_sem] Tryz.underlying84 Tryz.underlying85
attribute [go_sem] Tryz.underlying86 Dz2 Ff5 Tryz.underlying87
attribute [go_sem] Tryz.underlying88 Tryz.underlying89
attribute [go_sem] Tryz.underlying90 Tryz.underlying91
attribute [go_sem] Tryz.underlying92 Tryz.underlying93
attribute [go_sem] Tryz.underlying94 Dz3 Ff6 Tryz.underlying95
attribute [go_sem] Tryz.eqGuardType96 Tryz.stoodInHeld96 Tryz.underlying96 Dz4 Eq3
attribute [go_sem] Ff7 Tryz.eqGuardType97 Tryz.stoodInHeld97 Eq4 Tryz.underlying97 Tryz.eqGuardType98
attribute [go_sem] Tryz.stoodInHeld98 Tryz.underlying98 Dz5 Eq5 Ff8 Tryz.eqGuardType99 Tryz.stoodInHeld99 Eq6 Tryz.underlying99
attribute [go_sem] Tryz.eqGuardType100 Tryz.stoodInHeld100 Tryz.underlying100
attribute [go_sem] Tryz.eqGuardType101 Tryz.stoodInHeld101 Tryz.underlying101 Tryz.underlying102
attribute [go_sem] Tryz.underlying103 Tryz.underlying104
attribute [go_sem] Tryz.underlying105 Tryz.underlying106
attribute [go_sem] Tryz.underlying107 Tryz.underlying108
attribute [go_sem] Tryz.underlying109 Tryz.underlying110
attribute [go_sem] Tryz.underlying111 Tryz.underlying112
attribute [go_sem] Tryz.underlying113 Tryz.underlying114
attribute [go_sem] Tryz.underlying115 Tryz.underlying116
attribute [go_sem] Tryz.underlying117 Tryz.underlying118
attribute [go_sem] Tryz.underlying119 Tryz.underlying120
attribute [go_sem] Tryz.underlying121 Tryz.underlying122
attribute [go_sem] Tryz.underlying123 Tryz.underlying124
attribute [go_sem] Tryz.underlying125 Tryz.underlying126
attribute [go_sem] Dl7 Dz6 Eq7 Dz7 Tryz.underlying127 Tryz.underlying128
attribute [go_sem] Tryz.underlying129 Tryz.underlying130
attribute [go_sem] Tryz.underlying131 Tryz.underlying132
attribute [go_sem] Tryz.underlying133 Tryz.underlying134
attribute [go_sem] Tryz.underlying135 Tryz.underlying136
attribute [go_sem] Tryz.underlying137 Tryz.underlying138
attribute [go_sem] Tryz.underlying139 Tryz.underlying140
attribute [go_sem] Tryz.underlying141 Tryz.underlying142
attribute [go_sem] Tryz.underlying143 Tryz.underlying144
attribute [go_sem] Tryz.underlying145 Tryz.eqGuardType146
attribute [go_sem] Tryz.stoodInHeld146 Tryz.underlying146 Eq8 Tryz.eqGuardType147 Tryz.stoodInHeld147 Dz8 Tryz.underlying147
attribute [go_sem] Tryz.underlying148 Tryz.eqGuardType149
attribute [go_sem] Tryz.stoodInHeld149 Tryz.underlying149 Eq9 Tryz.eqGuardType150 Tryz.stoodInHeld150 Dz9 Tryz.underlying150
attribute [go_sem] Tryz.underlying151 Tryz.underlying152
attribute [go_sem] Tryz.underlying153 Tryz.underlying154
attribute [go_sem] Tryz.underlying155 Tryz.underlying156
attribute [go_sem] Tryz.eqGuardType157 Tryz.stoodInHeld157 Tryz.underlying157 Dl8 Dl9 Ea0
attribute [go_sem] Er0 Er1 Tryz.eqGuardType158 Tryz.stoodInHeld158 Ea1 Tryz.underlying158 Tryz.underlying159
attribute [go_sem] Tryz.underlying160 Dm0 Ea2 Er2 Tryz.eqGuardType161
attribute [go_sem] Ea3 Tryz.underlying161 Tryz.underlying162
attribute [go_sem] Tryz.underlying163 Tryz.underlying164
attribute [go_sem] Tryz.underlying165 Tryz.underlying166
attribute [go_sem] Tryz.eqGuardType167 Tryz.stoodInHeld167 Tryz.underlying167 Dm1 Ea4 Er3 Tryz.eqGuardType168 Tryz.stoodInHeld168
attribute [go_sem] Ea5 Tryz.underlying168 Tryz.underlying169
attribute [go_sem] Tryz.underlying170 Tryz.underlying171
attribute [go_sem] Tryz.underlying172 Tryz.underlying173
attribute [go_sem] Tryz.underlying174 Tryz.underlying175
attribute [go_sem] Tryz.underlying176 Tryz.underlying177
attribute [go_sem] Tryz.underlying178 Tryz.underlying179
attribute [go_sem] Tryz.underlying180 Tryz.underlying181
attribute [go_sem] Tryz.underlying182 Tryz.underlying183
attribute [go_sem] Tryz.underlying184 Tryz.underlying185
attribute [go_sem] Tryz.underlying186 Tryz.underlying187
attribute [go_sem] Tryz.underlying188 Tryz.underlying189
attribute [go_sem] Tryz.underlying190 Tryz.eqGuardType191 Tryz.stoodInHeld191 Tryz.underlying191
attribute [go_sem] Tryz.eqGuardType192 Tryz.stoodInHeld192 Tryz.underlying192
attribute [go_sem] Tryz.underlying193 Tryz.underlying194
attribute [go_sem] Tryz.underlying195 Tryz.underlying196
attribute [go_sem] Tryz.eqGuardType197 Tryz.stoodInHeld197 Tryz.underlying197 Dm2 Ea6 Er4 Tryz.eqGuardType198 Tryz.stoodInHeld198
attribute [go_sem] Ea7 Tryz.underlying198 Tryz.underlying199
attribute [go_sem] Tryz.underlying200 Tryz.underlying201
attribute [go_sem] Tryz.underlying202 Tryz.underlying203
attribute [go_sem] Tryz.underlying204 Tryz.underlying205
attribute [go_sem] Tryz.underlying206 Tryz.underlying207
attribute [go_sem] Tryz.underlying208 Tryz.underlying209
attribute [go_sem] Tryz.underlying210 Tryz.underlying211
attribute [go_sem] Tryz.underlying212 Tryz.underlying213
attribute [go_sem] Tryz.underlying214 Tryz.underlying215
attribute [go_sem] Tryz.underlying216 Tryz.underlying217
attribute [go_sem] Tryz.underlying218 Tryz.underlying219
attribute [go_sem] Tryz.underlying220 Tryz.underlying221
attribute [go_sem] Tryz.underlying222 Tryz.underlying223
attribute [go_sem] Tryz.underlying224 Tryz.underlying225
attribute [go_sem] Tryz.eqGuardType226 Tryz.stoodInHeld226 Tryz.underlying226 Tryz.eqGuardType227 Tryz.stoodInHeld227
attribute [go_sem] Tryz.underlying227 Tryz.underlying228
attribute [go_sem] Tryz.underlying229 Tryz.underlying230
attribute [go_sem] Tryz.underlying231 Tryz.underlying232
attribute [go_sem] Tryz.underlying233 Tryz.underlying234
attribute [go_sem] Tryz.underlying235 Tryz.underlying236
attribute [go_sem] Tryz.underlying237 Tryz.underlying238
attribute [go_sem] Tryz.underlying239 Tryz.underlying240
attribute [go_sem] Tryz.eqGuardType241 Tryz.stoodInHeld241 Tryz.underlying241 Tryz.eqGuardType242 Tryz.stoodInHeld242
attribute [go_sem] Tryz.underlying242 Tryz.underlying243
attribute [go_sem] Tryz.underlying244 Tryz.underlying245
attribute [go_sem] Tryz.eqGuardType246 Tryz.stoodInHeld246 Tryz.underlying246 Tryz.eqGuardType247 Tryz.stoodInHeld247
attribute [go_sem] Tryz.underlying247 Tryz.underlying248
attribute [go_sem] Tryz.underlying249 Tryz.underlying250
attribute [go_sem] Tryz.underlying251 Dm3 Ea8 Er5 Ea9 Tryz.underlying252
attribute [go_sem] Tryz.underlying253 Tryz.underlying254
attribute [go_sem] Tryz.underlying255 Tryz.eqGuardType256 Tryz.stoodInHeld256 Tryz.underlying256
attribute [go_sem] Er6 Tryz.eqGuardType257 Tryz.stoodInHeld257 Eb0 Tryz.underlying257
attribute [go_sem] Tryz.underlying258 Tryz.underlying259
attribute [go_sem] Tryz.underlying260 Tryz.eqGuardType261 Tryz.stoodInHeld261 Tryz.underlying261
attribute [go_sem] Tryz.eqGuardType262 Tryz.stoodInHeld262 Tryz.underlying262
attribute [go_sem] Tryz.eqGuardType263 Tryz.stoodInHeld263 Tryz.underlying263 Tryz.eqGuardType264 Tryz.stoodInHeld264
attribute [go_sem] Tryz.underlying264 Tryz.underlying265
attribute [go_sem] Tryz.eqGuardType266 Tryz.stoodInHeld266 Tryz.underlying266 Tryz.eqGuardType267 Tryz.stoodInHeld267
attribute [go_sem] Tryz.underlying267 Tryz.underlying268
attribute [go_sem] Tryz.underlying269 Tryz.underlying270
attribute [go_sem] Tryz.underlying271 Tryz.underlying272
attribute [go_sem] Tryz.underlying273 Tryz.underlying274
attribute [go_sem] Tryz.underlying275 Tryz.underlying276
attribute [go_sem] Tryz.underlying277 Tryz.underlying278
attribute [go_sem] Tryz.eqGuardType279 Tryz.underlying279 Tryz.underlying280
attribute [go_sem] Tryz.underlying281 Tryz.underlying282
attribute [go_sem] Tryz.underlying283 Tryz.underlying284
attribute [go_sem] Tryz.underlying285 Tryz.underlying286
attribute [go_sem] Tryz.underlying287 Tryz.underlying288
attribute [go_sem] Tryz.underlying289 Tryz.underlying290
attribute [go_sem] Tryz.underlying291 Tryz.underlying292
attribute [go_sem] Tryz.underlying293 Tryz.underlying294
attribute [go_sem] Tryz.underlying295 Tryz.underlying296
attribute [go_sem] Tryz.underlying297 Tryz.underlying298
attribute [go_sem] Tryz.underlying299 Tryz.underlying300
attribute [go_sem] Tryz.underlying301 Tryz.underlying302
attribute [go_sem] Tryz.underlying303 Tryz.underlying304
attribute [go_sem] Tryz.underlying305 Tryz.underlying306
attribute [go_sem] Tryz.underlying307 Tryz.underlying308
attribute [go_sem] Tryz.underlying309 Tryz.underlying310
attribute [go_sem] Tryz.underlying311 Tryz.underlying312
attribute [go_sem] Tryz.underlying313 Tryz.underlying314
attribute [go_sem] Tryz.underlying315 Tryz.underlying316
attribute [go_sem] Tryz.underlying317 Tryz.underlying318
attribute [go_sem] Tryz.underlying319 Tryz.underlying320
attribute [go_sem] Tryz.underlying321 Tryz.underlying322
attribute [go_sem] Tryz.underlying323 Tryz.underlying324
attribute [go_sem] Tryz.underlying325 Tryz.underlying326
attribute [go_sem] Tryz.underlying327 Tryz.underlying328
attribute [go_sem] Tryz.underlying329 Tryz.underlying330
attribute [go_sem] Tryz.underlying331 Tryz.underlying332
attribute [go_sem] Tryz.underlying333 Tryz.underlying334
attribute [go_sem] Tryz.underlying335 Tryz.underlying336
attribute [go_sem] Tryz.underlying337 Tryz.underlying338
attribute [go_sem] Tryz.underlying339 Tryz.underlying340
attribute [go_sem] Tryz.underlying341 Tryz.underlying342
attribute [go_sem] Tryz.underlying343 Tryz.underlying344
attribute [go_sem] Tryz.underlying345 Tryz.underlying346
attribute [go_sem] Tryz.underlying347 Tryz.underlying348
attribute [go_sem] Tryz.underlying349 Tryz.underlying350
attribute [go_sem] Tryz.underlying351 Tryz.underlying352
attribute [go_sem] Tryz.underlying353 Tryz.eqGuardType354 Tryz.stoodInHeld354
attribute [go_sem] Tryz.underlying354 Tryz.eqGuardType355 Tryz.stoodInHeld355 Tryz.underlying355
attribute [go_sem] Tryz.underlying356 Tryz.underlying357
attribute [go_sem] Tryz.underlying358 Tryz.underlying359
attribute [go_sem] Tryz.underlying360 Tryz.underlying361
attribute [go_sem] Tryz.underlying362 Tryz.underlying363
attribute [go_sem] Tryz.underlying364 Tryz.eqGuardType365 Tryz.underlying365
attribute [go_sem] Tryz.underlying366 Tryz.underlying367
attribute [go_sem] Tryz.underlying368 Tryz.underlying369
attribute [go_sem] Tryz.underlying370 Tryz.underlying371
attribute [go_sem] Tryz.eqGuardType372 Tryz.stoodInHeld372 Tryz.underlying372
attribute [go_sem] Tryz.eqGuardType373 Tryz.stoodInHeld373 Tryz.underlying373 Tryz.underlying374
attribute [go_sem] Tryz.underlying375 Tryz.underlying376
attribute [go_sem] Tryz.underlying377 Tryz.eqGuardType378 Tryz.stoodInHeld378
attribute [go_sem] Tryz.underlying378 Tryz.eqGuardType379 Tryz.stoodInHeld379 Tryz.underlying379
attribute [go_sem] Tryz.underlying380 Tryz.eqGuardType381 Tryz.stoodInHeld381
attribute [go_sem] Tryz.underlying381 Tryz.eqGuardType382 Tryz.stoodInHeld382 Tryz.underlying382
attribute [go_sem] Tryz.underlying383 Tryz.eqGuardType384 Tryz.stoodInHeld384
attribute [go_sem] Tryz.underlying384 Tryz.eqGuardType385 Tryz.stoodInHeld385 Tryz.underlying385
attribute [go_sem] Tryz.underlying386 Tryz.underlying387
attribute [go_sem] Tryz.underlying388 Tryz.eqGuardType389 Tryz.stoodInHeld389
attribute [go_sem] Tryz.underlying389 Tryz.eqGuardType390 Tryz.stoodInHeld390 Tryz.underlying390
attribute [go_sem] Tryz.eqGuardType391 Tryz.underlying391
attribute [go_sem] Tryz.eqGuardType392 Tryz.stoodInHeld392 Tryz.underlying392 Tryz.eqGuardType393 Tryz.stoodInHeld393
attribute [go_sem] Tryz.underlying393 Tryz.underlying394
attribute [go_sem] Tryz.underlying395 Tryz.underlying396
attribute [go_sem] Tryz.underlying397 Tryz.underlying398
attribute [go_sem] Tryz.eqGuardType399 Tryz.stoodInHeld399 Tryz.underlying399 Tryz.eqGuardType400 Tryz.stoodInHeld400
attribute [go_sem] Tryz.underlying400 Tryz.results0 Tryz.results1 Tryz.results2 Tryz.results3 Tryz.results4 Tryz.results5 Tryz.results6 Tryz.results7 Tryz.results8 Tryz.results9 Tryz.results10
attribute [go_sem] Tryz.results11 Tryz.results12 Tryz.results13 Tryz.results14 Tryz.results15 Tryz.results16 Tryz.results17 Tryz.results18 Tryz.results19 Tryz.results20 Tryz.results21 Tryz.results22
attribute [go_sem] Tryz.results23 Tryz.results24 Tryz.results25 Tryz.results26 Tryz.results27 Tryz.results28 Tryz.results29 Tryz.results30 Tryz.results31 Tryz.results32 Tryz.results33 Tryz.results34
attribute [go_sem] Tryz.results35 Tryz.results36 Tryz.results37 Tryz.results38 Tryz.results39 Tryz.results40 Tryz.results41 Tryz.results42 Tryz.results43 Tryz.results44 Tryz.results45 Tryz.results46
attribute [go_sem] Tryz.results47 Tryz.results48 Tryz.results49 Tryz.results50 Tryz.results51 Tryz.results52 Tryz.results53 Tryz.results54 Tryz.results55 Tryz.results56 Tryz.results57 Tryz.results58
attribute [go_sem] Tryz.results59 Tryz.results60 Tryz.results61 Tryz.results62 Tryz.results63 Tryz.results64 Tryz.results65 Tryz.results66 Tryz.results67 Tryz.results68 Tryz.results69 Tryz.results70
attribute [go_sem] Tryz.results71 Tryz.results72 Tryz.results73 Tryz.results74 Tryz.results75 Tryz.results76 Tryz.results77 Tryz.results78 Tryz.results79 Tryz.results80 Tryz.results81 Tryz.results82
attribute [go_sem] Tryz.results83 Tryz.results84 Tryz.results85 Tryz.results86 Tryz.results87 Tryz.results88 Tryz.results89 Tryz.results90 Tryz.results91 Tryz.results92 Tryz.results93 Tryz.results94
attribute [go_sem] Tryz.results95 Tryz.results96 Tryz.results97 Tryz.results98 Tryz.results99 Tryz.results100 Tryz.results101 Tryz.results102 Tryz.results103 Tryz.results104 Tryz.results105 Tryz.results106
attribute [go_sem] Tryz.results107 Tryz.results108 Tryz.results109 Tryz.results110 Tryz.results111 Tryz.results112 Tryz.results113 Tryz.results114 Tryz.results115 Tryz.results116 Tryz.results117 Tryz.results118
attribute [go_sem] Tryz.results119 Tryz.results120 Tryz.results121 Tryz.results122 Tryz.results123 Tryz.results124 Tryz.results125 Tryz.results126 Tryz.results127 Tryz.results128 Tryz.results129 Tryz.results130
attribute [go_sem] Tryz.results131 Tryz.results132 Tryz.results133 Tryz.results134 Tryz.results135 Tryz.results136 Tryz.results137 Tryz.results138 Tryz.results139 Tryz.results140 Tryz.results141 Tryz.results142
attribute [go_sem] Tryz.results143 Tryz.results144 Tryz.results145 Tryz.results146 Tryz.results147 Tryz.results148 Tryz.results149 Tryz.results150 Tryz.results151 Tryz.results152 Tryz.results153 Tryz.results154
attribute [go_sem] Tryz.results155 Tryz.results156 Tryz.results157 Tryz.results158 Tryz.results159 Tryz.results160 Tryz.results161 Tryz.results162 Tryz.results163 Tryz.results164 Tryz.results165 Tryz.results166
attribute [go_sem] Tryz.results167 Tryz.results168 Tryz.results169 Tryz.results170 Tryz.results171 Tryz.results172 Tryz.results173 Tryz.results174 Tryz.results175 Tryz.results176 Tryz.results177 Tryz.results178
attribute [go_sem] Tryz.results179 Tryz.results180 Tryz.results181 Tryz.results182 Tryz.results183 Tryz.results184 Tryz.results185 Tryz.results186 Tryz.results187 Tryz.results188 Tryz.results189 Tryz.results190
attribute [go_sem] Tryz.results191 Tryz.results192 Tryz.results193 Tryz.results194 Tryz.results195 Tryz.results196 Tryz.results197 Tryz.results198 Tryz.results199 Tryz.results200 Tryz.results201 Tryz.results202
attribute [go_sem] Tryz.results203 Tryz.results204 Tryz.results205 Tryz.results206 Tryz.results207 Tryz.results208 Tryz.results209 Tryz.results210 Tryz.results211 Tryz.results212 Tryz.results213 Tryz.results214
attribute [go_sem] Tryz.results215 Tryz.results216 Tryz.results217 Tryz.results218 Tryz.results219 Tryz.results220 Tryz.results221 Tryz.results222 Tryz.results223 Tryz.results224 Tryz.results225 Tryz.results226
attribute [go_sem] Tryz.results227 Tryz.results228 Tryz.results229 Tryz.results230 Tryz.results231 Tryz.results232 Tryz.results233 Tryz.results234 Tryz.results235 Tryz.results236 Tryz.results237 Tryz.results238
attribute [go_sem] Tryz.results239 Tryz.results240 Tryz.results241 Tryz.results242 Tryz.results243 Tryz.results244 Tryz.results245 Tryz.results246 Tryz.results247 Tryz.results248 Tryz.results249 Tryz.results250
attribute [go_sem] Tryz.results251 Tryz.results252 Tryz.results253 Tryz.results254 Tryz.results255 Tryz.results256 Tryz.results257 Tryz.results258 Tryz.results259 Tryz.results260 Tryz.results261 Tryz.results262
attribute [go_sem] Tryz.results263 Tryz.results264 Tryz.results265 Tryz.results266 Tryz.results267 Tryz.results268 Tryz.results269 Tryz.results270 Tryz.results271 Tryz.results272 Tryz.results273 Tryz.results274
attribute [go_sem] Tryz.results275 Tryz.results276 Tryz.results277 Tryz.results278 Tryz.results279 Tryz.results280 Tryz.results281 Tryz.results282 Tryz.results283 Tryz.results284 Tryz.results285 Tryz.results286
attribute [go_sem] Tryz.results287 Tryz.results288 Tryz.results289 Tryz.results290 Tryz.results291 Tryz.results292 Tryz.results293 Tryz.results294 Tryz.results295 Tryz.results296 Tryz.results297 Tryz.results298
attribute [go_sem] Tryz.results299 Tryz.results300 Tryz.results301 Tryz.results302 Tryz.results303 Tryz.results304 Tryz.results305 Tryz.results306 Tryz.results307 Tryz.results308 Tryz.results309 Tryz.results310
attribute [go_sem] Tryz.results311 Tryz.results312 Tryz.results313 Tryz.results314 Tryz.results315 Tryz.results316 Tryz.results317 Tryz.results318 Tryz.results319 Tryz.results320 Tryz.results321 Tryz.results322
attribute [go_sem] Tryz.results323 Tryz.results324 Tryz.results325 Tryz.results326 Tryz.results327 Tryz.results328 Tryz.results329 Tryz.results330 Tryz.results331 Tryz.results332 Tryz.results333 Tryz.results334
attribute [go_sem] Tryz.results335 Tryz.results336 Tryz.results337 Tryz.results338 Tryz.results339 Tryz.results340 Tryz.results341 Tryz.results342 Tryz.results343 Tryz.results344 Tryz.results345 Tryz.results346
attribute [go_sem] Tryz.results347 Tryz.results348 Tryz.results349 Tryz.results350 Tryz.results351 Tryz.results352 Tryz.results353 Tryz.results354 Tryz.results355 Tryz.results356 Tryz.results357 Tryz.results358
attribute [go_sem] Tryz.results359 Tryz.results360 Tryz.results361 Tryz.results362 Tryz.results363 Tryz.results364 Tryz.results365 Tryz.results366 Tryz.results367 Tryz.results368 Tryz.results369 Tryz.results370
attribute [go_sem] Tryz.results371 Tryz.results372 Tryz.results373 Tryz.results374 Tryz.results375 Tryz.results376 Tryz.results377 Tryz.results378 Tryz.results379 Tryz.results380 Tryz.results381 Tryz.results382
attribute [go_sem] Tryz.results383 Tryz.results384 Tryz.results385 Tryz.results386 Tryz.results387 Tryz.results388 Tryz.results389 Tryz.results390 Tryz.results391 Tryz.results392 Tryz.results393 Tryz.results394
attribute [go_sem] Tryz.results395 Tryz.results396 Tryz.results397 Tryz.results398 Tryz.results399 Tryz.results400 Tryz.results401 Tryz.results402 Tryz.results403 Tryz.results404 Tryz.results405 Tryz.results406
attribute [go_sem] Tryz.results407 Tryz.results408 Tryz.results409 Tryz.results410 Tryz.results411 Tryz.results412 Tryz.results413 Tryz.results414 Tryz.results415 Tryz.results416 Tryz.results417 Tryz.results418
attribute [go_sem] Tryz.results419 Tryz.results420 Tryz.results421 Tryz.results422 Tryz.results423 Tryz.results424 Tryz.results425 Tryz.results426 Tryz.results427 Tryz.results428 Tryz.results429 Tryz.results430
attribute [go_sem] Tryz.results431 Tryz.results432 Tryz.results433 Tryz.results434 Tryz.results435 Tryz.results436 Tryz.results437 Tryz.results438 Tryz.results439 Tryz.results440 Tryz.results441 Tryz.results442
attribute [go_sem] Tryz.results443 Tryz.results444 Tryz.results445 Tryz.results446 Tryz.results447 Tryz.results448 Tryz.results449 Tryz.results450 Tryz.results451 Tryz.results452 Tryz.results453 Tryz.results454
attribute [go_sem] Tryz.results455 Tryz.results456 Tryz.results457
end Go.Dl

-- THE LIBRARY's FUNCTIONS AT THE DATA LEVEL: what is common to all of them.
namespace Go.Dl
open Go Go.Proofs
set_option maxRecDepth 10000
section
variable {P:Program} {G:Nat->DVal}
structure Quiet (w w':World):Prop where
 os:w'.os=w.os
 tape:w'.tape=w.tape
 output:w'.output=w.output
 size:w.heap.size<=w'.heap.size
 block: ∀b,b<w.heap.size->w'.heap[b]? =w.heap[b]?
theorem Quiet.below {w w':World} (h:RowKit.Below w.heap.size w w'):Quiet w w':=⟨h.os,h.tape,h.output,h.size,h.block⟩
theorem Quiet.ext {w w':World} {H:Ab} (hH:Br w H) (h:Quiet w w'):Br w' H/\Ext H w H w':=by
 have hE:Ext H w H w':=⟨h.os,h.tape,h.output,h.size,fun b hb _=>h.block b hb,fun b hb=> .inl hb,fun b hb=>by rw[h.block b hb],fun a ha _=>by unfold World.frozen?;rw[h.block _ ha]⟩;refine⟨fun r o ho=> ?_,hE⟩;rw[h.block r (hH.lt (by simp [ho]))];exact(hH r o ho).lasts hE.lasts
theorem Dm4 {w:World} {H:Ab} {g:Nat} {cs:List DVal} {name:String} {k:IntKind} {zs:List Int} (hg:P.globalNamed name=some g) (h:Rel w H (.vptr cs 0) (.pointer (some ⟨g,0,none⟩)))
  (hcs:cs=zs.map fun z=> .int k z): ∀i z,zs[i]? =some z->w.cell? ⟨g,i,none⟩=some (.int k z):=by
 simp only[Rel] at h;obtain⟨b,o,xs,e,hc,hr⟩:=h;simp only[Value.pointer.injEq,Option.some.injEq,Addr.mk.injEq,Nat.add_zero,and_true] at e;obtain⟨rfl,rfl⟩:=e;intro i z hz;have h1:cs[i]? =some (.int k z):=by rw[hcs];simp [hz]
 obtain⟨y,hy,hrel⟩:=hr.get h1;simp only[Rel] at hrel;subst hrel;have:=hc.holds i _ hy;simpa using this
end
section
end
end Go.Dl

-- General plain laws: cells of lists of structs, positions, texts of integers, pieces.
namespace Go.Dl
open Go Go.Proofs
set_option maxRecDepth 10000
section
variable {α:Type} {c:α->List DVal} {k:Nat}
theorem Al (hk: ∀x,(c x).length=k) (l:List α):(l.flatMap c).length=l.length*k:=by
 induction l with
 | nil=>simp
 | cons x l ih=>simp [List.flatMap_cons,ih,hk,Nat.add_mul];omega
theorem Bj8 (hk: ∀x,(c x).length=k): ∀(l:List α) (i:Nat),(l.flatMap c).drop (i*k)=(l.drop i).flatMap c
 | l,0=>by simp
 | [],i+1=>by simp
 | x::l,i+1=>by
  rw[List.flatMap_cons,show(i+1)*k=(c x).length+i*k by rw[hk,Nat.add_mul];omega,List.drop_append,jE,<-Bj8 hk l i];simp
theorem Bu (hk: ∀x,(c x).length=k) (l:List α) (i:Nat) (h:i<l.length):((l.flatMap c).drop (i*k)).take k=c l[i]:=by
 rw[Bj8 hk,List.drop_eq_getElem_cons h,List.flatMap_cons,List.take_append_of_le_length (by rw[hk];omega),List.take_of_length_le (by rw[hk];omega)]
theorem Ck (hk: ∀x,(c x).length=k) (l:List α) (i:Nat) (h:i<l.length) (j:Nat) (hj:j<k):(l.flatMap c)[i*k+j]? =(c l[i])[j]? :=by
 rw[<-Bu hk l i h,List.getElem?_take,if_pos hj,List.getElem?_drop]
end
def As3 {α:Type} (p:α->Bool) (l:List α):Int:=match l.findIdx? p with | some i=>(i:Int) | none=> -1
theorem Yl {α:Type} {p:α->Bool} {l:List α} {i:Nat} (h:i<l.length) (hp:p l[i]=true) (hn: ∀x∈l.take i,p x=false):As3 p l=i:=by
 have:l.findIdx? p=some i:=by
  rw[List.findIdx?_eq_some_iff_getElem];exact⟨h,hp,fun j hj=>by have:=hn l[j] (List.mem_take_iff_getElem.2 ⟨j,by omega,rfl⟩);simp [this]⟩
 rw[As3,this]
theorem Ym {α:Type} {p:α->Bool} {l:List α} (hn: ∀x∈l,p x=false):As3 p l= -1:=by
 have:l.findIdx? p=none:=by rw[List.findIdx?_eq_none_iff];intro x hx;rw[hn x hx]
 rw[As3,this]
theorem Tt {α:Type} (p:α->Bool) (l:List α):decide (0<=As3 p l)=l.any p:=by
 unfold As3;cases h:l.findIdx? p with
 | some i=>
  obtain⟨h1,h2,_⟩:=List.findIdx?_eq_some_iff_getElem.1 h;have:l.any p=true:=List.any_eq_true.2 ⟨_,List.getElem_mem h1,h2⟩;rw[this];simp
 | none=>
  rw[List.findIdx?_eq_none_iff] at h;have:l.any p=false:=by rw[List.any_eq_false];intro x hx;rw[h x hx];simp
  rw[this];rfl
theorem Kv {α:Type} {p:α->Prop} {l:List α} {i:Nat} (h:i<l.length) (hn: ∀x∈l.take i,p x) (hx:p l[i]): ∀x∈l.take (i+1),p x:=by
 intro x hm;rw[List.take_succ_eq_append_getElem h,List.mem_append,List.mem_singleton] at hm;rcases hm with hm | rfl
 ·exact hn x hm
 ·exact hx
theorem Cd8 {c d:UInt8} (h:c≠d): ¬(c.toNat:Int)=(d.toNat:Int):=fun e=>h (UInt8.toNat_inj.1 (by omega))
def Ao7 (l:List (List UInt8)):DVal:= .vslice (l.map .str) l.length
end Go.Dl

-- Rows of the call's own: a list of lists of ints, each in a block of its own.
namespace Go.Dl
open Go
def loose:DVal->Bool
 | .bool _ | .int _ _ | .str _ | .nilPtr | .nilSlice | .nilMap | .nilFunc | .nilIface=>true
 | .optr _ _ | .oslice _ _ _ _ _ | .omap _=>true
 | .tuple l=>looses l
 | .agg l=>looses l
 | _=>false
where looses:List DVal->Bool
 | []=>true
 | d::ds=>loose d&&looses ds
mutual
theorem Yn {w:World} {H H':Ab}: ∀(d:DVal) (v:Value),loose d=true->Rel w H d v->Rel w H' d v
 | .tuple l,v,hp,h=>by
  simp only[loose] at hp
  simp only[Rel] at h⊢
  obtain⟨x,rfl,h1⟩:=h
  exact⟨x,rfl,Vc _ _ hp h1⟩
 | .agg l,v,hp,h=>by
  simp only[loose] at hp
  simp only[Rel] at h⊢
  obtain⟨x,rfl,h1⟩:=h
  exact⟨x,rfl,Vc _ _ hp h1⟩
 | .bool x,v,hp,h=>by simpa [Rel] using h
 | .int x y,v,hp,h=>by simpa [Rel] using h
 | .str x,v,hp,h=>by simpa [Rel] using h
 | .nilPtr,v,hp,h=>by simpa [Rel] using h
 | .nilSlice,v,hp,h=>by simpa [Rel] using h
 | .nilMap,v,hp,h=>by simpa [Rel] using h
 | .nilFunc,v,hp,h=>by simpa [Rel] using h
 | .nilIface,v,hp,h=>by simpa [Rel] using h
 | .optr _ _,v,hp,h=>by simpa [Rel] using h
 | .oslice _ _ _ _ _,v,hp,h=>by simpa [Rel] using h
 | .omap _,v,hp,h=>by simpa [Rel] using h
 | .raw _,_,hp,_=>by cases hp
 | .vptr _ _,_,hp,_=>by cases hp
 | .vslice _ _,_,hp,_=>by cases hp
 | .func _ _ _,_,hp,_=>by cases hp
 | .iface _ _,_,hp,_=>by cases hp
theorem Vc {w:World} {H H':Ab}: ∀(ds:List DVal) (vs:List Value),loose.looses ds=true->Be w H ds vs->Be w H' ds vs
 | [],_,_,h=>by simpa [Be] using h
 | d::ds,vs,hp,h=>by
  simp only[loose.looses,jF] at hp
  simp only[Be] at h⊢
  obtain⟨y,ys,rfl,h1,h2⟩:=h
  exact⟨y,ys,rfl,Yn d y hp.1 h1,Vc ds ys hp.2 h2⟩
end
theorem Cr3 {l:List DVal}:loose.looses l=true↔ ∀d∈l,loose d=true:=by
 induction l with
 | nil=>simp [loose.looses]
 | cons d l ih=>simp [loose.looses,ih]
def Bs6:DObj->Bool
 | .cells cs _=>loose.looses cs
 | .map es=>es.all fun p=>loose p.1&&loose p.2
 | .loop _ _ _=>false
 | .iter _ _=>true
def Cd9 (H H':Ab):Prop:= ∀r o,H' r=some o->H r=some o\/Bs6 o=true
theorem Cd9.refl (H:Ab):Cd9 H H:=fun _ _ h=> .inl h
theorem Cd9.upd {H H':Ab} (h:Cd9 H H') {r:Nat} {o:DObj} (ho:Bs6 o=true):Cd9 H (upd H' r (some o)):=fun b p hb=>by
 simp only[Dl.upd] at hb;split at hb
 ·cases hb;exact .inr ho
 ·exact h b p hb
end Go.Dl

-- THE DATA LEVEL, PART J: slices that are built up beside other memory of the call's own that nobody asks for any more.
namespace Go.Dl
open Go Go.RowKit
theorem Ce0 (H:Ab) (w:World):Lasts H w h0 w:=Di (fun r o h=>by cases h) w
def Sub (H H':Ab):Prop:= ∀r o,H r=some o->H' r=some o
theorem Sub.refl (H:Ab):Sub H H:=fun _ _ h=>h
theorem Sub.trans {H H' H'':Ab} (h:Sub H H') (k:Sub H' H''):Sub H H'':=fun r o x=>k r o (h r o x)
theorem Sub.lo {H H':Ab} (h:Sub H H') {r:Nat} (hr:H' r=none):H r=none:=by
 cases e:H r with
 | none=>rfl
 | some o=>rw[h r o e] at hr;cases hr
theorem Sub.up {H H':Ab} (h:Sub H H') {r:Nat} (hr:H r=none) (x:Option DObj):Sub H (upd H' r x):=fun b o hb=>by
 have:b≠r:=fun e=>by rw[e,hr] at hb;cases hb
 simp only[upd,if_neg this];exact h b o hb
theorem Sub.new {H H':Ab} (h:Sub H H') {r:Nat} (hr:H' r=none) (x:Option DObj):Sub H (upd H' r x):=h.up (h.lo hr) x
theorem Sub.both {H H':Ab} (h:Sub H H') (r:Nat) (x:Option DObj):Sub (upd H r x) (upd H' r x):=fun b o hb=>by
 simp only[upd] at hb⊢;split<;>rename_i e
 ·rwa [if_pos e] at hb
 ·rw[if_neg e] at hb;exact h b o hb
def Df (H:Ab) (e:TypeId) (size n:Nat) (cs:List DVal) (v:DVal) (H':Ab):Prop:=
 (n=0/\cs= []/\v= .nilSlice/\Sub H H')\/ ∃r,H r=none/\cs.length=n*size/\v= .oslice size r 0 n n/\H' r=some (.cells cs e)/\Sub H H'
section
variable {P:Program} {G:Nat->DVal} {H H':Ab} {e:TypeId} {size n:Nat} {cs:List DVal} {v:DVal}
theorem Df.nil (e:TypeId) (size:Nat) (h:Sub H H'):Df H e size 0 [] .nilSlice H':= .inl ⟨rfl,rfl,rfl,h⟩
theorem Df.sub (h:Df H e size n cs v H'):Sub H H':=by
 rcases h with⟨_,_,_,h⟩ | ⟨_,_,_,_,_,h⟩<;>exact h
theorem Df.keep (h:Df H e size n cs v H') {r:Nat} {o:DObj} (hr:H r=some o):H' r=some o:=h.sub r o hr
theorem Df.more (h:Df H e size n cs v H') {H2:Ab} (k:Sub H' H2):Df H e size n cs v H2:=by
 rcases h with⟨a,b,c,d⟩ | ⟨r,a,b,c,d,f⟩
 ·exact .inl ⟨a,b,c,d.trans k⟩
 ·exact .inr ⟨r,a,b,c,k _ _ d,f.trans k⟩
theorem Df.new (h:Df H e size n cs v H') {r:Nat} (hr:H' r=none) (x:Option DObj):Df H e size n cs v (upd H' r x):=h.more ((Sub.refl H').up hr x)
theorem Df.less (h:Df H e size n cs v H') {H1:Ab} (k:Sub H1 H):Df H1 e size n cs v H':=by
 rcases h with⟨a,b,c,d⟩ | ⟨r,a,b,c,d,f⟩
 ·exact .inl ⟨a,b,c,k.trans d⟩
 ·exact .inr ⟨r,k.lo a,b,c,d,k.trans f⟩
theorem Df.frame (h:Df H e size n cs v H') {r:Nat} (hr:H' r=none) (o:DObj):Df (upd H r (some o)) e size n cs v (upd H' r (some o)):=by
 rcases h with⟨a,b,c,d⟩ | ⟨r0,a,b,c,d,f⟩
 ·exact .inl ⟨a,b,c,d.both _ _⟩
 ·have:r0≠r:=fun e=>by rw[e,hr] at d;cases d
  exact .inr ⟨r0,by simp [upd,this,a],b,c,by simp [upd,this,d],f.both _ _⟩
theorem Df.exact (h:Df H e size n cs v H'): ∃H1,Dl6 H e size n cs v H1/\Sub H1 H':=by
 rcases h with⟨a,b,c,d⟩ | ⟨r,a,b,c,d,f⟩
 ·exact⟨H, .inl ⟨a,b,c,rfl⟩,d⟩
 ·refine⟨_, .inr ⟨r,a,b,c,rfl⟩,fun k o hk=> ?_⟩;simp only[upd] at hk;split at hk
  ·rename_i e;subst e;cases hk;exact d
  ·exact f k o hk
theorem Df.append {m bytes:Nat} {news:List DVal} {dst:Option Nat} {K:DK} {env:Nat->DVal} (hv:Df H e size n cs v H') (hm:news.length=m*size) (hb:(n+m)*bytes<=35184372088832)
  (hK: ∀v' H2,Df H e size (n+m) (cs++news) v' H2->K ⟨Gr env dst v',H2⟩):Kq e size bytes m news dst v K ⟨env,H'⟩:=by
 rcases hv with⟨rfl,rfl,rfl,hs⟩ | ⟨r,hr,hl,rfl,hc,hs⟩
 ·simp only[Kq];refine⟨fun h0=> ?_,fun h0=>⟨by simpa using hb,fun r hr=> ?_⟩⟩
  ·subst h0;have:news= []:=List.length_eq_zero_iff.1 (by omega);subst this;exact hK _ _ (.inl ⟨rfl,rfl,rfl,hs⟩)
  ·refine hK _ _ (.inr ⟨r,hs.lo hr,by simpa using hm,by simp,by rw[jG];exact Ac _ _ _,hs.new hr _⟩)
 ·simp only[Kq,true_and];rw[hc];by_cases h0:m=0
  ·subst h0;have:news= []:=List.length_eq_zero_iff.1 (by omega);subst this;rw[Ao6 (by omega)];refine⟨by simp [hl], ?_⟩;have:=hK (.oslice size r 0 (n+0) n) H' (.inr ⟨r,hr,by simpa using hl,by simp,by simpa using hc,hs⟩);simp only[splice,jB,jH,Nat.add_zero,List.take_append_drop];rw[Rd hc];simpa using this
  ·rw[Ae2 (by omega) (by omega)];refine⟨by omega,hb,fun r' hr'=> ?_⟩;dsimp only at hr'⊢
   by_cases e1:r'=r
   ·subst e1;refine hK _ _ (.inr ⟨r',hr, ?_,rfl, ?_, ?_⟩)
    ·simp [hl,hm,Nat.add_mul]
    ·rw[Ac,List.take_of_length_le (by omega)]
    ·exact(hs.up hr _).up hr _
   ·have hr2:H' r'=none:=by simpa [upd,e1] using hr'
    refine hK _ _ (.inr ⟨r',hs.lo hr2, ?_,rfl, ?_, ?_⟩)
    ·simp [hl,hm,Nat.add_mul]
    ·rw[Ac,List.take_of_length_le (by omega)]
    ·exact(hs.up hr _).up (hs.lo hr2) _
theorem Df.appendO {r m bytes:Nat} {news:List DVal} {dst:Option Nat} {K:DK} {env:Nat->DVal} (hv:Df H e size n cs (.oslice size r 0 n n) H') (hm:news.length=m*size) (hb:(n+m)*bytes<=35184372088832)
  (hK: ∀v' H2,Df H e size (n+m) (cs++news) v' H2->K ⟨Gr env dst v',H2⟩):Ni e size bytes r 0 n n m news dst K ⟨env,H'⟩ (some (.cells cs e)):=by
 have h:=Df.append hv hm hb hK;have hc:H' r=some (.cells cs e):=by
  rcases hv with⟨_,_,h,_⟩ | ⟨r',_,_,h,hc,_⟩
  ·cases h
  ·cases h;exact hc
 simp only[Kq,true_and,hc] at h;exact h
theorem Df.ghost (hv:Df H e size n cs v H'):Ok H' v H (.vslice cs n):=by
 obtain⟨H1,h1,h2⟩:=hv.exact;exact(Ok.sub h2 v).trans h1.ghost
theorem Df.fin {R:DEnd->Ab->Prop} (hv:Df H e size n cs v H') (h:R (.ret (.vslice cs n)) H):Wj R v H':= .ghost hv.ghost (.refl h)
theorem Ae.frozenJ {f:FuncId} {args:List DVal} (h:Ae P G f args H fun x H'=> ∃v,x= .ret v/\Df H e size n cs v H'):Ae P G f args H (Ba (.vslice cs n) H):=
 h.ghost fun x H' ⟨v,h1,h2⟩=>⟨v,_,H,h1,h2.ghost,rfl,rfl⟩
theorem Df.cell1 (h:Df H e size n cs v H'):v.cells= [v]/\v.one=true:=by
 rcases h with⟨_,_,rfl,_⟩ | ⟨_,_,_,rfl,_⟩<;>exact⟨rfl,rfl⟩
end
end Go.Dl

-- THE DATA LEVEL, PART K: the frame of a call: what a callee makes with no memory of the caller's at hand, it makes beside it.
namespace Go.Dl
open Go
set_option maxRecDepth 10000
theorem Ae.frame {P:Program} {G:Nat->DVal} {f:FuncId} {args args':List DVal} {H:Ab} {R:DEnd->Ab->Prop} (h:Ae P G f args' h0 R)
  (hb: ∀w vs,Br w H->Be w H args vs->Be w h0 args' vs) (hR: ∀e X,R e X-> ∃v,e= .ret v/\loose v=true/\Cd9 h0 X):Ae P G f args H (fun e H'=> ∃X,R e X/\En7 H X/\H'=Bg7 H X):=by
 refine⟨h.1,fun vs w hv hH hg=> ?_⟩;have hg0:GOk G w h0:=hg.lasts (Ce0 H w);refine(h.2 vs w (hb w vs hH hv) (fun r o hr=>by cases hr) hg0).mono fun x w' ⟨e',X,r,k1,k2,k3⟩=> ?_;obtain⟨v,rfl,hl,hX⟩:=hR _ _ r;have hown: ∀b,X b≠none->w.heap.size<=b:=fun b hb=>(k3.own b hb).resolve_left (fun k=>k rfl);have hd:En7 H X:=fun b hb=>by
  cases e1:H b with
  | none=>rfl
  | some o=>have:=hH.lt (r:=b) (by simp [e1]);have:=hown b hb;omega
 have hE:Ext H w (Bg7 H X) w':=⟨k3.os,k3.tape,k3.output,k3.size,fun b hb _=>k3.block b hb rfl,fun b hb=>by
  by_cases e1:X b=none
  ·rw[Bs5 e1] at hb;exact .inl hb
  ·exact .inr (hown b e1),k3.keep,fun a ha _=>k3.fz a ha rfl⟩
 refine⟨.ret v,Bg7 H X,⟨X,r,hd,rfl⟩, ?_, ?_,hE⟩
 ·cases k1 with
  | ret d x hx=>exact .ret _ _ (Yn _ _ hl hx)
 ·intro b o ho;cases e1:X b with
  | none=>
   rw[Bs5 e1] at ho;rw[k3.block b (hH.lt (by simp [ho])) rfl];exact(hH b o ho).lasts hE.lasts
  | some o'=>
   rw[Dw7 e1] at ho;cases ho;have hlo:Bs6 o=true:=(hX b o e1).resolve_left (fun k=>by cases k);have hr:=k2 b o e1;cases o with
   | cells cs e=>
    obtain⟨xs,c,fz',h1,h2,h3,h4⟩:=hr;exact⟨xs,c,fz',h1,h2,Vc _ _ hlo h3,h4⟩
   | loop _ _ _=>cases hlo
   | iter _ _=>exact hr
   | map es=>
    obtain⟨ms,c,h1,h2⟩:=hr;refine⟨ms,c,h1, ?_⟩;simp only[Bs6,List.all_eq_true,jF] at hlo;clear h1 e1;generalize ms.toList=l at h2
    induction es generalizing l with
    | nil=>exact h2
    | cons p es ih=>
     obtain⟨m,ms',rfl,g1,g2,g3⟩:=h2;exact⟨m,ms',rfl,Yn _ _ (hlo p (by simp)).1 g1,Yn _ _ (hlo p (by simp)).2 g2,ih (fun q hq=>hlo q (List.mem_cons_of_mem _ hq)) _ g3⟩
theorem Ae.lent {P:Program} {G:Nat->DVal} {f:FuncId} {args args':List DVal} {H:Ab} {v:DVal} (h:Ae P G f args' h0 (Ba v h0))
  (hb: ∀w vs,Br w H->Be w H args vs->Be w h0 args' vs) (hv:loose v=true):Ae P G f args H (Ba v H):=
 (h.frame hb (fun e X hr=>⟨v,hr.1,hv,by rw[hr.2];exact .refl _⟩)).mono fun e H' ⟨X,hr,_,hH⟩=>⟨hr.1,by rw[hH,hr.2,Da7]⟩
end Go.Dl

-- Chapter 2: tokens: the plain laws, part 1: the words, the symbols, what a line yields.
namespace Go.Dl
open Go
set_option maxRecDepth 10000
def Bj9:List (List UInt8):= [[97,98,111,114,116],
 [97,98,115],
 [97,99,99,101,112,116],
 [97,99,99,101,115,115],
 [97,108,105,97,115,101,100],
 [97,108,108],
 [97,110,100],
 [97,114,114,97,121],
 [98,101,103,105,110],
 [98,111,100,121],
 [99,97,115,101],
 [99,111,110,115,116,97,110,116],
 [100,101,99,108,97,114,101],
 [100,101,108,97,121],
 [100,111],
 [101,108,115,101],
 [101,108,115,105,102],
 [101,110,100],
 [101,110,116,114,121],
 [101,120,99,101,112,116,105,111,110],
 [101,120,105,116],
 [102,111,114],
 [102,117,110,99,116,105,111,110],
 [103,101,110,101,114,105,99],
 [105,102],
 [105,110],
 [105,115],
 [108,105,109,105,116,101,100],
 [108,111,111,112],
 [109,111,100],
 [110,101,119],
 [110,111,116],
 [110,117,108,108],
 [111,102],
 [111,114],
 [111,116,104,101,114,115],
 [111,117,116],
 [112,97,99,107,97,103,101],
 [112,114,97,103,109,97],
 [112,114,105,118,97,116,101],
 [112,114,111,99,101,100,117,114,101],
 [112,114,111,116,101,99,116,101,100],
 [114,97,105,115,101],
 [114,97,110,103,101],
 [114,101,99,111,114,100],
 [114,101,109],
 [114,101,110,97,109,101,115],
 [114,101,113,117,101,117,101],
 [114,101,116,117,114,110],
 [114,101,118,101,114,115,101],
 [115,101,108,101,99,116],
 [115,101,112,97,114,97,116,101],
 [115,117,98,116,121,112,101],
 [116,97,115,107],
 [116,101,114,109,105,110,97,116,101],
 [116,104,101,110],
 [116,121,112,101],
 [117,110,116,105,108],
 [117,115,101],
 [119,104,101,110],
 [119,104,105,108,101],
 [119,105,116,104],
 [120,111,114]]
def Io (c:UInt8):Bool:=decide (65<=c.toNat)&&decide (c.toNat<=90) || decide (97<=c.toNat)&&decide (c.toNat<=122)
def Re (c:UInt8):Bool:=decide (48<=c.toNat)&&decide (c.toNat<=57)
def Ft (c:UInt8):Bool:=Io c || Re c || decide (c=95)
def Rf (s:List UInt8):List UInt8:=s.takeWhile Ft
def As4 (s:List UInt8):Bool:=decide (s∈Bj9)
def Lq (s:List UInt8):Bool:=(match s with | c::_=>Io c | []=>false)&&decide (s.length<=32)&&s.all Ft&&!As4 s
structure Tok where
 kind:Int
 line:Int
 text:List UInt8
 n:Int
 deriving DecidableEq,Inhabited
def Fw1:Tok:=⟨0,0,[],0⟩
end Go.Dl

-- Chapter 2: tokens: the plain laws, part 2: lines, errors; comments and joined texts.
namespace Go.Dl
open Go
set_option maxRecDepth 10000
theorem Eb1 (s r:List UInt8) (c:UInt8) (hc:Ft c=false):Rf (s++c::r)=Rf s:=by
 unfold Rf;rw[List.takeWhile_append];split
 ·rename_i h
  have:s.takeWhile Ft=s:=(List.takeWhile_prefix Ft).eq_of_length h;rw[this];simp [hc]
 ·rfl
end Go.Dl

-- Chapter 2: tokens: the plain laws, part 3: the text of tokens, and the tokens of that text.
namespace Go.Dl
open Go
set_option maxRecDepth 10000
theorem Ce1 {c:UInt8} (h:Io c=true):Ft c=true:=by simp [Ft,h]
theorem Cr4 {c:UInt8} (h:Re c=true):Ft c=true:=by simp [Ft,h]
theorem Ay7: ∀w:List UInt8,w.all Ft=true->Rf w=w
 | [],_=>rfl
 | c::w,h=>by
  rw[List.all_cons,jF] at h;show List.takeWhile Ft (c::w)=_;rw[List.takeWhile_cons,h.1];have:=Ay7 w h.2;unfold Rf at this;simp [this]
end Go.Dl

-- Chapter 2: tokens: the plain laws, part 4: the tokens of the text of tokens.
namespace Go.Dl
open Go
set_option maxRecDepth 10000
theorem Dm5 {c:UInt8} (h:Ft c=true):33<=c.toNat/\c.toNat<=126:=by
 have hu:c=95->c.toNat=95:=fun e=>by rw[e];rfl
 unfold Ft Io Re at h;simp only[Bool.or_eq_true,jF,decide_eq_true_eq] at h;rcases h with((h | h) | h) | h
 ·omega
 ·omega
 ·omega
 ·have:=hu h;omega
end Go.Dl
