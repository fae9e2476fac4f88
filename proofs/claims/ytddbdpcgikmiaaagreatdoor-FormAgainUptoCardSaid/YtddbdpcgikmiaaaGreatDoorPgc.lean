/- The data level and the contracts of the functions that are reached (part 3). -/
import Derived.Orders
import Derived.Test.YtddbdpcgikmiaaaGreatDoorProg
import Derived.KernelRfl
import Derived.Lib.ItoaMem
import Derived.Lib.ConvBytes
import Derived.Lib.LaidTab
import Derived.Lib.ItoaLen
import Derived.Lib.ParseIntBTie
import Derived.Test.YtddbdpcgikmiaaaGreatDoorPgb
set_option linter.unusedSimpArgs false
set_option linter.unusedVariables false
set_option linter.unusedSectionVars false
-- Dy
namespace Go.Dl
open Go
def EVF (dst:Option Nat) (F:DK->DS->Prop):Prop:=
 ∀K s,F K s-> ∃d,Cb dst d K s/\ ∀K' s',Cb dst d K' s'->F K' s'
theorem Ku (dst:Option Nat) (d:DVal):EVF dst (Cb dst d):=fun K s h=>⟨d,h,fun K' s' h'=>h'⟩
theorem Mv (dst:Option Nat) {F:DK->DS->Prop} (h: ∀K s,¬F K s):EVF dst F:=fun K s hf=>(h K s hf).elim
theorem Cp {dst:Option Nat} {p:Prop} {F:DK->DS->Prop} (h:EVF dst F):EVF dst (fun K s=>p/\F K s):=fun K s ⟨hp,hf⟩=>by
 obtain⟨d,h1,h2⟩:=h K s hf;exact⟨d,h1,fun K' s' h'=>⟨hp,h2 K' s' h'⟩⟩
theorem Ns (dst:Option Nat) (o:Option DVal):EVF dst (Wi dst o):=by
 cases o with
 | none=>exact Mv _ fun K s h=>h
 | some d=>exact Ku dst d
theorem Fn4 (dst:Option Nat) (c a b:DVal):EVF dst (Co0 dst c a b):=by
 intro K s h;revert h;unfold Co0;split
 ·intro h;exact⟨_,h,fun _ _ h'=>h'⟩
 ·intro h;exact h.elim
theorem Er3 (P:Program) (dst:Option Nat) (b:Bool) (t:Option TypeDesc) (z:Option DVal) (C:List (Nat×DVal)):EVF dst (Ce6 P dst b t z C):=by
 intro K s h;revert h;unfold Ce6;split
 ·intro h;exact Ns _ _ K s h
 ·intro h;exact Ns _ _ K s h
 ·intro h;exact h.elim
theorem Cr4 (size:Nat) (dst:Option Nat) (C:Option Bool) (cs:List DVal) (off:Nat):EVF dst (Bi3 size dst C cs off):=by
 intro K s h;revert h;unfold Bi3;split
 ·intro h;exact Cp (Ku _ _) K s h
 ·intro h;exact Ns _ _ K s h
 ·intro h;exact h.elim
theorem Er4 (size:Nat) (C:Option Bool) (dst:Option Nat) (off:Nat) (o:Option DObj):EVF dst (Ce7 size C dst off o):=by
 intro K s h;revert h;unfold Ce7;split
 ·intro h;exact Cr4 _ _ _ _ _ K s h
 ·intro h;exact h.elim
theorem Fn5 (size:Nat) (C:Option Bool) (dst:Option Nat) (v:DVal) (K:DK) (s:DS) (h:By1 size C dst v K s):
  ∃d,Cb dst d K s/\ ∀K' s',(∀r off,v= .optr r off->s'.heap r=s.heap r)->Cb dst d K' s'->By1 size C dst v K' s':=by
 unfold By1 at h;split at h<;>try exact h.elim
 ·obtain⟨d,h1,h2⟩:=Cr4 _ _ _ _ _ K s h;exact⟨d,h1,fun K' s' _ h'=>h2 K' s' h'⟩
 ·rename_i r off
  obtain⟨d,h1,h2⟩:=Er4 _ _ _ _ _ K s h;exact⟨d,h1,fun K' s' hk h'=>by show Ce7 _ _ _ _ (s'.heap r) K' s';rw[hk r off rfl];exact h2 K' s' h'⟩
theorem Cr5 (dst:Option Nat) (v:DVal):EVF dst (Ae5 dst v):=by
 intro K s h;revert h;unfold Ae5;split<;>intro h<;>first | exact h.elim | exact⟨_,h,fun _ _ h'=>h'⟩
theorem Dh1 (dst:Option Nat) (o b:Option Bool):EVF dst (Tl dst o b):=by
 intro K s h;revert h;unfold Tl;split<;>intro h<;>first | exact h.elim | exact⟨_,h,fun _ _ h'=>h'⟩
theorem Ed3 (k:IntKind) (a b:Int) (dst:Option Nat) (op:BinOp):EVF dst (fun K s=>Bf9 k a b dst K s op):=by
 intro K s h;revert h;unfold Bf9;split<;>intro h<;>first | exact h.elim | exact⟨_,h,fun _ _ h'=>h'⟩ | exact⟨_,h.2,fun _ _ h'=>⟨h.1,h'⟩⟩
theorem Er5 (k:IntKind) (a b:Int) (dst:Option Nat) (op:BinOp):EVF dst (fun K s=>Ce9 k a b dst K s op):=by
 intro K s h;revert h;unfold Ce9;split<;>intro h<;>first | exact h.elim | exact⟨_,h,fun _ _ h'=>h'⟩ | exact⟨_,h.2,fun _ _ h'=>⟨h.1,h'⟩⟩
theorem Ed4 (a b:List UInt8) (dst:Option Nat) (op:BinOp):EVF dst (fun K s=>An2 a b dst K s op):=by
 intro K s h;revert h;unfold An2;split<;>intro h<;>first | exact h.elim | exact⟨_,h,fun _ _ h'=>h'⟩ | exact⟨_,h.2,fun _ _ h'=>⟨h.1,h'⟩⟩
theorem Fn6 (op:BinOp) (k k':IntKind) (a b:Int) (dst:Option Nat) (x:Bool):EVF dst (fun K s=>Dq9 op k k' a b dst K s x):=by
 cases x
 ·exact Cp (Ed3 k a b dst op)
 ·exact Er5 k a b dst op
theorem Er6 (P:Program) (t:TypeId) (c:Bool) (op:BinOp) (dst:Option Nat) (x y:DVal):EVF dst (Rx P t c op dst x y):=by
 intro K s h;revert h;unfold Rx;split
 ·intro h;exact Fn6 _ _ _ _ _ _ _ K s h
 ·intro h;exact Ed4 _ _ _ _ K s h
 ·intro h;exact Cp (Cp (Dh1 _ _ _)) K s h
 ·intro h;exact Dh1 _ _ _ K s h
theorem Gr4 (dst:Option Nat) (op:UnOp) (x:DVal):EVF dst (dUn dst op x):=by
 intro K s h;revert h;unfold dUn;split<;>intro h<;>first | exact h.elim | exact⟨_,h,fun _ _ h'=>h'⟩
theorem Dh2 (dst:Option Nat) (a b:Option TypeDesc) (x:DVal):EVF dst (An3 dst a b x):=by
 intro K s h;revert h;unfold An3;split<;>intro h<;>first | exact h.elim | exact⟨_,h,fun _ _ h'=>h'⟩
theorem Ch7 (t:TypeId) (x:DVal) (dst:Option Nat) (b:Bool):EVF dst (Xh t x dst b):=by
 intro K s h;revert h;unfold Xh;split<;>intro h<;>first | exact h.elim | exact⟨_,h,fun _ _ h'=>h'⟩
theorem Cr6 (l:List UInt8) (dst:Option Nat) (a b:Option Int):EVF dst (fun K s=>Av4 l dst K s a b):=by
 cases a<;>cases b<;>first | exact Mv _ (fun K s h=>h) | exact Cp (Cp (Cp (Ku _ _)))
theorem Bz0 (size:Nat) (cs:List DVal) (len:Nat) (dst:Option Nat) (a b:Option Int):EVF dst (fun K s=>An4 size cs len dst K s a b):=by
 cases a<;>cases b<;>first | exact Mv _ (fun K s h=>h) | exact Cp (Cp (Cp (Ku _ _)))
theorem Aw9 (size r off cap:Nat) (dst:Option Nat) (a b c:Option Int):EVF dst (fun K s=>Xj size r off cap dst K s a b c):=by
 cases a<;>cases b<;>cases c<;>first | exact Mv _ (fun K s h=>h) | exact Cp (Cp (Cp (Cp (Ku _ _))))
theorem Ed5 (dst:Option Nat) (a b:Option Int):EVF dst (fun K s=>Cf1 dst K s a b):=by
 cases a<;>cases b<;>first | exact Mv _ (fun K s h=>h) | exact Cp (Cp (Ku _ _))
theorem Er7 (P:Program) (lo hi:Option DVal) (dst:Option Nat) (t:Option TypeDesc) (v:DVal) (m:Option DVal) (K:DK) (s:DS) (h:Av5 P lo hi dst t v m K s):
  ∃d,Cb dst d K s/\ ∀K' s',(∀r off,v= .optr r off->s'.heap r=s.heap r)->Cb dst d K' s'->Av5 P lo hi dst t v m K' s':=by
 have C: ∀ {F:DK->DS->Prop},EVF dst F->F K s-> ∃d,Cb dst d K s/\ ∀K' s',(∀r off,v= .optr r off->s'.heap r=s.heap r)->Cb dst d K' s'->F K' s':=by
  intro F D hf;obtain⟨d,h1,h2⟩:=D K s hf;exact⟨d,h1,fun K' s' _ h'=>h2 K' s' h'⟩
 unfold Av5 at h;split at h<;>try exact h.elim
 ·exact C (Cr6 _ _ _ _) h
 ·exact C (Cp (Ed5 _ _ _)) h
 ·exact C (Cp (Bz0 _ _ _ _ _ _)) h
 ·exact C (Cp (Cp (Aw9 _ _ _ _ _ _ _ _))) h
 ·exact C (Cp (Cp (Cp (Aw9 _ _ _ _ _ _ _ _)))) h
 ·rename_i n e r off
  obtain⟨h1,h2,h3⟩:=h;obtain⟨d,h4,h5⟩:=Aw9 _ _ _ _ _ _ _ _ K s h3;exact⟨d,h4,fun K' s' hk h'=>⟨h1,by rw[hk r off rfl];exact h2,h5 K' s' h'⟩⟩
 ·exact C (Cp (Cp (Bz0 _ _ _ _ _ _))) h
theorem Bw9 (P:Program) (x:DVal) (dst:Option Nat) (f:Option Field):EVF dst (Bb4 P x dst f):=by
 cases f with
 | none=>exact Mv _ (fun K s h=>h)
 | some f=>exact Cp (Ns _ _)
theorem Ch8 (P:Program) (f:Nat) (x:DVal) (dst:Option Nat) (t:Option TypeDesc):EVF dst (Tn P f x dst t):=by
 intro K s h;revert h;unfold Tn;split
 ·intro h;exact Bw9 _ _ _ _ K s h
 ·intro h;exact h.elim
theorem Ds3 (size:Nat) (cs:List DVal) (off:Nat) (dst:Option Nat) (b:Option Bool):EVF dst (Co3 size cs off dst b):=by
 intro K s h;revert h;unfold Co3;split
 ·intro h;exact Ku _ _ K s h
 ·intro h;exact Ns _ _ K s h
 ·intro h;exact h.elim
theorem Ed6 (P:Program) (cs:List DVal) (dst:Option Nat) (f:Option Field):EVF dst (Dr2 P cs dst f):=by
 cases f with
 | none=>exact Mv _ (fun K s h=>h)
 | some f=>exact Ds3 _ _ _ _ _
theorem Er8 (P:Program) (f:Nat) (dst:Option Nat) (t:Option TypeDesc) (x:DVal):EVF dst (Bi4 P f dst t x):=by
 intro K s h;revert h;unfold Bi4;split
 ·intro h;exact Ed6 _ _ _ _ K s h
 ·intro h;exact h.elim
theorem Ch9 (P:Program) (dst:Option Nat) (t:Option TypeDesc) (x i:DVal):EVF dst (To P dst t x i):=by
 intro K s h;revert h;unfold To;split
 ·intro h;exact Cp (Cp (Cp (Cp (Ku _ _)))) K s h
 ·intro h;exact Cp (Cp (Cp (Ku _ _))) K s h
 ·intro h;exact Cp (Cp (Cp (Ns _ _))) K s h
 ·intro h;exact h.elim
theorem Er9 (P:Program) (dst:Option Nat) (t:Option TypeDesc) (x i:DVal):EVF dst (Bi5 P dst t x i):=by
 intro K s h;revert h;unfold Bi5;split
 ·intro h;exact Cp (Cp (Ds3 _ _ _ _ _)) K s h
 ·intro h;exact Cp (Ns _ _) K s h
 ·intro h;exact h.elim
theorem Dh3 (i:Nat) (dst:Option Nat) (x:DVal):EVF dst (An5 i dst x):=by
 intro K s h;revert h;unfold An5;split
 ·intro h;exact Ns _ _ K s h
 ·intro h;exact h.elim
theorem Bk9 (dst:Option Nat) (z:Option DVal):EVF dst (Bi6 dst z):=by
 cases z with
 | none=>exact Mv _ (fun K s h=>h)
 | some z=>exact Ku _ _
theorem Cr7 (v:DVal) (z:Option DVal) (dst:Option Nat) (a b:Bool):EVF dst (Av6 v z dst a b):=by
 cases a<;>cases b
 ·exact Mv _ (fun K s h=>h)
 ·exact Ku _ _
 ·exact Bk9 _ _
 ·exact Ku _ _
theorem Bx0 (P:Program) (t:TypeId) (ok:Bool) (dst:Option Nat) (b:Bool) (x:DVal):EVF dst (Rm P t ok dst b x):=by
 intro K s h;revert h;unfold Rm;split
 ·intro h;exact Cr7 _ _ _ _ _ K s h
 ·intro h;exact Cp (Bk9 _ _) K s h
 ·intro h;exact h.elim
theorem Gg5 (dst:Option Nat) (t:Option TypeDesc) (x:DVal):EVF dst (dLen dst t x):=by
 intro K s h;revert h;unfold dLen;split<;>intro h<;>first | exact h.elim | exact⟨_,h,fun _ _ h'=>h'⟩
theorem Es0 (P:Program) (x:DVal) (dst:Option Nat) (ts:List TypeId):EVF dst (Dd1 P x dst ts):=by
 intro K s h;revert h;unfold Dd1;split
 ·intro h;exact Gg5 _ _ _ K s h
 ·intro h;exact h.elim
def Ve:Op->Bool
 | .move _ | .assign _ | .pick _ _ _ | .build _ _ | .load _ _ | .nilCheck _ | .unOp _ _ _ | .convert _ _ _ | .makeInterface _ _ | .makeFunc _ _ _
 | .slice _ _ _ _ _ | .fieldAddr _ _ _ | .field _ _ _ | .indexAddr _ _ _ | .index _ _ _ | .typeAssert _ _ _ _ | .extract _ _=>true
 | .binOp _ _ _ y _=>!Kj y
 | .call c=>match c.callee with
  | .builtin .len | .builtin .min | .builtin .max=>true
  | _=>false
 | _=>false
def Ci0:Op->Option Operand
 | .load _ a=>some a
 | .slice _ x _ _ _=>some x
 | .convert _ _ x=>some x
 | _=>none
def Nk (H H':Ac):DVal->Prop
 | .optr r _=>H' r=H r
 | .oslice _ r _ _ _=>H' r=H r
 | _=>True
theorem Kp {H:Ac} {v:DVal}:Nk H H v:=by
 unfold Nk;split<;>trivial
theorem Nk.ptr {H H':Ac} {d:DVal} (h:Nk H H' d): ∀r off,d= .optr r off->H' r=H r:=fun r off e=>by subst e;exact h
def Cr8 (G:Nat->DVal) (s s':DS) (op:Op):Prop:= ∀a,Ci0 op=some a->Nk s.heap s'.heap (dev G s.env a)
theorem Cr9 {H H':Ac} {x:DVal} (h:Nk H H' x):Ai9 H' x=Ai9 H x:=by
 unfold Ai9;split<;>try rfl
 simp only[Nk] at h;rw[h]
theorem Es1 (P:Program) (dst:Option Nat) (a b:Option TypeDesc) (x:DVal) (K:DK) (s:DS) (h:Zt P dst a b x K s):
  ∃d,Cb dst d K s/\ ∀K' s',Nk s.heap s'.heap x->Cb dst d K' s'->Zt P dst a b x K' s':=by
 revert h;unfold Zt;split
 ·rintro⟨h1,h⟩;cases hb:(Ai9 s.heap x).bind Zs with
  | none=>rw[hb] at h;exact h.elim
  | some l=>
   rw[hb] at h;exact⟨_,h,fun K' s' hk h'=>⟨h1,by rw[Cr9 hk,hb];exact h'⟩⟩
 ·intro h;obtain⟨d,h1,h2⟩:=Dh2 _ _ _ _ K s h;exact⟨d,h1,fun K' s' _ h'=>h2 K' s' h'⟩
theorem Tt {G:Nat->DVal} {env C:Nat->DVal}: ∀ {xs:List Operand},(∀x∈xs,dev G C x=dev G env x)->Hh G C xs=Hh G env xs
 | [],_=>rfl
 | x::xs,h=>by
  simp only[Hh];rw[h x (by simp),Tt fun y D=>h y (by simp [D])]
theorem Xr {G:Nat->DVal} {env C:Nat->DVal}: ∀ {xs:List (Nat×Operand)},(∀x∈xs.map (·.2),dev G C x=dev G env x)->Ni G C xs=Ni G env xs
 | [],_=>rfl
 | (i,x)::xs,h=>by
  simp only[Ni];rw[h x (by simp),Xr fun y D=>h y (by simp at D⊢;exact .inr D)]
theorem Xs {G:Nat->DVal} {env C:Nat->DVal} {x:Option Operand} (h: ∀y∈x.toArray,dev G C y=dev G env y):Ry G C x=Ry G env x:=by
 cases x with
 | none=>rfl
 | some x=>simp only[Ry];rw[h x (by simp)]
def Vf (all:List Oper) (env:Nat->DVal) (o:Oper):Option Bool:=
 match o.guard with
 | none=>some true
 | some (j,b)=>match Uy all j with
  | some g=>match env g with
   | .bool v=>some (v==b)
   | .tuple []=>some false
   | _=>none
  | none=>none
section
variable {P:Program} {G:Nat->DVal}
theorem Aj7 {dst:Option Nat} {K:DK} {Q:DExit->DS->Prop} {s:DS} (op:Op) (he:Ve op=true) (h:dop P G dst K Q s op):
  ∃d,Cb dst d K s/\ ∀Q' K' s',(∀x∈op.operands,dev G s'.env x=dev G s.env x)->Cr8 G s s' op->Cb dst d K' s'->dop P G dst K' Q' s' op:=by
 have C: ∀ {F:DK->DS->Prop},EVF dst F->F K s->(∀K' s',(∀x∈op.operands,dev G s'.env x=dev G s.env x)-> ∀Q',F K' s'->dop P G dst K' Q' s' op)->
   ∃d,Cb dst d K s/\ ∀Q' K' s',(∀x∈op.operands,dev G s'.env x=dev G s.env x)->Cr8 G s s' op->Cb dst d K' s'->dop P G dst K' Q' s' op:=by
  intro F I hf J;obtain⟨d,h1,h2⟩:=I K s hf;exact⟨d,h1,fun Q' K' s' ha _ h'=>J K' s' ha Q' (h2 K' s' h')⟩
 cases op<;>simp only[Ve] at he<;>try (cases he;done)
 case move x=>exact C (Ku _ _) h fun K' s' ha Q' h'=>by simp only[dop];rw[ha x (by simp [Op.operands])];exact h'
 case assign x=>exact C (Ku _ _) h fun K' s' ha Q' h'=>by simp only[dop];rw[ha x (by simp [Op.operands])];exact h'
 case pick c a b=>exact C (Fn4 _ _ _ _) h fun K' s' ha Q' h'=>by simp only[dop];rw[ha c (by simp [Op.operands]),ha a (by simp [Op.operands]),ha b (by simp [Op.operands])];exact h'
 case build t ps=>
  exact C (Er3 _ _ _ _ _ _) h fun K' s' ha Q' h'=>by
   simp only[dop];rw[Xr (env:=s.env) (fun x hx=>ha x (by simpa [Op.operands] using hx))];exact h'
 case load t a=>
  obtain⟨d,h1,h2⟩:=Fn5 _ _ _ _ K s h;exact⟨d,h1,fun Q' K' s' ha hk h'=>by simp only[dop];rw[ha a (by simp [Op.operands])];exact h2 K' s' (hk a rfl).ptr h'⟩
 case nilCheck x=>exact C (Cr5 _ _) h fun K' s' ha Q' h'=>by simp only[dop];rw[ha x (by simp [Op.operands])];exact h'
 case binOp op t x y _=>
  have hn:Kj y=false:=by simpa using he
  simp only[dop,hn,Uz] at h;exact C (Er6 _ _ _ _ _ _ _) h fun K' s' ha Q' h'=>by simp only[dop,hn,Uz];rw[ha x (by simp [Op.operands]),ha y (by simp [Op.operands])];exact h'
 case unOp op t x=>exact C (Gr4 _ _ _) h fun K' s' ha Q' h'=>by simp only[dop];rw[ha x (by simp [Op.operands])];exact h'
 case convert a t x=>
  obtain⟨d,h1,h2⟩:=Es1 _ _ _ _ _ K s h;exact⟨d,h1,fun Q' K' s' ha hk h'=>by simp only[dop];rw[ha x (by simp [Op.operands])];exact h2 K' s' (hk x rfl) h'⟩
 case makeInterface t x=>exact C (Ch7 _ _ _ _) h fun K' s' ha Q' h'=>by simp only[dop];rw[ha x (by simp [Op.operands])];exact h'
 case makeFunc fn fs cs=>
  exact C (Ku _ _) h fun K' s' ha Q' h'=>by
   simp only[dop];rw[Tt (env:=s.env) (xs:=fs.toList) (fun x hx=>ha x (by simp at hx;simp [Op.operands,hx])),Tt (env:=s.env) (xs:=cs.toList) (fun x hx=>ha x (by simp at hx;simp [Op.operands,hx]))];exact h'
 case slice t x lo hi mx=>
  obtain⟨d,h1,h2⟩:=Er7 _ _ _ _ _ _ _ K s h;exact⟨d,h1,fun Q' K' s' ha hk h'=>by
   simp only[dop];rw[ha x (by simp [Op.operands]),Xs (x:=lo) (env:=s.env) (fun y D=>ha y (by simp at D;simp [Op.operands,D])),Xs (x:=hi) (env:=s.env) (fun y D=>ha y (by simp at D;simp [Op.operands,D])),Xs (x:=mx) (env:=s.env) (fun y D=>ha y (by simp at D;simp [Op.operands,D]))];exact h2 K' s' (hk x rfl).ptr h'⟩
 case fieldAddr t x f=>exact C (Ch8 _ _ _ _ _) h fun K' s' ha Q' h'=>by simp only[dop];rw[ha x (by simp [Op.operands])];exact h'
 case field t x f=>exact C (Er8 _ _ _ _ _) h fun K' s' ha Q' h'=>by simp only[dop];rw[ha x (by simp [Op.operands])];exact h'
 case indexAddr t x i=>exact C (Ch9 _ _ _ _ _) h fun K' s' ha Q' h'=>by simp only[dop];rw[ha x (by simp [Op.operands]),ha i (by simp [Op.operands])];exact h'
 case index t x i=>exact C (Er9 _ _ _ _ _) h fun K' s' ha Q' h'=>by simp only[dop];rw[ha x (by simp [Op.operands]),ha i (by simp [Op.operands])];exact h'
 case typeAssert x t u ok=>exact C (Bx0 _ _ _ _ _ _) h fun K' s' ha Q' h'=>by simp only[dop];rw[ha x (by simp [Op.operands])];exact h'
 case extract x i=>exact C (Dh3 _ _ _) h fun K' s' ha Q' h'=>by simp only[dop];rw[ha x (by simp [Op.operands])];exact h'
 case call c=>
  have E: ∀s':DS,(∀x∈(Op.call c).operands,dev G s'.env x=dev G s.env x)->Hh G s'.env c.args.toList=Hh G s.env c.args.toList:=by
   intro s' ha;exact Tt fun x hx=>ha x (by simp at hx;simp [Op.operands,Call.operands,hx])
  simp only[dop] at h⊢
  cases hc:c.callee with
  | value f=>rw[hc] at he;cases he
  | invoke r m=>rw[hc] at he;cases he
  | builtin b=>
   rw[hc] at h he;simp only[Xk] at h⊢
   cases b<;>simp only at he<;>try (cases he;done)
   case len=>
    cases hx:Hh G s.env c.args.toList with
    | nil=>rw[hx] at h;exact h.elim
    | cons x xs=>
     cases xs with
     | cons y ys=>rw[hx] at h;exact h.elim
     | nil=>
      rw[hx] at h;obtain⟨d,h1,h2⟩:=Es0 P x dst c.argTypes.toList K s h;exact⟨d,h1,fun Q' K' s' ha _ h'=>by rw[E s' ha,hx];exact h2 K' s' h'⟩
   case min=>
    obtain⟨d,h1,h2⟩:=Ns dst (Ae7 false (Hh G s.env c.args.toList)) K s h;exact⟨d,h1,fun Q' K' s' ha _ h'=>by rw[E s' ha];exact h2 K' s' h'⟩
   case max=>
    obtain⟨d,h1,h2⟩:=Ns dst (Ae7 true (Hh G s.env c.args.toList)) K s h;exact⟨d,h1,fun Q' K' s' ha _ h'=>by rw[E s' ha];exact h2 K' s' h'⟩
theorem Ed7 {dst:Option Nat} {K E:DK} {Q M:DExit->DS->Prop} {s C:DS} (op:Op) (ha: ∀x∈op.operands,dev G C.env x=dev G s.env x) (hh:C.heap=s.heap)
  (D: ∀d h,K ⟨Hr s.env dst d,h⟩->E ⟨Hr C.env dst d,h⟩) (Z: ∀v h,Q (.panic v) ⟨s.env,h⟩->M (.panic v) ⟨C.env,h⟩)
  (h:dop P G dst K Q s op):dop P G dst E M C op:=by
 by_cases he:Ve op=true
 ·obtain⟨d,h1,h2⟩:=Aj7 op he h;refine h2 M E C ha (fun a _=>by rw[hh];exact Kp) ?_;show E ⟨Hr C.env dst d,C.heap⟩;rw[hh];exact D _ _ h1
 ·have aa: ∀ {cs e},Fz cs e dst K s->Fz cs e dst E C:=fun hn r hr=>by
   rw[hh] at hr⊢;exact D _ _ (hn r hr)
  have O: ∀ {cs e sz l c},Bi1 cs e sz l c dst K s->Bi1 cs e sz l c dst E C:=fun hn r hr=>by
   rw[hh] at hr⊢;exact D _ _ (hn r hr)
  have panic: ∀ {x},Aj0 Q s x->Aj0 M C x:=by
   intro x hx;unfold Aj0 at hx⊢
   split at hx<;>try exact hx.elim
   have:=Z _ _ hx;rw[<-hh] at this;exact this
  cases op<;>(try exact(he rfl).elim)<;>(try exact h.elim)
  case binOp op t x y t'=>
   have hn:Kj y=true:=by
    simp only[Ve] at he;cases S:Kj y with
    | true=>rfl
    | false=>rw[S] at he;exact absurd rfl he
   simp only[dop] at h⊢
   rw[ha x (by simp [Op.operands]),ha y (by simp [Op.operands])];rw[hn] at h⊢
   generalize dev G s.env x=dx at h⊢
   generalize dev G s.env y=dy at h⊢
   have put: ∀d,Cb dst d K s->Cb dst d E C:=fun d h=>by unfold Cb at*;rw[hh];exact D _ _ h
   have rest:Rx P t (Ik x || Ik y) op dst dx dy K s->Rx P t (Ik x || Ik y) op dst dx dy E C:=fun h=>by
    obtain⟨d,h1,h2⟩:=Er6 _ _ _ _ _ _ _ K s h;exact h2 E C (put d h1)
   cases dx<;>first | exact rest h | skip
   simp only[Bb2] at h⊢
   refine⟨h.1,fun b hb=> ?_⟩;obtain⟨d,h1,h2⟩:=Dh1 _ _ _ K s (h.2 b hb);exact h2 E C (put d h1)
  case range t x=>
   simp only[dop] at h⊢
   rw[ha x (by simp [Op.operands])];generalize P.underlying t=u at h⊢
   generalize dev G s.env x=dx at h⊢
   unfold Cf0 at h⊢
   split at h<;>try exact h.elim
   exact fun r hr=>by rw[hh] at hr⊢;exact D _ _ (h r hr)
  case next x b=>
   simp only[dop] at h⊢
   rw[ha x (by simp [Op.operands])];generalize dev G s.env x=dx at h⊢
   unfold Dr1 at h⊢
   split at h<;>try exact h.elim
   rw[hh];unfold Dd0 at h⊢
   split at h<;>try exact h.elim
   refine⟨fun hp=>by rw[hh];exact D _ _ (h.1 hp),fun hp=> ?_⟩;have:=h.2 hp;unfold Cb at*;rw[hh];exact D _ _ this
  case makeMap t r=>
   simp only[dop] at h⊢
   rw[Xs (x:=r) (env:=s.env) (fun y S=>ha y (by simp at S;simp [Op.operands,S]))];generalize P.underlying t=u at h⊢
   generalize Ry G s.env r=v at h⊢
   unfold Zx at h⊢
   split at h<;>try exact h.elim
   all_goals exact fun r hr=>by rw[hh] at hr⊢;exact D _ _ (h r hr)
  case lookup t x k ok=>
   simp only[dop] at h⊢
   rw[ha x (by simp [Op.operands]),ha k (by simp [Op.operands])];generalize P.underlying t=u at h⊢
   generalize dev G s.env x=dx at h⊢
   generalize dev G s.env k=dk at h⊢
   have put: ∀d,Cb dst d K s->Cb dst d E C:=fun d h=>by unfold Cb at*;rw[hh];exact D _ _ h
   have hF: ∀es z r,Bj0 es ok dst z r K s->Bj0 es ok dst z r E C:=fun es z r h=>by
    unfold Bj0 at h⊢
    split at h<;>try exact h.elim
    ·obtain⟨p,h1,h2⟩:=h;exact⟨p,h1,put _ h2⟩
    ·exact put _ h
   unfold Bg2 at h⊢
   split at h<;>try exact h.elim
   ·refine⟨h.1, ?_⟩;have h2:=h.2;rw[hh];generalize s.heap _=ob at h2⊢
    unfold Dd3 at h2⊢
    split at h2<;>try exact h2.elim
    exact hF _ _ _ h2
   ·exact⟨h.1,hF _ _ _ h.2⟩
  case mapUpdate t m k x=>
   simp only[dop] at h⊢
   rw[ha m (by simp [Op.operands]),ha k (by simp [Op.operands]),ha x (by simp [Op.operands])];generalize P.underlying t=u at h⊢
   generalize dev G s.env m=dm at h⊢
   generalize dev G s.env k=dk at h⊢
   generalize dev G s.env x=dx at h⊢
   unfold Ae6 at h⊢
   split at h<;>try exact h.elim
   obtain⟨h1,h2,h3⟩:=h;refine⟨h1,h2, ?_⟩;rw[hh];generalize s.heap _=ob at h3⊢
   unfold Bi9 at h3⊢
   split at h3<;>try exact h3.elim
   refine⟨h3.1, ?_⟩;have h4:=h3.2;unfold An8 at h4⊢
   split at h4<;>try exact h4.elim
   subst h1;rw[hh];exact D Ez _ h4
  case insert t m k x=>
   simp only[dop] at h⊢
   rw[ha m (by simp [Op.operands]),ha k (by simp [Op.operands]),ha x (by simp [Op.operands])];generalize P.underlying t=u at h⊢
   generalize dev G s.env m=dm at h⊢
   generalize dev G s.env k=dk at h⊢
   generalize dev G s.env x=dx at h⊢
   unfold Ae6 at h⊢
   split at h<;>try exact h.elim
   obtain⟨h1,h2,h3⟩:=h;refine⟨h1,h2, ?_⟩;rw[hh];generalize s.heap _=ob at h3⊢
   unfold Bi9 at h3⊢
   split at h3<;>try exact h3.elim
   refine⟨h3.1, ?_⟩;have h4:=h3.2;unfold An8 at h4⊢
   split at h4<;>try exact h4.elim
   subst h1;rw[hh];exact D Ez _ h4
  case alloc e=>
   simp only[dop] at h⊢
   generalize Bn P e=z at h⊢
   cases z with
   | none=>exact h.elim
   | some z=>exact aa h
  case box e x=>simp only[dop] at h⊢;rw[ha x (by simp [Op.operands])];exact aa h
  case buildSlice t n ps=>
   simp only[dop] at h⊢
   rw[Xr (env:=s.env) (fun x hx=>ha x (by simpa [Op.operands] using hx))];generalize Ni G s.env ps.toList=qs at h⊢
   generalize P.underlying t=u at h⊢
   unfold Uw at h⊢
   split at h<;>try exact h.elim
   show An1 _ _ _ _ _ _ _ _;generalize Bn P _=z at h⊢
   cases z with
   | none=>exact h.elim
   | some z=>
    obtain⟨h1,h2,h3⟩:=h;refine⟨h1,h2, ?_⟩;generalize Yx _ _ _=f at h3⊢
    cases f with
    | none=>exact h3.elim
    | some f=>exact O h3
  case store t a x=>
   simp only[dop] at h⊢
   obtain⟨h1,h2⟩:=h;refine⟨h1, ?_⟩;rw[ha a (by simp [Op.operands]),ha x (by simp [Op.operands])];generalize dev G s.env a=va at h2⊢
   generalize dev G s.env x=vx at h2⊢
   unfold Ce8 at h2⊢
   split at h2<;>try exact h2.elim
   rename_i ad ae af ag
   rw[hh];generalize s.heap _=ob at h2⊢
   unfold Dq5 at h2⊢
   split at h2<;>try exact h2.elim
   obtain⟨U,V,W,X⟩:=h2;refine⟨U,V,W, ?_⟩;rw[hh];exact D Ez _ X
  case makeSlice t l c=>
   simp only[dop] at h⊢
   rw[ha l (by simp [Op.operands]),ha c (by simp [Op.operands])];generalize dev G s.env l=vl at h⊢
   generalize dev G s.env c=vc at h⊢
   generalize P.underlying t=u at h⊢
   unfold Xi at h⊢
   split at h<;>try exact h.elim
   show Bb3 _ _ _ _ _ _ _ _ _;generalize Bn P _=z at h⊢
   cases z with
   | none=>exact h.elim
   | some z=>
    obtain⟨h1,h2,h3,h4,h5,h6,h7⟩:=h;exact⟨h1,h2,h3,h4,h5,h6,O h7⟩
  case panic x=>simp only[dop] at h⊢;rw[ha x (by simp [Op.operands])];exact panic h
  case call c=>
   have ab:Hh G C.env c.args.toList=Hh G s.env c.args.toList:=
    Tt fun x hx=>ha x (by simp at hx;simp [Op.operands,Call.operands,hx])
   simp only[dop] at h⊢
   cases hc:c.callee with
   | invoke r m=>rw[hc] at h;exact h.elim
   | value f=>
    rw[hc] at h;simp only[Xk] at h⊢
    rw[ab,ha f (by simp [Op.operands,Call.operands,hc])];generalize dev G s.env f=vf at h⊢
    unfold Bj3 at h⊢
    split at h<;>try exact h.elim
    all_goals
     rw[hh];refine h.mono ?_;intro e H' hr;cases e with
     | ret v=>exact D _ _ hr
     | panic v=>exact Z _ _ hr
   | builtin b=>
    rw[hc] at h;simp only[Xk] at h⊢
    rw[ab];generalize Hh G s.env c.args.toList=vs at h⊢
    cases b<;>(try (cases vs<;>exact h.elim))<;>(try (exfalso;refine he ?_;simp [Ve,hc];done))
    case cap=>
     cases vs with
     | nil=>exact h.elim
     | cons x vs=> ?_
     cases vs with
     | cons z vs=>exact h.elim
     | nil=> ?_
     simp only[Nq] at h⊢
     generalize c.argTypes.toList=ts at h⊢
     unfold Eo6 at h⊢
     split at h<;>try exact h.elim
     show Eo5 _ _ _ _ _;generalize P.underlying _=u at h⊢
     unfold Eo5 at h⊢
     split at h<;>try exact h.elim
     ·show E ⟨_,C.heap⟩;rw[hh];exact D _ _ h
     ·intro c hc;show E ⟨_,C.heap⟩;rw[hh];exact D _ _ (h c hc)
     ·intro c hc ac;show E ⟨_,C.heap⟩;rw[hh];exact D _ _ (h c hc ac)
    case clear=>
     cases vs with
     | nil=>exact h.elim
     | cons x vs=> ?_
     cases vs with
     | cons z vs=>exact h.elim
     | nil=> ?_
     simp only[Nq] at h⊢
     generalize c.argTypes.toList=ts at h⊢
     unfold Co5 at h⊢
     split at h<;>try exact h.elim
     show Bi8 _ _ _ _ _ _;generalize P.underlying _=u at h⊢
     unfold Bi8 at h⊢
     split at h<;>try exact h.elim
     generalize Bn _ _=zo at h⊢
     unfold Cf2 at h⊢
     split at h<;>try exact h.elim
     ·show E ⟨_,C.heap⟩;rw[hh];exact D _ _ h
     ·refine⟨h.1,h.2.1, ?_⟩;have h2:=h.2.2;rw[hh];generalize s.heap _=ob at h2⊢
      unfold Dr3 at h2⊢
      split at h2<;>try exact h2.elim
      refine⟨h2.1,h2.2.1,h2.2.2.1, ?_⟩;rw[hh];exact D _ _ h2.2.2.2
    case delete=>
     cases vs with
     | nil=>exact h.elim
     | cons x vs=> ?_
     cases vs with
     | nil=>exact h.elim
     | cons y vs=> ?_
     cases vs with
     | cons z vs=>exact h.elim
     | nil=> ?_
     simp only[Nq] at h⊢
     generalize c.argTypes.toList=ts at h⊢
     unfold By4 at h⊢
     split at h<;>try exact h.elim
     show An9 _ _ _ _ _ _ _;generalize P.underlying _=u at h⊢
     unfold An9 at h⊢
     split at h<;>try exact h.elim
     refine⟨h.1, ?_⟩;have h2:=h.2;rw[hh];generalize s.heap _=ob at h2⊢
     unfold Bj2 at h2⊢
     split at h2<;>try exact h2.elim
     unfold Bj1 at h2⊢
     split at h2<;>try exact h2.elim
     rw[hh];exact D _ _ h2
    case append=>
     cases vs with
     | nil=>exact h.elim
     | cons x vs=> ?_
     cases vs with
     | nil=>exact h.elim
     | cons y vs=> ?_
     cases vs with
     | cons z vs=>exact h.elim
     | nil=> ?_
     simp only[Nq] at h⊢
     generalize c.argTypes.toList=ts at h⊢
     unfold Av8 at h⊢
     split at h<;>try exact h.elim
     show An7 _ _ _ _ _ _ _ _ _;generalize Qm _=it at h⊢
     cases it with
     | true=>
      simp only[An7] at h⊢
      generalize P.underlying _=u at h⊢
      unfold An6 at h⊢
      split at h<;>try exact h.elim
      generalize Bn _ _=zo at h⊢
      unfold Bi7 at h⊢
      split at h<;>try exact h.elim
      refine⟨h.1,h.2.1,fun hn=> ?_,fun hn=>⟨(h.2.2.2 hn).1,(h.2.2.2 hn).2.1,(h.2.2.2 hn).2.2.1,O (h.2.2.2 hn).2.2.2⟩⟩;have:=h.2.2.1 hn;show E ⟨_,C.heap⟩;rw[hh];exact D _ _ this
     | false=> ?_
     simp only[An7] at h⊢
     generalize Av7 _=u' at h⊢
     generalize P.underlying _=u at h⊢
     unfold Bg1 at h⊢
     split at h<;>try exact h.elim
     obtain⟨U,V,W,X,g5,J⟩:=h;refine⟨U,V,W,X,g5, ?_⟩;rw[hh];generalize Zu _ _ _=sc at J⊢
     unfold Co4 at J⊢
     split at J<;>try exact J.elim
     obtain⟨k1,k2,I⟩:=J;refine⟨k1,k2, ?_⟩;unfold Ql at I⊢
     split at I<;>try exact I.elim
     ·refine⟨fun hn=> ?_,fun hn=>⟨(I.2 hn).1,O (I.2 hn).2⟩⟩;have:=I.1 hn;show E ⟨_,C.heap⟩;rw[hh];exact D _ _ this
     ·refine⟨I.1, ?_⟩;have L:=I.2;rw[hh];generalize s.heap _=ob at L⊢
      unfold Tp at L⊢
      split at L<;>try exact L.elim
      obtain⟨m1,m2,Y⟩:=L;refine⟨m1,fun hl=>⟨(m2 hl).1, ?_⟩,fun hl=>⟨(Y hl).1,(Y hl).2.1,fun r' pre hr hp=> ?_⟩⟩
      ·rw[hh];exact D _ _ (m2 hl).2
      ·rw[hh] at hr⊢;exact D _ _ ((Y hl).2.2 r' pre hr hp)
    case panic=>
     cases vs with
     | nil=>exact h.elim
     | cons x xs=>cases xs with
      | nil=>exact panic h
      | cons y ys=>exact h.elim
end
inductive Plan where
 | done
 | take (i:Nat) (p:Plan)
 | go (i:Nat) (ls:List Nat) (p:Plan)
 | alt (p q:Plan)
 deriving Inhabited
def Hl:List Oper->Nat->Option Oper
 | [],_=>none
 | o::_,0=>some o
 | _::r,n+1=>Hl r n
def Ao8 (P:Program) (G:Nat->DVal) (K:DK) (Q:DExit->DS->Prop) (dst:Option Nat) (op:Op) (s:DS):Bool->DVal->Prop
 | true, .bool true=>dop P G dst K Q s op
 | true, .bool false=>Cb dst Ez K s
 | false, .bool true=>Cb dst Ez K s
 | false, .bool false=>dop P G dst K Q s op
 | true, .tuple []=>Cb dst Ez K s
 | false, .tuple []=>Cb dst Ez K s
 | _,_=>False
def Ao9 (P:Program) (G:Nat->DVal) (K:DK) (Q:DExit->DS->Prop) (dst:Option Nat) (op:Op) (s:DS) (b:Bool):Option Nat->Prop
 | some g=>Ao8 P G K Q dst op s b (s.env g)
 | none=>False
def Gg6 (P:Program) (G:Nat->DVal) (all:List Oper) (K:DK) (Q:DExit->DS->Prop) (s:DS) (dst:Option Nat) (op:Op):Option (Nat×Bool)->Prop
 | none=>dop P G dst K Q s op
 | some (j,b)=>Ao9 P G K Q dst op s b (Uy all j)
def dAt (P:Program) (G:Nat->DVal) (all:List Oper) (K:DK) (Q:DExit->DS->Prop) (s:DS):Option Oper->Prop
 | some o=>Gg6 P G all K Q s o.dst o.op o.guard
 | none=>False
def Es2 (G:Nat->DVal) (s:DS) (H':Ac):Option Operand->Prop
 | some a=>Nk s.heap H' (dev G s.env a)
 | none=>True
def Ap0:Option Oper->Option Operand
 | some o=>Ci0 o.op
 | none=>none
def Es3 (G:Nat->DVal) (all:List Oper) (s:DS) (H':Ac):List Nat->Prop
 | []=>True
 | l::ls=>Es2 G s H' (Ap0 (Hl all l))/\Es3 G all s H' ls
def Es4 (G:Nat->DVal) (all:List Oper) (ls:List Nat) (s:DS) (K:DK):DK:=fun s'=>Es3 G all s s'.heap ls/\K s'
def Sh (P:Program) (G:Nat->DVal) (all:List Oper) (Q:DExit->DS->Prop):Plan->DS->Prop
 | .done,s=>Q .normal s
 | .take i p,s=>dAt P G all (Sh P G all Q p) Q s (Hl all i)
 | .go i ls p,s=>dAt P G all (Es4 G all ls s (Sh P G all Q p)) Q s (Hl all i)
 | .alt p q,s=>Sh P G all Q p s/\Sh P G all Q q s
def QP (Q:DExit->DS->Prop):DExit->DS->Prop
 | .panic v,s=> ∀env,Q (.panic v) ⟨env,s.heap⟩
 | .normal,s=>Q .normal s
 | _,_=>False
def Uo (all:List Oper) (k j:Nat):Bool:=
 match Hl all k with
 | some o=>o.after.any fun e=>Region.binds .any e&&e.on==j
 | none=>false
def Bl0 (all:List Oper) (j k:Nat):Bool:=
 match Hl all j,Hl all k with
 | some x,some y=>x.apart all.toArray y
 | _,_=>true
def Dh4 (all:List Oper) (i:Nat):Bool:=
 match Hl all i with
 | some o=>Ve o.op
 | none=>false
def Ax0 (all:List Oper) (k:Nat) (T:List Nat):Bool:=
 match Hl all k with
 | some o=>o.after.all fun e=>!Region.binds .any e || T.contains e.on
 | none=>false
def Om (all:List Oper) (j:Nat):Option Nat:=(Hl all j).bind (·.dst)
def Tu:Plan->List Nat
 | .go i _ _=> [i]
 | .alt p q=>Tu p++Tu q
 | _=> []
def Bz1 (all:List Oper) (T:List Nat):Plan->Bool
 | .done=>true
 | .take _ _=>true
 | p=>(List.range all.length).all fun k=>T.contains k || (Tu p).contains k || !Ax0 all k T
def Cs0 (all:List Oper) (T:List Nat) (l:Nat):Operand->Bool
 | .tmp t=>T.all fun m=>Om all m !=some t || Uo all l m
 | _=>true
def Es5 (all:List Oper) (k:Nat):List Nat:=
 match Hl all k with
 | some o=>(o.after.toList.filter fun e=>Region.binds .any e).map (·.on)
 | none=> []
def Bg4 (all:List Oper):Nat->List Nat->List Nat
 | 0,S=>S
 | k+1,S=>Bg4 all k (if S.contains k then Es5 all k++S else S)
def Gx5 (all:List Oper) (i:Nat):List Nat:=Bg4 all (i+1) [i]
def Ds4 (all:List Oper) (T:List Nat) (i:Nat) (ls:List Nat):Bool:=
 T.all fun l=>match Ap0 (Hl all l) with
  | none=>true
  | some a=>Uo all i l || (l !=i&&(Gx5 all i).contains l) || (ls.contains l&&Cs0 all T l a)
def Kv (all:List Oper):Plan->List Nat->Bool
 | .done,T=>(List.range all.length).all fun k=>T.contains k
 | .take i p,T=>decide (i<all.length)&&!T.contains i&&Dh4 all i&&Ax0 all i T&&
   ((List.range all.length).all fun k=>T.contains k || k==i || Uo all k i || Bl0 all i k)&&Bz1 all (i::T) p&&Kv all p (i::T)
 | .go i ls p,T=>decide (i<all.length)&&!T.contains i&&Ax0 all i T&&Ds4 all T i ls&&Bz1 all (i::T) p&&Kv all p (i::T)
 | .alt p q,T=>Kv all p T&&Kv all q T
section
variable {P:Program} {G:Nat->DVal} {N:Nat} {all:List Oper} {Q:DExit->DS->Prop} {s0:DS} {w0:World}
theorem Ta: ∀(all:List Oper) (j:Nat),Hl all j=all[j]?
 | [],j=>by simp [Hl]
 | o::r,0=>by simp [Hl]
 | o::r,j+1=>by simp [Hl,Ta r j]
theorem Bl1 {o:Oper} {K:DK} {s:DS}:dAt P G all K Q s (some o)↔
  (Vf all s.env o=some true/\dop P G o.dst K Q s o.op)\/(Vf all s.env o=some false/\Cb o.dst Ez K s):=by
 simp only[dAt];unfold Gg6 Vf;cases o.guard with
 | none=>simp
 | some C=>
  obtain⟨j,b⟩:=C;simp only;cases Uy all j with
  | none=>simp [Ao9]
  | some g=>
   simp only[Ao9];cases hv:s.env g<;>(try (cases b<;>simp [Ao8];done))
   case bool v=>cases b<;>cases v<;>simp [Ao8]
   case tuple vs=>cases vs<;>cases b<;>simp [Ao8]
def Fn7 (P:Program) (G:Nat->DVal) (all:List Oper) (j:Nat) (s:DS) (d:DVal):Prop:=
 ∃o,Hl all j=some o/\Ve o.op=true/\
  ((Vf all s.env o=some true/\ ∀K Q,Cb o.dst d K s->dop P G o.dst K Q s o.op)\/(Vf all s.env o=some false/\d=Ez))
def Seq (P:Program) (G:Nat->DVal) (all:List Oper):DS->List Nat->DS->Prop
 | s,[],s'=>s'=s
 | s,j::js,s'=> ∃d,Fn7 P G all j s d/\Seq P G all ⟨Hr s.env (Om all j) d,s.heap⟩ js s'
def looks (all:List Oper) (j:Nat):List Nat:=
 match Hl all j with
 | some o=>o.looksAt all.toArray
 | none=> []
theorem Bz2 {o:Oper} {env C:Nat->DVal} (h: ∀t∈o.looksAt all.toArray,C t=env t): ∀x∈o.op.operands,dev G C x=dev G env x:=by
 intro x hx;cases x with
 | tmp t=>
  refine h t ?_;unfold Oper.looksAt;refine List.mem_append_left _ (List.mem_filterMap.2 ⟨.tmp t,by simpa using hx,rfl⟩)
 | _=>rfl
theorem Ap1 {o:Oper} {env C:Nat->DVal} (h: ∀t∈o.looksAt all.toArray,C t=env t):Vf all C o=Vf all env o:=by
 unfold Vf;cases hg:o.guard with
 | none=>rfl
 | some D=>
  obtain⟨j,b⟩:=D;simp only;cases hj:Uy all j with
  | none=>rfl
  | some g=>
   simp only;rw[h g];unfold Oper.looksAt;refine List.mem_append_right _ ?_;rw[hg];rw[Ao6] at hj;simp [hj]
theorem Fn7.agree {j:Nat} {s C:DS} {d:DVal} (h:Fn7 P G all j s d) (ha: ∀t∈looks all j,C.env t=s.env t)
  (hk: ∀o a,Hl all j=some o->Ci0 o.op=some a->Nk s.heap C.heap (dev G s.env a)):Fn7 P G all j C d:=by
 obtain⟨o,ho,he,h⟩:=h;have D: ∀t∈o.looksAt all.toArray,C.env t=s.env t:=by
  intro t ht;exact ha t (by unfold looks;rw[ho];exact ht)
 refine⟨o,ho,he, ?_⟩;rw[Ap1 D];rcases h with⟨hw,h⟩ | h
 ·refine .inl ⟨hw,fun K' E hp=> ?_⟩;have h1:=h (fun s1=>s1=⟨Hr s.env o.dst d,s.heap⟩) E rfl;obtain⟨I,J,L⟩:=Aj7 o.op he h1;refine L E K' C (Bz2 (all:=all) D) ?_ ?_
  ·exact fun a hl=>hk o a ho hl
  ·unfold Cb at J hp⊢
   have he:Hr s.env o.dst I=Hr s.env o.dst d:=congrArg DS.env J;have:Hr C.env o.dst I=Hr C.env o.dst d:=by
    cases hdst:o.dst with
    | none=>rfl
    | some t=>
     rw[hdst] at he;have h2:=congrFun he t;simp [Hr,upd] at h2;rw[h2]
   rw[this];exact hp
 ·exact .inr h
theorem Ap2 {env:Nat->DVal} {dst:Option Nat} {d:DVal} {t:Nat} (h:dst≠some t):Hr env dst d t=env t:=by
 cases dst with
 | none=>rfl
 | some k=>simp only[Hr,upd];rw[if_neg];intro e;exact h (by rw[e])
theorem Bz3 {env:Nat->DVal} {x y:Option Nat} {d e:DVal} (h: ∀t,x=some t->y≠some t):Hr (Hr env x d) y e=Hr (Hr env y e) x d:=by
 cases x with
 | none=>rfl
 | some i=>
  cases y with
  | none=>rfl
  | some k=>
   have C:k≠i:=fun hh=>h i rfl (by rw[hh]);funext t;simp only[Hr,upd];by_cases h1:t=k
   ·subst h1;rw[if_pos rfl,if_neg C,if_pos rfl]
   ·rw[if_neg h1];by_cases h2:t=i
    ·rw[if_pos h2,if_pos h2]
    ·rw[if_neg h2,if_neg h2,if_neg h1]
structure Apart (all:List Oper) (j k:Nat):Prop where
 a: ∀t,Om all j=some t->t∉looks all k
 b: ∀t,Om all j=some t->Om all k≠some t
 c: ∀t,Om all k=some t->t∉looks all j
theorem Bb9 {j k:Nat} {x y:Oper} (hx:Hl all j=some x) (C:Hl all k=some y) (h:Bl0 all j k=true):Apart all j k:=by
 unfold Bl0 at h;rw[hx,C] at h;obtain⟨h1,h2,h3⟩:=Oper.apart_spec h;refine⟨?_, ?_, ?_⟩<;>simp only[Om,looks,hx,C,Option.bind_some]<;>assumption
theorem Seq.front: ∀ {A:List Nat} {k:Nat} {B:List Nat} {s C:DS},(∀j∈A,Apart all j k)->Seq P G all s (A++k::B) C->Seq P G all s (k::(A++B)) C
 | [],k,B,s,C,_,h=>h
 | j::A,k,B,s,C,hA,h=>by
  obtain⟨d,hd,h⟩:=h;obtain⟨dk,hk,h⟩:=Seq.front (fun i hi=>hA i (by simp [hi])) h;have D:=hA j (by simp);refine⟨dk,hk.agree (fun t ht=>(Ap2 (fun e=>D.a t e ht)).symm) (fun _ _ _ _=>Kp),d,hd.agree (fun t ht=>Ap2 (fun e=>D.c t e ht)) (fun _ _ _ _=>Kp), ?_⟩;show Seq P G all ⟨Hr (Hr s.env _ dk) _ d,s.heap⟩ (A++B) C;rw[Bz3 (fun t h1 h2=>D.b t h2 h1)];exact h
theorem Seq.heap: ∀ {js:List Nat} {s C:DS},Seq P G all s js C->C.heap=s.heap
 | [],s,C,h=>by cases h;rfl
 | j::js,s,C,⟨d,_,h⟩=>by have:=Seq.heap h;exact this
theorem Seq.env: ∀ {js:List Nat} {s C:DS},Seq P G all s js C-> ∀t,(∀j∈js,Om all j≠some t)->C.env t=s.env t
 | [],s,C,h,t,_=>by cases h;rfl
 | j::js,s,C,⟨d,_,h⟩,t,ht=>by
  rw[Seq.env h t fun i hi=>ht i (by simp [hi])];exact Ap2 (ht j (by simp))
theorem Seq.shift {k:Option Nat} {v:DVal} {h:Ac}: ∀ {js:List Nat} {s C:DS},Seq P G all s js C->
  (∀j∈js,∀t,k=some t->t∉looks all j)->(∀j∈js,∀t,Om all j=some t->k≠some t)->
  (∀A j B,js=A++j::B-> ∀o a,Hl all j=some o->Ci0 o.op=some a->(∀t,a= .tmp t-> ∀m∈j::B,Om all m≠some t)/\Nk s.heap h (dev G C.env a))->
  Seq P G all ⟨Hr s.env k v,h⟩ js ⟨Hr C.env k v,h⟩
 | [],s,C,hs,_,_,_=>by cases hs;rfl
 | j::js,s,C,⟨d,hd,hs⟩,h1,h2,h3=>by
  refine⟨d,hd.agree (fun t ht=>Ap2 fun e=>h1 j (by simp) t e ht) (fun o a ho ha=> ?_), ?_⟩
  ·obtain⟨D,E⟩:=h3 [] j js rfl o a ho ha;have:dev G C.env a=dev G s.env a:=by
    cases a with
    | tmp t=>
     have:=Seq.env hs t fun i hi=>D t rfl i (by simp [hi]);simp only[dev];rw[this];exact Ap2 (D t rfl j (by simp))
    | _=>rfl
   rw[<-this];exact E
  ·have I:=Seq.shift (k:=k) (v:=v) (h:=h) hs (fun i hi=>h1 i (by simp [hi])) (fun i hi=>h2 i (by simp [hi])) (fun A i B e=>h3 (j::A) i B (by rw[e];rfl));show Seq P G all ⟨Hr (Hr s.env k v) (Om all j) d,h⟩ js _;rw[Bz3 fun t e1 J=>h2 j (by simp) t J e1];exact I
end
end Go.Dl
namespace Go.Dl
abbrev pL0:Plan:=.take 0 (.take 1 (.take 2 (.take 3 (.take 4 (.take 5 (.take 6 (.take 7 (.take 8 (.take 9 (.take 10 (.take 11 (.take 12 (.take 13 (.take 14 (.take 15 (.take 16 (.take 17 (.take 18 (.take 19 (.take 20 .done))))))))))))))))))))
abbrev pL1:Plan:=.take 0 (.take 1 (.take 2 (.take 3 (.take 4 (.take 5 (.go 6 [4] (.go 7 [] (.take 8 (.take 9 (.go 10 [] .done))))))))))
abbrev pL2:Plan:=.take 0 (.take 1 (.take 2 (.take 3 (.take 4 (.go 5 [4] (.go 6 [] (.go 7 [] .done)))))))
abbrev pL3:Plan:=.take 0 (.take 2 (.take 3 (.go 1 [3] (.take 4 (.take 5 (.go 6 [] .done))))))
abbrev pL4:Plan:=.take 0 (.take 1 (.take 2 (.take 3 (.go 4 [3] (.go 5 [] .done)))))
abbrev pL5:Plan:=.take 0 (.take 3 (.take 4 (.alt (.go 6 [4] (.go 1 [4] (.go 2 [4] (.go 5 [] (.go 7 [] .done))))) (.go 1 [4] (.alt (.go 6 [4] (.go 2 [4] (.go 5 [] (.go 7 [] .done)))) (.go 2 [4] (.alt (.go 6 [4] (.go 5 [] (.go 7 [] .done))) (.go 5 [] (.go 6 [4] (.go 7 [] .done))))))))))
abbrev pL6:Plan:=.take 0 (.take 1 (.take 2 (.take 3 (.take 4 (.take 5 (.take 6 (.take 7 (.take 8 (.take 9 (.take 10 (.take 11 (.take 12 (.take 13 (.alt (.go 15 [11,7] (.go 14 [] (.go 16 [] (.take 17 .done)))) (.go 14 [] (.go 15 [11,7] (.go 16 [] (.take 17 .done))))))))))))))))))
abbrev pL7:Plan:=.take 0 (.take 1 (.take 2 (.take 3 (.take 4 (.take 5 (.take 6 (.take 7 (.take 8 (.take 9 (.take 10 (.take 11 (.go 12 [] .done))))))))))))
abbrev pL8:Plan:=.take 0 (.take 1 (.take 2 (.take 3 (.take 4 (.take 5 (.go 6 [] (.go 7 [] .done)))))))
abbrev pL9:Plan:=.take 0 (.take 1 (.take 2 (.take 3 (.take 4 (.take 5 (.take 6 (.take 7 (.take 8 (.take 9 (.take 10 (.take 11 .done)))))))))))
abbrev pL10:Plan:=.take 0 (.take 1 (.take 2 (.take 3 (.take 4 (.take 5 (.take 6 (.take 7 (.take 8 (.go 9 [] .done)))))))))
abbrev pL11:Plan:=.take 0 (.take 1 (.take 2 (.take 3 (.take 4 (.take 5 (.take 6 (.take 7 (.take 8 (.take 9 .done)))))))))
abbrev pL12:Plan:=.take 0 (.take 1 (.take 2 (.take 3 (.take 4 (.take 5 (.take 6 (.take 7 (.take 8 .done))))))))
abbrev pL13:Plan:=.take 0 (.take 3 (.take 4 (.take 5 (.take 6 (.go 1 [6,4] (.go 2 [6,4] (.go 7 [] .done)))))))
abbrev pL14:Plan:=.take 0 (.take 1 (.take 2 (.go 3 [1] (.go 4 [1] (.go 5 [] (.take 6 (.go 7 [] .done)))))))
abbrev pL15:Plan:=.take 0 (.take 3 (.take 4 (.go 1 [4] (.go 2 [4] (.go 5 [] .done)))))
abbrev pL16:Plan:=.take 0 (.take 1 (.take 2 (.go 3 [1] (.go 4 [] (.go 5 [] .done)))))
end Go.Dl
-- D2
namespace Go.Dl
open Go
section
variable {P:Program} {G:Nat->DVal} {N:Fr} {all:List Oper} {Q:DExit->DS->Prop} {s0:DS} {w0:World}
theorem Bl2 {F:Fence} {n:Nat} (D:FOk F) {k:Nat} {o:Oper} {c:DS} {a:Act} {w:World} {K:DK} (L:all.all (Lz N)=true) (hk:Hl all k=some o) (E:Sim G N c a w) (J:Ext s0.heap w0 c.heap w)
  (h:dAt P G all K Q c (some o)):wpOpIn F n P all.toArray (Sg G N Q s0 w0) k (Io G N K c w) a w:=by
 have X:all.toArray[k]? =some o:=by rw[Ta] at hk;simpa using hk
 have hok:Lz N o=true:=by
  rw[Ta] at hk;exact List.all_eq_true.1 L o (List.mem_of_getElem? hk)
 unfold wpOpIn;simp only[X];have skip:Cb o.dst Ez K c->Io G N K c w (a.put o.dst undef) w:=fun hp=>
  ⟨⟨Hr c.env o.dst Ez,c.heap⟩,hp,E.put (Qo hok) (Xl w c.heap),Ext.refl _ _⟩
 simp only[dAt] at h;unfold Gg6 at h;cases hg:o.guard with
 | none=>
  rw[hg] at h;rw[if_pos (by simp [Region.wanted,hg])];exact Vc D hok E J h
 | some Y=>
  obtain⟨j,b⟩:=Y;rw[hg] at h;simp only at h;cases hj:Uy all j with
  | none=>rw[hj] at h;exact h.elim
  | some g=>
   rw[hj] at h;simp only[Ao9] at h;have M:(all[j]?).bind (·.dst)=some g:=by rw[<-Ao6];exact hj
   obtain⟨O,S,U⟩:=Option.bind_eq_some_iff.1 M;have Z:O∈all:=List.mem_of_getElem? S;have aa:g<N:=by
    have:=List.all_eq_true.1 L O Z;have:=Qo this;rw[U] at this;simpa [Cz] using this
   have C:=E.tmps g aa;have hy: ∀v,c.env g= .bool v->yielded all.toArray a.tmps j=some v:=by
    intro v hv;rw[hv] at C;simp only[Rel] at C;have h1:a.tmps[g]? =some (.bool v):=by
     rw[Array.getD_eq_getD_getElem?] at C;cases hq:a.tmps[g]? with
     | none=>
      have:=E.size;rw[Array.getElem?_eq_none_iff] at hq;omega
     | some z=>rw[hq] at C;simpa using C
    simp [yielded,S,U,h1]
   by_cases V:c.env g= .tuple []
   ·rw[V] at h C;simp only[Rel,Az] at C;obtain⟨xs,W,ac⟩:=C;have ab:yielded all.toArray a.tmps j=none:=by
     have h2: ∀z,a.tmps[g]? =some z->z= .tuple xs:=fun z hz=>by
      rw[Array.getD_eq_getD_getElem?,hz] at W;simpa using W
     unfold yielded;simp only[List.getElem?_toArray,M,Option.bind_some];cases hz:a.tmps[g]? with
     | none=>rfl
     | some z=>rw[h2 z hz]
    rw[if_neg (by simp [Region.wanted,hg,ab])];exact⟨fun f _=>D.fn f,skip (by cases b<;>exact h)⟩
   cases hv:c.env g<;>rw[hv] at h<;>(try (cases b<;>exact h.elim))
   case tuple vs=>cases vs with
    | nil=>exact absurd hv V
    | cons _ _=>cases b<;>exact h.elim
   rename_i v
   have I:=hy v hv;cases b<;>cases v<;>simp only[Ao8] at h
   ·rw[if_pos (by simp [Region.wanted,hg,I])];exact Vc D hok E J h
   ·rw[if_neg (by simp [Region.wanted,hg,I])];exact⟨fun f _=>D.fn f,skip h⟩
   ·rw[if_neg (by simp [Region.wanted,hg,I])];exact⟨fun f _=>D.fn f,skip h⟩
   ·rw[if_pos (by simp [Region.wanted,hg,I])];exact Vc D hok E J h
structure Inv (P:Program) (G:Nat->DVal) (N:Fr) (all:List Oper) (Q:DExit->DS->Prop) (s0:DS) (w0:World)
  (T js:List Nat) (p:Plan) (c s:DS) (a:Act) (w:World) (listed:Array Bool):Prop where
 sim:Sim G N c a w
 ext:Ext s0.heap w0 c.heap w
 seq:Seq P G all c js s
 plan:Sh P G all Q p s
 ok:Kv all p T=true
 cov:Bz1 all T p=true
 size:listed.size=all.length
 iff: ∀i,i<all.length->(listed.getD i true=true↔i∈T/\i∉js)
 sub: ∀i∈js,i∈T/\i<all.length
 tlt: ∀i∈T,i<all.length
 nodup:js.Nodup
 eager: ∀j∈js,Dh4 all j=true
 pair:js.Pairwise fun j k=>(Uo all k j=true\/Bl0 all j k=true)/\Uo all j k=false
 out: ∀j∈js,∀k,k<all.length->k∉T->Uo all k j=true\/Bl0 all j k=true
 deps: ∀j∈js,∀e,Uo all j e=true->e∈T/\e≠j
 clo: ∀k,k<all.length->listed.getD k true=true-> ∀e,Uo all k e=true->listed.getD e false=true
theorem Wn {i:Nat} (h:i<all.length): ∃o,Hl all i=some o:=by
 rw[Ta];exact⟨all[i],by simp [h]⟩
theorem Dh5 {k e:Nat} (h:e∈Es5 all k):Uo all k e=true:=by
 unfold Es5 at h;unfold Uo;split at h
 ·rename_i o ho
  simp only[List.mem_map,List.mem_filter,Array.mem_toList_iff] at h;obtain⟨x,⟨hx,hb⟩,rfl⟩:=h;exact Array.any_eq_true'.2 ⟨x,hx,by simp [hb]⟩
 ·cases h
theorem Ap3 {listed:Array Bool} {i:Nat} (hs:listed.size=all.length) (hi: ∀e,Uo all i e=true->listed.getD e false=true)
  (C: ∀k,k<all.length->listed.getD k true=true-> ∀e,Uo all k e=true->listed.getD e false=true): ∀(n:Nat) (S:List Nat),(∀m∈S,m=i\/listed.getD m false=true)-> ∀m∈Bg4 all n S,m=i\/listed.getD m false=true
 | 0,S,h=>h
 | k+1,S,h=>by
  rw[Bg4];refine Ap3 hs hi C k _ ?_;split
  ·rename_i hk
   intro m hm;rcases List.mem_append.1 hm with hm | hm
   ·have hd:=Dh5 hm;rcases h k (List.contains_iff_mem.1 hk) with rfl | hl
    ·exact .inr (hi m hd)
    ·have D:k<listed.size:=by
      rcases Nat.lt_or_ge k listed.size with h' | h'
      ·exact h'
      ·simp [Array.getElem?_eq_none h'] at hl
     refine .inr (C k (by rw[<-hs];exact D) ?_ m hd);simpa [D] using hl
   ·exact h m hm
  ·exact h
theorem Vg {k:Nat} {T:List Nat} (hk:k<all.length):Ax0 all k T=true↔ ∀e,Uo all k e=true->e∈T:=by
 obtain⟨o,ho⟩:=Wn hk;unfold Ax0 Uo;rw[ho];simp only[Array.all_eq_true_iff_forall_mem,Bool.or_eq_true,Bool.not_eq_true',List.contains_iff_mem];constructor
 ·intro h e he;obtain⟨x,hx,hb⟩:=Array.any_eq_true'.1 he;simp only[jF,beq_iff_eq] at hb;rcases h x hx with h1 | h1
  ·rw[hb.1] at h1;cases h1
  ·rw[<-hb.2];exact h1
 ·intro h x hx;by_cases hb:Region.binds .any x=true
  ·exact .inr (h x.on (Array.any_eq_true'.2 ⟨x,hx,by simp [hb]⟩))
  ·exact .inl (by simpa using hb)
theorem Xt {listed:Array Bool} {k:Nat} (hs:listed.size=all.length):k∈Region.ready .any all.toArray listed↔
  k<all.length/\listed.getD k true=false/\ ∀e,Uo all k e=true->listed.getD e false=true:=by
 rw[mem_ready];constructor
 ·rintro⟨h0,o,ho,h⟩;have D:all[k]? =some o:=by simpa using ho
  have C:k<all.length:=(List.getElem?_eq_some_iff.1 D).1;refine⟨C,h0,fun e he=> ?_⟩;unfold Uo at he;rw[Ta,D] at he;obtain⟨x,hx,hb⟩:=Array.any_eq_true'.1 he;simp only[jF,beq_iff_eq] at hb;rw[<-hb.2];exact h x hx hb.1
 ·rintro⟨C,h0,h⟩;refine⟨h0,all[k],by simp [C],fun x hx hb=>h x.on ?_⟩;unfold Uo;rw[Ta,List.getElem?_eq_getElem C];exact Array.any_eq_true'.2 ⟨x,hx,by simp [hb]⟩
theorem Za {listed:Array Bool} {e:Nat} (h:e<listed.size):listed.getD e false=listed.getD e true:=by
 simp [h]
theorem Inv.advance {T js:List Nat} {i:Nat} {p:Plan} {c s:DS} {a:Act} {w:World} {listed:Array Bool} (h:Inv P G N all Q s0 w0 T js (.take i p) c s a w listed):
    ∃s',Inv P G N all Q s0 w0 (i::T) (js++ [i]) p c s' a w listed:=by
  have hok:=h.ok
  simp only[Kv,jF,decide_eq_true_eq,Bool.not_eq_true',List.all_eq_true,List.mem_range,Bool.or_eq_true,List.contains_iff_mem,beq_iff_eq] at hok
  obtain⟨⟨⟨⟨⟨⟨hi,J⟩,he⟩,hd⟩,ha⟩,hc⟩,hp⟩:=hok
  have C:i∉T:=by intro hm;rw[List.contains_iff_mem.2 hm] at J;cases J
  rw[Vg hi] at hd
  obtain⟨o,ho⟩:=Wn hi
  have hpl:=h.plan
  simp only[Sh,ho] at hpl
  have E:Ve o.op=true:=by unfold Dh4 at he;rw[ho] at he;exact he
  have hst: ∃d,Fn7 P G all i s d/\Sh P G all Q p ⟨Hr s.env (Om all i) d,s.heap⟩:=by
    have hdst:Om all i=o.dst:=by simp [Om,ho]
    rw[hdst]
    rcases Bl1.1 hpl with⟨hw,M⟩ | ⟨hw,O⟩
    · obtain⟨d,S,U⟩:=Aj7 o.op E M
      exact⟨d,⟨o,ho,E, .inl ⟨hw,fun K Q V=>U Q K s (fun _ _=>rfl) (fun _ _=>Kp) V⟩⟩,S⟩
    · exact⟨Ez,⟨o,ho,E, .inr ⟨hw,rfl⟩⟩,O⟩
  obtain⟨d,W,X⟩:=hst
  have Y: ∀(js:List Nat) (c:DS),Seq P G all c js s->Seq P G all c (js++ [i]) ⟨Hr s.env (Om all i) d,s.heap⟩:=by
    intro js
    induction js with
    | nil=>intro c hc;cases hc;exact⟨d,W,rfl⟩
    | cons j js ih=>intro c hc;obtain⟨Z,h1,h2⟩:=hc;exact⟨Z,h1,ih _ h2⟩
  refine⟨⟨Hr s.env (Om all i) d,s.heap⟩, ?_⟩
  exact {
    sim:=h.sim,ext:=h.ext,seq:=Y js c h.seq,plan:=X,ok:=hp,cov:=hc,size:=h.size
    iff:=fun k hk=>by
      rw[h.iff k hk]
      simp only[List.mem_cons,List.mem_append,List.not_mem_nil,or_false,not_or]
      constructor
      · rintro⟨h1,h2⟩
        exact⟨.inr h1,h2,fun e=>C (e▸h1)⟩
      · rintro⟨h1,h2,h3⟩
        exact⟨h1.resolve_left h3,h2⟩
    sub:=fun k hk=>by
      simp only[List.mem_append,List.mem_cons,List.not_mem_nil,or_false] at hk⊢
      rcases hk with hk | rfl
      · exact⟨.inr (h.sub k hk).1,(h.sub k hk).2⟩
      · exact⟨.inl rfl,hi⟩
    tlt:=fun k hk=>by
      simp only[List.mem_cons] at hk
      rcases hk with rfl | hk
      · exact hi
      · exact h.tlt k hk
    nodup:=by
      rw[List.nodup_append]
      refine⟨h.nodup,by simp, ?_⟩
      intro x hx y L e
      simp only[List.mem_cons,List.not_mem_nil,or_false] at L
      subst L;subst e
      exact C (h.sub x hx).1
    eager:=fun k hk=>by
      simp only[List.mem_append,List.mem_cons,List.not_mem_nil,or_false] at hk
      rcases hk with hk | rfl
      · exact h.eager k hk
      · exact he
    pair:=by
      rw[List.pairwise_append]
      refine⟨h.pair,by simp, ?_⟩
      intro j hj k hk
      simp only[List.mem_cons,List.not_mem_nil,or_false] at hk
      subst hk
      refine⟨h.out j hj k hi C, ?_⟩
      cases hdep:Uo all j k with
      | false=>rfl
      | true=>exact(C (h.deps j hj k hdep).1).elim
    out:=fun j hj k hk D=>by
      simp only[List.mem_append,List.mem_cons,List.not_mem_nil,or_false,not_or] at hj D
      rcases hj with hj | rfl
      · exact h.out j hj k hk D.2
      · rcases ha k hk with((h1 | h1) | h1) | h1
        · exact(D.2 h1).elim
        · exact(D.1 h1).elim
        · exact .inl h1
        · exact .inr h1
    deps:=fun j hj e I=>by
      simp only[List.mem_append,List.mem_cons,List.not_mem_nil,or_false] at hj⊢
      rcases hj with hj | rfl
      · exact⟨.inr (h.deps j hj e I).1,(h.deps j hj e I).2⟩
      · have:=hd e I
        exact⟨.inr this,fun hh=>C (hh▸this)⟩
    clo:=h.clo }
def Ds5:Plan->Prop
 | .take _ _=>False
 | _=>True
theorem Inv.normal: ∀ {p:Plan} {T js:List Nat} {c s:DS} {a:Act} {w:World} {listed:Array Bool},Inv P G N all Q s0 w0 T js p c s a w listed->
  ∃T' js' p' s',Inv P G N all Q s0 w0 T' js' p' c s' a w listed/\Ds5 p'
 | .take i p,T,js,c,s,a,w,listed,h=>by
  obtain⟨s',h'⟩:=h.advance;exact h'.normal
 | .done,T,js,c,s,a,w,listed,h=>⟨T,js,_,s,h,trivial⟩
 | .go i ls p,T,js,c,s,a,w,listed,h=>⟨T,js,_,s,h,trivial⟩
 | .alt p q,T,js,c,s,a,w,listed,h=>⟨T,js,_,s,h,trivial⟩
theorem Ax1: ∀(p:Plan) (T:List Nat) (s:DS),Kv all p T=true->Sh P G all Q p s->
  ((∀i,i<all.length->i∈T)/\Q .normal s)\/ ∃i,i<all.length/\i∉T/\ ∀e,Uo all i e=true->e∈T
 | .done,T,s,hok,h=>by
  simp only[Kv,List.all_eq_true,List.mem_range,List.contains_iff_mem] at hok;exact .inl ⟨hok,h⟩
 | .take i p,T,s,hok,h=>by
  simp only[Kv,jF,decide_eq_true_eq,Bool.not_eq_true'] at hok;obtain⟨⟨⟨⟨⟨⟨hi,C⟩,he⟩,hd⟩,_⟩,_⟩,_⟩:=hok;exact .inr ⟨i,hi,(fun hm=>by rw[List.contains_iff_mem.2 hm] at C;cases C),(Vg hi).1 hd⟩
 | .go i ls p,T,s,hok,h=>by
  simp only[Kv,jF,decide_eq_true_eq,Bool.not_eq_true'] at hok;obtain⟨⟨⟨⟨⟨hi,C⟩,hd⟩,_⟩,_⟩,_⟩:=hok;exact .inr ⟨i,hi,(fun hm=>by rw[List.contains_iff_mem.2 hm] at C;cases C),(Vg hi).1 hd⟩
 | .alt p q,T,s,hok,h=>by
  simp only[Kv,jF] at hok;exact Ax1 p T s hok.1 h.1
theorem Aj8: ∀(p:Plan) (T:List Nat) (s:DS) (k:Nat),Kv all p T=true->Sh P G all Q p s->k∈Tu p->
  ∃ls p',Kv all (.go k ls p') T=true/\Sh P G all Q (.go k ls p') s
 | .done,T,s,k,_,_,hk=>by simp [Tu] at hk
 | .take i p,T,s,k,_,_,hk=>by simp [Tu] at hk
 | .go i ls p,T,s,k,hok,h,hk=>by
  simp only[Tu,List.mem_cons,List.not_mem_nil,or_false] at hk;subst hk;exact⟨ls,p,hok,h⟩
 | .alt p q,T,s,k,hok,h,hk=>by
  simp only[Kv,jF] at hok;simp only[Tu,List.mem_append] at hk;rcases hk with hk | hk
  ·exact Aj8 p T s k hok.1 h.1 hk
  ·exact Aj8 q T s k hok.2 h.2 hk
theorem Dh6 {p:Plan} {T:List Nat} (C:Bz1 all T p=true) (D:Kv all p T=true) (J:Ds5 p) {k:Nat} (hk:k<all.length) (E:k∉T) (L: ∀e,Uo all k e=true->e∈T):k∈Tu p:=by
 have I:((List.range all.length).all fun k=>T.contains k || (Tu p).contains k || !Ax0 all k T)=true->k∈Tu p:=by
  intro h;simp only[List.all_eq_true,List.mem_range,Bool.or_eq_true,List.contains_iff_mem,Bool.not_eq_true'] at h;rcases h k hk with(h1 | h1) | h1
  ·exact(E h1).elim
  ·exact h1
  ·rw[(Vg hk).2 L] at h1;cases h1
 cases p with
 | done=>
  simp only[Kv,List.all_eq_true,List.mem_range,List.contains_iff_mem] at D;exact(E (D k hk)).elim
 | take i p=>exact J.elim
 | go i ls p=>exact I C
 | alt p q=>exact I C
theorem Bz4 {s:DS} {H':Ac}: ∀ {ls:List Nat},Es3 G all s H' ls-> ∀l∈ls,Es2 G s H' (Ap0 (Hl all l))
 | [],_,l,hl=>by simp at hl
 | x::ls,h,l,hl=>by
  simp only[List.mem_cons] at hl;rcases hl with rfl | hl
  ·exact h.1
  ·exact Bz4 h.2 l hl
theorem Inv.sound {F:Fence} {n:Nat} (hF:FOk F) (ak:all.all (Lz N)=true) (hQ: ∀v env env' h,Q (.panic v) ⟨env,h⟩->Q (.panic v) ⟨env',h⟩): ∀(Dx:Nat) (U T js:List Nat) (p:Plan) (c s:DS) (a:Act) (w:World) (listed:Array Bool),
    Inv P G N all Q s0 w0 T js p c s a w listed->U.length<=Dx->(∀i,i<all.length->listed.getD i true=false->i∈U)->
    wpAnyIn F n P .any all.toArray (Sg G N Q s0 w0) Dx listed a w:=by
  intro Dx
  induction Dx with
  | zero=>
    intro U T js p c s a w listed h hU J
    have a9:U= []:=List.eq_nil_of_length_eq_zero (Nat.le_zero.1 hU)
    subst a9
    have X: ∀i,i<all.length->listed.getD i true=true:=by
      intro i hi
      cases hl:listed.getD i true with
      | true=>rfl
      | false=>exact absurd (J i hi hl) (by simp)
    have Y:js= []:=by
      cases js with
      | nil=>rfl
      | cons j js=>
        have hs:=h.sub j (by simp)
        exact absurd (by simp) ((h.iff j hs.2).1 (X j hs.2)).2
    subst Y
    have hsc:=h.seq
    simp only[Seq] at hsc
    refine⟨?_, ?_⟩
    · rw[List.eq_nil_iff_forall_not_mem]
      intro k hk
      rw[Xt h.size] at hk
      rw[X k hk.1] at hk
      cases hk.2.1
    · rcases Ax1 p T s h.ok h.plan with⟨_,hq⟩ | ⟨i,hi,Z,_⟩
      · subst hsc;exact⟨.normal,s,hq, .normal,h.sim,h.ext⟩
      · exact absurd ((h.iff i hi).1 (X i hi)).1 Z
  | succ Dx ih=>
    intro U T js p c s a w listed h0 hU J
    obtain⟨T,js,p,s,h,ba⟩:=h0.normal
    have al: ∀e,listed.getD e false=true->e∈T/\e∉js:=by
      intro e he
      have L:e<listed.size:=by
        rcases Nat.lt_or_ge e listed.size with h' | h'
        · exact h'
        · simp [Array.getElem?_eq_none h'] at he
      have:=he
      rw[Za L] at this
      exact(h.iff e (by rw[<-h.size];exact L)).1 this
    refine⟨fun hr=> ?_,fun k hk=> ?_⟩
    · -- nothing may come up: all have
      have am: ∀k,k∉Region.ready .any all.toArray listed:=by rw[hr];simp
      have ao: ∀e,e∈T->e∉js->e<all.length->listed.getD e false=true:=by
        intro e h1 h2 h3
        rw[Za (by rw[h.size];exact h3)]
        exact(h.iff e h3).2 ⟨h1,h2⟩
      have ap: ∀i,i<all.length-> ¬(i∈T/\i∉js)->listed.getD i true=false:=by
        intro i hi hn
        cases hl:listed.getD i true with
        | false=>rfl
        | true=>exact(hn ((h.iff i hi).1 hl)).elim
      have Y:js= []:=by
        cases js with
        | nil=>rfl
        | cons j js=>
          refine(am j ((Xt h.size).2 ⟨(h.sub j (by simp)).2,ap j (h.sub j (by simp)).2 (fun hh=>hh.2 (by simp)),fun e he=> ?_⟩)).elim
          obtain⟨E,I⟩:=h.deps j (by simp) e he
          refine ao e E (fun hm=> ?_) (h.tlt e E)
          simp only[List.mem_cons] at hm
          rcases hm with hm | hm
          · exact I hm
          · have:=((List.pairwise_cons.1 h.pair).1 e hm).2
            rw[he] at this;cases this
      subst Y
      have hsc:=h.seq
      simp only[Seq] at hsc
      rcases Ax1 p T s h.ok h.plan with⟨_,hq⟩ | ⟨i,hi,Z,hd⟩
      · subst hsc;exact⟨.normal,s,hq, .normal,h.sim,h.ext⟩
      · exact(am i ((Xt h.size).2 ⟨hi,ap i hi (fun hh=>Z hh.1),fun e he=>ao e (hd e he) (by simp) (h.tlt e (hd e he))⟩)).elim
    · rw[Xt h.size] at hk
      obtain⟨D,aq,hdep⟩:=hk
      obtain⟨o,ho⟩:=Wn D
      have M: ∀e,Uo all k e=true->e∈T/\e∉js:=fun e he=>al e (hdep e he)
      have bb:k∈U:=J k D aq
      have ar:(U.erase k).length<=Dx:=by
        rw[List.length_erase_of_mem bb];omega
      have O: ∀i,i≠k->(listed.setIfInBounds k true).getD i true=listed.getD i true:=fun i hi=>getD_set_ne true (Ne.symm hi)
      have aa:(listed.setIfInBounds k true).getD k true=true:=by
        have:k<listed.size:=by rw[h.size];exact D
        simp [this]
      have au: ∀e,listed.getD e false=true->(listed.setIfInBounds k true).getD e false=true:=by
        intro e he
        have L:e<listed.size:=by
          rcases Nat.lt_or_ge e listed.size with h' | h'
          · exact h'
          · simp [Array.getElem?_eq_none h'] at he
        by_cases av:e=k
        · subst av
          simp [L]
        · rw[getD_set_ne false (Ne.symm av)];exact he
      have aw: ∀i,i<all.length->(listed.setIfInBounds k true).getD i true=true-> ∀e,Uo all i e=true->(listed.setIfInBounds k true).getD e false=true:=by
        intro i hi hl e he
        by_cases C:i=k
        · subst C;exact au e (hdep e he)
        · rw[O i C] at hl
          exact au e (h.clo i hi hl e he)
      have ax: ∀i,i<all.length->(listed.setIfInBounds k true).getD i true=false->i∈U.erase k:=by
        intro i hi hl
        by_cases C:i=k
        · subst C;rw[aa] at hl;cases hl
        · rw[O i C] at hl
          exact(List.mem_erase_of_ne C).2 (J i hi hl)
      by_cases ab:k∈js
      · -- it was taken before
        obtain⟨A,B,rfl⟩:=List.append_of_mem ab
        have bc:=List.pairwise_append.1 h.pair
        have bd:=h.nodup
        rw[List.nodup_append] at bd
        have be: ∀j∈A,Apart all j k:=by
          intro j hj
          have bf:=(h.sub j (by simp [hj])).2
          obtain⟨x,hx⟩:=Wn bf
          rcases(bc.2.2 j hj k (by simp)).1 with hd | ha
          · exact absurd (by simp [hj]) (M j hd).2
          · exact Bb9 hx ho ha
        obtain⟨d,ac,ay⟩:=Seq.front be h.seq
        obtain⟨o',a0,bp,ac⟩:=ac
        rw[ho] at a0;cases a0
        have hdst:Om all k=o.dst:=by simp [Om,ho]
        have ad:dAt P G all (fun s1=>s1=⟨Hr c.env o.dst d,c.heap⟩) Q c (some o):=by
          rw[Bl1]
          rcases ac with⟨hw,hv⟩ | ⟨hw,rfl⟩
          · exact .inl ⟨hw,hv _ _ rfl⟩
          · exact .inr ⟨hw,rfl⟩
        refine wpOpIn_mono ?_ (Bl2 hF ak ho h.sim h.ext ad)
        rintro a' w' ⟨s1,rfl,ae,af⟩
        refine ih (U.erase k) T (A++B) p ⟨Hr c.env o.dst d,c.heap⟩ s a' w' _ ?_ ar ax
        have S: ∀i,i∈A++B->i∈A++k::B:=fun i hi=>by
          simp only[List.mem_append,List.mem_cons] at hi⊢
          rcases hi with hi | hi
          · exact .inl hi
          · exact .inr (.inr hi)
        have a1:(A++B).Sublist (A++k::B):=List.Sublist.append (List.Sublist.refl A) (List.sublist_cons_self k B)
        have bg:k∉A++B:=by
          intro hm
          have:=h.nodup
          rw[(List.perm_middle (a:=k) (l₁:=A) (l₂:=B)).nodup_iff] at this
          exact(List.nodup_cons.1 this).1 hm
        exact {
          sim:=ae,ext:=h.ext.trans af,seq:=by rw[hdst] at ay;exact ay,plan:=h.plan,ok:=h.ok,cov:=h.cov
          size:=by simp [h.size]
          iff:=fun i hi=>by
            by_cases C:i=k
            · subst C
              rw[aa]
              exact⟨fun _=>⟨(h.sub i (by simp)).1,bg⟩,fun _=>rfl⟩
            · rw[O i C,h.iff i hi]
              simp only[List.mem_append,List.mem_cons,not_or]
              constructor
              · rintro⟨E,I,g3⟩;exact⟨E,I,g3.2⟩
              · rintro⟨E,I,g3⟩;exact⟨E,I,C,g3⟩
          sub:=fun i hi=>h.sub i (S i hi)
          tlt:=h.tlt
          nodup:=h.nodup.sublist a1
          eager:=fun i hi=>h.eager i (S i hi)
          pair:=h.pair.sublist a1
          out:=fun i hi=>h.out i (S i hi)
          deps:=fun i hi=>h.deps i (S i hi)
          clo:=aw }
      · -- it is the plan's next
        have a2:k∉T:=by
          intro hm
          have:=(h.iff k D).2 ⟨hm,ab⟩
          rw[aq] at this;cases this
        have hf:=Dh6 h.cov h.ok ba D a2 fun e he=>(M e he).1
        obtain⟨ls,p',hok,hpl⟩:=Aj8 p T s k h.ok h.plan hf
        simp only[Kv,jF,decide_eq_true_eq,Bool.not_eq_true'] at hok
        obtain⟨⟨⟨⟨⟨_,_⟩,hd⟩,ag⟩,bh⟩,bi⟩:=hok
        simp only[Sh,ho] at hpl
        have ah: ∀j∈js,Apart all j k:=by
          intro j hj
          obtain⟨x,hx⟩:=Wn (h.sub j hj).2
          rcases h.out j hj k D a2 with hd | ha
          · exact absurd hj (M j hd).2
          · exact Bb9 hx ho ha
        have hdst:Om all k=o.dst:=by simp [Om,ho]
        have bj:looks all k=o.looksAt all.toArray:=by simp [looks,ho]
        have agree: ∀t∈o.looksAt all.toArray,c.env t=s.env t:=by
          intro t ht
          refine(Seq.env h.seq t fun j hj e=> ?_).symm
          exact(ah j hj).a t e (by rw[bj];exact ht)
        have shift: ∀d H',Es4 G all ls s (Sh P G all Q p') ⟨Hr s.env o.dst d,H'⟩->
            (∃s1,Sh P G all Q p' s1/\Seq P G all ⟨Hr c.env o.dst d,H'⟩ js s1):=by
          intro d H' V
          refine⟨_,V.2,Seq.shift h.seq (fun j hj t e=> ?_) (fun j hj t e e2=> ?_) ?_⟩
          · exact(ah j hj).c t (by rw[hdst];exact e)
          · exact(ah j hj).b t e (by rw[hdst];exact e2)
          · intro A j B e oj a a3 a4
            have ai:j∈js:=by rw[e];simp
            have bk:=(h.sub j ai).1
            unfold Ds4 at ag
            rw[List.all_eq_true] at ag
            have hl:=ag j bk
            simp only[Ap0,a3,a4,Bool.or_eq_true,jF,List.contains_iff_mem,bne_iff_ne] at hl
            rcases hl with(hl | ⟨aj,W⟩) | ⟨aj,W⟩
            · exact absurd ai (M j hl).2
            · rcases Ap3 h.size hdep h.clo (k+1) [k] (fun m hm=> .inl (by simpa using hm)) j W with hh | hh
              · exact absurd hh aj
              · exact absurd ai (al j hh).2
            · refine⟨fun t ht m hm bl=> ?_, ?_⟩
              · subst ht
                simp only[Cs0,List.all_eq_true,Bool.or_eq_true,bne_iff_ne] at W
                have a5:m∈js:=by rw[e];exact List.mem_append_right _ hm
                rcases W m (h.sub m a5).1 with g | g
                · exact g bl
                · simp only[List.mem_cons] at hm
                  rcases hm with rfl | hm
                  · exact(h.deps m a5 m g).2 rfl
                  · have hp:=h.pair
                    rw[e,List.pairwise_append] at hp
                    have:=(List.pairwise_cons.1 hp.2.1).1 m hm
                    rw[g] at this
                    cases this.2
              · have a6:=Bz4 V.1 j aj
                simp only[Ap0,a3,a4,Es2] at a6
                rw[<-Seq.heap h.seq]
                exact a6
        have ad:dAt P G all (fun c1=> ∃s1,Sh P G all Q p' s1/\Seq P G all c1 js s1) Q c (some o):=by
          rw[Bl1] at hpl⊢
          rw[Ap1 agree]
          have a7:=Seq.heap h.seq
          rcases hpl with⟨hw,bm⟩ | ⟨hw,a8⟩
          · refine .inl ⟨hw,Ed7 o.op (Bz2 (all:=all) agree) a7.symm (fun d H' V=>shift d H' V) (fun v H' hq=>hQ v _ _ H' hq) bm⟩
          · refine .inr ⟨hw, ?_⟩
            unfold Cb at a8⊢
            rw[<-a7]
            exact shift _ _ a8
        refine wpOpIn_mono ?_ (Bl2 hF ak ho h.sim h.ext ad)
        rintro a' w' ⟨c1,⟨s1,hp1,bn⟩,ae,af⟩
        refine ih (U.erase k) (k::T) js p' c1 s1 a' w' _ ?_ ar ax
        exact {
          sim:=ae,ext:=h.ext.trans af,seq:=bn,plan:=hp1,ok:=bi,cov:=bh
          size:=by simp [h.size]
          iff:=fun i hi=>by
            by_cases C:i=k
            · subst C
              rw[aa]
              exact⟨fun _=>⟨by simp,ab⟩,fun _=>rfl⟩
            · rw[O i C,h.iff i hi]
              simp [C]
          sub:=fun i hi=>⟨by simp [(h.sub i hi).1],(h.sub i hi).2⟩
          tlt:=fun i hi=>by
            simp only[List.mem_cons] at hi
            rcases hi with rfl | hi
            · exact D
            · exact h.tlt i hi
          nodup:=h.nodup
          eager:=h.eager
          pair:=h.pair
          out:=fun i hi m hm bo=>h.out i hi m hm (fun hh=>bo (by simp [hh]))
          deps:=fun i hi e he=>⟨by simp [(h.deps i hi e he).1],(h.deps i hi e he).2⟩
          clo:=aw }
theorem Fn8 {id:Nat} {C:Array Oper} {s:DS} (hm:P.follows .mixedOrders=true) (p:Plan)
    (hp:(C.toList.all (Lz N)&&Bz1 C.toList [] p&&Kv C.toList p [])=true) (h:Sh P G C.toList (QP Q) p s):DWp P G N (.region id C true) Q s:=by
  intro F n B D a w hS
  simp only[jF] at hp
  obtain⟨⟨E,hc⟩,hok⟩:=hp
  have hE:Ext s.heap w s.heap { w with drawn:=w.drawn+1 }:=⟨rfl,rfl,rfl,Nat.le_refl _,fun _ _ _=>rfl,fun _ h=> .inl h,fun _ _=>rfl,fun _ _ _=>rfl⟩
  have I:Bm { w with drawn:=w.drawn+1 } s.heap:=fun r o hr=>(hS.heap r o hr).lasts hE.lasts
  have J:Sim G ⟨N.n,B⟩ s a { w with drawn:=w.drawn+1 }:=hS.ext hE I
  have key:=Inv.sound (n:=n) D (P:=P) (G:=G) (N:=⟨N.n,B⟩) (all:=C.toList) (Q:=QP Q) (s0:=s) (w0:=w) E
    (fun v env env' h hq L=>hq L) C.toList.length (List.range C.toList.length) [] [] p s s a { w with drawn:=w.drawn+1 } (Array.replicate C.size false)
    { sim:=J,ext:=hE,seq:=rfl,plan:=h,ok:=hok,cov:=hc,size:=by simp
      iff:=fun i hi=>by
        have:i<C.size:=by simpa using hi
        simp [this]
      sub:=by simp
      tlt:=by simp
      nodup:=by simp
      eager:=by simp
      pair:=by simp
      out:=by simp
      deps:=by simp
      clo:=fun k hk hl=>by
        have:k<C.size:=by simpa using hk
        simp [this] at hl } (by simp) (fun i hi _=>by simpa using hi)
  have e1:C.toList.toArray=C:=by simp
  have M:C.toList.length=C.size:=by simp
  rw[e1,M] at key
  refine wpIn_mono (wpIn_region_any hm key) ?_
  rintro e a' w' ⟨e',s',hq,hx,O,S⟩
  refine⟨e',s', ?_,hx,O,S⟩
  cases hx with
  | normal=>exact hq
  | panic d v hv=>exact hq s'.env
  | exit=>exact hq.elim
  | goto=>exact hq.elim
  | ret=>exact hq.elim
end
attribute [go_sem] Hl.eq_1 Hl.eq_2 Hl.eq_3 Ao8.eq_1 Ao8.eq_2 Ao8.eq_3 Ao8.eq_4 Ao8.eq_5 Ao8.eq_6 Ao9.eq_1 Gg6.eq_1 Gg6.eq_2 dAt.eq_1 Nk.eq_1 Nk.eq_2 Es2.eq_1 Es2.eq_2 Ap0.eq_1 Ci0.eq_1 Ci0.eq_2 Ci0.eq_3 Es3.eq_1 Es3.eq_2 Sh.eq_1 Sh.eq_2 Sh.eq_3 Sh.eq_4 QP.eq_1 QP.eq_2 Es4
section
variable (v:DVal) (H H':Ac)
@[go_sem] theorem Gc3 (cs:List DVal) (o:Nat):Nk H H' (.vptr cs o)=True:=rfl
@[go_sem] theorem Fl2 (cs:List DVal) (o:Nat):Nk H H' (.vslice cs o)=True:=rfl
@[go_sem] theorem Gg7 (k:IntKind) (n:Int):Nk H H' (.int k n)=True:=rfl
@[go_sem] theorem Gc4 (b:Bool):Nk H H' (.bool b)=True:=rfl
@[go_sem] theorem Eo3:Nk H H' .nilSlice=True:=rfl
@[go_sem] theorem Gg8 (s:List UInt8):Nk H H' (.str s)=True:=rfl
end
end Go.Dl
-- D5
namespace Go.Dl
open Go Go.RowKit
section
variable {P:Program} {G:Nat->DVal} {N:Nat} {w w':World} {Q:DExit->DS->Prop}
theorem Nu {α:Type} {f:Nat->Option α} {l:Nat} (h:f l=none) (x:Option α):upd (upd f l x) l none=f:=by
 funext i;simp only[upd];split
 ·rename_i e;subst e;exact h.symm
 ·rfl
end
def Cs1 (Hi X:Ac):Ac:=fun r=>match X r with
 | some o=>some o
 | none=>Hi r
def Gr5 (Hi X:Ac):Prop:= ∀r,X r≠none->Hi r=none
def h0:Ac:=fun _=>none
theorem Ds6 (C:Ac):Cs1 C h0=C:=rfl
theorem Ds7 {C X:Ac} {r:Nat} (h:X r=none):Cs1 C X r=C r:=by simp [Cs1,h]
theorem Gg9 {C X:Ac} {r:Nat} {o:DObj} (h:X r=some o):Cs1 C X r=some o:=by simp [Cs1,h]
theorem Ba {H:Ac} {r C:Nat} {o:DObj}:upd H r (some o) C=none↔C≠r/\r≠C/\H C=none:=by
 unfold upd;by_cases e:C=r
 ·simp [e]
 ·simp [e,Ne.symm e,eq_comm]
section
end
mutual
/-- The value, with block r (its cells: cs) seen as memory that lasts. -/
def fz (r:Nat) (cs:List DVal):DVal->DVal
 | .optr r' off=>if r'=r then .vptr cs off else .optr r' off
 | .oslice sz r' off len lo=>if r'=r then .vslice ((cs.drop off).take (len*sz)) len else .oslice sz r' off len lo
 | .func fn a c=> .func fn (fzs r cs a) (fzs r cs c)
 | .iface t v=> .iface t (fz r cs v)
 | .agg l=> .agg (fzs r cs l)
 | .tuple l=> .tuple (fzs r cs l)
 | .vptr l off=> .vptr (fzs r cs l) off
 | .vslice l n=> .vslice (fzs r cs l) n
 | d=>d
def fzs (r:Nat) (cs:List DVal):List DVal->List DVal
 | []=> []
 | d::ds=>fz r cs d::fzs r cs ds
end
section
variable {P:Program} {G:Nat->DVal} {w:World} {H:Ac}
theorem Dq (H:Ac) (r:Nat) (w:World):Lasts H w (upd H r none) w:=
 ⟨fun b i x hb hc=>⟨by simp only[upd];split;rfl;exact hb,hc⟩,Nat.le_refl _,fun _ _=>rfl⟩
theorem Aa6 (C:Bm w H) {r:Nat} {cs:List DVal} {e:TypeId} (hr:H r=some (.cells cs e)): ∃xs,Az w (upd H r none) cs xs/\Uv w (upd H r none) r 0 xs:=by
 obtain⟨xs,hl,hh⟩:=C.holds hr;exact⟨xs,hl.lasts (Dq H r w), .inr ⟨by simp [upd],fun i x hx=>by simpa using hh i x hx⟩⟩
theorem Uv.part {b off:Nat} {xs:List Value} (h:Uv w H b off xs) (m n:Nat):Uv w H b (off+m) ((xs.drop m).take n):=by
 rcases h with rfl | ⟨h1,h2⟩
 ·exact .inl (by simp)
 ·refine .inr ⟨h1,fun i x hx=> ?_⟩;have:xs[m+i]? =some x:=by
   rw[List.getElem?_take] at hx;split at hx
   ·simpa using hx
   ·cases hx
  have:=h2 _ x this
  rwa [<-Nat.add_assoc] at this
mutual
theorem Dh7 (C:Bm w H) {r:Nat} {cs:List DVal} {e:TypeId} (hr:H r=some (.cells cs e)): ∀(d:DVal) (v:Value),Rel w H d v->Rel w (upd H r none) (fz r cs d) v
 | .optr r' off,v,h=>by
  simp only[fz]
  split
  ·rename_i e';subst e'
   simp only[Rel] at h⊢
   obtain⟨xs,hl,hc⟩:=Aa6 C hr
   exact⟨r',0,xs,by simpa using h,hc,hl⟩
  ·simpa [Rel] using h
 | .oslice sz r' off len lo,v,h=>by
  simp only[fz]
  split
  ·rename_i e';subst e'
   simp only[Rel] at h⊢
   obtain⟨o,cap,rfl,h1,h2,h3,h4⟩:=h
   obtain⟨xs,hl,hc⟩:=Aa6 C hr
   refine⟨_,cap,rfl,h2, ?_⟩
   by_cases h0:cap=0
   ·have:len=0:=by omega
    subst this;left;simp
   ·have ho:o=off:=h3.resolve_left h0
    subst ho
    right
    refine⟨r',o,(xs.drop o).take (len*sz),rfl, ?_,(hl.drop o).take _⟩
    have:=hc.part o (len*sz)
    simpa using this
  ·exact Rel.lasts (Dq H r w) _ _ h
 | .func fn a c,v,h=>by
  simp only[Rel,fz] at h⊢
  obtain⟨xs,ys,rfl,h1,h2⟩:=h
  exact⟨xs,ys,rfl,Xu C hr _ _ h1,Xu C hr _ _ h2⟩
 | .iface t d,v,h=>by
  simp only[Rel,fz] at h⊢
  obtain⟨x,rfl,h1⟩:=h
  exact⟨x,rfl,Dh7 C hr _ _ h1⟩
 | .agg l,v,h=>by
  simp only[Rel,fz] at h⊢
  obtain⟨x,rfl,h1⟩:=h
  exact⟨x,rfl,Xu C hr _ _ h1⟩
 | .tuple l,v,h=>by
  simp only[Rel,fz] at h⊢
  obtain⟨x,rfl,h1⟩:=h
  exact⟨x,rfl,Xu C hr _ _ h1⟩
 | .raw x,v,h=>by simp only[fz];exact Rel.lasts (Dq H r w) _ _ h
 | .bool x,v,h=>by simp only[fz];exact Rel.lasts (Dq H r w) _ _ h
 | .int x y,v,h=>by simp only[fz];exact Rel.lasts (Dq H r w) _ _ h
 | .str x,v,h=>by simp only[fz];exact Rel.lasts (Dq H r w) _ _ h
 | .nilPtr,v,h=>by simp only[fz];exact Rel.lasts (Dq H r w) _ _ h
 | .vptr l off,v,h=>by
  simp only[Rel,fz] at h⊢
  obtain⟨b,o,xs,rfl,h1,h2⟩:=h
  exact⟨b,o,xs,rfl,h1.lasts (Dq H r w),Xu C hr _ _ h2⟩
 | .nilSlice,v,h=>by simp only[fz];exact Rel.lasts (Dq H r w) _ _ h
 | .vslice l n,v,h=>by
  simp only[Rel,fz] at h⊢
  obtain⟨a,cap,rfl,hle,h1⟩:=h
  refine⟨a,cap,rfl,hle, ?_⟩
  rcases h1 with h1 | ⟨b,o,xs,rfl,h1,h2⟩
  ·subst h1;exact .inl rfl
  ·exact .inr ⟨b,o,xs,rfl,h1.lasts (Dq H r w),Xu C hr _ _ h2⟩
 | .nilMap,v,h=>by simp only[fz];exact Rel.lasts (Dq H r w) _ _ h
 | .omap x,v,h=>by simp only[fz];exact Rel.lasts (Dq H r w) _ _ h
 | .nilFunc,v,h=>by simp only[fz];exact Rel.lasts (Dq H r w) _ _ h
 | .nilIface,v,h=>by simp only[fz];exact Rel.lasts (Dq H r w) _ _ h
theorem Xu (D:Bm w H) {r:Nat} {cs:List DVal} {e:TypeId} (hr:H r=some (.cells cs e)): ∀(C:List DVal) (vs:List Value),Az w H C vs->Az w (upd H r none) (fzs r cs C) vs
 | [],vs,h=>by simpa [fzs,Az] using h
 | d::C,vs,h=>by
  simp only[fzs,Az] at h⊢
  obtain⟨y,ys,rfl,h1,h2⟩:=h
  exact⟨y,ys,rfl,Dh7 D hr _ _ h1,Xu D hr _ _ h2⟩
end
def Mb (H:Ac) (v:DVal) (H':Ac) (v':DVal):Prop:= ∀w,Bm w H->Bm w H'/\(∀b,H' b≠none->H b≠none)/\ ∀x,Rel w H v x->Rel w H' v' x
theorem Mb.trans {H H' C:Ac} {v D E:DVal} (h:Mb H v H' D) (k:Mb H' D C E):Mb H v C E:=fun w hw=>by
 obtain⟨h1,h2,h3⟩:=h w hw;obtain⟨k1,I,J⟩:=k w h1;exact⟨k1,fun b hb=>h2 b (I b hb),fun x hx=>J x (h3 x hx)⟩
theorem Mb.fz {H:Ac} {v:DVal} {r:Nat} {cs:List DVal} {e:TypeId} (hr:H r=some (.cells cs e)):Mb H v (upd H r none) (fz r cs v):=fun w hw=>
 ⟨hw.letGo r,fun b hb=>by simp only[upd] at hb;split at hb<;>simp_all,fun x hx=>Dh7 hw hr _ _ hx⟩
theorem Mb.drop (H:Ac) (v:DVal) (r:Nat):Mb H v (upd H r none) v:=fun w hw=>
 ⟨hw.letGo r,fun b hb=>by simp only[upd] at hb;split at hb<;>simp_all,fun x hx=>Rel.lasts (Dq H r w) _ _ hx⟩
theorem Fa.ghost {R:DEnd->Ac->Prop} {v C:DVal} {H H':Ac} (g:Mb H v H' C) (h:Fa R C H'):Fa R v H:=by
 obtain⟨D,H2,k,E⟩:=h;exact⟨D,H2,g.trans k,E⟩
theorem Fa.fz {R:DEnd->Ac->Prop} {v:DVal} {H:Ac} (r:Nat) {cs:List DVal} {e:TypeId} (hr:H r=some (.cells cs e)) (h:Fa R (fz r cs v) (upd H r none)):Fa R v H:= .ghost (.fz hr) h
theorem Fa.drop {R:DEnd->Ac->Prop} {v:DVal} {H:Ac} (r:Nat) (h:Fa R v (upd H r none)):Fa R v H:= .ghost (.drop H v r) h
theorem Ag.ghost {f:FuncId} {args:List DVal} {H:Ac} {R D:DEnd->Ac->Prop} (h:Ag P G f args H R) (hr: ∀e H',R e H'-> ∃v v' H'',e= .ret v/\Mb H' v H'' v'/\D (.ret v') H''):Ag P G f args H D:=by
 refine⟨h.1,fun vs w hv E hG=>(h.2 vs w hv E hG).mono fun e w' ⟨e',H',r,k1,I,C⟩=> ?_⟩;obtain⟨v,v',H'',rfl,g,r'⟩:=hr _ _ r;obtain⟨J,L,M⟩:=g w' I;cases k1 with
 | ret d x hx=>exact⟨.ret v',H'',r', .ret _ _ (M x hx),J,C.os,C.tape,C.output,C.size,C.block,fun b hb=>C.own b (L b hb),C.keep,C.fz⟩
theorem Ag.pre {f:FuncId} {args args':List DVal} {H H':Ac} {R:DEnd->Ac->Prop} (g:Mb H (.tuple args) H' (.tuple args')) (h:Ag P G f args' H' R):Ag P G f args H R:=by
 refine⟨h.1,fun vs w hv E hG=> ?_⟩;obtain⟨I,D,J⟩:=g w E;have hl:Lasts H w H' w:=⟨fun b i x hb hc=>⟨by
  cases e:H' b with
  | none=>rfl
  | some o=>exact absurd hb (D b (by simp [e])),hc⟩,Nat.le_refl _,fun _ _=>rfl⟩
 have L:Az w H' args' vs:=by
  have:=J (.tuple vs.toArray) (by simp only[Rel];exact⟨_,rfl,hv⟩);simp only[Rel] at this;obtain⟨xs,h1,h2⟩:=this;cases h1;exact h2
 refine(h.2 vs w L I (hG.lasts hl)).mono fun e w' ⟨e',M,r,k1,O,C⟩=>⟨e',M,r,k1,O,C.os,C.tape,C.output,C.size,fun b hb hn=>C.block b hb (by
  cases e:H' b with
  | none=>rfl
  | some o=>exact absurd hn (D b (by simp [e]))),fun b hb=> ?_,C.keep,fun a ha hn=>C.fz a ha (by
  cases e:H' a.block with
  | none=>rfl
  | some o=>exact absurd hn (D a.block (by simp [e])))⟩
 rcases C.own b hb with k | k
 ·exact .inl (D b k)
 ·exact .inr k
theorem Ag.fzArgs {f:FuncId} {args:List DVal} {H:Ac} {R:DEnd->Ac->Prop} (r:Nat) {cs:List DVal} {e:TypeId} (hr:H r=some (.cells cs e)) (h:Ag P G f (fzs r cs args) (upd H r none) R):Ag P G f args H R:=
 .pre (by have:=Mb.fz (v:= .tuple args) hr;simpa only[fz] using this) h
def Es6:DVal->Bool
 | .bool _ | .int _ _ | .str _ | .nilPtr | .nilSlice | .nilMap | .nilFunc | .nilIface=>true
 | .tuple l=>plains l
 | .agg l=>plains l
 | _=>false
where plains:List DVal->Bool
 | []=>true
 | d::ds=>Es6 d&&plains ds
end
attribute [go_sem] fz.eq_1 fz.eq_2 fz.eq_3 fz.eq_4 fz.eq_5 fz.eq_6 fzs.eq_1 fzs.eq_2 Ds6
theorem Gr {α:Type} (f:Nat->α) (r:Nat) (a b:α):upd (upd f r a) r b=upd f r b:=by
 funext i;simp only[upd];split<;>rfl
theorem Aa7 {α:Type} {C D:Nat} (h:C≠D) (f:Nat->α) (a b:α):upd (upd f D b) C a=upd (upd f C a) D b:=by
 funext i;simp only[upd];by_cases e1:i=C<;>by_cases E:i=D<;>simp_all
theorem Cs2 (xs C:List DVal):Cn xs 0 C=C++xs.drop C.length:=by simp [Cn]
theorem Cs3 (x:DVal) (xs C:List DVal) (n:Nat):Cn (x::xs) (n+1) C=x::Cn xs n C:=by
 simp [Cn,Nat.add_right_comm]
attribute [go_sem] Gr Cs2 Cs3
theorem Ag.fzA {P:Program} {G:Nat->DVal} {f:FuncId} {args:List DVal} {H:Ac} {R:DEnd->Ac->Prop} (r:Nat) {cs:List DVal} {e:TypeId} (hr:H r=none) (h:Ag P G f (fzs r cs args) H R):Ag P G f args (upd H r (some (.cells cs e))) R:=
 Ag.fzArgs r (Aa _ _ _) (by rw[Nu hr];exact h)
theorem Fa.fzA {R:DEnd->Ac->Prop} {v:DVal} {H:Ac} (r:Nat) {cs:List DVal} {e:TypeId} (hr:H r=none) (h:Fa R (Dl.fz r cs v) H):Fa R v (upd H r (some (.cells cs e))):=
 Fa.fz r (Aa _ _ _) (by rw[Nu hr];exact h)
theorem Fa.dropA {R:DEnd->Ac->Prop} {v:DVal} {H:Ac} (r:Nat) {o:Option DObj} (hr:H r=none) (h:Fa R v H):Fa R v (upd H r o):=
 Fa.drop r (by rw[Nu hr];exact h)
section
variable {P:Program} {G:Nat->DVal} {N:Nat} {Q:DExit->DS->Prop}
theorem Ak {id:Nat} {C:List Oper} {s:DS} (hm:P.follows .mixedOrders=true) (p:Plan) (hp:(C.all (Lz N)&&Bz1 C [] p&&Kv C p [])=true) (h:Sh P G C (QP Q) p s):dwp P G N (.region id C.toArray true) Q s:=
 Fn8 (N:=⟨N,⟨0,[],false⟩⟩) hm p (by simpa using hp) (by simpa using h)
end
abbrev Ax (v:DVal) (H:Ac):DEnd->Ac->Prop:=fun e H'=>e= .ret v/\H'=H
def Gr6 (H:Ac) (e:TypeId) (size n:Nat) (cs:List DVal) (v:DVal) (H':Ac):Prop:=
 (n=0/\cs= []/\v= .nilSlice/\H'=H)\/ ∃r,H r=none/\cs.length=n*size/\v= .oslice size r 0 n n/\H'=upd H r (some (.cells cs e))
section
variable {P:Program} {G:Nat->DVal} {Q:DExit->DS->Prop}
theorem Aa8 {α:Type} {f:Nat->α} {r:Nat} {x:α} (h:f r=x):upd f r x=f:=by
 funext i;simp only[upd];split
 ·rename_i e;rw[e,h]
 ·rfl
theorem Bc0 {e:TypeId} {size bytes r off len lo n:Nat} {C:List DVal} {dst:Option Nat} {K:DK} {s:DS} {cs:List DVal} (h:len+n<=lo):
  Tp e size bytes r off len lo n C dst K s (some (.cells cs e))=(off+(len+n)*size<=cs.length/\
    K ⟨Hr s.env dst (.oslice size r off (len+n) lo),upd s.heap r (some (.cells (Cn cs (off+len*size) C) e))⟩):=by
 simp only[Tp,true_and,eq_iff_iff];exact⟨fun k=>k.1 h,fun k=>⟨fun _=>k,fun hn=>(hn h).elim⟩⟩
theorem Ap4 {e:TypeId} {size bytes r len lo n:Nat} {E:List DVal} {dst:Option Nat} {K:DK} {s:DS} {cs:List DVal} (I:len<=lo) (h:lo<len+n):
  Tp e size bytes r 0 len lo n E dst K s (some (.cells cs e))=(len*size<=cs.length/\(len+n)*bytes<=35184372088832/\ ∀r',upd s.heap r none r'=none->
    K ⟨Hr s.env dst (.oslice size r' 0 (len+n) (len+n)),upd (upd s.heap r none) r' (some (.cells (cs.take (len*size)++E) e))⟩):=by
 simp only[Tp,true_and,eq_iff_iff,I,true_or,if_true];have hn: ¬len+n<=lo:=by omega
 refine⟨fun k=> ?_,fun k=>⟨fun hh=>(hn hh).elim,fun _=> ?_⟩⟩
 ·obtain⟨k1,C,D⟩:=k.2 hn;refine⟨by omega,C,fun r' hr=> ?_⟩;have:=D r' [] hr (fun _=>rfl);simpa using this
 ·obtain⟨k1,C,D⟩:=k;refine⟨by omega,C,fun r' pre hr hp=> ?_⟩;have J:=hp trivial;subst J;have:=D r' hr;simpa using this
theorem Mb.slice {H:Ac} {e:TypeId} {size n lo:Nat} {cs rest:List DVal} {r:Nat} (hr:H r=none) (hl:cs.length=n*size):Mb (upd H r (some (.cells (cs++rest) e))) (.oslice size r 0 n lo) H (.vslice cs n):=by
 have:=Mb.fz (v:= .oslice size r 0 n lo) (Aa H r (some (.cells (cs++rest) e)));rw[Nu hr] at this;simp only[Dl.fz,if_pos,jJ] at this;rw[List.take_append_of_le_length (by omega),List.take_of_length_le (by omega)] at this;exact this
theorem Gr6.ghost {H H0:Ac} {e:TypeId} {size n:Nat} {cs:List DVal} {v:DVal} (hv:Gr6 H e size n cs v H0):Mb H0 v H (.vslice cs n):=by
 rcases hv with⟨rfl,rfl,rfl,rfl⟩ | ⟨r,hr,hl,rfl,rfl⟩
 ·intro w hw;refine⟨hw,fun _ h=>h,fun x hx=> ?_⟩;simp only[Rel] at hx⊢
  exact⟨none,0,hx,Nat.le_refl _, .inl (by simp)⟩
 ·have:=Mb.fz (v:= .oslice size r 0 n n) (Aa H r (some (.cells cs e)));rw[Nu hr] at this;simp only[fz,if_pos,jJ] at this;rw[List.take_of_length_le (by omega)] at this;exact this
end
def DLe (d d':DVal):Prop:= ∀(w:World) (H:Ac) (x:Value),Rel w H d x->Rel w H d' x
theorem DLe.nil:DLe .nilSlice (.vslice [] 0):=fun w H x hx=>by
 simp only[Rel] at hx⊢
 exact⟨none,0,hx,Nat.le_refl _, .inl (by simp)⟩
theorem Fa.le {R:DEnd->Ac->Prop} {v C:DVal} {H:Ac} (g:DLe v C) (h:Fa R C H):Fa R v H:= .ghost (fun w hw=>⟨hw,fun _ h=>h,fun x hx=>g _ _ _ hx⟩) h
theorem Rz.drop {G:Nat->DVal} (s:DS) (r:Nat):Rz G s ⟨s.env,upd s.heap r none⟩:=fun w C hG=>
 ⟨C.letGo r,fun b hb=>by simp only[upd] at hb;split at hb<;>simp_all,hG.lasts (Dq _ r w),fun i x hx=>Rel.lasts (Dq _ r w) _ _ hx⟩
theorem Cs4 {H H':Ac} (h: ∀r o,H' r=some o->H r=some o) {b:Nat} (hb:H b=none):H' b=none:=by
 cases e:H' b with
 | none=>rfl
 | some o=>rw[h b o e] at hb;cases hb
theorem El {H H':Ac} (h: ∀r o,H' r=some o->H r=some o) (w:World):Lasts H w H' w:=
 ⟨fun b i x hb hc=>⟨Cs4 h hb,hc⟩,Nat.le_refl _,fun _ _=>rfl⟩
theorem Mb.sub {H H':Ac} (h: ∀r o,H' r=some o->H r=some o) (v:DVal):Mb H v H' v:=fun w hw=>
 ⟨fun r o ho=>(hw r o (h r o ho)).lasts (El h w),fun b hb e=>hb (Cs4 h e),fun x hx=>Rel.lasts (El h w) _ _ hx⟩
theorem Fa.sub {R:DEnd->Ac->Prop} {v:DVal} {H H':Ac} (h: ∀r o,H' r=some o->H r=some o) (k:Fa R v H'):Fa R v H:= .ghost (.sub h v) k
theorem Af {α:Type} {H:Nat->Option α} {a b:Nat} {o:α} (ha:H a=none) (hb:H b=some o):b≠a:=fun e=>by rw[e,ha] at hb;cases hb
theorem Aj9 (r:Nat) (cs:List DVal) (l m:List DVal):fzs r cs (l++m)=fzs r cs l++fzs r cs m:=by
 induction l with
 | nil=>simp [fzs]
 | cons d l ih=>simp [fzs,ih]
theorem Cs5 {α:Type} (p:α->Bool) (x:α):Option.all p (some x)=p x:=rfl
attribute [go_sem] Bc0 Ap4 Cs5
end Go.Dl
-- Df
namespace Go.Dl
open Go
attribute [go_sem] jD Int.sub_zero Int.zero_add Int.add_zero Nat.add_sub_cancel Ed1 jA jB List.all_cons List.all_nil Bool.and_true jS Bool.or_false Bool.false_or jM jR jE jJ decide_true decide_false Nat.mul_one Nat.one_mul Nat.zero_add Nat.add_zero Nat.mul_zero Nat.zero_mul Bool.not_true Bool.not_false Option.map_some Option.map_none Nat.le_refl Nat.zero_lt_succ ne_eq not_true_eq_false not_false_eq_true Option.isSome_some Gg4 Er2 Ed2 true_imp_iff false_imp_iff beq_self_eq_true forall_const Cr3 jK
end Go.Dl
-- Facts
namespace Go.Dl
open Go Go.Proofs
theorem fct0:Tryz.prog.cellsOf 2=1/\(Tryz.prog.info? 2).isSome=true/\Eb Tryz.prog 2=some false/\Tryz.prog.cellsOf 3=1/\(Tryz.prog.info? 3).isSome=true/\Eb Tryz.prog 3=some false/\Bn Tryz.prog 3=some (.int .i64 0)/\Tryz.prog.cellsOf 4=1/\(Tryz.prog.info? 4).isSome=true/\Eb Tryz.prog 4=some false/\Tryz.prog.cellsOf 5=1/\Bn Tryz.prog 5=some (.int .u8 0)/\Tryz.prog.cellsOf 9=1/\Tryz.prog.bytesOf 9=16/\(Tryz.prog.info? 9).isSome=true/\Eb Tryz.prog 9=some false/\Bn Tryz.prog 9=some (.str [])/\Tryz.prog.cellsOf 22=1/\(Tryz.prog.info? 22).isSome=true/\Eb Tryz.prog 22=some false/\Tryz.prog.cellsOf 23=1/\(Tryz.prog.info? 23).isSome=true/\Eb Tryz.prog 23=some false/\Tryz.prog.cellsOf 24=1/\(Tryz.prog.info? 24).isSome=true/\Eb Tryz.prog 24=some false/\Tryz.prog.cellsOf 25=1/\(Tryz.prog.info? 25).isSome=true/\Eb Tryz.prog 25=some false/\Tryz.prog.cellsOf 27=9/\Tryz.prog.bytesOf 27=104/\(Tryz.prog.info? 27).isSome=true/\Eb Tryz.prog 27=some true/\Ev Tryz.prog 27=true/\Bn Tryz.prog 27=some (.agg [.int .u8 0, .int .u8 0, .int .i64 0, .str [], .nilSlice, .nilSlice, .int .i64 0, .int .i64 0, .int .i64 0])/\Tryz.prog.cellsOf 29=1/\(Tryz.prog.info? 29).isSome=true/\Eb Tryz.prog 29=some false/\Tryz.prog.cellsOf 31=4/\Tryz.prog.bytesOf 31=40:=by(repeat' apply And.intro)<;>kernel_rfl
theorem fct1:(Tryz.prog.info? 31).isSome=true/\Eb Tryz.prog 31=some true/\Ev Tryz.prog 31=true/\Bn Tryz.prog 31=some (.agg [.int .u8 0, .int .i64 0, .str [], .int .i64 0])/\Tryz.prog.cellsOf 32=1/\(Tryz.prog.info? 32).isSome=true/\Eb Tryz.prog 32=some false/\Tryz.prog.cellsOf 36=1/\(Tryz.prog.info? 36).isSome=true/\Eb Tryz.prog 36=some false/\Bn Tryz.prog 36=some (.int .i64 0)/\Tryz.prog.cellsOf 41=1/\(Tryz.prog.info? 41).isSome=true/\Eb Tryz.prog 41=some false/\Tryz.prog.cellsOf 44=10/\Tryz.prog.bytesOf 44=128/\(Tryz.prog.info? 44).isSome=true/\Eb Tryz.prog 44=some true/\Ev Tryz.prog 44=true/\Bn Tryz.prog 44=some (.agg [.nilSlice, .int .u8 0, .int .u8 0, .int .i64 0, .str [], .nilSlice, .nilSlice, .int .i64 0, .int .i64 0, .int .i64 0])/\Tryz.prog.cellsOf 45=1/\Eb Tryz.prog 45=some false/\Tryz.prog.cellsOf 47=2/\Tryz.prog.bytesOf 47=32/\(Tryz.prog.info? 47).isSome=true/\Eb Tryz.prog 47=some true/\Ev Tryz.prog 47=true/\Bn Tryz.prog 47=some (.agg [.int .u8 0, .nilSlice])/\Tryz.prog.cellsOf 51=1/\(Tryz.prog.info? 51).isSome=true/\Eb Tryz.prog 51=some false/\Tryz.prog.cellsOf 53=1/\(Tryz.prog.info? 53).isSome=true/\Eb Tryz.prog 53=some false/\Bn Tryz.prog 53=some (.int .u8 0)/\Tryz.prog.cellsOf 54=1/\(Tryz.prog.info? 54).isSome=true/\Eb Tryz.prog 54=some false/\Bn Tryz.prog 54=some (.nilSlice)/\Tryz.prog.cellsOf 56=36:=by(repeat' apply And.intro)<;>kernel_rfl
theorem fct2:(Tryz.prog.info? 56).isSome=true/\Eb Tryz.prog 56=some true/\Ev Tryz.prog 56=true/\Tryz.prog.cellsOf 58=27/\(Tryz.prog.info? 58).isSome=true/\Eb Tryz.prog 58=some true/\Ev Tryz.prog 58=true/\Tryz.prog.cellsOf 59=1/\(Tryz.prog.info? 59).isSome=true/\Eb Tryz.prog 59=some false/\Tryz.prog.cellsOf 60=1/\(Tryz.prog.info? 60).isSome=true/\Eb Tryz.prog 60=some false/\Tryz.prog.cellsOf 62=87/\(Tryz.prog.info? 62).isSome=true/\Eb Tryz.prog 62=some true/\Ev Tryz.prog 62=true/\Tryz.prog.cellsOf 65=1/\(Tryz.prog.info? 65).isSome=true/\Eb Tryz.prog 65=some false/\Tryz.prog.cellsOf 113=1/\(Tryz.prog.info? 113).isSome=true/\Eb Tryz.prog 113=some false/\Bn Tryz.prog 113=some (.nilFunc)/\Tryz.prog.cellsOf 119=1/\(Tryz.prog.info? 119).isSome=true/\Eb Tryz.prog 119=some false/\Bn Tryz.prog 119=some (.nilFunc)/\Tryz.prog.cellsOf 134=1/\(Tryz.prog.info? 134).isSome=true/\Eb Tryz.prog 134=some false/\Bn Tryz.prog 134=some (.int .u8 0)/\Tryz.prog.cellsOf 136=21/\Tryz.prog.bytesOf 136=248/\(Tryz.prog.info? 136).isSome=true/\Eb Tryz.prog 136=some true/\Ev Tryz.prog 136=true/\Tryz.prog.cellsOf 139=1/\Eb Tryz.prog 139=some false/\Tryz.prog.cellsOf 140=1:=by(repeat' apply And.intro)<;>kernel_rfl
theorem fct3:Eb Tryz.prog 140=some false/\Ev Tryz.prog 143=true/\Bn Tryz.prog 143=some (.agg [.nilSlice])/\Ev Tryz.prog 146=true/\Bn Tryz.prog 146=some (.agg [.nilSlice])/\Tryz.prog.cellsOf 154=2/\Tryz.prog.bytesOf 154=32/\(Tryz.prog.info? 154).isSome=true/\Eb Tryz.prog 154=some true/\Ev Tryz.prog 154=true/\Bn Tryz.prog 154=some (.agg [.int .i64 0, .nilSlice])/\Tryz.prog.cellsOf 157=8/\(Tryz.prog.info? 157).isSome=true/\Ev Tryz.prog 157=true/\Bn Tryz.prog 157=some (.agg [.nilFunc, .nilFunc, .nilFunc, .nilFunc, .nilFunc, .nilFunc, .nilFunc, .nilFunc])/\Tryz.prog.cellsOf 164=2/\Tryz.prog.bytesOf 164=48/\(Tryz.prog.info? 164).isSome=true/\Eb Tryz.prog 164=some true/\Bn Tryz.prog 164=some (.agg [.nilSlice, .nilSlice])/\Tryz.prog.cellsOf 187=10/\Tryz.prog.bytesOf 187=120/\(Tryz.prog.info? 187).isSome=true/\Eb Tryz.prog 187=some true/\Ev Tryz.prog 187=true/\Bn Tryz.prog 187=some (.agg [.str [], .int .u8 0, .int .u8 0, .int .i64 0, .str [], .nilSlice, .nilSlice, .int .i64 0, .int .i64 0, .int .i64 0])/\Tryz.prog.cellsOf 202=47/\Tryz.prog.bytesOf 202=552/\(Tryz.prog.info? 202).isSome=true/\Eb Tryz.prog 202=some true/\Ev Tryz.prog 202=true/\Ev Tryz.prog 226=true/\Bn Tryz.prog 226=some (.agg [.nilSlice, .int .i64 0])/\Tryz.prog.cellsOf 231=1/\(Tryz.prog.info? 231).isSome=true/\Ev Tryz.prog 231=true/\Bn Tryz.prog 231=some (.agg [.int .i64 0])/\Tryz.prog.cellsOf 236=1/\(Tryz.prog.info? 236).isSome=true/\Eb Tryz.prog 236=some false:=by(repeat' apply And.intro)<;>kernel_rfl
theorem fct4:Bn Tryz.prog 236=some (.nilMap)/\Ev Tryz.prog 241=true/\Bn Tryz.prog 241=some (.agg [.nilSlice])/\Ev Tryz.prog 246=true/\Bn Tryz.prog 246=some (.agg [.nilSlice, .int .i64 0])/\Tryz.prog.cellsOf 248=2/\(Tryz.prog.info? 248).isSome=true/\Ev Tryz.prog 248=true/\Bn Tryz.prog 248=some (.agg [.int .i64 0, .int .i64 0])/\Tryz.prog.cellsOf 251=2/\(Tryz.prog.info? 251).isSome=true/\Eb Tryz.prog 251=some true/\Ev Tryz.prog 251=true/\Bn Tryz.prog 251=some (.agg [.str [], .nilFunc])/\Ev Tryz.prog 263=true/\Bn Tryz.prog 263=some (.agg [.bool false, .bool false]):=by(repeat' apply And.intro)<;>kernel_rfl
attribute [go_sem] fct0 fct1 fct2 fct3 fct4
theorem Fq8:Bn Tryz.prog 56=some (.agg [.int .u8 0, .int .u8 0, .int .i64 0, .str [], .nilSlice, .nilSlice, .int .i64 0, .int .i64 0, .int .i64 0, .int .u8 0, .int .u8 0, .int .i64 0, .str [], .nilSlice, .nilSlice, .int .i64 0, .int .i64 0, .int .i64 0, .int .u8 0, .int .u8 0, .int .i64 0, .str [], .nilSlice, .nilSlice, .int .i64 0, .int .i64 0, .int .i64 0, .int .u8 0, .int .u8 0, .int .i64 0, .str [], .nilSlice, .nilSlice, .int .i64 0, .int .i64 0, .int .i64 0]):=by kernel_rfl
theorem Fr0:Bn Tryz.prog 58=some (.agg [.int .u8 0, .int .u8 0, .int .i64 0, .str [], .nilSlice, .nilSlice, .int .i64 0, .int .i64 0, .int .i64 0, .int .u8 0, .int .u8 0, .int .i64 0, .str [], .nilSlice, .nilSlice, .int .i64 0, .int .i64 0, .int .i64 0, .int .u8 0, .int .u8 0, .int .i64 0, .str [], .nilSlice, .nilSlice, .int .i64 0, .int .i64 0, .int .i64 0]):=by kernel_rfl
theorem Fr4:Bn Tryz.prog 62=some (.agg [.int .u8 0, .nilSlice, .int .u8 0, .int .u8 0, .int .i64 0, .str [], .nilSlice, .nilSlice, .int .i64 0, .int .i64 0, .int .i64 0, .int .u8 0, .int .u8 0, .int .i64 0, .str [], .nilSlice, .nilSlice, .int .i64 0, .int .i64 0, .int .i64 0, .int .u8 0, .int .u8 0, .int .i64 0, .str [], .nilSlice, .nilSlice, .int .i64 0, .int .i64 0, .int .i64 0, .int .u8 0, .int .u8 0, .int .i64 0, .str [], .nilSlice, .nilSlice, .int .i64 0, .int .i64 0, .int .i64 0, .int .u8 0, .int .u8 0, .int .i64 0, .str [], .nilSlice, .nilSlice, .int .i64 0, .int .i64 0, .int .i64 0, .int .u8 0, .int .u8 0, .int .i64 0, .str [], .nilSlice, .nilSlice, .int .i64 0, .int .i64 0, .int .i64 0, .int .u8 0, .int .u8 0, .int .i64 0, .str [], .nilSlice, .nilSlice, .int .i64 0, .int .i64 0, .int .i64 0, .int .u8 0, .int .u8 0, .int .i64 0, .str [], .nilSlice, .nilSlice, .int .i64 0, .int .i64 0, .int .i64 0, .int .u8 0, .int .u8 0, .int .i64 0, .str [], .nilSlice, .nilSlice, .int .i64 0, .int .i64 0, .int .i64 0, .nilSlice, .str [], .nilSlice, .bool false]):=by kernel_rfl
theorem Ew0:Bn Tryz.prog 136=some (.agg [.nilSlice, .int .u8 0, .int .u8 0, .int .u8 0, .int .i64 0, .str [], .nilSlice, .nilSlice, .int .i64 0, .int .i64 0, .int .i64 0, .int .u8 0, .int .u8 0, .int .i64 0, .str [], .nilSlice, .nilSlice, .int .i64 0, .int .i64 0, .int .i64 0, .int .i64 0]):=by kernel_rfl
theorem Ex2:Bn Tryz.prog 202=some (.agg [.nilSlice, .int .u8 0, .int .u8 0, .int .i64 0, .str [], .nilSlice, .nilSlice, .int .i64 0, .int .i64 0, .int .i64 0, .int .u8 0, .int .u8 0, .int .i64 0, .str [], .nilSlice, .nilSlice, .int .i64 0, .int .i64 0, .int .i64 0, .int .u8 0, .int .u8 0, .int .i64 0, .str [], .nilSlice, .nilSlice, .int .i64 0, .int .i64 0, .int .i64 0, .int .u8 0, .int .u8 0, .int .i64 0, .str [], .nilSlice, .nilSlice, .int .i64 0, .int .i64 0, .int .i64 0, .int .u8 0, .int .u8 0, .int .i64 0, .str [], .nilSlice, .nilSlice, .int .i64 0, .int .i64 0, .int .i64 0, .int .i64 0]):=by kernel_rfl
attribute [go_sem] Tryz.underlying0 Tryz.underlying2 Tryz.underlying3 Tryz.underlying4 Tryz.underlying5 Tryz.underlying9 Tryz.underlying20 Tryz.underlying21 Tryz.underlying24 Tryz.underlying25 Tryz.underlying27 Tryz.underlying29 Tryz.underlying31 Tryz.underlying32 Tryz.underlying41 Tryz.underlying44 Tryz.underlying45 Tryz.underlying47 Tryz.underlying53 Tryz.underlying54 Fq8 Tryz.underlying56 Fr0 Tryz.underlying58 Tryz.underlying59 Tryz.underlying60 Fr4 Tryz.underlying62 Tryz.underlying65 Tryz.underlying72 Tryz.underlying85 Tryz.underlying117 Tryz.underlying134 Ew0 Tryz.underlying136 Tryz.underlying143 Tryz.underlying146 Tryz.underlying154 Tryz.underlying157 Tryz.underlying158 Tryz.underlying164 Tryz.underlying172 Tryz.underlying187 Ex2 Tryz.underlying202 Tryz.underlying204 Tryz.underlying209 Tryz.underlying226 Tryz.underlying231 Tryz.underlying236 Tryz.underlying241 Tryz.underlying246 Tryz.underlying248 Tryz.underlying251 Tryz.underlying253 Tryz.underlying263 Tryz.underlying264 Tryz.underlying273 Tryz.underlying282 Tryz.underlying332 Tryz.underlying334 Tryz.underlying336 Tryz.underlying338 Tryz.underlying340 Tryz.underlying341 Tryz.underlying342 Tryz.underlying344 Tryz.underlying345 Tryz.underlying347 Tryz.underlying350 Tryz.underlying352 Tryz.underlying353 Tryz.results4 Tryz.results11 Tryz.results12 Tryz.results13 Tryz.results16 Tryz.results19 Tryz.results20 Tryz.results21 Tryz.results22 Tryz.results23 Tryz.results24 Tryz.results25 Tryz.results26 Tryz.results27 Tryz.results28 Tryz.results29 Tryz.results30 Tryz.results31 Tryz.results32 Tryz.results33 Tryz.results35 Tryz.results37 Tryz.results47 Tryz.results55 Tryz.results57 Tryz.results58 Tryz.results59 Tryz.results60 Tryz.results61 Tryz.results62 Tryz.results63 Tryz.results64 Tryz.results65 Tryz.results66 Tryz.results67 Tryz.results68 Tryz.results69 Tryz.results70 Tryz.results71 Tryz.results72 Tryz.results73 Tryz.results74 Tryz.results75 Tryz.results76 Tryz.results77 Tryz.results81 Tryz.results82 Tryz.results84 Tryz.results85 Tryz.results86 Tryz.results87 Tryz.results88 Tryz.results89 Tryz.results90 Tryz.results91 Tryz.results92 Tryz.results93 Tryz.results94 Tryz.results95 Tryz.results96 Tryz.results97 Tryz.results98 Tryz.results99 Tryz.results100 Tryz.results101 Tryz.results102 Tryz.results103 Tryz.results104 Tryz.results105 Tryz.results106 Tryz.results107 Tryz.results108 Tryz.results109 Tryz.results110 Tryz.results111 Tryz.results112 Tryz.results113 Tryz.results114 Tryz.results115 Tryz.results116 Tryz.results117 Tryz.results118 Tryz.results119 Tryz.results120 Tryz.results121 Tryz.results122 Tryz.results123 Tryz.results124 Tryz.results125 Tryz.results126 Tryz.results127 Tryz.results128 Tryz.results129 Tryz.results130 Tryz.results131 Tryz.results132 Tryz.results142 Tryz.results143 Tryz.results144 Tryz.results148 Tryz.results150 Tryz.results152 Tryz.results153 Tryz.results163 Tryz.results164 Tryz.results165 Tryz.results166 Tryz.results167 Tryz.results168 Tryz.results169 Tryz.results170 Tryz.results171 Tryz.results172 Tryz.results173 Tryz.results174 Tryz.results175 Tryz.results176 Tryz.results178 Tryz.results179 Tryz.results180 Tryz.results181 Tryz.results182 Tryz.results183 Tryz.results184 Tryz.results185 Tryz.results186 Tryz.results187 Tryz.results189 Tryz.results191 Tryz.results192 Tryz.results193 Tryz.results194 Tryz.results195 Tryz.results196 Tryz.results197 Tryz.results198 Tryz.results199 Tryz.results200 Tryz.results201 Tryz.results202 Tryz.results203 Tryz.results204 Tryz.results205 Tryz.results206 Tryz.results207 Tryz.results208 Tryz.results209 Tryz.results210 Tryz.results211 Tryz.results212 Tryz.results213 Tryz.results214 Tryz.results216 Tryz.results217 Tryz.results218 Tryz.results219 Tryz.results220 Tryz.results222 Tryz.results223 Tryz.results230 Tryz.results231 Tryz.results232 Tryz.results233 Tryz.results235 Tryz.results236 Tryz.results237 Tryz.results244 Tryz.results245 Tryz.results246 Tryz.results247 Tryz.results248 Tryz.results249 Tryz.results250 Tryz.results251 Tryz.results252 Tryz.results253 Tryz.results254 Tryz.results255 Tryz.results256 Tryz.results257 Tryz.results258 Tryz.results259 Tryz.results260 Tryz.results261 Tryz.results262 Tryz.results263 Tryz.results264 Tryz.results265 Tryz.results266 Tryz.results267 Tryz.results268 Tryz.results269 Tryz.results270 Tryz.results271 Tryz.results272 Tryz.results273 Tryz.results274 Tryz.results275 Tryz.results276 Tryz.results277 Tryz.results278 Tryz.results279 Tryz.results280 Tryz.results281 Tryz.results282 Tryz.results288 Tryz.results289 Tryz.results293 Tryz.results294 Tryz.results295 Tryz.results296 Tryz.results297 Tryz.results298 Tryz.results299 Tryz.results300 Tryz.results301 Tryz.results302 Tryz.results303 Tryz.results304 Tryz.results305 Tryz.results306 Tryz.results315 Tryz.results316 Tryz.results317 Tryz.results318 Tryz.results319 Tryz.results320 Tryz.results325
end Go.Dl
-- Bg
namespace Go.Dl
open Go Go.Proofs
set_option maxRecDepth 10000
section
variable {P:Program} {G:Nat->DVal}
structure Quiet (w w':World):Prop where
 os:w'.os=w.os
 tape:w'.tape=w.tape
 output:w'.output=w.output
 size:w.heap.size<=w'.heap.size
 block: ∀b,b<w.heap.size->w'.heap[b]? =w.heap[b]?
theorem Quiet.below {w w':World} (h:RowKit.Below w.heap.size w w'):Quiet w w':=⟨h.os,h.tape,h.output,h.size,h.block⟩
theorem Quiet.ext {w w':World} {H:Ac} (C:Bm w H) (h:Quiet w w'):Bm w' H/\Ext H w H w':=by
 have hE:Ext H w H w':=⟨h.os,h.tape,h.output,h.size,fun b hb _=>h.block b hb,fun b hb=> .inl hb,fun b hb=>by rw[h.block b hb],fun a ha _=>by unfold World.frozen?;rw[h.block _ ha]⟩;refine⟨fun r o ho=> ?_,hE⟩;rw[h.block r (C.lt (by simp [ho]))];exact(C r o ho).lasts hE.lasts
theorem Ef8 {w:World} {H:Ac} {g:Nat} {cs:List DVal} {name:String} {k:IntKind} {C:List Int} (J:P.globalNamed name=some g) (h:Rel w H (.vptr cs 0) (.pointer (some ⟨g,0,none⟩)))
  (E:cs=C.map fun z=> .int k z): ∀i z,C[i]? =some z->w.cell? ⟨g,i,none⟩=some (.int k z):=by
 simp only[Rel] at h;obtain⟨b,o,xs,e,hc,hr⟩:=h;simp only[Value.pointer.injEq,Option.some.injEq,Addr.mk.injEq,Nat.add_zero,and_true] at e;obtain⟨rfl,rfl⟩:=e;intro i z hz;have h1:cs[i]? =some (.int k z):=by rw[E];simp [hz]
 obtain⟨y,I,D⟩:=hr.get h1;simp only[Rel] at D;subst D;have:=hc.holds i _ I;simpa using this
end
section
end
section
variable {α:Type} {c:α->List DVal} {k:Nat}
theorem Aw (hk: ∀x,(c x).length=k) (l:List α):(l.flatMap c).length=l.length*k:=by
 induction l with
 | nil=>simp
 | cons x l ih=>simp [List.flatMap_cons,ih,hk,Nat.add_mul];omega
theorem Bz5 (hk: ∀x,(c x).length=k): ∀(l:List α) (i:Nat),(l.flatMap c).drop (i*k)=(l.drop i).flatMap c
 | l,0=>by simp
 | [],i+1=>by simp
 | x::l,i+1=>by
  rw[List.flatMap_cons,show(i+1)*k=(c x).length+i*k by rw[hk,Nat.add_mul];omega,List.drop_append,jE,<-Bz5 hk l i];simp
theorem Co (hk: ∀x,(c x).length=k) (l:List α) (i:Nat) (h:i<l.length):((l.flatMap c).drop (i*k)).take k=c l[i]:=by
 rw[Bz5 hk,List.drop_eq_getElem_cons h,List.flatMap_cons,List.take_append_of_le_length (by rw[hk];omega),List.take_of_length_le (by rw[hk];omega)]
theorem Hw (hk: ∀x,(c x).length=k) (l:List α) (i:Nat) (h:i<l.length) (j:Nat) (C:j<k):(l.flatMap c)[i*k+j]? =(c l[i])[j]? :=by
 rw[<-Co hk l i h,List.getElem?_take,if_pos C,List.getElem?_drop]
end
def Bl3 {α:Type} (p:α->Bool) (l:List α):Int:=match l.findIdx? p with | some i=>(i:Int) | none=> -1
theorem Ap5 {α:Type} {p:α->Bool} {l:List α} {i:Nat} (h:i<l.length) (hp:p l[i]=true) (C: ∀x∈l.take i,p x=false):Bl3 p l=i:=by
 have:l.findIdx? p=some i:=by
  rw[List.findIdx?_eq_some_iff_getElem];exact⟨h,hp,fun j hj=>by have:=C l[j] (List.mem_take_iff_getElem.2 ⟨j,by omega,rfl⟩);simp [this]⟩
 rw[Bl3,this]
theorem Ap6 {α:Type} {p:α->Bool} {l:List α} (C: ∀x∈l,p x=false):Bl3 p l= -1:=by
 have:l.findIdx? p=none:=by rw[List.findIdx?_eq_none_iff];intro x hx;rw[C x hx]
 rw[Bl3,this]
theorem Aa9 {α:Type} (p:α->Bool) (l:List α):decide (0<=Bl3 p l)=l.any p:=by
 unfold Bl3;cases h:l.findIdx? p with
 | some i=>
  obtain⟨h1,h2,_⟩:=List.findIdx?_eq_some_iff_getElem.1 h;have:l.any p=true:=List.any_eq_true.2 ⟨_,List.getElem_mem h1,h2⟩;rw[this];simp
 | none=>
  rw[List.findIdx?_eq_none_iff] at h;have:l.any p=false:=by rw[List.any_eq_false];intro x hx;rw[h x hx];simp
  rw[this];rfl
theorem On {α:Type} {p:α->Prop} {l:List α} {i:Nat} (h:i<l.length) (C: ∀x∈l.take i,p x) (hx:p l[i]): ∀x∈l.take (i+1),p x:=by
 intro x hm;rw[List.take_succ_eq_append_getElem h,List.mem_append,List.mem_singleton] at hm;rcases hm with hm | rfl
 ·exact C x hm
 ·exact hx
theorem Tv {c d:UInt8} (h:c≠d): ¬(c.toNat:Int)=(d.toNat:Int):=fun e=>h (UInt8.toNat_inj.1 (by omega))
def Ah8 (l:List (List UInt8)):DVal:= .vslice (l.map .str) l.length
end Go.Dl
-- Ei
namespace Go.Dl
open Go
def Ap7:DVal->Bool
 | .bool _ | .int _ _ | .str _ | .nilPtr | .nilSlice | .nilMap | .nilFunc | .nilIface=>true
 | .optr _ _ | .oslice _ _ _ _ _ | .omap _=>true
 | .tuple l=>looses l
 | .agg l=>looses l
 | _=>false
where looses:List DVal->Bool
 | []=>true
 | d::ds=>Ap7 d&&looses ds
mutual
theorem Af0 {w:World} {H H':Ac}: ∀(d:DVal) (v:Value),Ap7 d=true->Rel w H d v->Rel w H' d v
 | .tuple l,v,hp,h=>by
  simp only[Ap7] at hp
  simp only[Rel] at h⊢
  obtain⟨x,rfl,h1⟩:=h
  exact⟨x,rfl,Qr _ _ hp h1⟩
 | .agg l,v,hp,h=>by
  simp only[Ap7] at hp
  simp only[Rel] at h⊢
  obtain⟨x,rfl,h1⟩:=h
  exact⟨x,rfl,Qr _ _ hp h1⟩
 | .bool x,v,hp,h=>by simpa [Rel] using h
 | .int x y,v,hp,h=>by simpa [Rel] using h
 | .str x,v,hp,h=>by simpa [Rel] using h
 | .nilPtr,v,hp,h=>by simpa [Rel] using h
 | .nilSlice,v,hp,h=>by simpa [Rel] using h
 | .nilMap,v,hp,h=>by simpa [Rel] using h
 | .nilFunc,v,hp,h=>by simpa [Rel] using h
 | .nilIface,v,hp,h=>by simpa [Rel] using h
 | .optr _ _,v,hp,h=>by simpa [Rel] using h
 | .oslice _ _ _ _ _,v,hp,h=>by simpa [Rel] using h
 | .omap _,v,hp,h=>by simpa [Rel] using h
 | .raw _,_,hp,_=>by cases hp
 | .vptr _ _,_,hp,_=>by cases hp
 | .vslice _ _,_,hp,_=>by cases hp
 | .func _ _ _,_,hp,_=>by cases hp
 | .iface _ _,_,hp,_=>by cases hp
theorem Qr {w:World} {H H':Ac}: ∀(C:List DVal) (vs:List Value),Ap7.looses C=true->Az w H C vs->Az w H' C vs
 | [],_,_,h=>by simpa [Az] using h
 | d::C,vs,hp,h=>by
  simp only[Ap7.looses,jF] at hp
  simp only[Az] at h⊢
  obtain⟨y,ys,rfl,h1,h2⟩:=h
  exact⟨y,ys,rfl,Af0 d y hp.1 h1,Qr C ys hp.2 h2⟩
end
def Dh8:DObj->Bool
 | .cells cs _=>Ap7.looses cs
 | .map es=>es.all fun p=>Ap7 p.1&&Ap7 p.2
 | .loop _ _ _=>false
 | .iter _ _=>true
def Gc5 (H H':Ac):Prop:= ∀r o,H' r=some o->H r=some o\/Dh8 o=true
theorem Gc5.refl (H:Ac):Gc5 H H:=fun _ _ h=> .inl h
end Go.Dl
-- Dj
namespace Go.Dl
open Go Go.RowKit
theorem Cs6 (H:Ac) (w:World):Lasts H w h0 w:=El (fun r o h=>by cases h) w
def Sub (H H':Ac):Prop:= ∀r o,H r=some o->H' r=some o
theorem Sub.refl (H:Ac):Sub H H:=fun _ _ h=>h
theorem Sub.trans {H H' C:Ac} (h:Sub H H') (k:Sub H' C):Sub H C:=fun r o x=>k r o (h r o x)
theorem Sub.lo {H H':Ac} (h:Sub H H') {r:Nat} (hr:H' r=none):H r=none:=by
 cases e:H r with
 | none=>rfl
 | some o=>rw[h r o e] at hr;cases hr
theorem Sub.up {H H':Ac} (h:Sub H H') {r:Nat} (hr:H r=none) (x:Option DObj):Sub H (upd H' r x):=fun b o hb=>by
 have:b≠r:=fun e=>by rw[e,hr] at hb;cases hb
 simp only[upd,if_neg this];exact h b o hb
theorem Sub.new {H H':Ac} (h:Sub H H') {r:Nat} (hr:H' r=none) (x:Option DObj):Sub H (upd H' r x):=h.up (h.lo hr) x
theorem Sub.both {H H':Ac} (h:Sub H H') (r:Nat) (x:Option DObj):Sub (upd H r x) (upd H' r x):=fun b o hb=>by
 simp only[upd] at hb⊢;split<;>rename_i e
 ·rwa [if_pos e] at hb
 ·rw[if_neg e] at hb;exact h b o hb
def Jw (H:Ac) (e:TypeId) (size n:Nat) (cs:List DVal) (v:DVal) (H':Ac):Prop:=
 (n=0/\cs= []/\v= .nilSlice/\Sub H H')\/ ∃r,H r=none/\cs.length=n*size/\v= .oslice size r 0 n n/\H' r=some (.cells cs e)/\Sub H H'
section
variable {P:Program} {G:Nat->DVal} {H H':Ac} {e:TypeId} {size n:Nat} {cs:List DVal} {v:DVal}
theorem Jw.nil (e:TypeId) (size:Nat) (h:Sub H H'):Jw H e size 0 [] .nilSlice H':= .inl ⟨rfl,rfl,rfl,h⟩
theorem Jw.sub (h:Jw H e size n cs v H'):Sub H H':=by
 rcases h with⟨_,_,_,h⟩ | ⟨_,_,_,_,_,h⟩<;>exact h
theorem Jw.keep (h:Jw H e size n cs v H') {r:Nat} {o:DObj} (hr:H r=some o):H' r=some o:=h.sub r o hr
theorem Jw.more (h:Jw H e size n cs v H') {C:Ac} (k:Sub H' C):Jw H e size n cs v C:=by
 rcases h with⟨a,b,c,d⟩ | ⟨r,a,b,c,d,f⟩
 ·exact .inl ⟨a,b,c,d.trans k⟩
 ·exact .inr ⟨r,a,b,c,k _ _ d,f.trans k⟩
theorem Jw.new (h:Jw H e size n cs v H') {r:Nat} (hr:H' r=none) (x:Option DObj):Jw H e size n cs v (upd H' r x):=h.more ((Sub.refl H').up hr x)
theorem Jw.less (h:Jw H e size n cs v H') {C:Ac} (k:Sub C H):Jw C e size n cs v H':=by
 rcases h with⟨a,b,c,d⟩ | ⟨r,a,b,c,d,f⟩
 ·exact .inl ⟨a,b,c,k.trans d⟩
 ·exact .inr ⟨r,k.lo a,b,c,d,k.trans f⟩
theorem Jw.frame (h:Jw H e size n cs v H') {r:Nat} (hr:H' r=none) (o:DObj):Jw (upd H r (some o)) e size n cs v (upd H' r (some o)):=by
 rcases h with⟨a,b,c,d⟩ | ⟨r0,a,b,c,d,f⟩
 ·exact .inl ⟨a,b,c,d.both _ _⟩
 ·have:r0≠r:=fun e=>by rw[e,hr] at d;cases d
  exact .inr ⟨r0,by simp [upd,this,a],b,c,by simp [upd,this,d],f.both _ _⟩
theorem Jw.exact (h:Jw H e size n cs v H'): ∃H1,Gr6 H e size n cs v H1/\Sub H1 H':=by
 rcases h with⟨a,b,c,d⟩ | ⟨r,a,b,c,d,f⟩
 ·exact⟨H, .inl ⟨a,b,c,rfl⟩,d⟩
 ·refine⟨_, .inr ⟨r,a,b,c,rfl⟩,fun k o hk=> ?_⟩;simp only[upd] at hk;split at hk
  ·rename_i e;subst e;cases hk;exact d
  ·exact f k o hk
theorem Jw.append {m bytes:Nat} {C:List DVal} {dst:Option Nat} {K:DK} {env:Nat->DVal} (hv:Jw H e size n cs v H') (hm:C.length=m*size) (hb:(n+m)*bytes<=35184372088832)
  (D: ∀v' H2,Jw H e size (n+m) (cs++C) v' H2->K ⟨Hr env dst v',H2⟩):Ql e size bytes m C dst v K ⟨env,H'⟩:=by
 rcases hv with⟨rfl,rfl,rfl,hs⟩ | ⟨r,hr,hl,rfl,hc,hs⟩
 ·simp only[Ql];refine⟨fun h0=> ?_,fun h0=>⟨by simpa using hb,fun r hr=> ?_⟩⟩
  ·subst h0;have:C= []:=List.length_eq_zero_iff.1 (by omega);subst this;exact D _ _ (.inl ⟨rfl,rfl,rfl,hs⟩)
  ·refine D _ _ (.inr ⟨r,hs.lo hr,by simpa using hm,by simp,by rw[jG];exact Aa _ _ _,hs.new hr _⟩)
 ·simp only[Ql,true_and];rw[hc];by_cases h0:m=0
  ·subst h0;have:C= []:=List.length_eq_zero_iff.1 (by omega);subst this;rw[Bc0 (by omega)];refine⟨by simp [hl], ?_⟩;have:=D (.oslice size r 0 (n+0) n) H' (.inr ⟨r,hr,by simpa using hl,by simp,by simpa using hc,hs⟩);simp only[Cn,jB,jH,Nat.add_zero,List.take_append_drop];rw[Aa8 hc];simpa using this
  ·rw[Ap4 (by omega) (by omega)];refine⟨by omega,hb,fun r' E=> ?_⟩;dsimp only at E⊢
   by_cases e1:r'=r
   ·subst e1;refine D _ _ (.inr ⟨r',hr, ?_,rfl, ?_, ?_⟩)
    ·simp [hl,hm,Nat.add_mul]
    ·rw[Aa,List.take_of_length_le (by omega)]
    ·exact(hs.up hr _).up hr _
   ·have I:H' r'=none:=by simpa [upd,e1] using E
    refine D _ _ (.inr ⟨r',hs.lo I, ?_,rfl, ?_, ?_⟩)
    ·simp [hl,hm,Nat.add_mul]
    ·rw[Aa,List.take_of_length_le (by omega)]
    ·exact(hs.up hr _).up (hs.lo I) _
theorem Jw.appendO {r m bytes:Nat} {C:List DVal} {dst:Option Nat} {K:DK} {env:Nat->DVal} (hv:Jw H e size n cs (.oslice size r 0 n n) H') (hm:C.length=m*size) (hb:(n+m)*bytes<=35184372088832)
  (D: ∀v' H2,Jw H e size (n+m) (cs++C) v' H2->K ⟨Hr env dst v',H2⟩):Tp e size bytes r 0 n n m C dst K ⟨env,H'⟩ (some (.cells cs e)):=by
 have h:=Jw.append hv hm hb D;have hc:H' r=some (.cells cs e):=by
  rcases hv with⟨_,_,h,_⟩ | ⟨r',_,_,h,hc,_⟩
  ·cases h
  ·cases h;exact hc
 simp only[Ql,true_and,hc] at h;exact h
theorem Jw.ghost (hv:Jw H e size n cs v H'):Mb H' v H (.vslice cs n):=by
 obtain⟨H1,h1,h2⟩:=hv.exact;exact(Mb.sub h2 v).trans h1.ghost
theorem Jw.fin {R:DEnd->Ac->Prop} (hv:Jw H e size n cs v H') (h:R (.ret (.vslice cs n)) H):Fa R v H':= .ghost hv.ghost (.refl h)
theorem Dr7.runG {C:(DExit->DS->Prop)->DK} {Q:DExit->DS->Prop} {s:DS} {ι:Type} (I:ι->(Nat->DVal)->Ac->Prop) (μ:ι->Nat) (i:ι) (s0:DS) (D:Rz G s s0) (h0:I i s0.env s0.heap)
  (hr: ∀i env heap,I i env heap->C (Bb5 (fun s1=> ∃j s2,Rz G s1 s2/\I j s2.env s2.heap/\μ j<μ i) Q) ⟨env,heap⟩):Dr7 G C Q s:=
 ⟨ι,fun i s=>I i s.env s.heap,μ,⟨i,s0,D,h0⟩,fun i s h=>hr i s.env s.heap h⟩
theorem Jw.cell1 (h:Jw H e size n cs v H'):v.cells= [v]/\v.one=true:=by
 rcases h with⟨_,_,rfl,_⟩ | ⟨_,_,_,rfl,_⟩<;>exact⟨rfl,rfl⟩
end
end Go.Dl
-- Dk
namespace Go.Dl
open Go
set_option maxRecDepth 10000
theorem Ag.frame {P:Program} {G:Nat->DVal} {f:FuncId} {args args':List DVal} {H:Ac} {R:DEnd->Ac->Prop} (h:Ag P G f args' h0 R)
  (hb: ∀w vs,Bm w H->Az w H args vs->Az w h0 args' vs) (I: ∀e X,R e X-> ∃v,e= .ret v/\Ap7 v=true/\Gc5 h0 X):Ag P G f args H (fun e H'=> ∃X,R e X/\Gr5 H X/\H'=Cs1 H X):=by
 refine⟨h.1,fun vs w hv D hg=> ?_⟩;have J:GOk G w h0:=hg.lasts (Cs6 H w);refine(h.2 vs w (hb w vs D hv) (fun r o hr=>by cases hr) J).mono fun x w' ⟨e',X,r,k1,L,C⟩=> ?_;obtain⟨v,rfl,hl,M⟩:=I _ _ r;have E: ∀b,X b≠none->w.heap.size<=b:=fun b hb=>(C.own b hb).resolve_left (fun k=>k rfl);have hd:Gr5 H X:=fun b hb=>by
  cases e1:H b with
  | none=>rfl
  | some o=>have:=D.lt (r:=b) (by simp [e1]);have:=E b hb;omega
 have hE:Ext H w (Cs1 H X) w':=⟨C.os,C.tape,C.output,C.size,fun b hb _=>C.block b hb rfl,fun b hb=>by
  by_cases e1:X b=none
  ·rw[Ds7 e1] at hb;exact .inl hb
  ·exact .inr (E b e1),C.keep,fun a ha _=>C.fz a ha rfl⟩
 refine⟨.ret v,Cs1 H X,⟨X,r,hd,rfl⟩, ?_, ?_,hE⟩
 ·cases k1 with
  | ret d x hx=>exact .ret _ _ (Af0 _ _ hl hx)
 ·intro b o ho;cases e1:X b with
  | none=>
   rw[Ds7 e1] at ho;rw[C.block b (D.lt (by simp [ho])) rfl];exact(D b o ho).lasts hE.lasts
  | some o'=>
   rw[Gg9 e1] at ho;cases ho;have hlo:Dh8 o=true:=(M b o e1).resolve_left (fun k=>by cases k);have hr:=L b o e1;cases o with
   | cells cs e=>
    obtain⟨xs,c,O,h1,h2,h3,h4⟩:=hr;exact⟨xs,c,O,h1,h2,Qr _ _ hlo h3,h4⟩
   | loop _ _ _=>cases hlo
   | iter _ _=>exact hr
   | map es=>
    obtain⟨ms,c,h1,h2⟩:=hr;refine⟨ms,c,h1, ?_⟩;simp only[Dh8,List.all_eq_true,jF] at hlo;clear h1 e1;generalize ms.toList=l at h2
    induction es generalizing l with
    | nil=>exact h2
    | cons p es ih=>
     obtain⟨m,S,rfl,U,V,W⟩:=h2;exact⟨m,S,rfl,Af0 _ _ (hlo p (by simp)).1 U,Af0 _ _ (hlo p (by simp)).2 V,ih (fun q hq=>hlo q (List.mem_cons_of_mem _ hq)) _ W⟩
theorem Ag.lent {P:Program} {G:Nat->DVal} {f:FuncId} {args args':List DVal} {H:Ac} {v:DVal} (h:Ag P G f args' h0 (Ax v h0))
  (hb: ∀w vs,Bm w H->Az w H args vs->Az w h0 args' vs) (hv:Ap7 v=true):Ag P G f args H (Ax v H):=
 (h.frame hb (fun e X hr=>⟨v,hr.1,hv,by rw[hr.2];exact .refl _⟩)).mono fun e H' ⟨X,hr,_,C⟩=>⟨hr.1,by rw[C,hr.2,Ds6]⟩
def Bc1:List (List UInt8):= [[97,98,111,114,116],
 [97,98,115],
 [97,99,99,101,112,116],
 [97,99,99,101,115,115],
 [97,108,105,97,115,101,100],
 [97,108,108],
 [97,110,100],
 [97,114,114,97,121],
 [98,101,103,105,110],
 [98,111,100,121],
 [99,97,115,101],
 [99,111,110,115,116,97,110,116],
 [100,101,99,108,97,114,101],
 [100,101,108,97,121],
 [100,111],
 [101,108,115,101],
 [101,108,115,105,102],
 [101,110,100],
 [101,110,116,114,121],
 [101,120,99,101,112,116,105,111,110],
 [101,120,105,116],
 [102,111,114],
 [102,117,110,99,116,105,111,110],
 [103,101,110,101,114,105,99],
 [105,102],
 [105,110],
 [105,115],
 [108,105,109,105,116,101,100],
 [108,111,111,112],
 [109,111,100],
 [110,101,119],
 [110,111,116],
 [110,117,108,108],
 [111,102],
 [111,114],
 [111,116,104,101,114,115],
 [111,117,116],
 [112,97,99,107,97,103,101],
 [112,114,97,103,109,97],
 [112,114,105,118,97,116,101],
 [112,114,111,99,101,100,117,114,101],
 [112,114,111,116,101,99,116,101,100],
 [114,97,105,115,101],
 [114,97,110,103,101],
 [114,101,99,111,114,100],
 [114,101,109],
 [114,101,110,97,109,101,115],
 [114,101,113,117,101,117,101],
 [114,101,116,117,114,110],
 [114,101,118,101,114,115,101],
 [115,101,108,101,99,116],
 [115,101,112,97,114,97,116,101],
 [115,117,98,116,121,112,101],
 [116,97,115,107],
 [116,101,114,109,105,110,97,116,101],
 [116,104,101,110],
 [116,121,112,101],
 [117,110,116,105,108],
 [117,115,101],
 [119,104,101,110],
 [119,104,105,108,101],
 [119,105,116,104],
 [120,111,114]]
def Gi (c:UInt8):Bool:=decide (65<=c.toNat)&&decide (c.toNat<=90) || decide (97<=c.toNat)&&decide (c.toNat<=122)
def Gu (c:UInt8):Bool:=decide (48<=c.toNat)&&decide (c.toNat<=57)
def Ew (c:UInt8):Bool:=Gi c || Gu c || decide (c=95)
def Fl (s:List UInt8):List UInt8:=s.takeWhile Ew
def Up (s:List UInt8):Bool:=decide (s∈Bc1)
def Nv (s:List UInt8):Bool:=(match s with | c::_=>Gi c | []=>false)&&decide (s.length<=32)&&s.all Ew&&!Up s
def Wo:List (UInt8×UInt8):= [(61,62),(46,46),(58,61),(47,61),(60,61),(62,61),(60,62)]
def Ap8:List UInt8:= [40,41,44,59,58,46,39,43,45,42,47,61,60,62,124]
def Uq:List UInt8->Nat
 | []=>0
 | [a]=>if a∈Ap8 then 1 else 0
 | a::b::_=>if(a,b)∈Wo then 2 else if a∈Ap8 then 1 else 0
def Cs7 (s:List UInt8):Bool:=decide (s≠ [])&&decide (Uq s=s.length)
structure Tok where
 kind:Int
 line:Int
 text:List UInt8
 n:Int
 deriving DecidableEq,Inhabited
def Ap9:Tok:=⟨0,0,[],0⟩
def Zn (t:Tok):Bool:=
 if t.kind=1 then decide (t.n=0)&&Nv t.text else if t.kind=2 then decide (t.n=0)&&Up t.text
 else if t.kind=4 then decide (t.n=0)&&Cs7 t.text else decide (t.kind=3)&&decide (t.text= [])&&decide (0<=t.n)&&decide (t.n<=2147483647)
def Vx (w:List UInt8):Nat:=w.foldl (fun v c=>10*v+(c.toNat-48)) 0
def Bx1 (w:List UInt8):Option Nat:=if w.length<=10/\w.all Gu=true/\Vx w<=2147483647 then some (Vx w) else none
def Fb (s:List UInt8):Tok×Nat:=
 match s with
 | []=>(Ap9,0)
 | c::_=>if Gi c then(if Up (Fl s) then(⟨2,0,Fl s,0⟩,(Fl s).length) else if Nv (Fl s) then(⟨1,0,Fl s,0⟩,(Fl s).length) else(Ap9,0))
  else if Gu c then(match Bx1 (Fl s) with | some v=>(⟨3,0,[],v⟩,(Fl s).length) | none=>(Ap9,0))
  else(⟨4,0,s.take (Uq s),0⟩,Uq s)
def Qs (s:List UInt8):Bool:=s.all fun c=>decide (32<=c.toNat)&&decide (c.toNat<=126)
def Jg (s:List UInt8):List UInt8:=s.dropWhile (· ==32)
def Qb:List UInt8->Bool
 | 45::45::_=>true
 | _=>false
def Ax2:Nat->List UInt8->List (Tok×Bool)
 | 0,_=> []
 | k+1,s=>
  if Jg s= []\/Qb (Jg s)=true then(if Qs (Jg s) then [] else [(Ap9,false)])
  else if(Fb (Jg s)).2=0 then [((Fb (Jg s)).1,false)]
  else((Fb (Jg s)).1,true)::Ax2 k ((Jg s).drop (Fb (Jg s)).2)
def So (s:List UInt8):List (Tok×Bool):=Ax2 (s.length+1) s
theorem Bz6 (s:List UInt8):(Jg s).length<=s.length:=by
 unfold Jg;exact(List.dropWhile_sublist _).length_le
theorem Bc2: ∀(k k':Nat) (s:List UInt8),s.length<k->s.length<k'->Ax2 k s=Ax2 k' s
 | 0,_,_,h,_=>by omega
 | _,0,_,_,h=>by omega
 | k+1,k'+1,s,h,h'=>by
  unfold Ax2;split
  ·rfl
  ·rename_i hc
   split
   ·rfl
   ·rename_i h0
    have hl:=Bz6 s;have C:Jg s≠ []:=fun e=>hc (.inl e);have D:0<(Jg s).length:=List.length_pos_iff.2 C;rw[Bc2 k k' _ (by rw[List.length_drop];omega) (by rw[List.length_drop];omega)]
theorem Xv (s:List UInt8):So s=
  if Jg s= []\/Qb (Jg s)=true then(if Qs (Jg s) then [] else [(Ap9,false)])
  else if(Fb (Jg s)).2=0 then [((Fb (Jg s)).1,false)]
  else((Fb (Jg s)).1,true)::So ((Jg s).drop (Fb (Jg s)).2):=by
 unfold So;rw[Ax2];split
 ·rfl
 ·rename_i hc
  split
  ·rfl
  ·rename_i h0
   have hl:=Bz6 s;have C:Jg s≠ []:=fun e=>hc (.inl e);have D:0<(Jg s).length:=List.length_pos_iff.2 C;rw[Bc2 s.length _ ((Jg s).drop (Fb (Jg s)).2) (by rw[List.length_drop];omega) (Nat.lt_succ_self _)]
theorem Cs8 (s r:List UInt8) (c:UInt8) (C:Ew c=false):Fl (s++c::r)=Fl s:=by
 unfold Fl;rw[List.takeWhile_append];split
 ·rename_i h
  have:s.takeWhile Ew=s:=(List.takeWhile_prefix Ew).eq_of_length h;rw[this];simp [C]
 ·rfl
theorem Dh9 (s:List UInt8):Uq s<=s.length:=by
 match s with
 | []=>exact Nat.le_refl _
 | [a]=>simp only[Uq];split<;>simp
 | a::b::s=>simp only[Uq];split<;>(try split)<;>simp
theorem Ds8 (s:List UInt8):(Fl s).length<=s.length:=(List.takeWhile_sublist _).length_le
theorem Aq0 (s:List UInt8):(Fb s).2<=s.length:=by
 have hw:=Ds8 s
 have hs:=Dh9 s
 match s with
 | []=>exact Nat.le_refl _
 | c::s=>
  unfold Fb
  dsimp only
  split
  ·split
   ·exact hw
   ·split
    ·exact hw
    ·exact Nat.zero_le _
  ·split
   ·split
    ·exact hw
    ·exact Nat.zero_le _
   ·exact hs
theorem Ef9 (s r:List UInt8):Qs (s++r)=(Qs s&&Qs r):=by simp [Qs]
def Di (c:UInt8):List UInt8->List UInt8->List (List UInt8)
 | [],cur=> [cur]
 | b::s,cur=>if b=c then cur::Di c s [] else Di c s (cur++ [b])
theorem Bl4 (c:UInt8) (w:List UInt8) (h:c∉w): ∀cur,Di c w cur= [cur++w]:=by
 induction w with
 | nil=>intro cur;simp [Di]
 | cons b w ih=>
  intro cur;simp only[List.mem_cons,not_or] at h;rw[Di,if_neg (fun e=>h.1 e.symm),ih h.2];simp
theorem Bl5 (c:UInt8) (w r:List UInt8) (h:c∉w): ∀cur,Di c (w++c::r) cur=(cur++w)::Di c r []:=by
 induction w with
 | nil=>intro cur;simp [Di]
 | cons b w ih=>
  intro cur;simp only[List.mem_cons,not_or] at h;rw[jI,Di,if_neg (fun e=>h.1 e.symm),ih h.2];simp
theorem Bc3 (c:UInt8) (b:List UInt8): ∀(a C:List UInt8),Di c (a++c::b) C=Di c a C++Di c b []
 | [],C=>by simp [Di]
 | x::a,C=>by
  rw[jI,Di,Di];split
  ·rw[Bc3 c b a []];rfl
  ·exact Bc3 c b a _
theorem Bl6 (c:UInt8): ∀(a C:List UInt8),Di c a C≠ []
 | [],C=>by simp [Di]
 | x::a,C=>by
  rw[Di];split
  ·simp
  ·exact Bl6 c a _
theorem Ab0 (c:UInt8): ∀(a C w:List UInt8),c∉C->w∈Di c a C->c∉w
 | [],C,w,h,hw=>by
  simp only[Di,List.mem_singleton] at hw;rw[hw];exact h
 | x::a,C,w,h,hw=>by
  rw[Di] at hw;split at hw
  ·rcases List.mem_cons.1 hw with rfl | hw
   ·exact h
   ·exact Ab0 c a [] w (by simp) hw
  ·rename_i hx
   exact Ab0 c a _ w (by simp only[List.mem_append,List.mem_singleton,not_or];exact⟨h,fun e=>hx e.symm⟩) hw
def Ah9:List (List UInt8)->List UInt8
 | []=> []
 | [s]=>s
 | s::t::l=>s++10::Ah9 (t::l)
def Gv (s:List UInt8):List (List UInt8):=Di 10 s []
theorem Bl7: ∀ls:List (List UInt8),ls≠ []->(∀s∈ls,(10:UInt8)∉s)->Gv (Ah9 ls)=ls
 | [],h,_=>absurd rfl h
 | [s],_,hs=>by rw[Ah9,Gv,Bl4 10 s (hs s (by simp))];rfl
 | s::t::l,_,hs=>by
  have:=Bl7 (t::l) (by simp) fun u hu=>hs u (List.mem_cons_of_mem _ hu);rw[Gv] at this⊢
  rw[Ah9,Bl5 10 s _ (hs s (by simp)),this];rfl
theorem Di0 (s:List UInt8): ∀cur,Ah9 (Di 10 s cur)=cur++s:=by
 induction s with
 | nil=>intro cur;simp [Di,Ah9]
 | cons x s ih=>
  intro cur;rw[Di];split
  ·rename_i h
   subst h;have:=ih [];cases hsp:Di 10 s [] with
   | nil=>exact absurd hsp (Bl6 _ _ _)
   | cons t l=>rw[hsp] at this;rw[Ah9,this];rfl
  ·rw[ih];simp
def Xw:List (List UInt8)->Nat->List (Tok×Bool×Int)
 | [],_=> []
 | s::ls,i=>(So s).map (fun p=>({ p.1 with line:=i },p.2,(i:Int)))++Xw ls (i+1)
def Di1:List (Tok×Bool×Int)->Nat->Option (Int×Int)
 | [],_=>none
 | p::r,n=>if p.2.1=false then some (p.2.2,20) else if n=8192 then some (p.2.2,3) else Di1 r (n+1)
def Ck (src:List UInt8):List Tok×Int×Int:=
 if 65536<src.length then([],0,3) else match Di1 (Xw (Gv src) 1) 0 with
  | some e=>([],e.1,e.2)
  | none=>((Xw (Gv src) 1).map (·.1),0,0)
def isS (t:Tok) (of:List UInt8):Bool:=decide (t.kind=4)&&(match t.text with | [c]=>decide (c∈of) | _=>false)
def Ds9 (t:Tok):Bool:=isS t [46] || decide (t.kind=4)&&decide (t.text= [46,46])
def Ab1 (a b:Tok):Bool:=
 if isS b [44,59,41,39] || isS a [40,39] then false else if isS a [46] then Ds9 b else if isS b [46] then Ds9 a else true
def Pf (t:Tok):List UInt8:=(if t.kind=3 then Lib.itoa t.n else [])++t.text
def Rp:Option Tok->List Tok->List UInt8
 | _,[]=> []
 | none,t::l=>Pf t++Rp (some t) l
 | some a,t::l=>(if Ab1 a t then [32] else [])++(Pf t++Rp (some t) l)
def Vh (l:List Tok):List UInt8:=Rp none l
def Tw (l:List Tok):Bool:=l.all Zn
theorem Di2 {w:List UInt8} (h:Nv w=true): ∃c r,w=c::r/\Gi c=true/\w.length<=32/\w.all Ew=true/\Up w=false:=by
 unfold Nv at h
 simp only[jF,decide_eq_true_eq,Bool.not_eq_true'] at h
 obtain⟨⟨⟨h1,h2⟩,h3⟩,h4⟩:=h
 match w with
 | []=>cases h1
 | c::r=>exact⟨c,r,rfl,h1,h2,h3,h4⟩
theorem Ey5: ∀w∈Bc1,w.length<=32/\w.all Gi=true/\w≠ []:=by decide+kernel
theorem Vi {c:UInt8} (h:Gi c=true):Ew c=true:=by simp [Ew,h]
theorem Eg0 {w:List UInt8} (h:Up w=true): ∃c r,w=c::r/\Gi c=true/\w.length<=32/\w.all Ew=true:=by
 have hm:w∈Bc1:=of_decide_eq_true h
 obtain⟨h1,h2,h3⟩:=Ey5 w hm
 match w,h3 with
 | [],h3=>exact absurd rfl h3
 | c::r,_=>
  rw[List.all_eq_true] at h2
  exact⟨c,r,rfl,h2 c (by simp),h1,List.all_eq_true.2 fun x hx=>Vi (h2 x hx)⟩
theorem Bz7 {w:List UInt8} (h:Cs7 w=true):(∃a,w= [a]/\a∈Ap8)\/ ∃a b,w= [a,b]/\(a,b)∈Wo:=by
 unfold Cs7 at h
 simp only[jF,decide_eq_true_eq] at h
 obtain⟨h1,h2⟩:=h
 match w with
 | []=>exact absurd rfl h1
 | [a]=>
  simp only[Uq,jQ] at h2
  split at h2
  ·rename_i hm;exact .inl ⟨a,rfl,hm⟩
  ·cases h2
 | [a,b]=>
  simp only[Uq,jA,jB] at h2
  split at h2
  ·rename_i hm;exact .inr ⟨a,b,rfl,hm⟩
  ·split at h2<;>omega
 | a::b::c::r=>
  simp only[Uq,jA] at h2
  split at h2<;>(try split at h2)<;>omega
theorem Bl8: ∀(k n:Nat),n<10^(k+1)->Lib.nDigits n<=k+1
 | 0,n,h=>by rw[Lib.nDigits_small (by simpa using h)];exact Nat.le_refl _
 | k+1,n,h=>by
  by_cases h9:n<10
  ·rw[Lib.nDigits_small h9];omega
  ·rw[Lib.nDigits_big h9];have:=Bl8 k (n/10) (by rw[Nat.div_lt_iff_lt_mul (by omega)];rw[Nat.pow_succ] at h;exact h);omega
theorem Dt0 {n:Nat} (h:n<=2147483647):(Lib.decDigits n).length<=10:=by
 rw[Lib.decDigits_length];exact Bl8 9 n (by omega)
theorem Dt1 (u:Nat): ∀b∈Lib.decDigits u,Gu b=true:=by
 induction u using Nat.strongRecOn with
 | ind u ih=>
  have one: ∀d:Nat,d<10->Gu (UInt8.ofNat (48+d))=true:=fun d hd=>by
   unfold Gu;rw[UInt8.toNat_ofNat',jF,decide_eq_true_eq,decide_eq_true_eq];omega
  intro b hb;rw[Lib.decDigits] at hb;split at hb
  ·rename_i h
   rw[List.mem_singleton] at hb;subst hb;exact one u h
  ·rename_i h
   rcases List.mem_append.1 hb with hb | hb
   ·exact ih (u/10) (by omega) b hb
   ·rw[List.mem_singleton] at hb;subst hb;exact one _ (by omega)
theorem Ey6 (u:Nat): ∃c r,Lib.decDigits u=c::r/\Gu c=true:=by
 have h:=Dt1 u
 have C:Lib.decDigits u≠ []:=by rw[Lib.decDigits];split<;>simp
 match hd:Lib.decDigits u,C with
 | [],C=>exact absurd rfl C
 | c::r,_=>rw[hd] at h;exact⟨c,r,rfl,h c (by simp)⟩
theorem Eg1 (w:List UInt8) (c:UInt8):Vx (w++ [c])=10*Vx w+(c.toNat-48):=by simp [Vx,List.foldl_append]
theorem Ak0 {c:UInt8} (h:Gu c=true):Ew c=true:=by simp [Ew,h]
theorem Cs9 {n:Int} (h:0<=n):Lib.itoa n=Lib.decDigits n.toNat:=by rw[Lib.itoa,if_neg (by omega)]
theorem Aq1: ∀w:List UInt8,w.all Ew=true->Fl w=w
 | [],_=>rfl
 | c::w,h=>by
  rw[List.all_cons,jF] at h;show List.takeWhile Ew (c::w)=_;rw[List.takeWhile_cons,h.1];have:=Aq1 w h.2;unfold Fl at this;simp [this]
theorem Bz8 {t:Tok} (h:Zn t=true):(t.kind=1/\t.n=0/\Nv t.text=true)\/(t.kind=2/\t.n=0/\Up t.text=true)\/(t.kind=4/\t.n=0/\Cs7 t.text=true)\/(t.kind=3/\t.text= []/\0<=t.n/\t.n<=2147483647):=by
 unfold Zn at h;split at h
 ·rename_i k
  simp only[jF,decide_eq_true_eq] at h;exact .inl ⟨k,h⟩
 ·split at h
  ·rename_i k
   simp only[jF,decide_eq_true_eq] at h;exact .inr (.inl ⟨k,h⟩)
  ·split at h
   ·rename_i k
    simp only[jF,decide_eq_true_eq] at h;exact .inr (.inr (.inl ⟨k,h⟩))
   ·simp only[jF,decide_eq_true_eq] at h;exact .inr (.inr (.inr ⟨h.1.1.1,h.1.1.2,h.1.2,h.2⟩))
end Go.Dl
