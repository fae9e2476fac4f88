/- The data level and the contracts of the functions that are reached (part 3). -/
import Derived.Orders
import Derived.Test.YtddbdpcgikmiaaaGreatDoorProg
import Derived.KernelRfl
import Derived.Lib.ItoaMem
import Derived.Lib.ConvBytes
import Derived.Lib.LaidTab
import Derived.Lib.ItoaLen
import Derived.Lib.ParseIntBTie
import Derived.Test.YtddbdpcgikmiaaaGreatDoorPib
set_option linter.unusedSimpArgs false
set_option linter.unusedVariables false
set_option linter.unusedSectionVars false
set_option maxHeartbeats 400000000
-- Dy
namespace Go.Dl
open Go
def EVF (dst:Option Nat) (F:DK->DS->Prop):Prop:=
 ∀K s,F K s-> ∃d,Br dst d K s/\ ∀K' s',Br dst d K' s'->F K' s'
theorem Ke (dst:Option Nat) (d:DVal):EVF dst (Br dst d):=λK s h=>⟨d,h,λK' s' h'=>h'⟩
theorem Mf (dst:Option Nat) {F:DK->DS->Prop} (h: ∀K s,¬F K s):EVF dst F:=λK s hf=>(h K s hf).elim
theorem Ck {dst:Option Nat} {p:Prop} {F:DK->DS->Prop} (h:EVF dst F):EVF dst (λK s=>p/\F K s):=λK s ⟨hp,hf⟩=>by
 obtain⟨d,h1,h2⟩:=h K s hf;exact⟨d,h1,λK' s' h'=>⟨hp,h2 K' s' h'⟩⟩
theorem Nb (dst:Option Nat) (o:Option DVal):EVF dst (Wl dst o):=by
 cases o with
 |none=>exact Mf _ λK s h=>h
 |some d=>exact Ke dst d
theorem Fy1 (dst:Option Nat) (c a b:DVal):EVF dst (Cu9 dst c a b):=by
 intro K s h;revert h;unfold Cu9;split
 ·intro h;exact⟨_,h,λ_ _ h'=>h'⟩
 ·intro h;exact h.elim
theorem Fb6 (P:Program) (dst:Option Nat) (b:Bool) (t:Option TypeDesc) (z:Option DVal) (y:List (Nat×DVal)):EVF dst (Ck8 P dst b t z y):=by
 intro K s h;revert h;unfold Ck8;split
 ·intro h;exact Nb _ _ K s h
 ·intro h;exact Nb _ _ K s h
 ·intro h;exact h.elim
theorem Cy3 (size:Nat) (dst:Option Nat) (y:Option Bool) (cs:List DVal) (off:Nat):EVF dst (Bn6 size dst y cs off):=by
 intro K s h;revert h;unfold Bn6;split
 ·intro h;exact Ck (Ke _ _) K s h
 ·intro h;exact Nb _ _ K s h
 ·intro h;exact h.elim
theorem Fb7 (size:Nat) (y:Option Bool) (dst:Option Nat) (off:Nat) (o:Option DObj):EVF dst (Ck9 size y dst off o):=by
 intro K s h;revert h;unfold Ck9;split
 ·intro h;exact Cy3 _ _ _ _ _ K s h
 ·intro h;exact h.elim
theorem Fy2 (size:Nat) (y:Option Bool) (dst:Option Nat) (v:DVal) (K:DK) (s:DS) (h:Cd9 size y dst v K s):
  ∃d,Br dst d K s/\ ∀K' s',(∀r off,v= .optr r off->s'.heap r=s.heap r)->Br dst d K' s'->Cd9 size y dst v K' s':=by
 unfold Cd9 at h;split at h<;>try exact h.elim
 ·obtain⟨d,h1,h2⟩:=Cy3 _ _ _ _ _ K s h;exact⟨d,h1,λK' s' _ h'=>h2 K' s' h'⟩
 ·rename_i r off
  obtain⟨d,h1,h2⟩:=Fb7 _ _ _ _ _ K s h;exact⟨d,h1,λK' s' hk h'=>by show Ck9 _ _ _ _ (s'.heap r) K' s';rw[hk r off rfl];exact h2 K' s' h'⟩
theorem Cy4 (dst:Option Nat) (v:DVal):EVF dst (Ah6 dst v):=by
 intro K s h;revert h;unfold Ah6;split<;>intro h<;>first|exact h.elim|exact⟨_,h,λ_ _ h'=>h'⟩
theorem Do6 (dst:Option Nat) (o b:Option Bool):EVF dst (Te dst o b):=by
 intro K s h;revert h;unfold Te;split<;>intro h<;>first|exact h.elim|exact⟨_,h,λ_ _ h'=>h'⟩
theorem Em9 (k:IntKind) (a b:Int) (dst:Option Nat) (op:BinOp):EVF dst (λK s=>Bl2 k a b dst K s op):=by
 intro K s h;revert h;unfold Bl2;split<;>intro h<;>first|exact h.elim|exact⟨_,h,λ_ _ h'=>h'⟩|exact⟨_,h.2,λ_ _ h'=>⟨h.1,h'⟩⟩
theorem Fb8 (k:IntKind) (a b:Int) (dst:Option Nat) (op:BinOp):EVF dst (λK s=>Cl1 k a b dst K s op):=by
 intro K s h;revert h;unfold Cl1;split<;>intro h<;>first|exact h.elim|exact⟨_,h,λ_ _ h'=>h'⟩|exact⟨_,h.2,λ_ _ h'=>⟨h.1,h'⟩⟩
theorem En0 (a b:List UInt8) (dst:Option Nat) (op:BinOp):EVF dst (λK s=>Ar0 a b dst K s op):=by
 intro K s h;revert h;unfold Ar0;split<;>intro h<;>first|exact h.elim|exact⟨_,h,λ_ _ h'=>h'⟩|exact⟨_,h.2,λ_ _ h'=>⟨h.1,h'⟩⟩
theorem Fy3 (op:BinOp) (k k':IntKind) (a b:Int) (dst:Option Nat) (x:Bool):EVF dst (λK s=>Ea1 op k k' a b dst K s x):=by
 cases x
 ·exact Ck (Em9 k a b dst op)
 ·exact Fb8 k a b dst op
theorem Fb9 (P:Program) (t:TypeId) (c:Bool) (op:BinOp) (dst:Option Nat) (x y:DVal):EVF dst (Rl P t c op dst x y):=by
 intro K s h;revert h;unfold Rl;split
 ·intro h;exact Fy3 _ _ _ _ _ _ _ K s h
 ·intro h;exact En0 _ _ _ _ K s h
 ·intro h;exact Ck (Ck (Do6 _ _ _)) K s h
 ·intro h;exact Do6 _ _ _ K s h
theorem Hb9 (dst:Option Nat) (op:UnOp) (x:DVal):EVF dst (dUn dst op x):=by
 intro K s h;revert h;unfold dUn;split<;>intro h<;>first|exact h.elim|exact⟨_,h,λ_ _ h'=>h'⟩
theorem Do7 (dst:Option Nat) (a b:Option TypeDesc) (x:DVal):EVF dst (Ar1 dst a b x):=by
 intro K s h;revert h;unfold Ar1;split<;>intro h<;>first|exact h.elim|exact⟨_,h,λ_ _ h'=>h'⟩
theorem Co0 (t:TypeId) (x:DVal) (dst:Option Nat) (b:Bool):EVF dst (Xv t x dst b):=by
 intro K s h;revert h;unfold Xv;split<;>intro h<;>first|exact h.elim|exact⟨_,h,λ_ _ h'=>h'⟩
theorem Cy5 (l:List UInt8) (dst:Option Nat) (a b:Option Int):EVF dst (λK s=>Ay8 l dst K s a b):=by
 cases a<;>cases b<;>first|exact Mf _ (λK s h=>h)|exact Ck (Ck (Ck (Ke _ _)))
theorem Ce9 (size:Nat) (cs:List DVal) (len:Nat) (dst:Option Nat) (a b:Option Int):EVF dst (λK s=>Ar2 size cs len dst K s a b):=by
 cases a<;>cases b<;>first|exact Mf _ (λK s h=>h)|exact Ck (Ck (Ck (Ke _ _)))
theorem Ba1 (size r off cap:Nat) (dst:Option Nat) (a b c:Option Int):EVF dst (λK s=>Xx size r off cap dst K s a b c):=by
 cases a<;>cases b<;>cases c<;>first|exact Mf _ (λK s h=>h)|exact Ck (Ck (Ck (Ck (Ke _ _))))
theorem En1 (dst:Option Nat) (a b:Option Int):EVF dst (λK s=>Cl3 dst K s a b):=by
 cases a<;>cases b<;>first|exact Mf _ (λK s h=>h)|exact Ck (Ck (Ke _ _))
theorem Fc0 (P:Program) (lo hi:Option DVal) (dst:Option Nat) (t:Option TypeDesc) (v:DVal) (m:Option DVal) (K:DK) (s:DS) (h:Ay9 P lo hi dst t v m K s):
  ∃d,Br dst d K s/\ ∀K' s',(∀r off,v= .optr r off->s'.heap r=s.heap r)->Br dst d K' s'->Ay9 P lo hi dst t v m K' s':=by
 have y: ∀ {F:DK->DS->Prop},EVF dst F->F K s-> ∃d,Br dst d K s/\ ∀K' s',(∀r off,v= .optr r off->s'.heap r=s.heap r)->Br dst d K' s'->F K' s':=by
  intro F C hf;obtain⟨d,h1,h2⟩:=C K s hf;exact⟨d,h1,λK' s' _ h'=>h2 K' s' h'⟩
 unfold Ay9 at h;split at h<;>try exact h.elim
 ·exact y (Cy5 _ _ _ _) h
 ·exact y (Ck (En1 _ _ _)) h
 ·exact y (Ck (Ce9 _ _ _ _ _ _)) h
 ·exact y (Ck (Ck (Ba1 _ _ _ _ _ _ _ _))) h
 ·exact y (Ck (Ck (Ck (Ba1 _ _ _ _ _ _ _ _)))) h
 ·rename_i n e r off
  obtain⟨h1,h2,h3⟩:=h;obtain⟨d,h4,h5⟩:=Ba1 _ _ _ _ _ _ _ _ K s h3;exact⟨d,h4,λK' s' hk h'=>⟨h1,by rw[hk r off rfl];exact h2,h5 K' s' h'⟩⟩
 ·exact y (Ck (Ck (Ce9 _ _ _ _ _ _))) h
theorem Cc2 (P:Program) (x:DVal) (dst:Option Nat) (f:Option Field):EVF dst (Bf9 P x dst f):=by
 cases f with
 |none=>exact Mf _ (λK s h=>h)
 |some f=>exact Ck (Nb _ _)
theorem Co1 (P:Program) (f:Nat) (x:DVal) (dst:Option Nat) (t:Option TypeDesc):EVF dst (Tg P f x dst t):=by
 intro K s h;revert h;unfold Tg;split
 ·intro h;exact Cc2 _ _ _ _ K s h
 ·intro h;exact h.elim
theorem Eb6 (size:Nat) (cs:List DVal) (off:Nat) (dst:Option Nat) (b:Option Bool):EVF dst (Cv2 size cs off dst b):=by
 intro K s h;revert h;unfold Cv2;split
 ·intro h;exact Ke _ _ K s h
 ·intro h;exact Nb _ _ K s h
 ·intro h;exact h.elim
theorem En2 (P:Program) (cs:List DVal) (dst:Option Nat) (f:Option Field):EVF dst (Ea4 P cs dst f):=by
 cases f with
 |none=>exact Mf _ (λK s h=>h)
 |some f=>exact Eb6 _ _ _ _ _
theorem Fc1 (P:Program) (f:Nat) (dst:Option Nat) (t:Option TypeDesc) (x:DVal):EVF dst (Bn7 P f dst t x):=by
 intro K s h;revert h;unfold Bn7;split
 ·intro h;exact En2 _ _ _ _ K s h
 ·intro h;exact h.elim
theorem Co2 (P:Program) (dst:Option Nat) (t:Option TypeDesc) (x i:DVal):EVF dst (Th P dst t x i):=by
 intro K s h;revert h;unfold Th;split
 ·intro h;exact Ck (Ck (Ck (Ck (Ke _ _)))) K s h
 ·intro h;exact Ck (Ck (Ck (Ke _ _))) K s h
 ·intro h;exact Ck (Ck (Ck (Nb _ _))) K s h
 ·intro h;exact h.elim
theorem Fc2 (P:Program) (dst:Option Nat) (t:Option TypeDesc) (x i:DVal):EVF dst (Bn8 P dst t x i):=by
 intro K s h;revert h;unfold Bn8;split
 ·intro h;exact Ck (Ck (Eb6 _ _ _ _ _)) K s h
 ·intro h;exact Ck (Nb _ _) K s h
 ·intro h;exact h.elim
theorem Do8 (i:Nat) (dst:Option Nat) (x:DVal):EVF dst (Ar3 i dst x):=by
 intro K s h;revert h;unfold Ar3;split
 ·intro h;exact Nb _ _ K s h
 ·intro h;exact h.elim
theorem Bq2 (dst:Option Nat) (z:Option DVal):EVF dst (Bn9 dst z):=by
 cases z with
 |none=>exact Mf _ (λK s h=>h)
 |some z=>exact Ke _ _
theorem Cy6 (v:DVal) (z:Option DVal) (dst:Option Nat) (a b:Bool):EVF dst (Az0 v z dst a b):=by
 cases a<;>cases b
 ·exact Mf _ (λK s h=>h)
 ·exact Ke _ _
 ·exact Bq2 _ _
 ·exact Ke _ _
theorem Cc3 (P:Program) (t:TypeId) (ok:Bool) (dst:Option Nat) (b:Bool) (x:DVal):EVF dst (Qq P t ok dst b x):=by
 intro K s h;revert h;unfold Qq;split
 ·intro h;exact Cy6 _ _ _ _ _ K s h
 ·intro h;exact Ck (Bq2 _ _) K s h
 ·intro h;exact h.elim
theorem Gq6 (dst:Option Nat) (t:Option TypeDesc) (x:DVal):EVF dst (dLen dst t x):=by
 intro K s h;revert h;unfold dLen;split<;>intro h<;>first|exact h.elim|exact⟨_,h,λ_ _ h'=>h'⟩
theorem Fc3 (P:Program) (x:DVal) (dst:Option Nat) (ts:List TypeId):EVF dst (Dk6 P x dst ts):=by
 intro K s h;revert h;unfold Dk6;split
 ·intro h;exact Gq6 _ _ _ K s h
 ·intro h;exact h.elim
def Vc:Op->Bool
 | .move _| .assign _| .pick _ _ _| .build _ _| .load _ _| .nilCheck _| .unOp _ _ _| .convert _ _ _| .makeInterface _ _| .makeFunc _ _ _
 | .slice _ _ _ _ _| .fieldAddr _ _ _| .field _ _ _| .indexAddr _ _ _| .index _ _ _| .typeAssert _ _ _ _| .extract _ _=>true
 | .binOp _ _ _ y _=>!Jk y
 | .call c=>match c.callee with
  | .builtin .len| .builtin .min| .builtin .max=>true
  |_=>false
 |_=>false
def Co3:Op->Option Operand
 | .load _ a=>some a
 | .slice _ x _ _ _=>some x
 | .convert _ _ x=>some x
 |_=>none
def Mt (H H':Ab):DVal->Prop
 | .optr r _=>H' r=H r
 | .oslice _ r _ _ _=>H' r=H r
 |_=>True
theorem Jv {H:Ab} {v:DVal}:Mt H H v:=by
 unfold Mt;split<;>trivial
theorem Mt.ptr {H H':Ab} {d:DVal} (h:Mt H H' d): ∀r off,d= .optr r off->H' r=H r:=λr off e=>by subst e;exact h
def Cy7 (G:Nat->DVal) (s s':DS) (op:Op):Prop:= ∀a,Co3 op=some a->Mt s.heap s'.heap (dev G s.env a)
theorem Cy8 {H H':Ab} {x:DVal} (h:Mt H H' x):Am5 H' x=Am5 H x:=by
 unfold Am5;split<;>try rfl
 simp only[Mt] at h;rw[h]
theorem Fc4 (P:Program) (dst:Option Nat) (a b:Option TypeDesc) (x:DVal) (K:DK) (s:DS) (h:Ab9 P dst a b x K s):
  ∃d,Br dst d K s/\ ∀K' s',Mt s.heap s'.heap x->Br dst d K' s'->Ab9 P dst a b x K' s':=by
 revert h;unfold Ab9;split
 ·rintro⟨h1,h⟩;cases hb:(Am5 s.heap x).bind Ab8 with
  |none=>rw[hb] at h;exact h.elim
  |some l=>
   rw[hb] at h;exact⟨_,h,λK' s' hk h'=>⟨h1,by rw[Cy8 hk,hb];exact h'⟩⟩
 ·intro h;obtain⟨d,h1,h2⟩:=Do7 _ _ _ _ K s h;exact⟨d,h1,λK' s' _ h'=>h2 K' s' h'⟩
theorem Tm {G:Nat->DVal} {env C:Nat->DVal}: ∀ {xs:List Operand},(∀x∈xs,dev G C x=dev G env x)->Hq G C xs=Hq G env xs
 | [],_=>rfl
 |x::xs,h=>by
  simp only[Hq];rw[h x (by simp),Tm λy D=>h y (by simp [D])]
theorem Yg {G:Nat->DVal} {env C:Nat->DVal}: ∀ {xs:List (Nat×Operand)},(∀x∈xs.map (·.2),dev G C x=dev G env x)->Mr G C xs=Mr G env xs
 | [],_=>rfl
 |(i,x)::xs,h=>by
  simp only[Mr];rw[h x (by simp),Yg λy D=>h y (by simp at D⊢;exact .inr D)]
theorem Yh {G:Nat->DVal} {env C:Nat->DVal} {x:Option Operand} (h: ∀y∈x.toArray,dev G C y=dev G env y):Rm G C x=Rm G env x:=by
 cases x with
 |none=>rfl
 |some x=>simp only[Rm];rw[h x (by simp)]
def Vd (all:List Oper) (env:Nat->DVal) (o:Oper):Option Bool:=
 match o.guard with
 |none=>some true
 |some (j,b)=>match Ux all j with
  |some g=>match env g with
   | .bool v=>some (v==b)
   | .tuple []=>some false
   |_=>none
  |none=>none
section
variable {P:Program} {G:Nat->DVal}
theorem An3 {dst:Option Nat} {K:DK} {Q:DExit->DS->Prop} {s:DS} (op:Op) (he:Vc op=true) (h:dop P G dst K Q s op):
  ∃d,Br dst d K s/\ ∀Q' K' s',(∀x∈op.operands,dev G s'.env x=dev G s.env x)->Cy7 G s s' op->Br dst d K' s'->dop P G dst K' Q' s' op:=by
 have C: ∀ {F:DK->DS->Prop},EVF dst F->F K s->(∀K' s',(∀x∈op.operands,dev G s'.env x=dev G s.env x)-> ∀Q',F K' s'->dop P G dst K' Q' s' op)->
   ∃d,Br dst d K s/\ ∀Q' K' s',(∀x∈op.operands,dev G s'.env x=dev G s.env x)->Cy7 G s s' op->Br dst d K' s'->dop P G dst K' Q' s' op:=by
  intro F I hf J;obtain⟨d,h1,h2⟩:=I K s hf;exact⟨d,h1,λQ' K' s' ha _ h'=>J K' s' ha Q' (h2 K' s' h')⟩
 cases op<;>simp only[Vc] at he<;>try (cases he;done)
 case move x=>exact C (Ke _ _) h λK' s' ha Q' h'=>by simp only[dop];rw[ha x (by simp [Op.operands])];exact h'
 case assign x=>exact C (Ke _ _) h λK' s' ha Q' h'=>by simp only[dop];rw[ha x (by simp [Op.operands])];exact h'
 case pick c a b=>exact C (Fy1 _ _ _ _) h λK' s' ha Q' h'=>by simp only[dop];rw[ha c (by simp [Op.operands]),ha a (by simp [Op.operands]),ha b (by simp [Op.operands])];exact h'
 case build t ps=>
  exact C (Fb6 _ _ _ _ _ _) h λK' s' ha Q' h'=>by
   simp only[dop];rw[Yg (env:=s.env) (λx hx=>ha x (by simpa [Op.operands] using hx))];exact h'
 case load t a=>
  obtain⟨d,h1,h2⟩:=Fy2 _ _ _ _ K s h;exact⟨d,h1,λQ' K' s' ha hk h'=>by simp only[dop];rw[ha a (by simp [Op.operands])];exact h2 K' s' (hk a rfl).ptr h'⟩
 case nilCheck x=>exact C (Cy4 _ _) h λK' s' ha Q' h'=>by simp only[dop];rw[ha x (by simp [Op.operands])];exact h'
 case binOp op t x y _=>
  have hn:Jk y=false:=by simpa using he
  simp only[dop,hn,Uy] at h;exact C (Fb9 _ _ _ _ _ _ _) h λK' s' ha Q' h'=>by simp only[dop,hn,Uy];rw[ha x (by simp [Op.operands]),ha y (by simp [Op.operands])];exact h'
 case unOp op t x=>exact C (Hb9 _ _ _) h λK' s' ha Q' h'=>by simp only[dop];rw[ha x (by simp [Op.operands])];exact h'
 case convert a t x=>
  obtain⟨d,h1,h2⟩:=Fc4 _ _ _ _ _ K s h;exact⟨d,h1,λQ' K' s' ha hk h'=>by simp only[dop];rw[ha x (by simp [Op.operands])];exact h2 K' s' (hk x rfl) h'⟩
 case makeInterface t x=>exact C (Co0 _ _ _ _) h λK' s' ha Q' h'=>by simp only[dop];rw[ha x (by simp [Op.operands])];exact h'
 case makeFunc fn fs cs=>
  exact C (Ke _ _) h λK' s' ha Q' h'=>by
   simp only[dop];rw[Tm (env:=s.env) (xs:=fs.toList) (λx hx=>ha x (by simp at hx;simp [Op.operands,hx])),Tm (env:=s.env) (xs:=cs.toList) (λx hx=>ha x (by simp at hx;simp [Op.operands,hx]))];exact h'
 case slice t x lo hi mx=>
  obtain⟨d,h1,h2⟩:=Fc0 _ _ _ _ _ _ _ K s h;exact⟨d,h1,λQ' K' s' ha hk h'=>by
   simp only[dop];rw[ha x (by simp [Op.operands]),Yh (x:=lo) (env:=s.env) (λy D=>ha y (by simp at D;simp [Op.operands,D])),Yh (x:=hi) (env:=s.env) (λy D=>ha y (by simp at D;simp [Op.operands,D])),Yh (x:=mx) (env:=s.env) (λy D=>ha y (by simp at D;simp [Op.operands,D]))];exact h2 K' s' (hk x rfl).ptr h'⟩
 case fieldAddr t x f=>exact C (Co1 _ _ _ _ _) h λK' s' ha Q' h'=>by simp only[dop];rw[ha x (by simp [Op.operands])];exact h'
 case field t x f=>exact C (Fc1 _ _ _ _ _) h λK' s' ha Q' h'=>by simp only[dop];rw[ha x (by simp [Op.operands])];exact h'
 case indexAddr t x i=>exact C (Co2 _ _ _ _ _) h λK' s' ha Q' h'=>by simp only[dop];rw[ha x (by simp [Op.operands]),ha i (by simp [Op.operands])];exact h'
 case index t x i=>exact C (Fc2 _ _ _ _ _) h λK' s' ha Q' h'=>by simp only[dop];rw[ha x (by simp [Op.operands]),ha i (by simp [Op.operands])];exact h'
 case typeAssert x t u ok=>exact C (Cc3 _ _ _ _ _ _) h λK' s' ha Q' h'=>by simp only[dop];rw[ha x (by simp [Op.operands])];exact h'
 case extract x i=>exact C (Do8 _ _ _) h λK' s' ha Q' h'=>by simp only[dop];rw[ha x (by simp [Op.operands])];exact h'
 case call c=>
  have E: ∀s':DS,(∀x∈(Op.call c).operands,dev G s'.env x=dev G s.env x)->Hq G s'.env c.args.toList=Hq G s.env c.args.toList:=by
   intro s' ha;exact Tm λx hx=>ha x (by simp at hx;simp [Op.operands,Call.operands,hx])
  simp only[dop] at h⊢
  cases hc:c.callee with
  |value f=>rw[hc] at he;cases he
  |invoke r m=>rw[hc] at he;cases he
  |builtin b=>
   rw[hc] at h he;simp only[Xz] at h⊢
   cases b<;>simp only at he<;>try (cases he;done)
   case len=>
    cases hx:Hq G s.env c.args.toList with
    |nil=>rw[hx] at h;exact h.elim
    |cons x xs=>
     cases xs with
     |cons y ys=>rw[hx] at h;exact h.elim
     |nil=>
      rw[hx] at h;obtain⟨d,h1,h2⟩:=Fc3 P x dst c.argTypes.toList K s h;exact⟨d,h1,λQ' K' s' ha _ h'=>by rw[E s' ha,hx];exact h2 K' s' h'⟩
   case min=>
    obtain⟨d,h1,h2⟩:=Nb dst (Ah8 false (Hq G s.env c.args.toList)) K s h;exact⟨d,h1,λQ' K' s' ha _ h'=>by rw[E s' ha];exact h2 K' s' h'⟩
   case max=>
    obtain⟨d,h1,h2⟩:=Nb dst (Ah8 true (Hq G s.env c.args.toList)) K s h;exact⟨d,h1,λQ' K' s' ha _ h'=>by rw[E s' ha];exact h2 K' s' h'⟩
theorem En3 {dst:Option Nat} {K E:DK} {Q M:DExit->DS->Prop} {s C:DS} (op:Op) (ha: ∀x∈op.operands,dev G C.env x=dev G s.env x) (hh:C.heap=s.heap)
  (D: ∀d h,K ⟨Hv s.env dst d,h⟩->E ⟨Hv C.env dst d,h⟩) (Z: ∀v h,Q (.panic v) ⟨s.env,h⟩->M (.panic v) ⟨C.env,h⟩)
  (h:dop P G dst K Q s op):dop P G dst E M C op:=by
 by_cases he:Vc op=true
 ·obtain⟨d,h1,h2⟩:=An3 op he h;refine h2 M E C ha (λa _=>by rw[hh];exact Jv) ?_;show E ⟨Hv C.env dst d,C.heap⟩;rw[hh];exact D _ _ h1
 ·have aa: ∀ {cs e},Dd cs e dst K s->Dd cs e dst E C:=λhn r hr=>by
   rw[hh] at hr⊢;exact D _ _ (hn r hr)
  have O: ∀ {cs e sz l c},Bn4 cs e sz l c dst K s->Bn4 cs e sz l c dst E C:=λhn r hr=>by
   rw[hh] at hr⊢;exact D _ _ (hn r hr)
  have panic: ∀ {x},Am6 Q s x->Am6 M C x:=by
   intro x hx;unfold Am6 at hx⊢
   split at hx<;>try exact hx.elim
   have:=Z _ _ hx;rw[<-hh] at this;exact this
  cases op<;>(try exact(he rfl).elim)<;>(try exact h.elim)
  case binOp op t x y t'=>
   have hn:Jk y=true:=by
    simp only[Vc] at he;cases S:Jk y with
    |true=>rfl
    |false=>rw[S] at he;exact absurd rfl he
   simp only[dop] at h⊢
   rw[ha x (by simp [Op.operands]),ha y (by simp [Op.operands])];rw[hn] at h⊢
   generalize dev G s.env x=dx at h⊢
   generalize dev G s.env y=dy at h⊢
   (have put: ∀d,Br dst d K s->Br dst d E C:=λd h=>by unfold Br at*;rw[hh];exact D _ _ h);have rest:Rl P t (Ij x || Ij y) op dst dx dy K s->Rl P t (Ij x || Ij y) op dst dx dy E C:=λh=>by
    obtain⟨d,h1,h2⟩:=Fb9 _ _ _ _ _ _ _ K s h;exact h2 E C (put d h1)
   (cases dx<;>first|exact rest h|skip);simp only[Bf7] at h⊢
   refine⟨h.1,λb hb=> ?_⟩;obtain⟨d,h1,h2⟩:=Do6 _ _ _ K s (h.2 b hb);exact h2 E C (put d h1)
  case range t x=>
   simp only[dop] at h⊢
   rw[ha x (by simp [Op.operands])];generalize P.underlying t=u at h⊢
   generalize dev G s.env x=dx at h⊢
   unfold Cl2 at h⊢
   split at h<;>try exact h.elim
   exact λr hr=>by rw[hh] at hr⊢;exact D _ _ (h r hr)
  case next x b=>
   simp only[dop] at h⊢
   rw[ha x (by simp [Op.operands])];generalize dev G s.env x=dx at h⊢
   unfold Ea3 at h⊢
   split at h<;>try exact h.elim
   rw[hh];unfold Dk5 at h⊢
   split at h<;>try exact h.elim
   refine⟨λhp=>by rw[hh];exact D _ _ (h.1 hp),λhp=> ?_⟩;have:=h.2 hp;unfold Br at*;rw[hh];exact D _ _ this
  case makeMap t r=>
   simp only[dop] at h⊢
   rw[Yh (x:=r) (env:=s.env) (λy S=>ha y (by simp at S;simp [Op.operands,S]))];generalize P.underlying t=u at h⊢
   generalize Rm G s.env r=v at h⊢
   unfold Ac3 at h⊢
   split at h<;>try exact h.elim
   all_goals exact λr hr=>by rw[hh] at hr⊢;exact D _ _ (h r hr)
  case lookup t x k ok=>
   simp only[dop] at h⊢
   rw[ha x (by simp [Op.operands]),ha k (by simp [Op.operands])];generalize P.underlying t=u at h⊢
   generalize dev G s.env x=dx at h⊢
   generalize dev G s.env k=dk at h⊢
   (have put: ∀d,Br dst d K s->Br dst d E C:=λd h=>by unfold Br at*;rw[hh];exact D _ _ h);have hF: ∀es z r,Bo3 es ok dst z r K s->Bo3 es ok dst z r E C:=λes z r h=>by
    unfold Bo3 at h⊢
    split at h<;>try exact h.elim
    ·obtain⟨p,h1,h2⟩:=h;exact⟨p,h1,put _ h2⟩
    ·exact put _ h
   unfold Bl5 at h⊢
   split at h<;>try exact h.elim
   ·refine⟨h.1, ?_⟩;have h2:=h.2;rw[hh];generalize s.heap _=ob at h2⊢
    unfold Dk8 at h2⊢
    split at h2<;>try exact h2.elim
    exact hF _ _ _ h2
   ·exact⟨h.1,hF _ _ _ h.2⟩
  case mapUpdate t m k x=>
   simp only[dop] at h⊢
   rw[ha m (by simp [Op.operands]),ha k (by simp [Op.operands]),ha x (by simp [Op.operands])];generalize P.underlying t=u at h⊢
   generalize dev G s.env m=dm at h⊢
   generalize dev G s.env k=dk at h⊢
   generalize dev G s.env x=dx at h⊢
   unfold Ah7 at h⊢
   split at h<;>try exact h.elim
   obtain⟨h1,h2,h3⟩:=h;refine⟨h1,h2, ?_⟩;rw[hh];generalize s.heap _=ob at h3⊢
   unfold Bo2 at h3⊢
   split at h3<;>try exact h3.elim
   refine⟨h3.1, ?_⟩;have h4:=h3.2;unfold Ar6 at h4⊢
   split at h4<;>try exact h4.elim
   subst h1;rw[hh];exact D Fg _ h4
  case insert t m k x=>
   simp only[dop] at h⊢
   rw[ha m (by simp [Op.operands]),ha k (by simp [Op.operands]),ha x (by simp [Op.operands])];generalize P.underlying t=u at h⊢
   generalize dev G s.env m=dm at h⊢
   generalize dev G s.env k=dk at h⊢
   generalize dev G s.env x=dx at h⊢
   unfold Ah7 at h⊢
   split at h<;>try exact h.elim
   obtain⟨h1,h2,h3⟩:=h;refine⟨h1,h2, ?_⟩;rw[hh];generalize s.heap _=ob at h3⊢
   unfold Bo2 at h3⊢
   split at h3<;>try exact h3.elim
   refine⟨h3.1, ?_⟩;have h4:=h3.2;unfold Ar6 at h4⊢
   split at h4<;>try exact h4.elim
   subst h1;rw[hh];exact D Fg _ h4
  case alloc e=>
   simp only[dop] at h⊢
   generalize Bj P e=z at h⊢
   cases z with
   |none=>exact h.elim
   |some z=>exact aa h
  case box e x=>simp only[dop] at h⊢;rw[ha x (by simp [Op.operands])];exact aa h
  case buildSlice t n ps=>
   simp only[dop] at h⊢
   rw[Yg (env:=s.env) (λx hx=>ha x (by simpa [Op.operands] using hx))];generalize Mr G s.env ps.toList=qs at h⊢
   generalize P.underlying t=u at h⊢
   unfold Uv at h⊢
   split at h<;>try exact h.elim
   show Aq9 _ _ _ _ _ _ _ _;generalize Bj P _=z at h⊢
   cases z with
   |none=>exact h.elim
   |some z=>
    obtain⟨h1,h2,h3⟩:=h;refine⟨h1,h2, ?_⟩;generalize Zy _ _ _=f at h3⊢
    cases f with
    |none=>exact h3.elim
    |some f=>exact O h3
  case store t a x=>
   simp only[dop] at h⊢
   obtain⟨h1,h2⟩:=h;refine⟨h1, ?_⟩;rw[ha a (by simp [Op.operands]),ha x (by simp [Op.operands])];generalize dev G s.env a=va at h2⊢
   generalize dev G s.env x=vx at h2⊢
   unfold Cl0 at h2⊢
   split at h2<;>try exact h2.elim
   rename_i ad ae af ag
   rw[hh];generalize s.heap _=ob at h2⊢
   unfold Dz7 at h2⊢
   split at h2<;>try exact h2.elim
   obtain⟨U,V,W,X⟩:=h2;refine⟨U,V,W, ?_⟩;rw[hh];exact D Fg _ X
  case makeSlice t l c=>
   simp only[dop] at h⊢
   rw[ha l (by simp [Op.operands]),ha c (by simp [Op.operands])];generalize dev G s.env l=vl at h⊢
   generalize dev G s.env c=vc at h⊢
   generalize P.underlying t=u at h⊢
   unfold Xw at h⊢
   split at h<;>try exact h.elim
   show Bf8 _ _ _ _ _ _ _ _ _;generalize Bj P _=z at h⊢
   cases z with
   |none=>exact h.elim
   |some z=>
    obtain⟨h1,h2,h3,h4,h5,h6,h7⟩:=h;exact⟨h1,h2,h3,h4,h5,h6,O h7⟩
  case panic x=>simp only[dop] at h⊢;rw[ha x (by simp [Op.operands])];exact panic h
  case call c=>
   have ab:Hq G C.env c.args.toList=Hq G s.env c.args.toList:=
    Tm λx hx=>ha x (by simp at hx;simp [Op.operands,Call.operands,hx])
   simp only[dop] at h⊢
   cases hc:c.callee with
   |invoke r m=>rw[hc] at h;exact h.elim
   |value f=>
    rw[hc] at h;simp only[Xz] at h⊢
    rw[ab,ha f (by simp [Op.operands,Call.operands,hc])];generalize dev G s.env f=vf at h⊢
    unfold Bo6 at h⊢
    split at h<;>try exact h.elim
    all_goals
     rw[hh];refine h.mono ?_;intro e H' hr;cases e with
     |ret v=>exact D _ _ hr
     |panic v=>exact Z _ _ hr
   |builtin b=>
    rw[hc] at h;simp only[Xz] at h⊢
    rw[ab];generalize Hq G s.env c.args.toList=vs at h⊢
    cases b<;>(try (cases vs<;>exact h.elim))<;>(try (exfalso;refine he ?_;simp [Vc,hc];done))
    case cap=>
     cases vs with
     |nil=>exact h.elim
     |cons x vs=> ?_
     cases vs with
     |cons z vs=>exact h.elim
     |nil=> ?_
     simp only[Na] at h⊢
     generalize c.argTypes.toList=ts at h⊢
     unfold Ez0 at h⊢
     split at h<;>try exact h.elim
     show Ey9 _ _ _ _ _;generalize P.underlying _=u at h⊢
     unfold Ey9 at h⊢
     split at h<;>try exact h.elim
     ·show E ⟨_,C.heap⟩;rw[hh];exact D _ _ h
     ·intro c hc;show E ⟨_,C.heap⟩;rw[hh];exact D _ _ (h c hc)
     ·intro c hc ac;show E ⟨_,C.heap⟩;rw[hh];exact D _ _ (h c hc ac)
    case clear=>
     cases vs with
     |nil=>exact h.elim
     |cons x vs=> ?_
     cases vs with
     |cons z vs=>exact h.elim
     |nil=> ?_
     simp only[Na] at h⊢
     generalize c.argTypes.toList=ts at h⊢
     unfold Cv4 at h⊢
     split at h<;>try exact h.elim
     show Bo1 _ _ _ _ _ _;generalize P.underlying _=u at h⊢
     unfold Bo1 at h⊢
     split at h<;>try exact h.elim
     generalize Bj _ _=zo at h⊢
     unfold Cl4 at h⊢
     split at h<;>try exact h.elim
     ·show E ⟨_,C.heap⟩;rw[hh];exact D _ _ h
     ·refine⟨h.1,h.2.1, ?_⟩;have h2:=h.2.2;rw[hh];generalize s.heap _=ob at h2⊢
      unfold Ea5 at h2⊢
      split at h2<;>try exact h2.elim
      refine⟨h2.1,h2.2.1,h2.2.2.1, ?_⟩;rw[hh];exact D _ _ h2.2.2.2
    case delete=>
     cases vs with
     |nil=>exact h.elim
     |cons x vs=> ?_
     cases vs with
     |nil=>exact h.elim
     |cons y vs=> ?_
     cases vs with
     |cons z vs=>exact h.elim
     |nil=> ?_
     simp only[Na] at h⊢
     generalize c.argTypes.toList=ts at h⊢
     unfold Ce2 at h⊢
     split at h<;>try exact h.elim
     show Ar7 _ _ _ _ _ _ _;generalize P.underlying _=u at h⊢
     unfold Ar7 at h⊢
     split at h<;>try exact h.elim
     refine⟨h.1, ?_⟩;have h2:=h.2;rw[hh];generalize s.heap _=ob at h2⊢
     unfold Bo5 at h2⊢
     split at h2<;>try exact h2.elim
     unfold Bo4 at h2⊢
     split at h2<;>try exact h2.elim
     rw[hh];exact D _ _ h2
    case append=>
     cases vs with
     |nil=>exact h.elim
     |cons x vs=> ?_
     cases vs with
     |nil=>exact h.elim
     |cons y vs=> ?_
     cases vs with
     |cons z vs=>exact h.elim
     |nil=> ?_
     simp only[Na] at h⊢
     generalize c.argTypes.toList=ts at h⊢
     unfold Az2 at h⊢
     split at h<;>try exact h.elim
     show Ar5 _ _ _ _ _ _ _ _ _;generalize Pu _=it at h⊢
     cases it with
     |true=>
      simp only[Ar5] at h⊢
      generalize P.underlying _=u at h⊢
      unfold Ar4 at h⊢
      split at h<;>try exact h.elim
      generalize Bj _ _=zo at h⊢
      unfold Bo0 at h⊢
      split at h<;>try exact h.elim
      refine⟨h.1,h.2.1,λhn=> ?_,λhn=>⟨(h.2.2.2 hn).1,(h.2.2.2 hn).2.1,(h.2.2.2 hn).2.2.1,O (h.2.2.2 hn).2.2.2⟩⟩;have:=h.2.2.1 hn;show E ⟨_,C.heap⟩;rw[hh];exact D _ _ this
     |false=> ?_
     simp only[Ar5] at h⊢
     generalize Az1 _=u' at h⊢
     generalize P.underlying _=u at h⊢
     unfold Bl4 at h⊢
     split at h<;>try exact h.elim
     obtain⟨U,V,W,X,g5,J⟩:=h;refine⟨U,V,W,X,g5, ?_⟩;rw[hh];generalize Ac0 _ _ _=sc at J⊢
     unfold Cv3 at J⊢
     split at J<;>try exact J.elim
     obtain⟨k1,k2,I⟩:=J;refine⟨k1,k2, ?_⟩;unfold Pt at I⊢
     split at I<;>try exact I.elim
     ·refine⟨λhn=> ?_,λhn=>⟨(I.2 hn).1,O (I.2 hn).2⟩⟩;have:=I.1 hn;show E ⟨_,C.heap⟩;rw[hh];exact D _ _ this
     ·refine⟨I.1, ?_⟩;have L:=I.2;rw[hh];generalize s.heap _=ob at L⊢
      unfold Ti at L⊢
      split at L<;>try exact L.elim
      obtain⟨m1,m2,Y⟩:=L;refine⟨m1,λhl=>⟨(m2 hl).1, ?_⟩,λhl=>⟨(Y hl).1,(Y hl).2.1,λr' pre hr hp=> ?_⟩⟩
      ·rw[hh];exact D _ _ (m2 hl).2
      ·rw[hh] at hr⊢;exact D _ _ ((Y hl).2.2 r' pre hr hp)
    case panic=>
     cases vs with
     |nil=>exact h.elim
     |cons x xs=>cases xs with
      |nil=>exact panic h
      |cons y ys=>exact h.elim
end
inductive Plan where
 |done
 |take (i:Nat) (p:Plan)
 |go (i:Nat) (ls:List Nat) (p:Plan)
 |alt (p q:Plan)
 deriving Inhabited
def Hs:List Oper->Nat->Option Oper
 | [],_=>none
 |o::_,0=>some o
 |_::r,n+1=>Hs r n
def As6 (P:Program) (G:Nat->DVal) (K:DK) (Q:DExit->DS->Prop) (dst:Option Nat) (op:Op) (s:DS):Bool->DVal->Prop
 |true,.bool true=>dop P G dst K Q s op
 |true,.bool false=>Br dst Fg K s
 |false,.bool true=>Br dst Fg K s
 |false,.bool false=>dop P G dst K Q s op
 |true,.tuple []=>Br dst Fg K s
 |false,.tuple []=>Br dst Fg K s
 |_,_=>False
def As7 (P:Program) (G:Nat->DVal) (K:DK) (Q:DExit->DS->Prop) (dst:Option Nat) (op:Op) (s:DS) (b:Bool):Option Nat->Prop
 |some g=>As6 P G K Q dst op s b (s.env g)
 |none=>False
def Gq7 (P:Program) (G:Nat->DVal) (all:List Oper) (K:DK) (Q:DExit->DS->Prop) (s:DS) (dst:Option Nat) (op:Op):Option (Nat×Bool)->Prop
 |none=>dop P G dst K Q s op
 |some (j,b)=>As7 P G K Q dst op s b (Ux all j)
def dAt (P:Program) (G:Nat->DVal) (all:List Oper) (K:DK) (Q:DExit->DS->Prop) (s:DS):Option Oper->Prop
 |some o=>Gq7 P G all K Q s o.dst o.op o.guard
 |none=>False
def Fc5 (G:Nat->DVal) (s:DS) (H':Ab):Option Operand->Prop
 |some a=>Mt s.heap H' (dev G s.env a)
 |none=>True
def As8:Option Oper->Option Operand
 |some o=>Co3 o.op
 |none=>none
def Fc6 (G:Nat->DVal) (all:List Oper) (s:DS) (H':Ab):List Nat->Prop
 | []=>True
 |l::ls=>Fc5 G s H' (As8 (Hs all l))/\Fc6 G all s H' ls
def Fc7 (G:Nat->DVal) (all:List Oper) (ls:List Nat) (s:DS) (K:DK):DK:=λs'=>Fc6 G all s s'.heap ls/\K s'
def Qt (P:Program) (G:Nat->DVal) (all:List Oper) (Q:DExit->DS->Prop):Plan->DS->Prop
 | .done,s=>Q .normal s
 | .take i p,s=>dAt P G all (Qt P G all Q p) Q s (Hs all i)
 | .go i ls p,s=>dAt P G all (Fc7 G all ls s (Qt P G all Q p)) Q s (Hs all i)
 | .alt p q,s=>Qt P G all Q p s/\Qt P G all Q q s
def QP (Q:DExit->DS->Prop):DExit->DS->Prop
 | .panic v,s=> ∀env,Q (.panic v) ⟨env,s.heap⟩
 | .normal,s=>Q .normal s
 |_,_=>False
def Up (all:List Oper) (k j:Nat):Bool:=
 match Hs all k with
 |some o=>o.after.any λe=>Region.binds .any e&&e.on==j
 |none=>false
def Bq3 (all:List Oper) (j k:Nat):Bool:=
 match Hs all j,Hs all k with
 |some x,some y=>x.apart all.toArray y
 |_,_=>true
def Do9 (all:List Oper) (i:Nat):Bool:=
 match Hs all i with
 |some o=>Vc o.op
 |none=>false
def Ba2 (all:List Oper) (k:Nat) (T:List Nat):Bool:=
 match Hs all k with
 |some o=>o.after.all λe=>!Region.binds .any e || T.contains e.on
 |none=>false
def Og (all:List Oper) (j:Nat):Option Nat:=(Hs all j).bind (·.dst)
def Tn:Plan->List Nat
 | .go i _ _=> [i]
 | .alt p q=>Tn p++Tn q
 |_=> []
def Bq4 (all:List Oper) (T:List Nat):Plan->Bool
 | .done=>true
 | .take _ _=>true
 |p=>(List.range all.length).all λk=>T.contains k || (Tn p).contains k || !Ba2 all k T
def Cy9 (all:List Oper) (T:List Nat) (l:Nat):Operand->Bool
 | .tmp t=>T.all λm=>Og all m !=some t || Up all l m
 |_=>true
def Fc8 (all:List Oper) (k:Nat):List Nat:=
 match Hs all k with
 |some o=>(o.after.toList.filter λe=>Region.binds .any e).map (·.on)
 |none=> []
def Bl7 (all:List Oper):Nat->List Nat->List Nat
 | 0,S=>S
 |k+1,S=>Bl7 all k (if S.contains k then Fc8 all k++S else S)
def Hh9 (all:List Oper) (i:Nat):List Nat:=Bl7 all (i+1) [i]
def Eb7 (all:List Oper) (T:List Nat) (i:Nat) (ls:List Nat):Bool:=
 T.all λl=>match As8 (Hs all l) with
  |none=>true
  |some a=>Up all i l || (l !=i&&(Hh9 all i).contains l) || (ls.contains l&&Cy9 all T l a)
def Jl (all:List Oper):Plan->List Nat->Bool
 | .done,T=>(List.range all.length).all λk=>T.contains k
 | .take i p,T=>decide (i<all.length)&&!T.contains i&&Do9 all i&&Ba2 all i T&&
   ((List.range all.length).all λk=>T.contains k || k==i || Up all k i || Bq3 all i k)&&Bq4 all (i::T) p&&Jl all p (i::T)
 | .go i ls p,T=>decide (i<all.length)&&!T.contains i&&Ba2 all i T&&Eb7 all T i ls&&Bq4 all (i::T) p&&Jl all p (i::T)
 | .alt p q,T=>Jl all p T&&Jl all q T
section
variable {P:Program} {G:Nat->DVal} {N:Nat} {all:List Oper} {Q:DExit->DS->Prop} {s0:DS} {w0:World}
theorem Sv: ∀(all:List Oper) (j:Nat),Hs all j=all[j]?
 | [],j=>by simp [Hs]
 |o::r,0=>by simp [Hs]
 |o::r,j+1=>by simp [Hs,Sv r j]
theorem Bq5 {o:Oper} {K:DK} {s:DS}:dAt P G all K Q s (some o)↔
  (Vd all s.env o=some true/\dop P G o.dst K Q s o.op)\/(Vd all s.env o=some false/\Br o.dst Fg K s):=by
 simp only[dAt];unfold Gq7 Vd;cases o.guard with
 |none=>simp
 |some y=>
  obtain⟨j,b⟩:=y;simp only;cases Ux all j with
  |none=>simp [As7]
  |some g=>
   simp only[As7];cases hv:s.env g<;>(try (cases b<;>simp [As6];done))
   case bool v=>cases b<;>cases v<;>simp [As6]
   case tuple vs=>cases vs<;>cases b<;>simp [As6]
def Fy4 (P:Program) (G:Nat->DVal) (all:List Oper) (j:Nat) (s:DS) (d:DVal):Prop:=
 ∃o,Hs all j=some o/\Vc o.op=true/\
  ((Vd all s.env o=some true/\ ∀K Q,Br o.dst d K s->dop P G o.dst K Q s o.op)\/(Vd all s.env o=some false/\d=Fg))
def Seq (P:Program) (G:Nat->DVal) (all:List Oper):DS->List Nat->DS->Prop
 |s,[],s'=>s'=s
 |s,j::js,s'=> ∃d,Fy4 P G all j s d/\Seq P G all ⟨Hv s.env (Og all j) d,s.heap⟩ js s'
def looks (all:List Oper) (j:Nat):List Nat:=
 match Hs all j with
 |some o=>o.looksAt all.toArray
 |none=> []
theorem Cf0 {o:Oper} {env y:Nat->DVal} (h: ∀t∈o.looksAt all.toArray,y t=env t): ∀x∈o.op.operands,dev G y x=dev G env x:=by
 intro x hx;cases x with
 |tmp t=>
  refine h t ?_;unfold Oper.looksAt;refine List.mem_append_left _ (List.mem_filterMap.2 ⟨.tmp t,by simpa using hx,rfl⟩)
 |_=>rfl
theorem As9 {o:Oper} {env y:Nat->DVal} (h: ∀t∈o.looksAt all.toArray,y t=env t):Vd all y o=Vd all env o:=by
 unfold Vd;cases hg:o.guard with
 |none=>rfl
 |some C=>
  obtain⟨j,b⟩:=C;simp only;cases hj:Ux all j with
  |none=>rfl
  |some g=>
   simp only;rw[h g];unfold Oper.looksAt;refine List.mem_append_right _ ?_;rw[hg];rw[As4] at hj;simp [hj]
theorem Fy4.agree {j:Nat} {s y:DS} {d:DVal} (h:Fy4 P G all j s d) (ha: ∀t∈looks all j,y.env t=s.env t)
  (hk: ∀o a,Hs all j=some o->Co3 o.op=some a->Mt s.heap y.heap (dev G s.env a)):Fy4 P G all j y d:=by
 obtain⟨o,ho,he,h⟩:=h;have C: ∀t∈o.looksAt all.toArray,y.env t=s.env t:=by
  intro t ht;exact ha t (by unfold looks;rw[ho];exact ht)
 refine⟨o,ho,he, ?_⟩;rw[As9 C];rcases h with⟨hw,h⟩|h
 ·refine .inl ⟨hw,λK' D hp=> ?_⟩;have h1:=h (λs1=>s1=⟨Hv s.env o.dst d,s.heap⟩) D rfl;obtain⟨E,I,J⟩:=An3 o.op he h1;refine J D K' y (Cf0 (all:=all) C) ?_ ?_
  ·exact λa hl=>hk o a ho hl
  ·unfold Br at I hp⊢
   have he:Hv s.env o.dst E=Hv s.env o.dst d:=congrArg DS.env I;have:Hv y.env o.dst E=Hv y.env o.dst d:=by
    cases hdst:o.dst with
    |none=>rfl
    |some t=>
     rw[hdst] at he;have h2:=congrFun he t;simp [Hv,upd] at h2;rw[h2]
   rw[this];exact hp
 ·exact .inr h
theorem At0 {env:Nat->DVal} {dst:Option Nat} {d:DVal} {t:Nat} (h:dst≠some t):Hv env dst d t=env t:=by
 cases dst with
 |none=>rfl
 |some k=>simp only[Hv,upd];rw[if_neg];intro e;exact h (by rw[e])
theorem Cf1 {env:Nat->DVal} {x y:Option Nat} {d e:DVal} (h: ∀t,x=some t->y≠some t):Hv (Hv env x d) y e=Hv (Hv env y e) x d:=by
 cases x with
 |none=>rfl
 |some i=>
  cases y with
  |none=>rfl
  |some k=>
   have C:k≠i:=λhh=>h i rfl (by rw[hh]);funext t;simp only[Hv,upd];by_cases h1:t=k
   ·subst h1;rw[if_pos rfl,if_neg C,if_pos rfl]
   ·rw[if_neg h1];by_cases h2:t=i
    ·rw[if_pos h2,if_pos h2]
    ·rw[if_neg h2,if_neg h2,if_neg h1]
structure Apart (all:List Oper) (j k:Nat):Prop where
 a: ∀t,Og all j=some t->t∉looks all k
 b: ∀t,Og all j=some t->Og all k≠some t
 c: ∀t,Og all k=some t->t∉looks all j
theorem Bg4 {j k:Nat} {x y:Oper} (hx:Hs all j=some x) (C:Hs all k=some y) (h:Bq3 all j k=true):Apart all j k:=by
 unfold Bq3 at h;rw[hx,C] at h;obtain⟨h1,h2,h3⟩:=Oper.apart_spec h;refine⟨?_, ?_, ?_⟩<;>simp only[Og,looks,hx,C,Option.bind_some]<;>assumption
theorem Seq.front: ∀ {A:List Nat} {k:Nat} {B:List Nat} {s y:DS},(∀j∈A,Apart all j k)->Seq P G all s (A++k::B) y->Seq P G all s (k::(A++B)) y
 | [],k,B,s,y,_,h=>h
 |j::A,k,B,s,y,hA,h=>by
  obtain⟨d,hd,h⟩:=h;obtain⟨dk,hk,h⟩:=Seq.front (λi hi=>hA i (by simp [hi])) h;have C:=hA j (by simp);refine⟨dk,hk.agree (λt ht=>(At0 (λe=>C.a t e ht)).symm) (λ_ _ _ _=>Jv),d,hd.agree (λt ht=>At0 (λe=>C.c t e ht)) (λ_ _ _ _=>Jv), ?_⟩;show Seq P G all ⟨Hv (Hv s.env _ dk) _ d,s.heap⟩ (A++B) y;rw[Cf1 (λt h1 h2=>C.b t h2 h1)];exact h
theorem Seq.heap: ∀ {js:List Nat} {s y:DS},Seq P G all s js y->y.heap=s.heap
 | [],s,y,h=>by cases h;rfl
 |j::js,s,y,⟨d,_,h⟩=>by have:=Seq.heap h;exact this
theorem Seq.env: ∀ {js:List Nat} {s y:DS},Seq P G all s js y-> ∀t,(∀j∈js,Og all j≠some t)->y.env t=s.env t
 | [],s,y,h,t,_=>by cases h;rfl
 |j::js,s,y,⟨d,_,h⟩,t,ht=>by
  rw[Seq.env h t λi hi=>ht i (by simp [hi])];exact At0 (ht j (by simp))
theorem Seq.shift {k:Option Nat} {v:DVal} {h:Ab}: ∀ {js:List Nat} {s y:DS},Seq P G all s js y->
  (∀j∈js,∀t,k=some t->t∉looks all j)->(∀j∈js,∀t,Og all j=some t->k≠some t)->
  (∀A j B,js=A++j::B-> ∀o a,Hs all j=some o->Co3 o.op=some a->(∀t,a= .tmp t-> ∀m∈j::B,Og all m≠some t)/\Mt s.heap h (dev G y.env a))->
  Seq P G all ⟨Hv s.env k v,h⟩ js ⟨Hv y.env k v,h⟩
 | [],s,y,hs,_,_,_=>by cases hs;rfl
 |j::js,s,y,⟨d,hd,hs⟩,h1,h2,h3=>by
  refine⟨d,hd.agree (λt ht=>At0 λe=>h1 j (by simp) t e ht) (λo a ho ha=> ?_), ?_⟩
  ·obtain⟨C,D⟩:=h3 [] j js rfl o a ho ha;have:dev G y.env a=dev G s.env a:=by
    cases a with
    |tmp t=>
     have:=Seq.env hs t λi hi=>C t rfl i (by simp [hi]);simp only[dev];rw[this];exact At0 (C t rfl j (by simp))
    |_=>rfl
   rw[<-this];exact D
  ·have E:=Seq.shift (k:=k) (v:=v) (h:=h) hs (λi hi=>h1 i (by simp [hi])) (λi hi=>h2 i (by simp [hi])) (λA i B e=>h3 (j::A) i B (by rw[e];rfl));show Seq P G all ⟨Hv (Hv s.env k v) (Og all j) d,h⟩ js _;rw[Cf1 λt e1 I=>h2 j (by simp) t I e1];exact E
end
end Go.Dl
namespace Go.Dl
abbrev pL0:Plan:=.take 0 (.take 1 (.take 2 (.take 3 (.take 4 (.take 5 (.take 6 (.take 7 (.take 8 (.take 9 (.take 10 (.take 11 (.take 12 (.take 13 (.take 14 (.take 15 (.take 16 (.take 17 (.take 18 (.take 19 (.take 20 .done))))))))))))))))))))
abbrev pL1:Plan:=.take 0 (.take 1 (.take 2 (.take 3 (.go 4 [3] (.go 5 [] .done)))))
abbrev pL2:Plan:=.take 0 (.take 1 (.take 2 (.take 3 (.take 4 (.take 5 (.go 6 [4] (.go 7 [] (.take 8 (.take 9 (.go 10 [] .done))))))))))
abbrev pL3:Plan:=.take 0 (.take 1 (.take 2 (.take 3 (.take 4 (.go 5 [4] (.go 6 [] (.go 7 [] .done)))))))
abbrev pL4:Plan:=.take 0 (.take 1 (.take 2 (.take 3 (.take 4 (.take 5 (.go 6 [] (.go 7 [] .done)))))))
abbrev pL5:Plan:=.take 0 (.take 2 (.take 3 (.go 1 [3] (.take 4 (.take 5 (.go 6 [] .done))))))
abbrev pL6:Plan:=.take 0 (.take 3 (.take 4 (.alt (.go 6 [4] (.go 1 [4] (.go 2 [4] (.go 5 [] (.go 7 [] .done))))) (.go 1 [4] (.alt (.go 6 [4] (.go 2 [4] (.go 5 [] (.go 7 [] .done)))) (.go 2 [4] (.alt (.go 6 [4] (.go 5 [] (.go 7 [] .done))) (.go 5 [] (.go 6 [4] (.go 7 [] .done))))))))))
abbrev pL7:Plan:=.take 0 (.take 1 (.take 2 (.take 3 (.take 4 (.take 5 (.take 6 (.take 7 (.take 8 (.take 9 (.take 10 (.take 11 (.take 12 (.take 13 (.alt (.go 15 [11,7] (.go 14 [] (.go 16 [] (.take 17 .done)))) (.go 14 [] (.go 15 [11,7] (.go 16 [] (.take 17 .done))))))))))))))))))
abbrev pL8:Plan:=.take 0 (.take 1 (.take 2 (.take 7 (.take 8 (.alt (.go 5 [8,2] (.go 3 [8] (.go 4 [8] (.go 6 [8] (.go 9 [] .done))))) (.go 3 [8] (.alt (.go 5 [8,2] (.go 4 [8] (.go 6 [8] (.go 9 [] .done)))) (.go 4 [8] (.go 5 [8,2] (.go 6 [8] (.go 9 [] .done)))))))))))
abbrev pL9:Plan:=.take 0 (.take 1 (.take 2 (.take 3 (.take 4 (.take 5 (.take 6 (.take 7 (.take 8 (.take 9 (.take 10 (.take 11 (.go 12 [] .done))))))))))))
abbrev pL10:Plan:=.take 0 (.take 1 (.take 2 (.take 3 (.take 4 (.take 5 (.take 6 (.take 7 (.take 8 (.take 9 (.take 10 (.take 11 .done)))))))))))
abbrev pL11:Plan:=.take 0 (.take 1 (.take 2 (.take 3 (.take 4 (.take 5 (.take 6 (.take 7 (.take 8 (.go 9 [] .done)))))))))
abbrev pL12:Plan:=.take 0 (.take 1 (.take 2 (.take 3 (.take 4 (.take 5 (.take 6 (.take 7 (.take 8 (.take 9 .done)))))))))
abbrev pL13:Plan:=.take 0 (.take 1 (.take 2 (.take 3 (.take 4 (.take 5 (.take 6 (.take 7 (.take 8 .done))))))))
abbrev pL14:Plan:=.take 0 (.take 3 (.take 4 (.take 5 (.take 6 (.go 1 [6,4] (.go 2 [6,4] (.go 7 [] .done)))))))
abbrev pL15:Plan:=.take 0 (.take 1 (.take 2 (.go 3 [1] (.go 4 [1] (.go 5 [] (.take 6 (.go 7 [] .done)))))))
abbrev pL16:Plan:=.take 0 (.take 3 (.take 4 (.go 1 [4] (.go 2 [4] (.go 5 [] .done)))))
abbrev pL17:Plan:=.take 0 (.take 1 (.take 2 (.go 3 [1] (.go 4 [] (.go 5 [] .done)))))
end Go.Dl
-- D2
namespace Go.Dl
open Go
section
variable {P:Program} {G:Nat->DVal} {N:Fr} {all:List Oper} {Q:DExit->DS->Prop} {s0:DS} {w0:World}
theorem Bq6 {F:Fence} {n:Nat} (C:FOk F) {k:Nat} {o:Oper} {c:DS} {a:Act} {w:World} {K:DK} (J:all.all (Kx N)=true) (hk:Hs all k=some o) (D:Sim G N c a w) (I:Ext s0.heap w0 c.heap w)
  (h:dAt P G all K Q c (some o)):wpOpIn F n P all.toArray (Rw G N Q s0 w0) k (Il G N K c w) a w:=by
 have W:all.toArray[k]? =some o:=by rw[Sv] at hk;simpa using hk
 have hok:Kx N o=true:=by
  rw[Sv] at hk;exact List.all_eq_true.1 J o (List.mem_of_getElem? hk)
 unfold wpOpIn;simp only[W];have skip:Br o.dst Fg K c->Il G N K c w (a.put o.dst undef) w:=λhp=>
  ⟨⟨Hv c.env o.dst Fg,c.heap⟩,hp,D.put (Pw hok) (Ya w c.heap),Ext.refl _ _⟩
 simp only[dAt] at h;unfold Gq7 at h;cases hg:o.guard with
 |none=>
  rw[hg] at h;rw[if_pos (by simp [Region.wanted,hg])];exact Vb C hok D I h
 |some X=>
  obtain⟨j,b⟩:=X;rw[hg] at h;simp only at h;cases hj:Ux all j with
  |none=>rw[hj] at h;exact h.elim
  |some g=>
   rw[hj] at h;simp only[As7] at h;(have L:(all[j]?).bind (·.dst)=some g:=by rw[<-As4];exact hj);obtain⟨M,O,S⟩:=Option.bind_eq_some_iff.1 L;have Y:M∈all:=List.mem_of_getElem? O;have Z:g<N:=by
    have:=List.all_eq_true.1 J M Y;have:=Pw this;rw[S] at this;simpa [Cx] using this
   have y:=D.tmps g Z;have hy: ∀v,c.env g= .bool v->yielded all.toArray a.tmps j=some v:=by
    intro v hv;rw[hv] at y;simp only[Rel] at y;have h1:a.tmps[g]? =some (.bool v):=by
     rw[Array.getD_eq_getD_getElem?] at y;cases hq:a.tmps[g]? with
     |none=>
      have:=D.size;rw[Array.getElem?_eq_none_iff] at hq;omega
     |some z=>rw[hq] at y;simpa using y
    simp [yielded,O,S,h1]
   by_cases U:c.env g= .tuple []
   ·rw[U] at h y;simp only[Rel,Ar] at y;obtain⟨xs,V,ab⟩:=y;have aa:yielded all.toArray a.tmps j=none:=by
     have h2: ∀z,a.tmps[g]? =some z->z= .tuple xs:=λz hz=>by
      rw[Array.getD_eq_getD_getElem?,hz] at V;simpa using V
     unfold yielded;simp only[List.getElem?_toArray,L,Option.bind_some];cases hz:a.tmps[g]? with
     |none=>rfl
     |some z=>rw[h2 z hz]
    rw[if_neg (by simp [Region.wanted,hg,aa])];exact⟨λf _=>C.fn f,skip (by cases b<;>exact h)⟩
   cases hv:c.env g<;>rw[hv] at h<;>(try (cases b<;>exact h.elim))
   case tuple vs=>cases vs with
    |nil=>exact absurd hv U
    |cons _ _=>cases b<;>exact h.elim
   rename_i v
   have E:=hy v hv;cases b<;>cases v<;>simp only[As6] at h
   ·rw[if_pos (by simp [Region.wanted,hg,E])];exact Vb C hok D I h
   ·rw[if_neg (by simp [Region.wanted,hg,E])];exact⟨λf _=>C.fn f,skip h⟩
   ·rw[if_neg (by simp [Region.wanted,hg,E])];exact⟨λf _=>C.fn f,skip h⟩
   ·rw[if_pos (by simp [Region.wanted,hg,E])];exact Vb C hok D I h
structure Inv (P:Program) (G:Nat->DVal) (N:Fr) (all:List Oper) (Q:DExit->DS->Prop) (s0:DS) (w0:World)
  (T js:List Nat) (p:Plan) (c s:DS) (a:Act) (w:World) (listed:Array Bool):Prop where
 sim:Sim G N c a w
 ext:Ext s0.heap w0 c.heap w
 seq:Seq P G all c js s
 plan:Qt P G all Q p s
 ok:Jl all p T=true
 cov:Bq4 all T p=true
 size:listed.size=all.length
 iff: ∀i,i<all.length->(listed.getD i true=true↔i∈T/\i∉js)
 sub: ∀i∈js,i∈T/\i<all.length
 tlt: ∀i∈T,i<all.length
 nodup:js.Nodup
 eager: ∀j∈js,Do9 all j=true
 pair:js.Pairwise λj k=>(Up all k j=true\/Bq3 all j k=true)/\Up all j k=false
 out: ∀j∈js,∀k,k<all.length->k∉T->Up all k j=true\/Bq3 all j k=true
 deps: ∀j∈js,∀e,Up all j e=true->e∈T/\e≠j
 clo: ∀k,k<all.length->listed.getD k true=true-> ∀e,Up all k e=true->listed.getD e false=true
theorem Wq {i:Nat} (h:i<all.length): ∃o,Hs all i=some o:=by
 rw[Sv];exact⟨all[i],by simp [h]⟩
theorem Dp0 {k e:Nat} (h:e∈Fc8 all k):Up all k e=true:=by
 unfold Fc8 at h;unfold Up;split at h
 ·rename_i o ho
  simp only[List.mem_map,List.mem_filter,Array.mem_toList_iff] at h;obtain⟨x,⟨hx,hb⟩,rfl⟩:=h;exact Array.any_eq_true'.2 ⟨x,hx,by simp [hb]⟩
 ·cases h
theorem At1 {listed:Array Bool} {i:Nat} (hs:listed.size=all.length) (hi: ∀e,Up all i e=true->listed.getD e false=true)
  (y: ∀k,k<all.length->listed.getD k true=true-> ∀e,Up all k e=true->listed.getD e false=true): ∀(n:Nat) (S:List Nat),(∀m∈S,m=i\/listed.getD m false=true)-> ∀m∈Bl7 all n S,m=i\/listed.getD m false=true
 | 0,S,h=>h
 |k+1,S,h=>by
  rw[Bl7];refine At1 hs hi y k _ ?_;split
  ·rename_i hk
   intro m hm;rcases List.mem_append.1 hm with hm|hm
   ·have hd:=Dp0 hm;rcases h k (List.contains_iff_mem.1 hk) with rfl|hl
    ·exact .inr (hi m hd)
    ·have C:k<listed.size:=by
      rcases Nat.lt_or_ge k listed.size with h'|h'
      ·exact h'
      ·simp [Array.getElem?_eq_none h'] at hl
     refine .inr (y k (by rw[<-hs];exact C) ?_ m hd);simpa [C] using hl
   ·exact h m hm
  ·exact h
theorem Ve {k:Nat} {T:List Nat} (hk:k<all.length):Ba2 all k T=true↔ ∀e,Up all k e=true->e∈T:=by
 obtain⟨o,ho⟩:=Wq hk;unfold Ba2 Up;rw[ho];simp only[Array.all_eq_true_iff_forall_mem,Bool.or_eq_true,Bool.not_eq_true',List.contains_iff_mem];constructor
 ·intro h e he;obtain⟨x,hx,hb⟩:=Array.any_eq_true'.1 he;simp only[jF,beq_iff_eq] at hb;rcases h x hx with h1|h1
  ·rw[hb.1] at h1;cases h1
  ·rw[<-hb.2];exact h1
 ·intro h x hx;by_cases hb:Region.binds .any x=true
  ·exact .inr (h x.on (Array.any_eq_true'.2 ⟨x,hx,by simp [hb]⟩))
  ·exact .inl (by simpa using hb)
theorem Yi {listed:Array Bool} {k:Nat} (hs:listed.size=all.length):k∈Region.ready .any all.toArray listed↔
  k<all.length/\listed.getD k true=false/\ ∀e,Up all k e=true->listed.getD e false=true:=by
 rw[mem_ready];constructor
 ·rintro⟨h0,o,ho,h⟩;have C:all[k]? =some o:=by simpa using ho
  have y:k<all.length:=(List.getElem?_eq_some_iff.1 C).1;refine⟨y,h0,λe he=> ?_⟩;unfold Up at he;rw[Sv,C] at he;obtain⟨x,hx,hb⟩:=Array.any_eq_true'.1 he;simp only[jF,beq_iff_eq] at hb;rw[<-hb.2];exact h x hx hb.1
 ·rintro⟨y,h0,h⟩;refine⟨h0,all[k],by simp [y],λx hx hb=>h x.on ?_⟩;unfold Up;rw[Sv,List.getElem?_eq_getElem y];exact Array.any_eq_true'.2 ⟨x,hx,by simp [hb]⟩
theorem Aa2 {listed:Array Bool} {e:Nat} (h:e<listed.size):listed.getD e false=listed.getD e true:=by
 simp [h]
theorem Inv.advance {T js:List Nat} {i:Nat} {p:Plan} {c s:DS} {a:Act} {w:World} {listed:Array Bool} (h:Inv P G N all Q s0 w0 T js (.take i p) c s a w listed):
    ∃s',Inv P G N all Q s0 w0 (i::T) (js++ [i]) p c s' a w listed:=by
  have hok:=h.ok
  simp only[Jl,jF,decide_eq_true_eq,Bool.not_eq_true',List.all_eq_true,List.mem_range,Bool.or_eq_true,List.contains_iff_mem,beq_iff_eq] at hok
  obtain⟨⟨⟨⟨⟨⟨hi,J⟩,he⟩,hd⟩,ha⟩,hc⟩,hp⟩:=hok
  have C:i∉T:=by intro hm;rw[List.contains_iff_mem.2 hm] at J;cases J
  rw[Ve hi] at hd
  obtain⟨o,ho⟩:=Wq hi
  have hpl:=h.plan
  simp only[Qt,ho] at hpl
  have E:Vc o.op=true:=by unfold Do9 at he;rw[ho] at he;exact he
  have hst: ∃d,Fy4 P G all i s d/\Qt P G all Q p ⟨Hv s.env (Og all i) d,s.heap⟩:=by
    have hdst:Og all i=o.dst:=by simp [Og,ho]
    rw[hdst]
    rcases Bq5.1 hpl with⟨hw,M⟩|⟨hw,O⟩
    · obtain⟨d,S,U⟩:=An3 o.op E M
      exact⟨d,⟨o,ho,E,.inl ⟨hw,λK Q V=>U Q K s (λ_ _=>rfl) (λ_ _=>Jv) V⟩⟩,S⟩
    · exact⟨Fg,⟨o,ho,E,.inr ⟨hw,rfl⟩⟩,O⟩
  obtain⟨d,W,X⟩:=hst
  have Y: ∀(js:List Nat) (c:DS),Seq P G all c js s->Seq P G all c (js++ [i]) ⟨Hv s.env (Og all i) d,s.heap⟩:=by
    intro js
    induction js with
    |nil=>intro c hc;cases hc;exact⟨d,W,rfl⟩
    |cons j js ih=>intro c hc;obtain⟨Z,h1,h2⟩:=hc;exact⟨Z,h1,ih _ h2⟩
  refine⟨⟨Hv s.env (Og all i) d,s.heap⟩, ?_⟩
  exact {
    sim:=h.sim,ext:=h.ext,seq:=Y js c h.seq,plan:=X,ok:=hp,cov:=hc,size:=h.size
    iff:=λk hk=>by
      rw[h.iff k hk]
      simp only[List.mem_cons,List.mem_append,List.not_mem_nil,or_false,not_or]
      constructor
      · rintro⟨h1,h2⟩
        exact⟨.inr h1,h2,λe=>C (e▸h1)⟩
      · rintro⟨h1,h2,h3⟩
        exact⟨h1.resolve_left h3,h2⟩
    sub:=λk hk=>by
      simp only[List.mem_append,List.mem_cons,List.not_mem_nil,or_false] at hk⊢
      rcases hk with hk|rfl
      · exact⟨.inr (h.sub k hk).1,(h.sub k hk).2⟩
      · exact⟨.inl rfl,hi⟩
    tlt:=λk hk=>by
      simp only[List.mem_cons] at hk
      rcases hk with rfl|hk
      · exact hi
      · exact h.tlt k hk
    nodup:=by
      rw[List.nodup_append]
      refine⟨h.nodup,by simp, ?_⟩
      intro x hx y L e
      simp only[List.mem_cons,List.not_mem_nil,or_false] at L
      subst L;subst e
      exact C (h.sub x hx).1
    eager:=λk hk=>by
      simp only[List.mem_append,List.mem_cons,List.not_mem_nil,or_false] at hk
      rcases hk with hk|rfl
      · exact h.eager k hk
      · exact he
    pair:=by
      rw[List.pairwise_append]
      refine⟨h.pair,by simp, ?_⟩
      intro j hj k hk
      simp only[List.mem_cons,List.not_mem_nil,or_false] at hk
      subst hk
      refine⟨h.out j hj k hi C, ?_⟩
      cases hdep:Up all j k with
      |false=>rfl
      |true=>exact(C (h.deps j hj k hdep).1).elim
    out:=λj hj k hk D=>by
      simp only[List.mem_append,List.mem_cons,List.not_mem_nil,or_false,not_or] at hj D
      rcases hj with hj|rfl
      · exact h.out j hj k hk D.2
      · rcases ha k hk with((h1|h1)|h1)|h1
        · exact(D.2 h1).elim
        · exact(D.1 h1).elim
        · exact .inl h1
        · exact .inr h1
    deps:=λj hj e I=>by
      simp only[List.mem_append,List.mem_cons,List.not_mem_nil,or_false] at hj⊢
      rcases hj with hj|rfl
      · exact⟨.inr (h.deps j hj e I).1,(h.deps j hj e I).2⟩
      · have:=hd e I
        exact⟨.inr this,λhh=>C (hh▸this)⟩
    clo:=h.clo }
def Eb8:Plan->Prop
 | .take _ _=>False
 |_=>True
theorem Inv.normal: ∀ {p:Plan} {T js:List Nat} {c s:DS} {a:Act} {w:World} {listed:Array Bool},Inv P G N all Q s0 w0 T js p c s a w listed->
  ∃T' js' p' s',Inv P G N all Q s0 w0 T' js' p' c s' a w listed/\Eb8 p'
 | .take i p,T,js,c,s,a,w,listed,h=>by
  obtain⟨s',h'⟩:=h.advance;exact h'.normal
 | .done,T,js,c,s,a,w,listed,h=>⟨T,js,_,s,h,trivial⟩
 | .go i ls p,T,js,c,s,a,w,listed,h=>⟨T,js,_,s,h,trivial⟩
 | .alt p q,T,js,c,s,a,w,listed,h=>⟨T,js,_,s,h,trivial⟩
theorem Ba3: ∀(p:Plan) (T:List Nat) (s:DS),Jl all p T=true->Qt P G all Q p s->
  ((∀i,i<all.length->i∈T)/\Q .normal s)\/ ∃i,i<all.length/\i∉T/\ ∀e,Up all i e=true->e∈T
 | .done,T,s,hok,h=>by
  simp only[Jl,List.all_eq_true,List.mem_range,List.contains_iff_mem] at hok;exact .inl ⟨hok,h⟩
 | .take i p,T,s,hok,h=>by
  simp only[Jl,jF,decide_eq_true_eq,Bool.not_eq_true'] at hok;obtain⟨⟨⟨⟨⟨⟨hi,y⟩,he⟩,hd⟩,_⟩,_⟩,_⟩:=hok;exact .inr ⟨i,hi,(λhm=>by rw[List.contains_iff_mem.2 hm] at y;cases y),(Ve hi).1 hd⟩
 | .go i ls p,T,s,hok,h=>by
  simp only[Jl,jF,decide_eq_true_eq,Bool.not_eq_true'] at hok;obtain⟨⟨⟨⟨⟨hi,y⟩,hd⟩,_⟩,_⟩,_⟩:=hok;exact .inr ⟨i,hi,(λhm=>by rw[List.contains_iff_mem.2 hm] at y;cases y),(Ve hi).1 hd⟩
 | .alt p q,T,s,hok,h=>by
  simp only[Jl,jF] at hok;exact Ba3 p T s hok.1 h.1
theorem An4: ∀(p:Plan) (T:List Nat) (s:DS) (k:Nat),Jl all p T=true->Qt P G all Q p s->k∈Tn p->
  ∃ls p',Jl all (.go k ls p') T=true/\Qt P G all Q (.go k ls p') s
 | .done,T,s,k,_,_,hk=>by simp [Tn] at hk
 | .take i p,T,s,k,_,_,hk=>by simp [Tn] at hk
 | .go i ls p,T,s,k,hok,h,hk=>by
  simp only[Tn,List.mem_cons,List.not_mem_nil,or_false] at hk;subst hk;exact⟨ls,p,hok,h⟩
 | .alt p q,T,s,k,hok,h,hk=>by
  simp only[Jl,jF] at hok;simp only[Tn,List.mem_append] at hk;rcases hk with hk|hk
  ·exact An4 p T s k hok.1 h.1 hk
  ·exact An4 q T s k hok.2 h.2 hk
theorem Dp1 {p:Plan} {T:List Nat} (y:Bq4 all T p=true) (C:Jl all p T=true) (I:Eb8 p) {k:Nat} (hk:k<all.length) (D:k∉T) (J: ∀e,Up all k e=true->e∈T):k∈Tn p:=by
 have E:((List.range all.length).all λk=>T.contains k || (Tn p).contains k || !Ba2 all k T)=true->k∈Tn p:=by
  intro h;simp only[List.all_eq_true,List.mem_range,Bool.or_eq_true,List.contains_iff_mem,Bool.not_eq_true'] at h;rcases h k hk with(h1|h1)|h1
  ·exact(D h1).elim
  ·exact h1
  ·rw[(Ve hk).2 J] at h1;cases h1
 cases p with
 |done=>
  simp only[Jl,List.all_eq_true,List.mem_range,List.contains_iff_mem] at C;exact(D (C k hk)).elim
 |take i p=>exact I.elim
 |go i ls p=>exact E y
 |alt p q=>exact E y
theorem Cf2 {s:DS} {H':Ab}: ∀ {ls:List Nat},Fc6 G all s H' ls-> ∀l∈ls,Fc5 G s H' (As8 (Hs all l))
 | [],_,l,hl=>by simp at hl
 |x::ls,h,l,hl=>by
  simp only[List.mem_cons] at hl;rcases hl with rfl|hl
  ·exact h.1
  ·exact Cf2 h.2 l hl
theorem Inv.sound {F:Fence} {n:Nat} (hF:FOk F) (aj:all.all (Kx N)=true) (hQ: ∀v env env' h,Q (.panic v) ⟨env,h⟩->Q (.panic v) ⟨env',h⟩): ∀(Cj:Nat) (U T js:List Nat) (p:Plan) (c s:DS) (a:Act) (w:World) (listed:Array Bool),
    Inv P G N all Q s0 w0 T js p c s a w listed->U.length<=Cj->(∀i,i<all.length->listed.getD i true=false->i∈U)->
    wpAnyIn F n P .any all.toArray (Rw G N Q s0 w0) Cj listed a w:=by
  intro Cj
  induction Cj with
  |zero=>
    intro U T js p c s a w listed h hU I
    have a8:U= []:=List.eq_nil_of_length_eq_zero (Nat.le_zero.1 hU)
    subst a8
    have W: ∀i,i<all.length->listed.getD i true=true:=by
      intro i hi
      cases hl:listed.getD i true with
      |true=>rfl
      |false=>exact absurd (I i hi hl) (by simp)
    have X:js= []:=by
      cases js with
      |nil=>rfl
      |cons j js=>
        have hs:=h.sub j (by simp)
        exact absurd (by simp) ((h.iff j hs.2).1 (W j hs.2)).2
    subst X
    have hsc:=h.seq
    simp only[Seq] at hsc
    refine⟨?_, ?_⟩
    · rw[List.eq_nil_iff_forall_not_mem]
      intro k hk
      rw[Yi h.size] at hk
      rw[W k hk.1] at hk
      cases hk.2.1
    · rcases Ba3 p T s h.ok h.plan with⟨_,hq⟩|⟨i,hi,Y,_⟩
      · subst hsc;exact⟨.normal,s,hq,.normal,h.sim,h.ext⟩
      · exact absurd ((h.iff i hi).1 (W i hi)).1 Y
  |succ Cj ih=>
    intro U T js p c s a w listed h0 hU I
    obtain⟨T,js,p,s,h,a9⟩:=h0.normal
    have ak: ∀e,listed.getD e false=true->e∈T/\e∉js:=by
      intro e he
      have J:e<listed.size:=by
        rcases Nat.lt_or_ge e listed.size with h'|h'
        · exact h'
        · simp [Array.getElem?_eq_none h'] at he
      have:=he
      rw[Aa2 J] at this
      exact(h.iff e (by rw[<-h.size];exact J)).1 this
    refine⟨λhr=> ?_,λk hk=> ?_⟩
    · -- nothing may come up: all have
      have al: ∀k,k∉Region.ready .any all.toArray listed:=by rw[hr];simp
      have am: ∀e,e∈T->e∉js->e<all.length->listed.getD e false=true:=by
        intro e h1 h2 h3
        rw[Aa2 (by rw[h.size];exact h3)]
        exact(h.iff e h3).2 ⟨h1,h2⟩
      have ao: ∀i,i<all.length-> ¬(i∈T/\i∉js)->listed.getD i true=false:=by
        intro i hi hn
        cases hl:listed.getD i true with
        |false=>rfl
        |true=>exact(hn ((h.iff i hi).1 hl)).elim
      have X:js= []:=by
        cases js with
        |nil=>rfl
        |cons j js=>
          refine(al j ((Yi h.size).2 ⟨(h.sub j (by simp)).2,ao j (h.sub j (by simp)).2 (λhh=>hh.2 (by simp)),λe he=> ?_⟩)).elim
          obtain⟨D,E⟩:=h.deps j (by simp) e he
          refine am e D (λhm=> ?_) (h.tlt e D)
          simp only[List.mem_cons] at hm
          rcases hm with hm|hm
          · exact E hm
          · have:=((List.pairwise_cons.1 h.pair).1 e hm).2
            rw[he] at this;cases this
      subst X
      have hsc:=h.seq
      simp only[Seq] at hsc
      rcases Ba3 p T s h.ok h.plan with⟨_,hq⟩|⟨i,hi,Y,hd⟩
      · subst hsc;exact⟨.normal,s,hq,.normal,h.sim,h.ext⟩
      · exact(al i ((Yi h.size).2 ⟨hi,ao i hi (λhh=>Y hh.1),λe he=>am e (hd e he) (by simp) (h.tlt e (hd e he))⟩)).elim
    · rw[Yi h.size] at hk
      obtain⟨C,ap,hdep⟩:=hk
      obtain⟨o,ho⟩:=Wq C
      have L: ∀e,Up all k e=true->e∈T/\e∉js:=λe he=>ak e (hdep e he)
      have ba:k∈U:=I k C ap
      have aq:(U.erase k).length<=Cj:=by
        rw[List.length_erase_of_mem ba];omega
      have M: ∀i,i≠k->(listed.setIfInBounds k true).getD i true=listed.getD i true:=λi hi=>getD_set_ne true (Ne.symm hi)
      have Z:(listed.setIfInBounds k true).getD k true=true:=by
        have:k<listed.size:=by rw[h.size];exact C
        simp [this]
      have ar: ∀e,listed.getD e false=true->(listed.setIfInBounds k true).getD e false=true:=by
        intro e he
        have J:e<listed.size:=by
          rcases Nat.lt_or_ge e listed.size with h'|h'
          · exact h'
          · simp [Array.getElem?_eq_none h'] at he
        by_cases au:e=k
        · subst au
          simp [J]
        · rw[getD_set_ne false (Ne.symm au)];exact he
      have av: ∀i,i<all.length->(listed.setIfInBounds k true).getD i true=true-> ∀e,Up all i e=true->(listed.setIfInBounds k true).getD e false=true:=by
        intro i hi hl e he
        by_cases y:i=k
        · subst y;exact ar e (hdep e he)
        · rw[M i y] at hl
          exact ar e (h.clo i hi hl e he)
      have aw: ∀i,i<all.length->(listed.setIfInBounds k true).getD i true=false->i∈U.erase k:=by
        intro i hi hl
        by_cases y:i=k
        · subst y;rw[Z] at hl;cases hl
        · rw[M i y] at hl
          exact(List.mem_erase_of_ne y).2 (I i hi hl)
      by_cases aa:k∈js
      · -- it was taken before
        obtain⟨A,B,rfl⟩:=List.append_of_mem aa
        have bb:=List.pairwise_append.1 h.pair
        have bc:=h.nodup
        rw[List.nodup_append] at bc
        have bd: ∀j∈A,Apart all j k:=by
          intro j hj
          have be:=(h.sub j (by simp [hj])).2
          obtain⟨x,hx⟩:=Wq be
          rcases(bb.2.2 j hj k (by simp)).1 with hd|ha
          · exact absurd (by simp [hj]) (L j hd).2
          · exact Bg4 hx ho ha
        obtain⟨d,ab,ax⟩:=Seq.front bd h.seq
        obtain⟨o',ay,bo,ab⟩:=ab
        rw[ho] at ay;cases ay
        have hdst:Og all k=o.dst:=by simp [Og,ho]
        have ac:dAt P G all (λs1=>s1=⟨Hv c.env o.dst d,c.heap⟩) Q c (some o):=by
          rw[Bq5]
          rcases ab with⟨hw,hv⟩|⟨hw,rfl⟩
          · exact .inl ⟨hw,hv _ _ rfl⟩
          · exact .inr ⟨hw,rfl⟩
        refine wpOpIn_mono ?_ (Bq6 hF aj ho h.sim h.ext ac)
        rintro a' w' ⟨s1,rfl,ad,ae⟩
        refine ih (U.erase k) T (A++B) p ⟨Hv c.env o.dst d,c.heap⟩ s a' w' _ ?_ aq aw
        have O: ∀i,i∈A++B->i∈A++k::B:=λi hi=>by
          simp only[List.mem_append,List.mem_cons] at hi⊢
          rcases hi with hi|hi
          · exact .inl hi
          · exact .inr (.inr hi)
        have a0:(A++B).Sublist (A++k::B):=List.Sublist.append (List.Sublist.refl A) (List.sublist_cons_self k B)
        have bf:k∉A++B:=by
          intro hm
          have:=h.nodup
          rw[(List.perm_middle (a:=k) (l₁:=A) (l₂:=B)).nodup_iff] at this
          exact(List.nodup_cons.1 this).1 hm
        exact {
          sim:=ad,ext:=h.ext.trans ae,seq:=by rw[hdst] at ax;exact ax,plan:=h.plan,ok:=h.ok,cov:=h.cov
          size:=by simp [h.size]
          iff:=λi hi=>by
            by_cases y:i=k
            · subst y
              rw[Z]
              exact⟨λ_=>⟨(h.sub i (by simp)).1,bf⟩,λ_=>rfl⟩
            · rw[M i y,h.iff i hi]
              simp only[List.mem_append,List.mem_cons,not_or]
              constructor
              · rintro⟨D,E,g3⟩;exact⟨D,E,g3.2⟩
              · rintro⟨D,E,g3⟩;exact⟨D,E,y,g3⟩
          sub:=λi hi=>h.sub i (O i hi)
          tlt:=h.tlt
          nodup:=h.nodup.sublist a0
          eager:=λi hi=>h.eager i (O i hi)
          pair:=h.pair.sublist a0
          out:=λi hi=>h.out i (O i hi)
          deps:=λi hi=>h.deps i (O i hi)
          clo:=av }
      · -- it is the plan's next
        have a1:k∉T:=by
          intro hm
          have:=(h.iff k C).2 ⟨hm,aa⟩
          rw[ap] at this;cases this
        have hf:=Dp1 h.cov h.ok a9 C a1 λe he=>(L e he).1
        obtain⟨ls,p',hok,hpl⟩:=An4 p T s k h.ok h.plan hf
        simp only[Jl,jF,decide_eq_true_eq,Bool.not_eq_true'] at hok
        obtain⟨⟨⟨⟨⟨_,_⟩,hd⟩,af⟩,bg⟩,bh⟩:=hok
        simp only[Qt,ho] at hpl
        have ag: ∀j∈js,Apart all j k:=by
          intro j hj
          obtain⟨x,hx⟩:=Wq (h.sub j hj).2
          rcases h.out j hj k C a1 with hd|ha
          · exact absurd hj (L j hd).2
          · exact Bg4 hx ho ha
        have hdst:Og all k=o.dst:=by simp [Og,ho]
        have bi:looks all k=o.looksAt all.toArray:=by simp [looks,ho]
        have agree: ∀t∈o.looksAt all.toArray,c.env t=s.env t:=by
          intro t ht
          refine(Seq.env h.seq t λj hj e=> ?_).symm
          exact(ag j hj).a t e (by rw[bi];exact ht)
        have shift: ∀d H',Fc7 G all ls s (Qt P G all Q p') ⟨Hv s.env o.dst d,H'⟩->
            (∃s1,Qt P G all Q p' s1/\Seq P G all ⟨Hv c.env o.dst d,H'⟩ js s1):=by
          intro d H' S
          refine⟨_,S.2,Seq.shift h.seq (λj hj t e=> ?_) (λj hj t e e2=> ?_) ?_⟩
          · exact(ag j hj).c t (by rw[hdst];exact e)
          · exact(ag j hj).b t e (by rw[hdst];exact e2)
          · intro A j B e oj a a2 a3
            have ah:j∈js:=by rw[e];simp
            have bj:=(h.sub j ah).1
            unfold Eb7 at af
            rw[List.all_eq_true] at af
            have hl:=af j bj
            simp only[As8,a2,a3,Bool.or_eq_true,jF,List.contains_iff_mem,bne_iff_ne] at hl
            rcases hl with(hl|⟨ai,V⟩)|⟨ai,V⟩
            · exact absurd ah (L j hl).2
            · rcases At1 h.size hdep h.clo (k+1) [k] (λm hm=> .inl (by simpa using hm)) j V with hh|hh
              · exact absurd hh ai
              · exact absurd ah (ak j hh).2
            · refine⟨λt ht m hm bk=> ?_, ?_⟩
              · subst ht
                simp only[Cy9,List.all_eq_true,Bool.or_eq_true,bne_iff_ne] at V
                have a4:m∈js:=by rw[e];exact List.mem_append_right _ hm
                rcases V m (h.sub m a4).1 with g|g
                · exact g bk
                · simp only[List.mem_cons] at hm
                  rcases hm with rfl|hm
                  · exact(h.deps m a4 m g).2 rfl
                  · have hp:=h.pair
                    rw[e,List.pairwise_append] at hp
                    have:=(List.pairwise_cons.1 hp.2.1).1 m hm
                    rw[g] at this
                    cases this.2
              · have a5:=Cf2 S.1 j ai
                simp only[As8,a2,a3,Fc5] at a5
                rw[<-Seq.heap h.seq]
                exact a5
        have ac:dAt P G all (λc1=> ∃s1,Qt P G all Q p' s1/\Seq P G all c1 js s1) Q c (some o):=by
          rw[Bq5] at hpl⊢
          rw[As9 agree]
          have a6:=Seq.heap h.seq
          rcases hpl with⟨hw,bl⟩|⟨hw,a7⟩
          · refine .inl ⟨hw,En3 o.op (Cf0 (all:=all) agree) a6.symm (λd H' S=>shift d H' S) (λv H' hq=>hQ v _ _ H' hq) bl⟩
          · refine .inr ⟨hw, ?_⟩
            unfold Br at a7⊢
            rw[<-a6]
            exact shift _ _ a7
        refine wpOpIn_mono ?_ (Bq6 hF aj ho h.sim h.ext ac)
        rintro a' w' ⟨c1,⟨s1,hp1,bm⟩,ad,ae⟩
        refine ih (U.erase k) (k::T) js p' c1 s1 a' w' _ ?_ aq aw
        exact {
          sim:=ad,ext:=h.ext.trans ae,seq:=bm,plan:=hp1,ok:=bh,cov:=bg
          size:=by simp [h.size]
          iff:=λi hi=>by
            by_cases y:i=k
            · subst y
              rw[Z]
              exact⟨λ_=>⟨by simp,aa⟩,λ_=>rfl⟩
            · rw[M i y,h.iff i hi]
              simp [y]
          sub:=λi hi=>⟨by simp [(h.sub i hi).1],(h.sub i hi).2⟩
          tlt:=λi hi=>by
            simp only[List.mem_cons] at hi
            rcases hi with rfl|hi
            · exact C
            · exact h.tlt i hi
          nodup:=h.nodup
          eager:=h.eager
          pair:=h.pair
          out:=λi hi m hm bn=>h.out i hi m hm (λhh=>bn (by simp [hh]))
          deps:=λi hi e he=>⟨by simp [(h.deps i hi e he).1],(h.deps i hi e he).2⟩
          clo:=av }
theorem Fy5 {id:Nat} {y:Array Oper} {s:DS} (hm:P.follows .mixedOrders=true) (p:Plan)
    (hp:(y.toList.all (Kx N)&&Bq4 y.toList [] p&&Jl y.toList p [])=true) (h:Qt P G y.toList (QP Q) p s):DWp P G N (.region id y true) Q s:=by
  intro F n B C a w hS
  simp only[jF] at hp
  obtain⟨⟨D,hc⟩,hok⟩:=hp
  have hE:Ext s.heap w s.heap { w with drawn:=w.drawn+1 }:=⟨rfl,rfl,rfl,Nat.le_refl _,λ_ _ _=>rfl,λ_ h=> .inl h,λ_ _=>rfl,λ_ _ _=>rfl⟩
  have E:Bg { w with drawn:=w.drawn+1 } s.heap:=λr o hr=>(hS.heap r o hr).lasts hE.lasts
  have I:Sim G ⟨N.n,B⟩ s a { w with drawn:=w.drawn+1 }:=hS.ext hE E
  have key:=Inv.sound (n:=n) C (P:=P) (G:=G) (N:=⟨N.n,B⟩) (all:=y.toList) (Q:=QP Q) (s0:=s) (w0:=w) D
    (λv env env' h hq J=>hq J) y.toList.length (List.range y.toList.length) [] [] p s s a { w with drawn:=w.drawn+1 } (Array.replicate y.size false)
    { sim:=I,ext:=hE,seq:=rfl,plan:=h,ok:=hok,cov:=hc,size:=by simp
      iff:=λi hi=>by
        have:i<y.size:=by simpa using hi
        simp [this]
      sub:=by simp
      tlt:=by simp
      nodup:=by simp
      eager:=by simp
      pair:=by simp
      out:=by simp
      deps:=by simp
      clo:=λk hk hl=>by
        have:k<y.size:=by simpa using hk
        simp [this] at hl } (by simp) (λi hi _=>by simpa using hi)
  have e1:y.toList.toArray=y:=by simp
  have L:y.toList.length=y.size:=by simp
  rw[e1,L] at key
  refine wpIn_mono (wpIn_region_any hm key) ?_
  rintro e a' w' ⟨e',s',hq,hx,M,O⟩
  refine⟨e',s', ?_,hx,M,O⟩
  cases hx with
  |normal=>exact hq
  |panic d v hv=>exact hq s'.env
  |exit=>exact hq.elim
  |goto=>exact hq.elim
  |ret=>exact hq.elim
end
attribute [go_sem] Hs.eq_1 Hs.eq_2 Hs.eq_3 As6.eq_1 As6.eq_2 As6.eq_3 As6.eq_4 As6.eq_5 As6.eq_6 As7.eq_1 Gq7.eq_1 Gq7.eq_2 dAt.eq_1 Mt.eq_1 Mt.eq_2 Fc5.eq_1 Fc5.eq_2 As8.eq_1 Co3.eq_1 Co3.eq_2 Co3.eq_3 Fc6.eq_1 Fc6.eq_2 Qt.eq_1 Qt.eq_2 Qt.eq_3 Qt.eq_4 QP.eq_1 QP.eq_2 Fc7
section
variable (v:DVal) (H H':Ab)
@[go_sem] theorem Gm1 (cs:List DVal) (o:Nat):Mt H H' (.vptr cs o)=True:=rfl
@[go_sem] theorem Fv9 (cs:List DVal) (o:Nat):Mt H H' (.vslice cs o)=True:=rfl
@[go_sem] theorem Gq8 (k:IntKind) (n:Int):Mt H H' (.int k n)=True:=rfl
@[go_sem] theorem Gm2 (b:Bool):Mt H H' (.bool b)=True:=rfl
@[go_sem] theorem Ey7:Mt H H' .nilSlice=True:=rfl
@[go_sem] theorem Gq9 (s:List UInt8):Mt H H' (.str s)=True:=rfl
end
end Go.Dl
-- D5
namespace Go.Dl
open Go Go.RowKit
section
variable {P:Program} {G:Nat->DVal} {N:Nat} {w w':World} {Q:DExit->DS->Prop}
theorem Nc {α:Type} {f:Nat->Option α} {l:Nat} (h:f l=none) (x:Option α):upd (upd f l x) l none=f:=by
 funext i;simp only[upd];split
 ·rename_i e;subst e;exact h.symm
 ·rfl
end
def Cz0 (Hi X:Ab):Ab:=λr=>match X r with
 |some o=>some o
 |none=>Hi r
def Hc0 (Hi X:Ab):Prop:= ∀r,X r≠none->Hi r=none
def h0:Ab:=λ_=>none
theorem Eb9 (y:Ab):Cz0 y h0=y:=rfl
theorem Ec0 {y X:Ab} {r:Nat} (h:X r=none):Cz0 y X r=y r:=by simp [Cz0,h]
theorem Gr0 {y X:Ab} {r:Nat} {o:DObj} (h:X r=some o):Cz0 y X r=some o:=by simp [Cz0,h]
theorem Aq {H:Ab} {r y:Nat} {o:DObj}:upd H r (some o) y=none↔y≠r/\r≠y/\H y=none:=by
 unfold upd;by_cases e:y=r
 ·simp [e]
 ·simp [e,Ne.symm e]
section
end
mutual
/-- The value, with block r (its cells: cs) seen as memory that lasts. -/
def fz (r:Nat) (cs:List DVal):DVal->DVal
 | .optr r' off=>if r'=r then .vptr cs off else .optr r' off
 | .oslice sz r' off len lo=>if r'=r then .vslice ((cs.drop off).take (len*sz)) len else .oslice sz r' off len lo
 | .func fn a c=> .func fn (fzs r cs a) (fzs r cs c)
 | .iface t v=> .iface t (fz r cs v)
 | .agg l=> .agg (fzs r cs l)
 | .tuple l=> .tuple (fzs r cs l)
 | .vptr l off=> .vptr (fzs r cs l) off
 | .vslice l n=> .vslice (fzs r cs l) n
 |d=>d
def fzs (r:Nat) (cs:List DVal):List DVal->List DVal
 | []=> []
 |d::ds=>fz r cs d::fzs r cs ds
end
section
variable {P:Program} {G:Nat->DVal} {w:World} {H:Ab}
theorem Dp (H:Ab) (r:Nat) (w:World):Lasts H w (upd H r none) w:=
 ⟨λb i x hb hc=>⟨by simp only[upd];split;rfl;exact hb,hc⟩,Nat.le_refl _,λ_ _=>rfl⟩
theorem Ad2 (y:Bg w H) {r:Nat} {cs:List DVal} {e:TypeId} (hr:H r=some (.cells cs e)): ∃xs,Ar w (upd H r none) cs xs/\Uu w (upd H r none) r 0 xs:=by
 obtain⟨xs,hl,hh⟩:=y.holds hr;exact⟨xs,hl.lasts (Dp H r w),.inr ⟨by simp [upd],λi x hx=>by simpa using hh i x hx⟩⟩
theorem Uu.part {b off:Nat} {xs:List Value} (h:Uu w H b off xs) (m n:Nat):Uu w H b (off+m) ((xs.drop m).take n):=by
 rcases h with rfl|⟨h1,h2⟩
 ·exact .inl (by simp)
 ·refine .inr ⟨h1,λi x hx=> ?_⟩;have:xs[m+i]? =some x:=by
   rw[List.getElem?_take] at hx;split at hx
   ·simpa using hx
   ·cases hx
  have:=h2 _ x this
  rwa [<-Nat.add_assoc] at this
mutual
theorem Dp2 (C:Bg w H) {r:Nat} {cs:List DVal} {e:TypeId} (hr:H r=some (.cells cs e)): ∀(d:DVal) (v:Value),Rel w H d v->Rel w (upd H r none) (fz r cs d) v
 | .optr r' off,v,h=>by
  simp only[fz]
  split
  ·rename_i e';subst e'
   simp only[Rel] at h⊢
   obtain⟨xs,hl,hc⟩:=Ad2 C hr
   exact⟨r',0,xs,by simpa using h,hc,hl⟩
  ·simpa [Rel] using h
 | .oslice sz r' off len lo,v,h=>by
  simp only[fz]
  split
  ·rename_i e';subst e'
   simp only[Rel] at h⊢
   obtain⟨o,cap,rfl,h1,h2,h3,h4⟩:=h
   obtain⟨xs,hl,hc⟩:=Ad2 C hr
   refine⟨_,cap,rfl,h2, ?_⟩
   by_cases h0:cap=0
   ·have:len=0:=by omega
    subst this;left;simp
   ·have ho:o=off:=h3.resolve_left h0
    subst ho
    right
    refine⟨r',o,(xs.drop o).take (len*sz),rfl, ?_,(hl.drop o).take _⟩
    have:=hc.part o (len*sz)
    simpa using this
  ·exact Rel.lasts (Dp H r w) _ _ h
 | .func fn a c,v,h=>by
  simp only[Rel,fz] at h⊢
  obtain⟨xs,ys,rfl,h1,h2⟩:=h
  exact⟨xs,ys,rfl,Yj C hr _ _ h1,Yj C hr _ _ h2⟩
 | .iface t d,v,h=>by
  simp only[Rel,fz] at h⊢
  obtain⟨x,rfl,h1⟩:=h
  exact⟨x,rfl,Dp2 C hr _ _ h1⟩
 | .agg l,v,h=>by
  simp only[Rel,fz] at h⊢
  obtain⟨x,rfl,h1⟩:=h
  exact⟨x,rfl,Yj C hr _ _ h1⟩
 | .tuple l,v,h=>by
  simp only[Rel,fz] at h⊢
  obtain⟨x,rfl,h1⟩:=h
  exact⟨x,rfl,Yj C hr _ _ h1⟩
 | .raw x,v,h=>by simp only[fz];exact Rel.lasts (Dp H r w) _ _ h
 | .bool x,v,h=>by simp only[fz];exact Rel.lasts (Dp H r w) _ _ h
 | .int x y,v,h=>by simp only[fz];exact Rel.lasts (Dp H r w) _ _ h
 | .str x,v,h=>by simp only[fz];exact Rel.lasts (Dp H r w) _ _ h
 | .nilPtr,v,h=>by simp only[fz];exact Rel.lasts (Dp H r w) _ _ h
 | .vptr l off,v,h=>by
  simp only[Rel,fz] at h⊢
  obtain⟨b,o,xs,rfl,h1,h2⟩:=h
  exact⟨b,o,xs,rfl,h1.lasts (Dp H r w),Yj C hr _ _ h2⟩
 | .nilSlice,v,h=>by simp only[fz];exact Rel.lasts (Dp H r w) _ _ h
 | .vslice l n,v,h=>by
  simp only[Rel,fz] at h⊢
  obtain⟨a,cap,rfl,hle,h1⟩:=h
  refine⟨a,cap,rfl,hle, ?_⟩
  rcases h1 with h1|⟨b,o,xs,rfl,h1,h2⟩
  ·subst h1;exact .inl rfl
  ·exact .inr ⟨b,o,xs,rfl,h1.lasts (Dp H r w),Yj C hr _ _ h2⟩
 | .nilMap,v,h=>by simp only[fz];exact Rel.lasts (Dp H r w) _ _ h
 | .omap x,v,h=>by simp only[fz];exact Rel.lasts (Dp H r w) _ _ h
 | .nilFunc,v,h=>by simp only[fz];exact Rel.lasts (Dp H r w) _ _ h
 | .nilIface,v,h=>by simp only[fz];exact Rel.lasts (Dp H r w) _ _ h
theorem Yj (D:Bg w H) {r:Nat} {cs:List DVal} {e:TypeId} (hr:H r=some (.cells cs e)): ∀(C:List DVal) (vs:List Value),Ar w H C vs->Ar w (upd H r none) (fzs r cs C) vs
 | [],vs,h=>by simpa [fzs,Ar] using h
 |d::C,vs,h=>by
  simp only[fzs,Ar] at h⊢
  obtain⟨y,ys,rfl,h1,h2⟩:=h
  exact⟨y,ys,rfl,Dp2 D hr _ _ h1,Yj D hr _ _ h2⟩
end
def Li (H:Ab) (v:DVal) (H':Ab) (v':DVal):Prop:= ∀w,Bg w H->Bg w H'/\(∀b,H' b≠none->H b≠none)/\ ∀x,Rel w H v x->Rel w H' v' x
theorem Li.trans {H H' y:Ab} {v C D:DVal} (h:Li H v H' C) (k:Li H' C y D):Li H v y D:=λw hw=>by
 obtain⟨h1,h2,h3⟩:=h w hw;obtain⟨k1,E,I⟩:=k w h1;exact⟨k1,λb hb=>h2 b (E b hb),λx hx=>I x (h3 x hx)⟩
theorem Li.fz {H:Ab} {v:DVal} {r:Nat} {cs:List DVal} {e:TypeId} (hr:H r=some (.cells cs e)):Li H v (upd H r none) (fz r cs v):=λw hw=>
 ⟨hw.letGo r,λb hb=>by simp only[upd] at hb;split at hb<;>simp_all,λx hx=>Dp2 hw hr _ _ hx⟩
theorem Li.drop (H:Ab) (v:DVal) (r:Nat):Li H v (upd H r none) v:=λw hw=>
 ⟨hw.letGo r,λb hb=>by simp only[upd] at hb;split at hb<;>simp_all,λx hx=>Rel.lasts (Dp H r w) _ _ hx⟩
theorem Dj.ghost {R:DEnd->Ab->Prop} {v y:DVal} {H H':Ab} (g:Li H v H' y) (h:Dj R y H'):Dj R v H:=by
 obtain⟨C,H2,k,D⟩:=h;exact⟨C,H2,g.trans k,D⟩
theorem Dj.fz {R:DEnd->Ab->Prop} {v:DVal} {H:Ab} (r:Nat) {cs:List DVal} {e:TypeId} (hr:H r=some (.cells cs e)) (h:Dj R (fz r cs v) (upd H r none)):Dj R v H:= .ghost (.fz hr) h
theorem Dj.drop {R:DEnd->Ab->Prop} {v:DVal} {H:Ab} (r:Nat) (h:Dj R v (upd H r none)):Dj R v H:= .ghost (.drop H v r) h
theorem Ad.ghost {f:FuncId} {args:List DVal} {H:Ab} {R C:DEnd->Ab->Prop} (h:Ad P G f args H R) (hr: ∀e H',R e H'-> ∃v v' H'',e= .ret v/\Li H' v H'' v'/\C (.ret v') H''):Ad P G f args H C:=by
 refine⟨h.1,λvs w hv D hG=>(h.2 vs w hv D hG).mono λe w' ⟨e',H',r,k1,E,y⟩=> ?_⟩;obtain⟨v,v',H'',rfl,g,r'⟩:=hr _ _ r;obtain⟨I,J,L⟩:=g w' E;cases k1 with
 |ret d x hx=>exact⟨.ret v',H'',r',.ret _ _ (L x hx),I,y.os,y.tape,y.output,y.size,y.block,λb hb=>y.own b (J b hb),y.keep,y.fz⟩
theorem Ad.pre {f:FuncId} {args args':List DVal} {H H':Ab} {R:DEnd->Ab->Prop} (g:Li H (.tuple args) H' (.tuple args')) (h:Ad P G f args' H' R):Ad P G f args H R:=by
 refine⟨h.1,λvs w hv D hG=> ?_⟩;obtain⟨E,C,I⟩:=g w D;have hl:Lasts H w H' w:=⟨λb i x hb hc=>⟨by
  cases e:H' b with
  |none=>rfl
  |some o=>exact absurd hb (C b (by simp [e])),hc⟩,Nat.le_refl _,λ_ _=>rfl⟩
 have J:Ar w H' args' vs:=by
  have:=I (.tuple vs.toArray) (by simp only[Rel];exact⟨_,rfl,hv⟩);simp only[Rel] at this;obtain⟨xs,h1,h2⟩:=this;cases h1;exact h2
 refine(h.2 vs w J E (hG.lasts hl)).mono λe w' ⟨e',L,r,k1,M,y⟩=>⟨e',L,r,k1,M,y.os,y.tape,y.output,y.size,λb hb hn=>y.block b hb (by
  cases e:H' b with
  |none=>rfl
  |some o=>exact absurd hn (C b (by simp [e]))),λb hb=> ?_,y.keep,λa ha hn=>y.fz a ha (by
  cases e:H' a.block with
  |none=>rfl
  |some o=>exact absurd hn (C a.block (by simp [e])))⟩
 rcases y.own b hb with k|k
 ·exact .inl (C b k)
 ·exact .inr k
theorem Ad.fzArgs {f:FuncId} {args:List DVal} {H:Ab} {R:DEnd->Ab->Prop} (r:Nat) {cs:List DVal} {e:TypeId} (hr:H r=some (.cells cs e)) (h:Ad P G f (fzs r cs args) (upd H r none) R):Ad P G f args H R:=
 .pre (by have:=Li.fz (v:= .tuple args) hr;simpa only[fz] using this) h
def Fc9:DVal->Bool
 | .bool _| .int _ _| .str _| .nilPtr| .nilSlice| .nilMap| .nilFunc| .nilIface=>true
 | .tuple l=>plains l
 | .agg l=>plains l
 |_=>false
where plains:List DVal->Bool
 | []=>true
 |d::ds=>Fc9 d&&plains ds
end
attribute [go_sem] fz.eq_1 fz.eq_2 fz.eq_3 fz.eq_4 fz.eq_5 fz.eq_6 fzs.eq_1 fzs.eq_2 Eb9
theorem Gt {α:Type} (f:Nat->α) (r:Nat) (a b:α):upd (upd f r a) r b=upd f r b:=by
 funext i;simp only[upd];split<;>rfl
theorem Ad3 {α:Type} {y C:Nat} (h:y≠C) (f:Nat->α) (a b:α):upd (upd f C b) y a=upd (upd f y a) C b:=by
 funext i;simp only[upd];by_cases e1:i=y<;>by_cases D:i=C<;>simp_all
theorem Cz1 (xs ys:List DVal):Di xs 0 ys=ys++xs.drop ys.length:=by simp [Di]
theorem Cz2 (x:DVal) (xs ys:List DVal) (n:Nat):Di (x::xs) (n+1) ys=x::Di xs n ys:=by
 simp [Di,Nat.add_right_comm]
attribute [go_sem] Gt Cz1 Cz2
theorem Ad.fzA {P:Program} {G:Nat->DVal} {f:FuncId} {args:List DVal} {H:Ab} {R:DEnd->Ab->Prop} (r:Nat) {cs:List DVal} {e:TypeId} (hr:H r=none) (h:Ad P G f (fzs r cs args) H R):Ad P G f args (upd H r (some (.cells cs e))) R:=
 Ad.fzArgs r (Aa _ _ _) (by rw[Nc hr];exact h)
theorem Dj.fzA {R:DEnd->Ab->Prop} {v:DVal} {H:Ab} (r:Nat) {cs:List DVal} {e:TypeId} (hr:H r=none) (h:Dj R (Dl.fz r cs v) H):Dj R v (upd H r (some (.cells cs e))):=
 Dj.fz r (Aa _ _ _) (by rw[Nc hr];exact h)
theorem Dj.dropA {R:DEnd->Ab->Prop} {v:DVal} {H:Ab} (r:Nat) {o:Option DObj} (hr:H r=none) (h:Dj R v H):Dj R v (upd H r o):=
 Dj.drop r (by rw[Nc hr];exact h)
section
variable {P:Program} {G:Nat->DVal} {N:Nat} {Q:DExit->DS->Prop}
theorem En4 {id:Nat} {y:List Oper} {s:DS} (hm:P.follows .mixedOrders=true) (p:Plan) (hp:(y.all (Kx N)&&Bq4 y [] p&&Jl y p [])=true) (h:Qt P G y (QP Q) p s):dwp P G N (.region id y.toArray true) Q s:=
 Fy5 (N:=⟨N,⟨0,[],false⟩⟩) hm p (by simpa using hp) (by simpa using h)
end
theorem An {P:Program} {G:Nat->DVal} {N:Nat} {Q:DExit->DS->Prop} {id:Nat} {y:List Oper} {s:DS} (p:Plan) (h:Qt P G y (QP Q) p s) (hm:P.follows .mixedOrders=true:=by kernel_rfl) (hp:(y.all (Kx N)&&Bq4 y [] p&&Jl y p [])=true:=by kernel_rfl):dwp P G N (.region id y.toArray true) Q s:=En4 hm p hp h
abbrev Am (v:DVal) (H:Ab):DEnd->Ab->Prop:=λe H'=>e= .ret v/\H'=H
def Hc1 (H:Ab) (e:TypeId) (size n:Nat) (cs:List DVal) (v:DVal) (H':Ab):Prop:=
 (n=0/\cs= []/\v= .nilSlice/\H'=H)\/ ∃r,H r=none/\cs.length=n*size/\v= .oslice size r 0 n n/\H'=upd H r (some (.cells cs e))
section
variable {P:Program} {G:Nat->DVal} {Q:DExit->DS->Prop}
theorem To {α:Type} {f:Nat->α} {r:Nat} {x:α} (h:f r=x):upd f r x=f:=by
 funext i;simp only[upd];split
 ·rename_i e;rw[e,h]
 ·rfl
theorem Bg5 {e:TypeId} {size bytes r off len lo n:Nat} {y:List DVal} {dst:Option Nat} {K:DK} {s:DS} {cs:List DVal} (h:len+n<=lo):
  Ti e size bytes r off len lo n y dst K s (some (.cells cs e))=(off+(len+n)*size<=cs.length/\
    K ⟨Hv s.env dst (.oslice size r off (len+n) lo),upd s.heap r (some (.cells (Di cs (off+len*size) y) e))⟩):=by
 simp only[Ti,true_and,eq_iff_iff];exact⟨λk=>k.1 h,λk=>⟨λ_=>k,λhn=>(hn h).elim⟩⟩
theorem At2 {e:TypeId} {size bytes r len lo n:Nat} {D:List DVal} {dst:Option Nat} {K:DK} {s:DS} {cs:List DVal} (E:len<=lo) (h:lo<len+n):
  Ti e size bytes r 0 len lo n D dst K s (some (.cells cs e))=(len*size<=cs.length/\(len+n)*bytes<=35184372088832/\ ∀r',upd s.heap r none r'=none->
    K ⟨Hv s.env dst (.oslice size r' 0 (len+n) (len+n)),upd (upd s.heap r none) r' (some (.cells (cs.take (len*size)++D) e))⟩):=by
 simp only[Ti,true_and,eq_iff_iff,E,true_or,if_true];have hn: ¬len+n<=lo:=by omega
 refine⟨λk=> ?_,λk=>⟨λhh=>(hn hh).elim,λ_=> ?_⟩⟩
 ·obtain⟨k1,y,C⟩:=k.2 hn;refine⟨by omega,y,λr' hr=> ?_⟩;have:=C r' [] hr (λ_=>rfl);simpa using this
 ·obtain⟨k1,y,C⟩:=k;refine⟨by omega,y,λr' pre hr hp=> ?_⟩;have I:=hp trivial;subst I;have:=C r' hr;simpa using this
theorem Li.slice {H:Ab} {e:TypeId} {size n lo:Nat} {cs rest:List DVal} {r:Nat} (hr:H r=none) (hl:cs.length=n*size):Li (upd H r (some (.cells (cs++rest) e))) (.oslice size r 0 n lo) H (.vslice cs n):=by
 have:=Li.fz (v:= .oslice size r 0 n lo) (Aa H r (some (.cells (cs++rest) e)));rw[Nc hr] at this;simp only[Dl.fz,if_pos,jJ] at this;rw[List.take_append_of_le_length (by omega),List.take_of_length_le (by omega)] at this;exact this
theorem Hc1.ghost {H H0:Ab} {e:TypeId} {size n:Nat} {cs:List DVal} {v:DVal} (hv:Hc1 H e size n cs v H0):Li H0 v H (.vslice cs n):=by
 rcases hv with⟨rfl,rfl,rfl,rfl⟩|⟨r,hr,hl,rfl,rfl⟩
 ·intro w hw;refine⟨hw,λ_ h=>h,λx hx=> ?_⟩;simp only[Rel] at hx⊢
  exact⟨none,0,hx,Nat.le_refl _,.inl (by simp)⟩
 ·have:=Li.fz (v:= .oslice size r 0 n n) (Aa H r (some (.cells cs e)));rw[Nc hr] at this;simp only[fz,if_pos,jJ] at this;rw[List.take_of_length_le (by omega)] at this;exact this
end
def DLe (d d':DVal):Prop:= ∀(w:World) (H:Ab) (x:Value),Rel w H d x->Rel w H d' x
theorem DLe.nil:DLe .nilSlice (.vslice [] 0):=λw H x hx=>by
 simp only[Rel] at hx⊢
 exact⟨none,0,hx,Nat.le_refl _,.inl (by simp)⟩
theorem Dj.le {R:DEnd->Ab->Prop} {v y:DVal} {H:Ab} (g:DLe v y) (h:Dj R y H):Dj R v H:= .ghost (λw hw=>⟨hw,λ_ h=>h,λx hx=>g _ _ _ hx⟩) h
theorem Rn.drop {G:Nat->DVal} (s:DS) (r:Nat):Rn G s ⟨s.env,upd s.heap r none⟩:=λw y hG=>
 ⟨y.letGo r,λb hb=>by simp only[upd] at hb;split at hb<;>simp_all,hG.lasts (Dp _ r w),λi x hx=>Rel.lasts (Dp _ r w) _ _ hx⟩
theorem Cz3 {H H':Ab} (h: ∀r o,H' r=some o->H r=some o) {b:Nat} (hb:H b=none):H' b=none:=by
 cases e:H' b with
 |none=>rfl
 |some o=>rw[h b o e] at hb;cases hb
theorem Dq {H H':Ab} (h: ∀r o,H' r=some o->H r=some o) (w:World):Lasts H w H' w:=
 ⟨λb i x hb hc=>⟨Cz3 h hb,hc⟩,Nat.le_refl _,λ_ _=>rfl⟩
theorem Li.sub {H H':Ab} (h: ∀r o,H' r=some o->H r=some o) (v:DVal):Li H v H' v:=λw hw=>
 ⟨λr o ho=>(hw r o (h r o ho)).lasts (Dq h w),λb hb e=>hb (Cz3 h e),λx hx=>Rel.lasts (Dq h w) _ _ hx⟩
theorem Dj.sub {R:DEnd->Ab->Prop} {v:DVal} {H H':Ab} (h: ∀r o,H' r=some o->H r=some o) (k:Dj R v H'):Dj R v H:= .ghost (.sub h v) k
theorem Ac {α:Type} {H:Nat->Option α} {a b:Nat} {o:α} (ha:H a=none) (hb:H b=some o):b≠a:=λe=>by rw[e,ha] at hb;cases hb
theorem An5 (r:Nat) (cs:List DVal) (l m:List DVal):fzs r cs (l++m)=fzs r cs l++fzs r cs m:=by
 induction l with
 |nil=>simp [fzs]
 |cons d l ih=>simp [fzs,ih]
theorem Cz4 {α:Type} (p:α->Bool) (x:α):Option.all p (some x)=p x:=rfl
attribute [go_sem] Bg5 At2 Cz4
end Go.Dl
-- Df
namespace Go.Dl
open Go
attribute [go_sem] jD Int.sub_zero Int.zero_add Int.add_zero Nat.add_sub_cancel Em7 jA jB List.all_cons List.all_nil Bool.and_true jS Bool.or_false Bool.false_or jM jR jE jJ decide_true decide_false Nat.mul_one Nat.one_mul Nat.zero_add Nat.add_zero Nat.mul_zero Nat.zero_mul Bool.not_true Bool.not_false Option.map_some Option.map_none Nat.le_refl Nat.zero_lt_succ ne_eq not_true_eq_false not_false_eq_true Option.isSome_some Gq5 Fb5 Em8 true_imp_iff false_imp_iff beq_self_eq_true forall_const Cy2 jK
end Go.Dl
-- Facts
namespace Go.Dl
open Go Go.Proofs
theorem fct0:Tryz.prog.cellsOf 2=1/\(Tryz.prog.info? 2).isSome=true/\Dz Tryz.prog 2=some false/\Tryz.prog.cellsOf 3=1/\(Tryz.prog.info? 3).isSome=true/\Dz Tryz.prog 3=some false/\Bj Tryz.prog 3=some (.int .i64 0)/\Tryz.prog.cellsOf 4=1/\(Tryz.prog.info? 4).isSome=true/\Dz Tryz.prog 4=some false/\Tryz.prog.cellsOf 5=1/\Bj Tryz.prog 5=some (.int .u8 0)/\Tryz.prog.cellsOf 9=1/\Tryz.prog.bytesOf 9=16/\(Tryz.prog.info? 9).isSome=true/\Dz Tryz.prog 9=some false/\Bj Tryz.prog 9=some (.str [])/\Tryz.prog.cellsOf 22=1/\(Tryz.prog.info? 22).isSome=true/\Dz Tryz.prog 22=some false/\Tryz.prog.cellsOf 23=1/\(Tryz.prog.info? 23).isSome=true/\Dz Tryz.prog 23=some false/\Tryz.prog.cellsOf 24=1/\(Tryz.prog.info? 24).isSome=true/\Dz Tryz.prog 24=some false/\Tryz.prog.cellsOf 25=1/\(Tryz.prog.info? 25).isSome=true/\Dz Tryz.prog 25=some false/\Tryz.prog.cellsOf 27=9/\Tryz.prog.bytesOf 27=104/\(Tryz.prog.info? 27).isSome=true/\Dz Tryz.prog 27=some true/\Fc Tryz.prog 27=true/\Bj Tryz.prog 27=some (.agg zY)/\Tryz.prog.cellsOf 29=1/\(Tryz.prog.info? 29).isSome=true/\Dz Tryz.prog 29=some false/\Tryz.prog.cellsOf 31=4/\Tryz.prog.bytesOf 31=40:=by(repeat' apply And.intro)<;>kernel_rfl
theorem fct1:(Tryz.prog.info? 31).isSome=true/\Dz Tryz.prog 31=some true/\Fc Tryz.prog 31=true/\Bj Tryz.prog 31=some (.agg [.int .u8 0,.int .i64 0,.str [],.int .i64 0])/\Tryz.prog.cellsOf 32=1/\(Tryz.prog.info? 32).isSome=true/\Dz Tryz.prog 32=some false/\Tryz.prog.cellsOf 36=1/\(Tryz.prog.info? 36).isSome=true/\Dz Tryz.prog 36=some false/\Bj Tryz.prog 36=some (.int .i64 0)/\Tryz.prog.cellsOf 41=1/\(Tryz.prog.info? 41).isSome=true/\Dz Tryz.prog 41=some false/\Tryz.prog.cellsOf 44=10/\Tryz.prog.bytesOf 44=128/\(Tryz.prog.info? 44).isSome=true/\Dz Tryz.prog 44=some true/\Fc Tryz.prog 44=true/\Bj Tryz.prog 44=some (.agg (.nilSlice::zY))/\Tryz.prog.cellsOf 45=1/\Dz Tryz.prog 45=some false/\Tryz.prog.cellsOf 47=2/\Tryz.prog.bytesOf 47=32/\(Tryz.prog.info? 47).isSome=true/\Dz Tryz.prog 47=some true/\Fc Tryz.prog 47=true/\Bj Tryz.prog 47=some (.agg [.int .u8 0,.nilSlice])/\Tryz.prog.cellsOf 51=1/\(Tryz.prog.info? 51).isSome=true/\Dz Tryz.prog 51=some false/\Tryz.prog.cellsOf 53=1/\(Tryz.prog.info? 53).isSome=true/\Dz Tryz.prog 53=some false/\Bj Tryz.prog 53=some (.int .u8 0)/\Tryz.prog.cellsOf 54=1/\(Tryz.prog.info? 54).isSome=true/\Dz Tryz.prog 54=some false/\Bj Tryz.prog 54=some (.nilSlice)/\Tryz.prog.cellsOf 56=36:=by(repeat' apply And.intro)<;>kernel_rfl
theorem fct2:(Tryz.prog.info? 56).isSome=true/\Dz Tryz.prog 56=some true/\Fc Tryz.prog 56=true/\Tryz.prog.cellsOf 58=27/\(Tryz.prog.info? 58).isSome=true/\Dz Tryz.prog 58=some true/\Fc Tryz.prog 58=true/\Tryz.prog.cellsOf 59=1/\(Tryz.prog.info? 59).isSome=true/\Dz Tryz.prog 59=some false/\Tryz.prog.cellsOf 60=1/\(Tryz.prog.info? 60).isSome=true/\Dz Tryz.prog 60=some false/\Tryz.prog.cellsOf 62=87/\(Tryz.prog.info? 62).isSome=true/\Dz Tryz.prog 62=some true/\Fc Tryz.prog 62=true/\Tryz.prog.cellsOf 65=1/\(Tryz.prog.info? 65).isSome=true/\Dz Tryz.prog 65=some false/\Tryz.prog.cellsOf 72=1/\Dz Tryz.prog 72=some false/\Tryz.prog.cellsOf 85=1/\Dz Tryz.prog 85=some false/\Tryz.prog.cellsOf 113=1/\(Tryz.prog.info? 113).isSome=true/\Dz Tryz.prog 113=some false/\Bj Tryz.prog 113=some (.nilFunc)/\Tryz.prog.cellsOf 119=1/\(Tryz.prog.info? 119).isSome=true/\Dz Tryz.prog 119=some false/\Bj Tryz.prog 119=some (.nilFunc)/\Tryz.prog.cellsOf 134=1/\(Tryz.prog.info? 134).isSome=true/\Dz Tryz.prog 134=some false/\Bj Tryz.prog 134=some (.int .u8 0)/\Tryz.prog.cellsOf 136=21/\Tryz.prog.bytesOf 136=248/\(Tryz.prog.info? 136).isSome=true/\Dz Tryz.prog 136=some true:=by(repeat' apply And.intro)<;>kernel_rfl
theorem fct3:Fc Tryz.prog 136=true/\Tryz.prog.cellsOf 139=1/\Dz Tryz.prog 139=some false/\Tryz.prog.cellsOf 140=1/\Dz Tryz.prog 140=some false/\Fc Tryz.prog 143=true/\Bj Tryz.prog 143=some (.agg [.nilSlice])/\Fc Tryz.prog 146=true/\Bj Tryz.prog 146=some (.agg [.nilSlice])/\Tryz.prog.cellsOf 154=2/\Tryz.prog.bytesOf 154=32/\(Tryz.prog.info? 154).isSome=true/\Dz Tryz.prog 154=some true/\Fc Tryz.prog 154=true/\Bj Tryz.prog 154=some (.agg [.int .i64 0,.nilSlice])/\Tryz.prog.cellsOf 157=8/\(Tryz.prog.info? 157).isSome=true/\Fc Tryz.prog 157=true/\Bj Tryz.prog 157=some (.agg [.nilFunc,.nilFunc,.nilFunc,.nilFunc,.nilFunc,.nilFunc,.nilFunc,.nilFunc])/\Tryz.prog.cellsOf 164=2/\Tryz.prog.bytesOf 164=48/\(Tryz.prog.info? 164).isSome=true/\Dz Tryz.prog 164=some true/\Bj Tryz.prog 164=some (.agg [.nilSlice,.nilSlice])/\Tryz.prog.cellsOf 187=10/\Tryz.prog.bytesOf 187=120/\(Tryz.prog.info? 187).isSome=true/\Dz Tryz.prog 187=some true/\Fc Tryz.prog 187=true/\Bj Tryz.prog 187=some (.agg (.str []::zY))/\Tryz.prog.cellsOf 202=47/\Tryz.prog.bytesOf 202=552/\(Tryz.prog.info? 202).isSome=true/\Dz Tryz.prog 202=some true/\Fc Tryz.prog 202=true/\Fc Tryz.prog 226=true/\Bj Tryz.prog 226=some (.agg [.nilSlice,.int .i64 0])/\Tryz.prog.cellsOf 231=1/\(Tryz.prog.info? 231).isSome=true/\Fc Tryz.prog 231=true:=by(repeat' apply And.intro)<;>kernel_rfl
theorem fct4:Bj Tryz.prog 231=some (.agg [.int .i64 0])/\Tryz.prog.cellsOf 236=1/\(Tryz.prog.info? 236).isSome=true/\Dz Tryz.prog 236=some false/\Bj Tryz.prog 236=some (.nilMap)/\Fc Tryz.prog 241=true/\Bj Tryz.prog 241=some (.agg [.nilSlice])/\Fc Tryz.prog 246=true/\Bj Tryz.prog 246=some (.agg [.nilSlice,.int .i64 0])/\Tryz.prog.cellsOf 248=2/\(Tryz.prog.info? 248).isSome=true/\Fc Tryz.prog 248=true/\Bj Tryz.prog 248=some (.agg [.int .i64 0,.int .i64 0])/\Tryz.prog.cellsOf 251=2/\(Tryz.prog.info? 251).isSome=true/\Dz Tryz.prog 251=some true/\Fc Tryz.prog 251=true/\Bj Tryz.prog 251=some (.agg [.str [],.nilFunc])/\Fc Tryz.prog 263=true/\Bj Tryz.prog 263=some (.agg [.bool false,.bool false]):=by(repeat' apply And.intro)<;>kernel_rfl
attribute [go_sem] fct0 fct1 fct2 fct3 fct4
theorem Gb5:Bj Tryz.prog 56=some (.agg [.int .u8 0,.int .u8 0,.int .i64 0,.str [],.nilSlice,.nilSlice,.int .i64 0,.int .i64 0,.int .i64 0,.int .u8 0,.int .u8 0,.int .i64 0,.str [],.nilSlice,.nilSlice,.int .i64 0,.int .i64 0,.int .i64 0,.int .u8 0,.int .u8 0,.int .i64 0,.str [],.nilSlice,.nilSlice,.int .i64 0,.int .i64 0,.int .i64 0,.int .u8 0,.int .u8 0,.int .i64 0,.str [],.nilSlice,.nilSlice,.int .i64 0,.int .i64 0,.int .i64 0]):=by kernel_rfl
theorem Gb7:Bj Tryz.prog 58=some (.agg [.int .u8 0,.int .u8 0,.int .i64 0,.str [],.nilSlice,.nilSlice,.int .i64 0,.int .i64 0,.int .i64 0,.int .u8 0,.int .u8 0,.int .i64 0,.str [],.nilSlice,.nilSlice,.int .i64 0,.int .i64 0,.int .i64 0,.int .u8 0,.int .u8 0,.int .i64 0,.str [],.nilSlice,.nilSlice,.int .i64 0,.int .i64 0,.int .i64 0]):=by kernel_rfl
theorem Gc1:Bj Tryz.prog 62=some (.agg [.int .u8 0,.nilSlice,.int .u8 0,.int .u8 0,.int .i64 0,.str [],.nilSlice,.nilSlice,.int .i64 0,.int .i64 0,.int .i64 0,.int .u8 0,.int .u8 0,.int .i64 0,.str [],.nilSlice,.nilSlice,.int .i64 0,.int .i64 0,.int .i64 0,.int .u8 0,.int .u8 0,.int .i64 0,.str [],.nilSlice,.nilSlice,.int .i64 0,.int .i64 0,.int .i64 0,.int .u8 0,.int .u8 0,.int .i64 0,.str [],.nilSlice,.nilSlice,.int .i64 0,.int .i64 0,.int .i64 0,.int .u8 0,.int .u8 0,.int .i64 0,.str [],.nilSlice,.nilSlice,.int .i64 0,.int .i64 0,.int .i64 0,.int .u8 0,.int .u8 0,.int .i64 0,.str [],.nilSlice,.nilSlice,.int .i64 0,.int .i64 0,.int .i64 0,.int .u8 0,.int .u8 0,.int .i64 0,.str [],.nilSlice,.nilSlice,.int .i64 0,.int .i64 0,.int .i64 0,.int .u8 0,.int .u8 0,.int .i64 0,.str [],.nilSlice,.nilSlice,.int .i64 0,.int .i64 0,.int .i64 0,.int .u8 0,.int .u8 0,.int .i64 0,.str [],.nilSlice,.nilSlice,.int .i64 0,.int .i64 0,.int .i64 0,.nilSlice,.str [],.nilSlice,.bool false]):=by kernel_rfl
theorem Fg5:Bj Tryz.prog 136=some (.agg [.nilSlice,.int .u8 0,.int .u8 0,.int .u8 0,.int .i64 0,.str [],.nilSlice,.nilSlice,.int .i64 0,.int .i64 0,.int .i64 0,.int .u8 0,.int .u8 0,.int .i64 0,.str [],.nilSlice,.nilSlice,.int .i64 0,.int .i64 0,.int .i64 0,.int .i64 0]):=by kernel_rfl
theorem Fh7:Bj Tryz.prog 202=some (.agg [.nilSlice,.int .u8 0,.int .u8 0,.int .i64 0,.str [],.nilSlice,.nilSlice,.int .i64 0,.int .i64 0,.int .i64 0,.int .u8 0,.int .u8 0,.int .i64 0,.str [],.nilSlice,.nilSlice,.int .i64 0,.int .i64 0,.int .i64 0,.int .u8 0,.int .u8 0,.int .i64 0,.str [],.nilSlice,.nilSlice,.int .i64 0,.int .i64 0,.int .i64 0,.int .u8 0,.int .u8 0,.int .i64 0,.str [],.nilSlice,.nilSlice,.int .i64 0,.int .i64 0,.int .i64 0,.int .u8 0,.int .u8 0,.int .i64 0,.str [],.nilSlice,.nilSlice,.int .i64 0,.int .i64 0,.int .i64 0,.int .i64 0]):=by kernel_rfl
attribute [go_sem] Tryz.underlying0 Tryz.underlying2 Tryz.underlying3 Tryz.underlying4 Tryz.underlying5 Tryz.underlying9 Tryz.underlying20 Tryz.underlying21 Tryz.underlying22 Tryz.underlying23 Tryz.underlying24 Tryz.underlying25 Tryz.underlying27 Tryz.underlying31 Tryz.underlying32 Tryz.underlying41 Tryz.underlying44 Tryz.underlying45 Tryz.underlying47 Tryz.underlying53 Tryz.underlying54 Gb5 Tryz.underlying56 Gb7 Tryz.underlying58 Tryz.underlying59 Tryz.underlying60 Gc1 Tryz.underlying62 Tryz.underlying65 Tryz.underlying72 Tryz.underlying85 Tryz.underlying87 Tryz.underlying117 Tryz.underlying134 Fg5 Tryz.underlying136 Tryz.underlying143 Tryz.underlying146 Tryz.underlying154 Tryz.underlying157 Tryz.underlying158 Tryz.underlying164 Tryz.underlying172 Tryz.underlying187 Fh7 Tryz.underlying202 Tryz.underlying204 Tryz.underlying209 Tryz.underlying226 Tryz.underlying231 Tryz.underlying236 Tryz.underlying241 Tryz.underlying246 Tryz.underlying248 Tryz.underlying251 Tryz.underlying253 Tryz.underlying263 Tryz.underlying264 Tryz.underlying273 Tryz.underlying282 Tryz.underlying332 Tryz.underlying334 Tryz.underlying336 Tryz.underlying338 Tryz.underlying340 Tryz.underlying341 Tryz.underlying342 Tryz.underlying344 Tryz.underlying345 Tryz.underlying347 Tryz.underlying350 Tryz.underlying352 Tryz.underlying353 Tryz.results5 Tryz.results11 Tryz.results12 Tryz.results13 Tryz.results16 Tryz.results19 Tryz.results20 Tryz.results21 Tryz.results22 Tryz.results24 Tryz.results25 Tryz.results26 Tryz.results27 Tryz.results28 Tryz.results29 Tryz.results30 Tryz.results31 Tryz.results32 Tryz.results33 Tryz.results34 Tryz.results35 Tryz.results36 Tryz.results37 Tryz.results38 Tryz.results39 Tryz.results40 Tryz.results41 Tryz.results42 Tryz.results43 Tryz.results44 Tryz.results45 Tryz.results46 Tryz.results47 Tryz.results48 Tryz.results55 Tryz.results57 Tryz.results58 Tryz.results59 Tryz.results60 Tryz.results61 Tryz.results62 Tryz.results63 Tryz.results64 Tryz.results65 Tryz.results66 Tryz.results67 Tryz.results68 Tryz.results69 Tryz.results70 Tryz.results71 Tryz.results72 Tryz.results73 Tryz.results74 Tryz.results75 Tryz.results76 Tryz.results77 Tryz.results81 Tryz.results82 Tryz.results84 Tryz.results85 Tryz.results86 Tryz.results87 Tryz.results88 Tryz.results89 Tryz.results90 Tryz.results91 Tryz.results92 Tryz.results93 Tryz.results94 Tryz.results95 Tryz.results96 Tryz.results97 Tryz.results98 Tryz.results99 Tryz.results100 Tryz.results101 Tryz.results102 Tryz.results103 Tryz.results104 Tryz.results105 Tryz.results106 Tryz.results107 Tryz.results108 Tryz.results109 Tryz.results110 Tryz.results111 Tryz.results112 Tryz.results113 Tryz.results114 Tryz.results115 Tryz.results116 Tryz.results117 Tryz.results118 Tryz.results119 Tryz.results120 Tryz.results121 Tryz.results122 Tryz.results123 Tryz.results124 Tryz.results125 Tryz.results126 Tryz.results127 Tryz.results128 Tryz.results129 Tryz.results130 Tryz.results131 Tryz.results132 Tryz.results133 Tryz.results134 Tryz.results135 Tryz.results136 Tryz.results137 Tryz.results138 Tryz.results139 Tryz.results140 Tryz.results141 Tryz.results142 Tryz.results143 Tryz.results144 Tryz.results145 Tryz.results146 Tryz.results147 Tryz.results148 Tryz.results149 Tryz.results150 Tryz.results151 Tryz.results152 Tryz.results153 Tryz.results154 Tryz.results155 Tryz.results156 Tryz.results163 Tryz.results164 Tryz.results165 Tryz.results166 Tryz.results167 Tryz.results168 Tryz.results169 Tryz.results170 Tryz.results171 Tryz.results172 Tryz.results173 Tryz.results174 Tryz.results175 Tryz.results176 Tryz.results178 Tryz.results179 Tryz.results180 Tryz.results181 Tryz.results182 Tryz.results183 Tryz.results184 Tryz.results185 Tryz.results186 Tryz.results187 Tryz.results189 Tryz.results191 Tryz.results192 Tryz.results193 Tryz.results194 Tryz.results195 Tryz.results196 Tryz.results197 Tryz.results198 Tryz.results199 Tryz.results200 Tryz.results201 Tryz.results202 Tryz.results203 Tryz.results204 Tryz.results205 Tryz.results206 Tryz.results207 Tryz.results208 Tryz.results209 Tryz.results210 Tryz.results211 Tryz.results212 Tryz.results213 Tryz.results214 Tryz.results216 Tryz.results217 Tryz.results218 Tryz.results219 Tryz.results220 Tryz.results222 Tryz.results223 Tryz.results225 Tryz.results226 Tryz.results227 Tryz.results228 Tryz.results230 Tryz.results231 Tryz.results232 Tryz.results233 Tryz.results235 Tryz.results236 Tryz.results237 Tryz.results238 Tryz.results244 Tryz.results245 Tryz.results246 Tryz.results247 Tryz.results248 Tryz.results249 Tryz.results250 Tryz.results251 Tryz.results252 Tryz.results253 Tryz.results254 Tryz.results255 Tryz.results256 Tryz.results257 Tryz.results258 Tryz.results259 Tryz.results260 Tryz.results261 Tryz.results262 Tryz.results263 Tryz.results264 Tryz.results265 Tryz.results266 Tryz.results267 Tryz.results268 Tryz.results269 Tryz.results270 Tryz.results271 Tryz.results272 Tryz.results273 Tryz.results274 Tryz.results275 Tryz.results276 Tryz.results277 Tryz.results278 Tryz.results279 Tryz.results280 Tryz.results281 Tryz.results282 Tryz.results283 Tryz.results284 Tryz.results285 Tryz.results286 Tryz.results287 Tryz.results288 Tryz.results289 Tryz.results290 Tryz.results293 Tryz.results294 Tryz.results295 Tryz.results296 Tryz.results297 Tryz.results298 Tryz.results299 Tryz.results300 Tryz.results301 Tryz.results302 Tryz.results303 Tryz.results304 Tryz.results305 Tryz.results306 Tryz.results308 Tryz.results309 Tryz.results310 Tryz.results311 Tryz.results312 Tryz.results313 Tryz.results314 Tryz.results315 Tryz.results316 Tryz.results317 Tryz.results318 Tryz.results319 Tryz.results320 Tryz.results323 Tryz.results325
end Go.Dl
-- Bg
namespace Go.Dl
open Go Go.Proofs
set_option maxRecDepth 10000
section
variable {P:Program} {G:Nat->DVal}
structure Quiet (w w':World):Prop where
 os:w'.os=w.os
 tape:w'.tape=w.tape
 output:w'.output=w.output
 size:w.heap.size<=w'.heap.size
 block: ∀b,b<w.heap.size->w'.heap[b]? =w.heap[b]?
theorem Quiet.below {w w':World} (h:RowKit.Below w.heap.size w w'):Quiet w w':=⟨h.os,h.tape,h.output,h.size,h.block⟩
theorem Quiet.ext {w w':World} {H:Ab} (y:Bg w H) (h:Quiet w w'):Bg w' H/\Ext H w H w':=by
 have hE:Ext H w H w':=⟨h.os,h.tape,h.output,h.size,λb hb _=>h.block b hb,λb hb=> .inl hb,λb hb=>by rw[h.block b hb],λa ha _=>by unfold World.frozen?;rw[h.block _ ha]⟩;refine⟨λr o ho=> ?_,hE⟩;rw[h.block r (y.lt (by simp [ho]))];exact(y r o ho).lasts hE.lasts
theorem Ep5 {w:World} {H:Ab} {g:Nat} {cs:List DVal} {name:String} {k:IntKind} {C:List Int} (J:P.globalNamed name=some g) (h:Rel w H (.vptr cs 0) (.pointer (some ⟨g,0,none⟩)))
  (E:cs=C.map λz=> .int k z): ∀i z,C[i]? =some z->w.cell? ⟨g,i,none⟩=some (.int k z):=by
 simp only[Rel] at h;obtain⟨b,o,xs,e,hc,hr⟩:=h;simp only[Value.pointer.injEq,Option.some.injEq,Addr.mk.injEq,Nat.add_zero,and_true] at e;obtain⟨rfl,rfl⟩:=e;intro i z hz;have h1:cs[i]? =some (.int k z):=by rw[E];simp [hz]
 obtain⟨y,I,D⟩:=hr.get h1;simp only[Rel] at D;subst D;have:=hc.holds i _ I;simpa using this
end
section
end
section
variable {α:Type} {c:α->List DVal} {k:Nat}
theorem Ak (hk: ∀x,(c x).length=k) (l:List α):(l.flatMap c).length=l.length*k:=by
 induction l with
 |nil=>simp
 |cons x l ih=>simp [List.flatMap_cons,ih,hk,Nat.add_mul];omega
theorem Cf3 (hk: ∀x,(c x).length=k): ∀(l:List α) (i:Nat),(l.flatMap c).drop (i*k)=(l.drop i).flatMap c
 |l,0=>by simp
 | [],i+1=>by simp
 |x::l,i+1=>by
  rw[List.flatMap_cons,show(i+1)*k=(c x).length+i*k by rw[hk,Nat.add_mul];omega,List.drop_append,jE,<-Cf3 hk l i];simp
theorem Bh (hk: ∀x,(c x).length=k) (l:List α) (i:Nat) (h:i<l.length):((l.flatMap c).drop (i*k)).take k=c l[i]:=by
 rw[Cf3 hk,List.drop_eq_getElem_cons h,List.flatMap_cons,List.take_append_of_le_length (by rw[hk];omega),List.take_of_length_le (by rw[hk];omega)]
theorem Bz (hk: ∀x,(c x).length=k) (l:List α) (i:Nat) (h:i<l.length) (j:Nat) (y:j<k):(l.flatMap c)[i*k+j]? =(c l[i])[j]? :=by
 rw[<-Bh hk l i h,List.getElem?_take,if_pos y,List.getElem?_drop]
end
def Bk5 {α:Type} (p:α->Bool) (l:List α):Int:=match l.findIdx? p with|some i=>(i:Int)|none=> -1
theorem Ai1 {α:Type} {p:α->Bool} {l:List α} {i:Nat} (h:i<l.length) (hp:p l[i]=true) (y: ∀x∈l.take i,p x=false):Bk5 p l=i:=by
 have:l.findIdx? p=some i:=by
  rw[List.findIdx?_eq_some_iff_getElem];exact⟨h,hp,λj hj=>by have:=y l[j] (List.mem_take_iff_getElem.2 ⟨j,by omega,rfl⟩);simp [this]⟩
 rw[Bk5,this]
theorem Ai2 {α:Type} {p:α->Bool} {l:List α} (y: ∀x∈l,p x=false):Bk5 p l= -1:=by
 have:l.findIdx? p=none:=by rw[List.findIdx?_eq_none_iff];intro x hx;rw[y x hx]
 rw[Bk5,this]
theorem Wr {α:Type} (p:α->Bool) (l:List α):decide (0<=Bk5 p l)=l.any p:=by
 unfold Bk5;cases h:l.findIdx? p with
 |some i=>
  obtain⟨h1,h2,_⟩:=List.findIdx?_eq_some_iff_getElem.1 h;have:l.any p=true:=List.any_eq_true.2 ⟨_,List.getElem_mem h1,h2⟩;rw[this];simp
 |none=>
  rw[List.findIdx?_eq_none_iff] at h;have:l.any p=false:=by rw[List.any_eq_false];intro x hx;rw[h x hx];simp
  rw[this];rfl
theorem Jm {α:Type} {p:α->Prop} {l:List α} {i:Nat} (h:i<l.length) (y: ∀x∈l.take i,p x) (hx:p l[i]): ∀x∈l.take (i+1),p x:=by
 intro x hm;rw[List.take_succ_eq_append_getElem h,List.mem_append,List.mem_singleton] at hm;rcases hm with hm|rfl
 ·exact y x hm
 ·exact hx
theorem Tp {c d:UInt8} (h:c≠d): ¬(c.toNat:Int)=(d.toNat:Int):=λe=>h (UInt8.toNat_inj.1 (by omega))
def Al1 (l:List (List UInt8)):DVal:= .vslice (l.map .str) l.length
end Go.Dl
-- Ei
namespace Go.Dl
open Go
def At3:DVal->Bool
 | .bool _| .int _ _| .str _| .nilPtr| .nilSlice| .nilMap| .nilFunc| .nilIface=>true
 | .optr _ _| .oslice _ _ _ _ _| .omap _=>true
 | .tuple l=>looses l
 | .agg l=>looses l
 |_=>false
where looses:List DVal->Bool
 | []=>true
 |d::ds=>At3 d&&looses ds
mutual
theorem Ai3 {w:World} {H H':Ab}: ∀(d:DVal) (v:Value),At3 d=true->Rel w H d v->Rel w H' d v
 | .tuple l,v,hp,h=>by
  simp only[At3] at hp
  simp only[Rel] at h⊢
  obtain⟨x,rfl,h1⟩:=h
  exact⟨x,rfl,Pz _ _ hp h1⟩
 | .agg l,v,hp,h=>by
  simp only[At3] at hp
  simp only[Rel] at h⊢
  obtain⟨x,rfl,h1⟩:=h
  exact⟨x,rfl,Pz _ _ hp h1⟩
 | .bool x,v,hp,h=>by simpa [Rel] using h
 | .int x y,v,hp,h=>by simpa [Rel] using h
 | .str x,v,hp,h=>by simpa [Rel] using h
 | .nilPtr,v,hp,h=>by simpa [Rel] using h
 | .nilSlice,v,hp,h=>by simpa [Rel] using h
 | .nilMap,v,hp,h=>by simpa [Rel] using h
 | .nilFunc,v,hp,h=>by simpa [Rel] using h
 | .nilIface,v,hp,h=>by simpa [Rel] using h
 | .optr _ _,v,hp,h=>by simpa [Rel] using h
 | .oslice _ _ _ _ _,v,hp,h=>by simpa [Rel] using h
 | .omap _,v,hp,h=>by simpa [Rel] using h
 | .raw _,_,hp,_=>by cases hp
 | .vptr _ _,_,hp,_=>by cases hp
 | .vslice _ _,_,hp,_=>by cases hp
 | .func _ _ _,_,hp,_=>by cases hp
 | .iface _ _,_,hp,_=>by cases hp
theorem Pz {w:World} {H H':Ab}: ∀(C:List DVal) (vs:List Value),At3.looses C=true->Ar w H C vs->Ar w H' C vs
 | [],_,_,h=>by simpa [Ar] using h
 |d::C,vs,hp,h=>by
  simp only[At3.looses,jF] at hp
  simp only[Ar] at h⊢
  obtain⟨y,ys,rfl,h1,h2⟩:=h
  exact⟨y,ys,rfl,Ai3 d y hp.1 h1,Pz C ys hp.2 h2⟩
end
def Dp3:DObj->Bool
 | .cells cs _=>At3.looses cs
 | .map es=>es.all λp=>At3 p.1&&At3 p.2
 | .loop _ _ _=>false
 | .iter _ _=>true
def Gm3 (H H':Ab):Prop:= ∀r o,H' r=some o->H r=some o\/Dp3 o=true
theorem Gm3.refl (H:Ab):Gm3 H H:=λ_ _ h=> .inl h
end Go.Dl
-- Dj
namespace Go.Dl
open Go Go.RowKit
theorem Cz5 (H:Ab) (w:World):Lasts H w h0 w:=Dq (λr o h=>by cases h) w
def Sub (H H':Ab):Prop:= ∀r o,H r=some o->H' r=some o
theorem Sub.refl (H:Ab):Sub H H:=λ_ _ h=>h
theorem Sub.trans {H H' y:Ab} (h:Sub H H') (k:Sub H' y):Sub H y:=λr o x=>k r o (h r o x)
theorem Sub.lo {H H':Ab} (h:Sub H H') {r:Nat} (hr:H' r=none):H r=none:=by
 cases e:H r with
 |none=>rfl
 |some o=>rw[h r o e] at hr;cases hr
theorem Sub.up {H H':Ab} (h:Sub H H') {r:Nat} (hr:H r=none) (x:Option DObj):Sub H (upd H' r x):=λb o hb=>by
 have:b≠r:=λe=>by rw[e,hr] at hb;cases hb
 simp only[upd,if_neg this];exact h b o hb
theorem Sub.new {H H':Ab} (h:Sub H H') {r:Nat} (hr:H' r=none) (x:Option DObj):Sub H (upd H' r x):=h.up (h.lo hr) x
theorem Sub.both {H H':Ab} (h:Sub H H') (r:Nat) (x:Option DObj):Sub (upd H r x) (upd H' r x):=λb o hb=>by
 simp only[upd] at hb⊢;split<;>rename_i e
 ·rwa [if_pos e] at hb
 ·rw[if_neg e] at hb;exact h b o hb
def Ik (H:Ab) (e:TypeId) (size n:Nat) (cs:List DVal) (v:DVal) (H':Ab):Prop:=
 (n=0/\cs= []/\v= .nilSlice/\Sub H H')\/ ∃r,H r=none/\cs.length=n*size/\v= .oslice size r 0 n n/\H' r=some (.cells cs e)/\Sub H H'
section
variable {P:Program} {G:Nat->DVal} {H H':Ab} {e:TypeId} {size n:Nat} {cs:List DVal} {v:DVal}
theorem Ik.nil (e:TypeId) (size:Nat) (h:Sub H H'):Ik H e size 0 [] .nilSlice H':= .inl ⟨rfl,rfl,rfl,h⟩
theorem Ik.sub (h:Ik H e size n cs v H'):Sub H H':=by
 rcases h with⟨_,_,_,h⟩|⟨_,_,_,_,_,h⟩<;>exact h
theorem Ik.keep (h:Ik H e size n cs v H') {r:Nat} {o:DObj} (hr:H r=some o):H' r=some o:=h.sub r o hr
theorem Ik.more (h:Ik H e size n cs v H') {y:Ab} (k:Sub H' y):Ik H e size n cs v y:=by
 rcases h with⟨a,b,c,d⟩|⟨r,a,b,c,d,f⟩
 ·exact .inl ⟨a,b,c,d.trans k⟩
 ·exact .inr ⟨r,a,b,c,k _ _ d,f.trans k⟩
theorem Ik.new (h:Ik H e size n cs v H') {r:Nat} (hr:H' r=none) (x:Option DObj):Ik H e size n cs v (upd H' r x):=h.more ((Sub.refl H').up hr x)
theorem Ik.less (h:Ik H e size n cs v H') {y:Ab} (k:Sub y H):Ik y e size n cs v H':=by
 rcases h with⟨a,b,c,d⟩|⟨r,a,b,c,d,f⟩
 ·exact .inl ⟨a,b,c,k.trans d⟩
 ·exact .inr ⟨r,k.lo a,b,c,d,k.trans f⟩
theorem Ik.frame (h:Ik H e size n cs v H') {r:Nat} (hr:H' r=none) (o:DObj):Ik (upd H r (some o)) e size n cs v (upd H' r (some o)):=by
 rcases h with⟨a,b,c,d⟩|⟨r0,a,b,c,d,f⟩
 ·exact .inl ⟨a,b,c,d.both _ _⟩
 ·have:r0≠r:=λe=>by rw[e,hr] at d;cases d
  exact .inr ⟨r0,by simp [upd,this,a],b,c,by simp [upd,this,d],f.both _ _⟩
theorem Ik.exact (h:Ik H e size n cs v H'): ∃H1,Hc1 H e size n cs v H1/\Sub H1 H':=by
 rcases h with⟨a,b,c,d⟩|⟨r,a,b,c,d,f⟩
 ·exact⟨H,.inl ⟨a,b,c,rfl⟩,d⟩
 ·refine⟨_,.inr ⟨r,a,b,c,rfl⟩,λk o hk=> ?_⟩;simp only[upd] at hk;split at hk
  ·rename_i e;subst e;cases hk;exact d
  ·exact f k o hk
theorem Ik.append {m bytes:Nat} {y:List DVal} {dst:Option Nat} {K:DK} {env:Nat->DVal} (hv:Ik H e size n cs v H') (hm:y.length=m*size) (hb:(n+m)*bytes<=35184372088832)
  (C: ∀v' H2,Ik H e size (n+m) (cs++y) v' H2->K ⟨Hv env dst v',H2⟩):Pt e size bytes m y dst v K ⟨env,H'⟩:=by
 rcases hv with⟨rfl,rfl,rfl,hs⟩|⟨r,hr,hl,rfl,hc,hs⟩
 ·simp only[Pt];refine⟨λh0=> ?_,λh0=>⟨by simpa using hb,λr hr=> ?_⟩⟩
  ·subst h0;have:y= []:=List.length_eq_zero_iff.1 (by omega);subst this;exact C _ _ (.inl ⟨rfl,rfl,rfl,hs⟩)
  ·refine C _ _ (.inr ⟨r,hs.lo hr,by simpa using hm,by simp,by rw[jG];exact Aa _ _ _,hs.new hr _⟩)
 ·simp only[Pt,true_and];rw[hc];by_cases h0:m=0
  ·subst h0;have:y= []:=List.length_eq_zero_iff.1 (by omega);subst this;rw[Bg5 (by omega)];refine⟨by simp [hl], ?_⟩;have:=C (.oslice size r 0 (n+0) n) H' (.inr ⟨r,hr,by simpa using hl,by simp,by simpa using hc,hs⟩);simp only[Di,jB,jH,Nat.add_zero,List.take_append_drop];rw[To hc];simpa using this
  ·rw[At2 (by omega) (by omega)];refine⟨by omega,hb,λr' D=> ?_⟩;dsimp only at D⊢
   by_cases e1:r'=r
   ·subst e1;refine C _ _ (.inr ⟨r',hr, ?_,rfl, ?_, ?_⟩)
    ·simp [hl,hm,Nat.add_mul]
    ·rw[Aa,List.take_of_length_le (by omega)]
    ·exact(hs.up hr _).up hr _
   ·(have E:H' r'=none:=by simpa [upd,e1] using D);refine C _ _ (.inr ⟨r',hs.lo E, ?_,rfl, ?_, ?_⟩)
    ·simp [hl,hm,Nat.add_mul]
    ·rw[Aa,List.take_of_length_le (by omega)]
    ·exact(hs.up hr _).up (hs.lo E) _
theorem Ik.appendO {r m bytes:Nat} {y:List DVal} {dst:Option Nat} {K:DK} {env:Nat->DVal} (hv:Ik H e size n cs (.oslice size r 0 n n) H') (hm:y.length=m*size) (hb:(n+m)*bytes<=35184372088832)
  (C: ∀v' H2,Ik H e size (n+m) (cs++y) v' H2->K ⟨Hv env dst v',H2⟩):Ti e size bytes r 0 n n m y dst K ⟨env,H'⟩ (some (.cells cs e)):=by
 have h:=Ik.append hv hm hb C;have hc:H' r=some (.cells cs e):=by
  rcases hv with⟨_,_,h,_⟩|⟨r',_,_,h,hc,_⟩
  ·cases h
  ·cases h;exact hc
 simp only[Pt,true_and,hc] at h;exact h
theorem Ik.ghost (hv:Ik H e size n cs v H'):Li H' v H (.vslice cs n):=by
 obtain⟨H1,h1,h2⟩:=hv.exact;exact(Li.sub h2 v).trans h1.ghost
theorem Ik.fin {R:DEnd->Ab->Prop} (hv:Ik H e size n cs v H') (h:R (.ret (.vslice cs n)) H):Dj R v H':= .ghost hv.ghost (.refl h)
theorem Ea9.runG {y:(DExit->DS->Prop)->DK} {Q:DExit->DS->Prop} {s:DS} {ι:Type} (I:ι->(Nat->DVal)->Ab->Prop) (μ:ι->Nat) (i:ι) (s0:DS) (C:Rn G s s0) (h0:I i s0.env s0.heap)
  (hr: ∀i env heap,I i env heap->y (Bg0 (λs1=> ∃j s2,Rn G s1 s2/\I j s2.env s2.heap/\μ j<μ i) Q) ⟨env,heap⟩):Ea9 G y Q s:=
 ⟨ι,λi s=>I i s.env s.heap,μ,⟨i,s0,C,h0⟩,λi s h=>hr i s.env s.heap h⟩
theorem Ik.cell1 (h:Ik H e size n cs v H'):v.cells= [v]/\v.one=true:=by
 rcases h with⟨_,_,rfl,_⟩|⟨_,_,_,rfl,_⟩<;>exact⟨rfl,rfl⟩
end
end Go.Dl
-- Dk
namespace Go.Dl
open Go
set_option maxRecDepth 10000
theorem Ad.frame {P:Program} {G:Nat->DVal} {f:FuncId} {args args':List DVal} {H:Ab} {R:DEnd->Ab->Prop} (h:Ad P G f args' h0 R)
  (hb: ∀w vs,Bg w H->Ar w H args vs->Ar w h0 args' vs) (E: ∀e X,R e X-> ∃v,e= .ret v/\At3 v=true/\Gm3 h0 X):Ad P G f args H (λe H'=> ∃X,R e X/\Hc0 H X/\H'=Cz0 H X):=by
 refine⟨h.1,λvs w hv C hg=> ?_⟩;have I:GOk G w h0:=hg.lasts (Cz5 H w);refine(h.2 vs w (hb w vs C hv) (λr o hr=>by cases hr) I).mono λx w' ⟨e',X,r,k1,J,y⟩=> ?_;obtain⟨v,rfl,hl,L⟩:=E _ _ r;have D: ∀b,X b≠none->w.heap.size<=b:=λb hb=>(y.own b hb).resolve_left (λk=>k rfl);have hd:Hc0 H X:=λb hb=>by
  cases e1:H b with
  |none=>rfl
  |some o=>have:=C.lt (r:=b) (by simp [e1]);have:=D b hb;omega
 have hE:Ext H w (Cz0 H X) w':=⟨y.os,y.tape,y.output,y.size,λb hb _=>y.block b hb rfl,λb hb=>by
  by_cases e1:X b=none
  ·rw[Ec0 e1] at hb;exact .inl hb
  ·exact .inr (D b e1),y.keep,λa ha _=>y.fz a ha rfl⟩
 refine⟨.ret v,Cz0 H X,⟨X,r,hd,rfl⟩, ?_, ?_,hE⟩
 ·cases k1 with
  |ret d x hx=>exact .ret _ _ (Ai3 _ _ hl hx)
 ·intro b o ho;cases e1:X b with
  |none=>
   rw[Ec0 e1] at ho;rw[y.block b (C.lt (by simp [ho])) rfl];exact(C b o ho).lasts hE.lasts
  |some o'=>
   rw[Gr0 e1] at ho;cases ho;have hlo:Dp3 o=true:=(L b o e1).resolve_left (λk=>by cases k);have hr:=J b o e1;cases o with
   |cells cs e=>
    obtain⟨xs,c,M,h1,h2,h3,h4⟩:=hr;exact⟨xs,c,M,h1,h2,Pz _ _ hlo h3,h4⟩
   |loop _ _ _=>cases hlo
   |iter _ _=>exact hr
   |map es=>
    obtain⟨ms,c,h1,h2⟩:=hr;refine⟨ms,c,h1, ?_⟩;simp only[Dp3,List.all_eq_true,jF] at hlo;clear h1 e1;generalize ms.toList=l at h2
    induction es generalizing l with
    |nil=>exact h2
    |cons p es ih=>
     obtain⟨m,O,rfl,S,U,V⟩:=h2;exact⟨m,O,rfl,Ai3 _ _ (hlo p (by simp)).1 S,Ai3 _ _ (hlo p (by simp)).2 U,ih (λq hq=>hlo q (List.mem_cons_of_mem _ hq)) _ V⟩
theorem Ad.lent {P:Program} {G:Nat->DVal} {f:FuncId} {args args':List DVal} {H:Ab} {v:DVal} (h:Ad P G f args' h0 (Am v h0))
  (hb: ∀w vs,Bg w H->Ar w H args vs->Ar w h0 args' vs) (hv:At3 v=true):Ad P G f args H (Am v H):=
 (h.frame hb (λe X hr=>⟨v,hr.1,hv,by rw[hr.2];exact .refl _⟩)).mono λe H' ⟨X,hr,_,y⟩=>⟨hr.1,by rw[y,hr.2,Eb9]⟩
def Bg6:List (List UInt8):= [[97,98,111,114,116],
 [97,98,115],
 [97,99,99,101,112,116],
 [97,99,99,101,115,115],
 [97,108,105,97,115,101,100],
 [97,108,108],
 [97,110,100],
 [97,114,114,97,121],
 [98,101,103,105,110],
 [98,111,100,121],
 [99,97,115,101],
 [99,111,110,115,116,97,110,116],
 [100,101,99,108,97,114,101],
 [100,101,108,97,121],
 [100,111],
 [101,108,115,101],
 [101,108,115,105,102],
 [101,110,100],
 [101,110,116,114,121],
 [101,120,99,101,112,116,105,111,110],
 [101,120,105,116],
 [102,111,114],
 [102,117,110,99,116,105,111,110],
 [103,101,110,101,114,105,99],
 [105,102],
 [105,110],
 [105,115],
 [108,105,109,105,116,101,100],
 [108,111,111,112],
 [109,111,100],
 [110,101,119],
 [110,111,116],
 [110,117,108,108],
 [111,102],
 [111,114],
 [111,116,104,101,114,115],
 [111,117,116],
 [112,97,99,107,97,103,101],
 [112,114,97,103,109,97],
 [112,114,105,118,97,116,101],
 [112,114,111,99,101,100,117,114,101],
 [112,114,111,116,101,99,116,101,100],
 [114,97,105,115,101],
 [114,97,110,103,101],
 [114,101,99,111,114,100],
 [114,101,109],
 [114,101,110,97,109,101,115],
 [114,101,113,117,101,117,101],
 [114,101,116,117,114,110],
 [114,101,118,101,114,115,101],
 [115,101,108,101,99,116],
 [115,101,112,97,114,97,116,101],
 [115,117,98,116,121,112,101],
 [116,97,115,107],
 [116,101,114,109,105,110,97,116,101],
 [116,104,101,110],
 [116,121,112,101],
 [117,110,116,105,108],
 [117,115,101],
 [119,104,101,110],
 [119,104,105,108,101],
 [119,105,116,104],
 [120,111,114]]
def Gl (c:UInt8):Bool:=decide (65<=c.toNat)&&decide (c.toNat<=90) || decide (97<=c.toNat)&&decide (c.toNat<=122)
def Gx (c:UInt8):Bool:=decide (48<=c.toNat)&&decide (c.toNat<=57)
def Fe (c:UInt8):Bool:=Gl c || Gx c || decide (c=95)
def Fm (s:List UInt8):List UInt8:=s.takeWhile Fe
def Uq (s:List UInt8):Bool:=decide (s∈Bg6)
def Iv (s:List UInt8):Bool:=(match s with|c::_=>Gl c| []=>false)&&decide (s.length<=32)&&s.all Fe&&!Uq s
def Ws:List (UInt8×UInt8):= [(61,62),(46,46),(58,61),(47,61),(60,61),(62,61),(60,62)]
def At4:List UInt8:= [40,41,44,59,58,46,39,43,45,42,47,61,60,62,124]
def Ur:List UInt8->Nat
 | []=>0
 | [a]=>if a∈At4 then 1 else 0
 |a::b::_=>if(a,b)∈Ws then 2 else if a∈At4 then 1 else 0
def Cz6 (s:List UInt8):Bool:=decide (s≠ [])&&decide (Ur s=s.length)
structure Tok where
 kind:Int
 line:Int
 text:List UInt8
 n:Int
 deriving DecidableEq,Inhabited
def At5:Tok:=⟨0,0,[],0⟩
def Ab4 (t:Tok):Bool:=
 if t.kind=1 then decide (t.n=0)&&Iv t.text else if t.kind=2 then decide (t.n=0)&&Uq t.text
 else if t.kind=4 then decide (t.n=0)&&Cz6 t.text else decide (t.kind=3)&&decide (t.text= [])&&decide (0<=t.n)&&decide (t.n<=2147483647)
def Vz (w:List UInt8):Nat:=w.foldl (λv c=>10*v+(c.toNat-48)) 0
def Cc4 (w:List UInt8):Option Nat:=if w.length<=10/\w.all Gx=true/\Vz w<=2147483647 then some (Vz w) else none
def Fh (s:List UInt8):Tok×Nat:=
 match s with
 | []=>(At5,0)
 |c::_=>if Gl c then(if Uq (Fm s) then(⟨2,0,Fm s,0⟩,(Fm s).length) else if Iv (Fm s) then(⟨1,0,Fm s,0⟩,(Fm s).length) else(At5,0))
  else if Gx c then(match Cc4 (Fm s) with|some v=>(⟨3,0,[],v⟩,(Fm s).length)|none=>(At5,0))
  else(⟨4,0,s.take (Ur s),0⟩,Ur s)
def Qa (s:List UInt8):Bool:=s.all λc=>decide (32<=c.toNat)&&decide (c.toNat<=126)
def Iw (s:List UInt8):List UInt8:=s.dropWhile (· ==32)
def Po:List UInt8->Bool
 | 45::45::_=>true
 |_=>false
def Ba4:Nat->List UInt8->List (Tok×Bool)
 | 0,_=> []
 |k+1,s=>
  if Iw s= []\/Po (Iw s)=true then(if Qa (Iw s) then [] else [(At5,false)])
  else if(Fh (Iw s)).2=0 then [((Fh (Iw s)).1,false)]
  else((Fh (Iw s)).1,true)::Ba4 k ((Iw s).drop (Fh (Iw s)).2)
def Sf (s:List UInt8):List (Tok×Bool):=Ba4 (s.length+1) s
theorem Cf4 (s:List UInt8):(Iw s).length<=s.length:=by
 unfold Iw;exact(List.dropWhile_sublist _).length_le
theorem Bg7: ∀(k k':Nat) (s:List UInt8),s.length<k->s.length<k'->Ba4 k s=Ba4 k' s
 | 0,_,_,h,_=>by omega
 |_,0,_,_,h=>by omega
 |k+1,k'+1,s,h,h'=>by
  unfold Ba4;split
  ·rfl
  ·rename_i hc
   split
   ·rfl
   ·rename_i h0
    have hl:=Cf4 s;have y:Iw s≠ []:=λe=>hc (.inl e);have C:0<(Iw s).length:=List.length_pos_iff.2 y;rw[Bg7 k k' _ (by rw[List.length_drop];omega) (by rw[List.length_drop];omega)]
theorem Yk (s:List UInt8):Sf s=
  if Iw s= []\/Po (Iw s)=true then(if Qa (Iw s) then [] else [(At5,false)])
  else if(Fh (Iw s)).2=0 then [((Fh (Iw s)).1,false)]
  else((Fh (Iw s)).1,true)::Sf ((Iw s).drop (Fh (Iw s)).2):=by
 unfold Sf;rw[Ba4];split
 ·rfl
 ·rename_i hc
  split
  ·rfl
  ·rename_i h0
   have hl:=Cf4 s;have y:Iw s≠ []:=λe=>hc (.inl e);have C:0<(Iw s).length:=List.length_pos_iff.2 y;rw[Bg7 s.length _ ((Iw s).drop (Fh (Iw s)).2) (by rw[List.length_drop];omega) (Nat.lt_succ_self _)]
theorem Cz7 (s r:List UInt8) (c:UInt8) (y:Fe c=false):Fm (s++c::r)=Fm s:=by
 unfold Fm;rw[List.takeWhile_append];split
 ·rename_i h
  have:s.takeWhile Fe=s:=(List.takeWhile_prefix Fe).eq_of_length h;rw[this];simp [y]
 ·rfl
theorem Dp4 (s:List UInt8):Ur s<=s.length:=by
 match s with
 | []=>exact Nat.le_refl _
 | [a]=>simp only[Ur];split<;>simp
 |a::b::s=>simp only[Ur];split<;>(try split)<;>simp
theorem Ec1 (s:List UInt8):(Fm s).length<=s.length:=(List.takeWhile_sublist _).length_le
theorem At6 (s:List UInt8):(Fh s).2<=s.length:=by
 have hw:=Ec1 s;have hs:=Dp4 s
 match s with
 | []=>exact Nat.le_refl _
 |c::s=>
  unfold Fh;dsimp only;split
  ·split
   ·exact hw
   ·split
    ·exact hw
    ·exact Nat.zero_le _
  ·split
   ·split
    ·exact hw
    ·exact Nat.zero_le _
   ·exact hs
theorem Ep6 (s r:List UInt8):Qa (s++r)=(Qa s&&Qa r):=by simp [Qa]
def Dc (c:UInt8):List UInt8->List UInt8->List (List UInt8)
 | [],cur=> [cur]
 |b::s,cur=>if b=c then cur::Dc c s [] else Dc c s (cur++ [b])
theorem Bq7 (c:UInt8) (w:List UInt8) (h:c∉w): ∀cur,Dc c w cur= [cur++w]:=by
 induction w with
 |nil=>intro cur;simp [Dc]
 |cons b w ih=>
  intro cur;simp only[List.mem_cons,not_or] at h;rw[Dc,if_neg (λe=>h.1 e.symm),ih h.2];simp
theorem Bq8 (c:UInt8) (w r:List UInt8) (h:c∉w): ∀cur,Dc c (w++c::r) cur=(cur++w)::Dc c r []:=by
 induction w with
 |nil=>intro cur;simp [Dc]
 |cons b w ih=>
  intro cur;simp only[List.mem_cons,not_or] at h;rw[jI,Dc,if_neg (λe=>h.1 e.symm),ih h.2];simp
theorem Bg8 (c:UInt8) (b:List UInt8): ∀(a y:List UInt8),Dc c (a++c::b) y=Dc c a y++Dc c b []
 | [],y=>by simp [Dc]
 |x::a,y=>by
  rw[jI,Dc,Dc];split
  ·rw[Bg8 c b a []];rfl
  ·exact Bg8 c b a _
theorem Bq9 (c:UInt8): ∀(a y:List UInt8),Dc c a y≠ []
 | [],y=>by simp [Dc]
 |x::a,y=>by
  rw[Dc];split
  ·simp
  ·exact Bq9 c a _
theorem Ad4 (c:UInt8): ∀(a y w:List UInt8),c∉y->w∈Dc c a y->c∉w
 | [],y,w,h,hw=>by
  simp only[Dc,List.mem_singleton] at hw;rw[hw];exact h
 |x::a,y,w,h,hw=>by
  rw[Dc] at hw;split at hw
  ·rcases List.mem_cons.1 hw with rfl|hw
   ·exact h
   ·exact Ad4 c a [] w (by simp) hw
  ·rename_i hx
   exact Ad4 c a _ w (by simp only[List.mem_append,List.mem_singleton,not_or];exact⟨h,λe=>hx e.symm⟩) hw
def Al2:List (List UInt8)->List UInt8
 | []=> []
 | [s]=>s
 |s::t::l=>s++10::Al2 (t::l)
def Gy (s:List UInt8):List (List UInt8):=Dc 10 s []
theorem Br0: ∀ls:List (List UInt8),ls≠ []->(∀s∈ls,(10:UInt8)∉s)->Gy (Al2 ls)=ls
 | [],h,_=>absurd rfl h
 | [s],_,hs=>by rw[Al2,Gy,Bq7 10 s (hs s (by simp))];rfl
 |s::t::l,_,hs=>by
  have:=Br0 (t::l) (by simp) λu hu=>hs u (List.mem_cons_of_mem _ hu);rw[Gy] at this⊢
  rw[Al2,Bq8 10 s _ (hs s (by simp)),this];rfl
theorem Dp5 (s:List UInt8): ∀cur,Al2 (Dc 10 s cur)=cur++s:=by
 induction s with
 |nil=>intro cur;simp [Dc,Al2]
 |cons x s ih=>
  intro cur;rw[Dc];split
  ·rename_i h
   subst h;have:=ih [];cases hsp:Dc 10 s [] with
   |nil=>exact absurd hsp (Bq9 _ _ _)
   |cons t l=>rw[hsp] at this;rw[Al2,this];rfl
  ·rw[ih];simp
def Yl:List (List UInt8)->Nat->List (Tok×Bool×Int)
 | [],_=> []
 |s::ls,i=>(Sf s).map (λp=>({ p.1 with line:=i },p.2,(i:Int)))++Yl ls (i+1)
def Dp6:List (Tok×Bool×Int)->Nat->Option (Int×Int)
 | [],_=>none
 |p::r,n=>if p.2.1=false then some (p.2.2,20) else if n=8192 then some (p.2.2,3) else Dp6 r (n+1)
def Cc (src:List UInt8):List Tok×Int×Int:=
 if 65536<src.length then([],0,3) else match Dp6 (Yl (Gy src) 1) 0 with
  |some e=>([],e.1,e.2)
  |none=>((Yl (Gy src) 1).map (·.1),0,0)
def isS (t:Tok) (of:List UInt8):Bool:=decide (t.kind=4)&&(match t.text with| [c]=>decide (c∈of)|_=>false)
def Ec2 (t:Tok):Bool:=isS t [46] || decide (t.kind=4)&&decide (t.text= [46,46])
def Ad5 (a b:Tok):Bool:=
 if isS b [44,59,41,39] || isS a [40,39] then false else if isS a [46] then Ec2 b else if isS b [46] then Ec2 a else true
def Pa (t:Tok):List UInt8:=(if t.kind=3 then Lib.itoa t.n else [])++t.text
def Qu:Option Tok->List Tok->List UInt8
 |_,[]=> []
 |none,t::l=>Pa t++Qu (some t) l
 |some a,t::l=>(if Ad5 a t then [32] else [])++(Pa t++Qu (some t) l)
def Vf (l:List Tok):List UInt8:=Qu none l
def Tq (l:List Tok):Bool:=l.all Ab4
theorem Dp7 {w:List UInt8} (h:Iv w=true): ∃c r,w=c::r/\Gl c=true/\w.length<=32/\w.all Fe=true/\Uq w=false:=by
 unfold Iv at h;simp only[jF,decide_eq_true_eq,Bool.not_eq_true'] at h;obtain⟨⟨⟨h1,h2⟩,h3⟩,h4⟩:=h
 match w with
 | []=>cases h1
 |c::r=>exact⟨c,r,rfl,h1,h2,h3,h4⟩
theorem Fj0: ∀w∈Bg6,w.length<=32/\w.all Gl=true/\w≠ []:=by decide+kernel
theorem Vg {c:UInt8} (h:Gl c=true):Fe c=true:=by simp [Fe,h]
theorem Ep7 {w:List UInt8} (h:Uq w=true): ∃c r,w=c::r/\Gl c=true/\w.length<=32/\w.all Fe=true:=by
 have hm:w∈Bg6:=of_decide_eq_true h;obtain⟨h1,h2,h3⟩:=Fj0 w hm
 match w,h3 with
 | [],h3=>exact absurd rfl h3
 |c::r,_=>
  rw[List.all_eq_true] at h2;exact⟨c,r,rfl,h2 c (by simp),h1,List.all_eq_true.2 λx hx=>Vg (h2 x hx)⟩
theorem Cf5 {w:List UInt8} (h:Cz6 w=true):(∃a,w= [a]/\a∈At4)\/ ∃a b,w= [a,b]/\(a,b)∈Ws:=by
 unfold Cz6 at h;simp only[jF,decide_eq_true_eq] at h;obtain⟨h1,h2⟩:=h
 match w with
 | []=>exact absurd rfl h1
 | [a]=>
  simp only[Ur,jQ] at h2;split at h2
  ·rename_i hm;exact .inl ⟨a,rfl,hm⟩
  ·cases h2
 | [a,b]=>
  simp only[Ur,jA,jB] at h2;split at h2
  ·rename_i hm;exact .inr ⟨a,b,rfl,hm⟩
  ·split at h2<;>omega
 |a::b::c::r=>
  simp only[Ur,jA] at h2;split at h2<;>(try split at h2)<;>omega
theorem Br1: ∀(k n:Nat),n<10^(k+1)->Lib.nDigits n<=k+1
 | 0,n,h=>by rw[Lib.nDigits_small (by simpa using h)];exact Nat.le_refl _
 |k+1,n,h=>by
  by_cases h9:n<10
  ·rw[Lib.nDigits_small h9];omega
  ·rw[Lib.nDigits_big h9];have:=Br1 k (n/10) (by rw[Nat.div_lt_iff_lt_mul (by omega)];rw[Nat.pow_succ] at h;exact h);omega
theorem Ec3 {n:Nat} (h:n<=2147483647):(Lib.decDigits n).length<=10:=by
 rw[Lib.decDigits_length];exact Br1 9 n (by omega)
theorem Ec4 (u:Nat): ∀b∈Lib.decDigits u,Gx b=true:=by
 induction u using Nat.strongRecOn with
 |ind u ih=>
  have one: ∀d:Nat,d<10->Gx (UInt8.ofNat (48+d))=true:=λd hd=>by
   unfold Gx;rw[UInt8.toNat_ofNat',jF,decide_eq_true_eq,decide_eq_true_eq];omega
  intro b hb;rw[Lib.decDigits] at hb;split at hb
  ·rename_i h
   rw[List.mem_singleton] at hb;subst hb;exact one u h
  ·rename_i h
   rcases List.mem_append.1 hb with hb|hb
   ·exact ih (u/10) (by omega) b hb
   ·rw[List.mem_singleton] at hb;subst hb;exact one _ (by omega)
theorem Fj1 (u:Nat): ∃c r,Lib.decDigits u=c::r/\Gx c=true:=by
 have h:=Ec4 u;have y:Lib.decDigits u≠ []:=by rw[Lib.decDigits];split<;>simp
 match hd:Lib.decDigits u,y with
 | [],y=>exact absurd rfl y
 |c::r,_=>rw[hd] at h;exact⟨c,r,rfl,h c (by simp)⟩
theorem Ep8 (w:List UInt8) (c:UInt8):Vz (w++ [c])=10*Vz w+(c.toNat-48):=by simp [Vz,List.foldl_append]
theorem An6 {c:UInt8} (h:Gx c=true):Fe c=true:=by simp [Fe,h]
theorem Cz8 {n:Int} (h:0<=n):Lib.itoa n=Lib.decDigits n.toNat:=by rw[Lib.itoa,if_neg (by omega)]
theorem At7: ∀w:List UInt8,w.all Fe=true->Fm w=w
 | [],_=>rfl
 |c::w,h=>by
  rw[List.all_cons,jF] at h;show List.takeWhile Fe (c::w)=_;rw[List.takeWhile_cons,h.1];have:=At7 w h.2;unfold Fm at this;simp [this]
theorem Cf6 {t:Tok} (h:Ab4 t=true):(t.kind=1/\t.n=0/\Iv t.text=true)\/(t.kind=2/\t.n=0/\Uq t.text=true)\/(t.kind=4/\t.n=0/\Cz6 t.text=true)\/(t.kind=3/\t.text= []/\0<=t.n/\t.n<=2147483647):=by
 unfold Ab4 at h;split at h
 ·rename_i k
  simp only[jF,decide_eq_true_eq] at h;exact .inl ⟨k,h⟩
 ·split at h
  ·rename_i k
   simp only[jF,decide_eq_true_eq] at h;exact .inr (.inl ⟨k,h⟩)
  ·split at h
   ·rename_i k
    simp only[jF,decide_eq_true_eq] at h;exact .inr (.inr (.inl ⟨k,h⟩))
   ·simp only[jF,decide_eq_true_eq] at h;exact .inr (.inr (.inr ⟨h.1.1.1,h.1.1.2,h.1.2,h.2⟩))
end Go.Dl
