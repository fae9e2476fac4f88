/- The data level and the contracts of the functions that are reached (part 3). -/
import Derived.Orders
import Derived.Test.YtddbdpcgikmiaaaGreatDoorProg
import Derived.KernelRfl
import Derived.Lib.ItoaMem
import Derived.Lib.ConvBytes
import Derived.Lib.LaidTab
import Derived.Lib.ItoaLen
import Derived.Lib.ParseIntBTie
import Derived.Test.YtddbdpcgikmiaaaGreatDoorPnb
set_option linter.unusedSimpArgs false
set_option linter.unusedVariables false
set_option linter.unusedSectionVars false
-- THE DATA LEVEL, PART Y: regions whose or
namespace Go.Dl
open Go
def EVF (dst:Option Nat) (F:DK->DS->Prop):Prop:=
 ∀K s,F K s-> ∃d,Bs dst d K s/\ ∀K' s',Bs dst d K' s'->F K' s'
theorem Kh (dst:Option Nat) (d:DVal):EVF dst (Bs dst d):=fun K s h=>⟨d,h,fun K' s' h'=>h'⟩
theorem Mg (dst:Option Nat) {F:DK->DS->Prop} (h: ∀K s,¬F K s):EVF dst F:=fun K s hf=>(h K s hf).elim
theorem Cq {dst:Option Nat} {p:Prop} {F:DK->DS->Prop} (h:EVF dst F):EVF dst (fun K s=>p/\F K s):=fun K s ⟨hp,hf⟩=>by
 obtain⟨d,h1,h2⟩:=h K s hf;exact⟨d,h1,fun K' s' h'=>⟨hp,h2 K' s' h'⟩⟩
theorem Nb (dst:Option Nat) (o:Option DVal):EVF dst (Vm dst o):=by
 cases o with
 | none=>exact Mg _ fun K s h=>h
 | some d=>exact Kh dst d
theorem Fh5 (dst:Option Nat) (c a b:DVal):EVF dst (Ck0 dst c a b):=by
 intro K s h;revert h;unfold Ck0;split
 ·intro h;exact⟨_,h,fun _ _ h'=>h'⟩
 ·intro h;exact h.elim
theorem Em3 (P:Program) (dst:Option Nat) (b:Bool) (t:Option TypeDesc) (z:Option DVal) (y:List (Nat×DVal)):EVF dst (Ca4 P dst b t z y):=by
 intro K s h;revert h;unfold Ca4;split
 ·intro h;exact Nb _ _ K s h
 ·intro h;exact Nb _ _ K s h
 ·intro h;exact h.elim
theorem Cn4 (size:Nat) (dst:Option Nat) (y:Option Bool) (cs:List DVal) (off:Nat):EVF dst (Bf2 size dst y cs off):=by
 intro K s h;revert h;unfold Bf2;split
 ·intro h;exact Cq (Kh _ _) K s h
 ·intro h;exact Nb _ _ K s h
 ·intro h;exact h.elim
theorem Em4 (size:Nat) (y:Option Bool) (dst:Option Nat) (off:Nat) (o:Option DObj):EVF dst (Ca5 size y dst off o):=by
 intro K s h;revert h;unfold Ca5;split
 ·intro h;exact Cn4 _ _ _ _ _ K s h
 ·intro h;exact h.elim
theorem Fh6 (size:Nat) (y:Option Bool) (dst:Option Nat) (v:DVal) (K:DK) (s:DS) (h:Bu7 size y dst v K s):
  ∃d,Bs dst d K s/\ ∀K' s',(∀r off,v= .optr r off->s'.heap r=s.heap r)->Bs dst d K' s'->Bu7 size y dst v K' s':=by
 unfold Bu7 at h;split at h<;>try exact h.elim
 ·obtain⟨d,h1,h2⟩:=Cn4 _ _ _ _ _ K s h;exact⟨d,h1,fun K' s' _ h'=>h2 K' s' h'⟩
 ·rename_i r off
  obtain⟨d,h1,h2⟩:=Em4 _ _ _ _ _ K s h;exact⟨d,h1,fun K' s' hk h'=>by show Ca5 _ _ _ _ (s'.heap r) K' s';rw[hk r off rfl];exact h2 K' s' h'⟩
theorem Cn5 (dst:Option Nat) (v:DVal):EVF dst (Ab8 dst v):=by
 intro K s h;revert h;unfold Ab8;split<;>intro h<;>first | exact h.elim | exact⟨_,h,fun _ _ h'=>h'⟩
theorem Dc2 (dst:Option Nat) (o b:Option Bool):EVF dst (Sr dst o b):=by
 intro K s h;revert h;unfold Sr;split<;>intro h<;>first | exact h.elim | exact⟨_,h,fun _ _ h'=>h'⟩
theorem Dy3 (k:IntKind) (a b:Int) (dst:Option Nat) (op:BinOp):EVF dst (fun K s=>Bd3 k a b dst K s op):=by
 intro K s h;revert h;unfold Bd3;split<;>intro h<;>first | exact h.elim | exact⟨_,h,fun _ _ h'=>h'⟩ | exact⟨_,h.2,fun _ _ h'=>⟨h.1,h'⟩⟩
theorem Em5 (k:IntKind) (a b:Int) (dst:Option Nat) (op:BinOp):EVF dst (fun K s=>Ca7 k a b dst K s op):=by
 intro K s h;revert h;unfold Ca7;split<;>intro h<;>first | exact h.elim | exact⟨_,h,fun _ _ h'=>h'⟩ | exact⟨_,h.2,fun _ _ h'=>⟨h.1,h'⟩⟩
theorem Dy4 (a b:List UInt8) (dst:Option Nat) (op:BinOp):EVF dst (fun K s=>Aj9 a b dst K s op):=by
 intro K s h;revert h;unfold Aj9;split<;>intro h<;>first | exact h.elim | exact⟨_,h,fun _ _ h'=>h'⟩ | exact⟨_,h.2,fun _ _ h'=>⟨h.1,h'⟩⟩
theorem Fh7 (op:BinOp) (k k':IntKind) (a b:Int) (dst:Option Nat) (x:Bool):EVF dst (fun K s=>Dm7 op k k' a b dst K s x):=by
 cases x
 ·exact Cq (Dy3 k a b dst op)
 ·exact Em5 k a b dst op
theorem Em6 (P:Program) (t:TypeId) (c:Bool) (op:BinOp) (dst:Option Nat) (x y:DVal):EVF dst (Rg P t c op dst x y):=by
 intro K s h;revert h;unfold Rg;split
 ·intro h;exact Fh7 _ _ _ _ _ _ _ K s h
 ·intro h;exact Dy4 _ _ _ _ K s h
 ·intro h;exact Cq (Cq (Dc2 _ _ _)) K s h
 ·intro h;exact Dc2 _ _ _ K s h
theorem Gk5 (dst:Option Nat) (op:UnOp) (x:DVal):EVF dst (dUn dst op x):=by
 intro K s h;revert h;unfold dUn;split<;>intro h<;>first | exact h.elim | exact⟨_,h,fun _ _ h'=>h'⟩
theorem Dc3 (dst:Option Nat) (a b:Option TypeDesc) (x:DVal):EVF dst (Ak0 dst a b x):=by
 intro K s h;revert h;unfold Ak0;split<;>intro h<;>first | exact h.elim | exact⟨_,h,fun _ _ h'=>h'⟩
theorem Cd5 (t:TypeId) (x:DVal) (dst:Option Nat) (b:Bool):EVF dst (Wl t x dst b):=by
 intro K s h;revert h;unfold Wl;split<;>intro h<;>first | exact h.elim | exact⟨_,h,fun _ _ h'=>h'⟩
theorem Cn6 (l:List UInt8) (dst:Option Nat) (a b:Option Int):EVF dst (fun K s=>Ar6 l dst K s a b):=by
 cases a<;>cases b<;>first | exact Mg _ (fun K s h=>h) | exact Cq (Cq (Cq (Kh _ _)))
theorem Bv6 (size:Nat) (cs:List DVal) (len:Nat) (dst:Option Nat) (a b:Option Int):EVF dst (fun K s=>Ak1 size cs len dst K s a b):=by
 cases a<;>cases b<;>first | exact Mg _ (fun K s h=>h) | exact Cq (Cq (Cq (Kh _ _)))
theorem At0 (size r off cap:Nat) (dst:Option Nat) (a b c:Option Int):EVF dst (fun K s=>Wn size r off cap dst K s a b c):=by
 cases a<;>cases b<;>cases c<;>first | exact Mg _ (fun K s h=>h) | exact Cq (Cq (Cq (Cq (Kh _ _))))
theorem Dy5 (dst:Option Nat) (a b:Option Int):EVF dst (fun K s=>Ca9 dst K s a b):=by
 cases a<;>cases b<;>first | exact Mg _ (fun K s h=>h) | exact Cq (Cq (Kh _ _))
theorem Em7 (P:Program) (lo hi:Option DVal) (dst:Option Nat) (t:Option TypeDesc) (v:DVal) (m:Option DVal) (K:DK) (s:DS) (h:Ar7 P lo hi dst t v m K s):
  ∃d,Bs dst d K s/\ ∀K' s',(∀r off,v= .optr r off->s'.heap r=s.heap r)->Bs dst d K' s'->Ar7 P lo hi dst t v m K' s':=by
 have y: ∀ {F:DK->DS->Prop},EVF dst F->F K s-> ∃d,Bs dst d K s/\ ∀K' s',(∀r off,v= .optr r off->s'.heap r=s.heap r)->Bs dst d K' s'->F K' s':=by
  intro F C hf;obtain⟨d,h1,h2⟩:=C K s hf;exact⟨d,h1,fun K' s' _ h'=>h2 K' s' h'⟩
 unfold Ar7 at h;split at h<;>try exact h.elim
 ·exact y (Cn6 _ _ _ _) h
 ·exact y (Cq (Dy5 _ _ _)) h
 ·exact y (Cq (Bv6 _ _ _ _ _ _)) h
 ·exact y (Cq (Cq (At0 _ _ _ _ _ _ _ _))) h
 ·exact y (Cq (Cq (Cq (At0 _ _ _ _ _ _ _ _)))) h
 ·rename_i n e r off
  obtain⟨h1,h2,h3⟩:=h;obtain⟨d,h4,h5⟩:=At0 _ _ _ _ _ _ _ _ K s h3;exact⟨d,h4,fun K' s' hk h'=>⟨h1,by rw[hk r off rfl];exact h2,h5 K' s' h'⟩⟩
 ·exact y (Cq (Cq (Bv6 _ _ _ _ _ _))) h
theorem Bt3 (P:Program) (x:DVal) (dst:Option Nat) (f:Option Field):EVF dst (Ay1 P x dst f):=by
 cases f with
 | none=>exact Mg _ (fun K s h=>h)
 | some f=>exact Cq (Nb _ _)
theorem Cd6 (P:Program) (f:Nat) (x:DVal) (dst:Option Nat) (t:Option TypeDesc):EVF dst (Su P f x dst t):=by
 intro K s h;revert h;unfold Su;split
 ·intro h;exact Bt3 _ _ _ _ K s h
 ·intro h;exact h.elim
theorem Do1 (size:Nat) (cs:List DVal) (off:Nat) (dst:Option Nat) (b:Option Bool):EVF dst (Ck3 size cs off dst b):=by
 intro K s h;revert h;unfold Ck3;split
 ·intro h;exact Kh _ _ K s h
 ·intro h;exact Nb _ _ K s h
 ·intro h;exact h.elim
theorem Dy6 (P:Program) (cs:List DVal) (dst:Option Nat) (f:Option Field):EVF dst (Dn0 P cs dst f):=by
 cases f with
 | none=>exact Mg _ (fun K s h=>h)
 | some f=>exact Do1 _ _ _ _ _
theorem Em8 (P:Program) (f:Nat) (dst:Option Nat) (t:Option TypeDesc) (x:DVal):EVF dst (Bf3 P f dst t x):=by
 intro K s h;revert h;unfold Bf3;split
 ·intro h;exact Dy6 _ _ _ _ K s h
 ·intro h;exact h.elim
theorem Cd7 (P:Program) (dst:Option Nat) (t:Option TypeDesc) (x i:DVal):EVF dst (Sv P dst t x i):=by
 intro K s h;revert h;unfold Sv;split
 ·intro h;exact Cq (Cq (Cq (Cq (Kh _ _)))) K s h
 ·intro h;exact Cq (Cq (Cq (Kh _ _))) K s h
 ·intro h;exact Cq (Cq (Cq (Nb _ _))) K s h
 ·intro h;exact h.elim
theorem Em9 (P:Program) (dst:Option Nat) (t:Option TypeDesc) (x i:DVal):EVF dst (Bf4 P dst t x i):=by
 intro K s h;revert h;unfold Bf4;split
 ·intro h;exact Cq (Cq (Do1 _ _ _ _ _)) K s h
 ·intro h;exact Cq (Nb _ _) K s h
 ·intro h;exact h.elim
theorem Dc4 (i:Nat) (dst:Option Nat) (x:DVal):EVF dst (Ak2 i dst x):=by
 intro K s h;revert h;unfold Ak2;split
 ·intro h;exact Nb _ _ K s h
 ·intro h;exact h.elim
theorem Bh8 (dst:Option Nat) (z:Option DVal):EVF dst (Bf5 dst z):=by
 cases z with
 | none=>exact Mg _ (fun K s h=>h)
 | some z=>exact Kh _ _
theorem Cn7 (v:DVal) (z:Option DVal) (dst:Option Nat) (a b:Bool):EVF dst (Ar8 v z dst a b):=by
 cases a<;>cases b
 ·exact Mg _ (fun K s h=>h)
 ·exact Kh _ _
 ·exact Bh8 _ _
 ·exact Kh _ _
theorem Bt4 (P:Program) (t:TypeId) (ok:Bool) (dst:Option Nat) (b:Bool) (x:DVal):EVF dst (Ql P t ok dst b x):=by
 intro K s h;revert h;unfold Ql;split
 ·intro h;exact Cn7 _ _ _ _ _ K s h
 ·intro h;exact Cq (Bh8 _ _) K s h
 ·intro h;exact h.elim
theorem Ga0 (dst:Option Nat) (t:Option TypeDesc) (x:DVal):EVF dst (dLen dst t x):=by
 intro K s h;revert h;unfold dLen;split<;>intro h<;>first | exact h.elim | exact⟨_,h,fun _ _ h'=>h'⟩
theorem En0 (P:Program) (x:DVal) (dst:Option Nat) (ts:List TypeId):EVF dst (Cy1 P x dst ts):=by
 intro K s h;revert h;unfold Cy1;split
 ·intro h;exact Ga0 _ _ _ K s h
 ·intro h;exact h.elim
def Ul:Op->Bool
 | .move _ | .assign _ | .pick _ _ _ | .build _ _ | .load _ _ | .nilCheck _ | .unOp _ _ _ | .convert _ _ _ | .makeInterface _ _ | .makeFunc _ _ _
 | .slice _ _ _ _ _ | .fieldAddr _ _ _ | .field _ _ _ | .indexAddr _ _ _ | .index _ _ _ | .typeAssert _ _ _ _ | .extract _ _=>true
 | .binOp _ _ _ y _=>!Ji y
 | .call c=>match c.callee with
  | .builtin .len | .builtin .min | .builtin .max=>true
  | _=>false
 | _=>false
def Cd8:Op->Option Operand
 | .load _ a=>some a
 | .slice _ x _ _ _=>some x
 | .convert _ _ x=>some x
 | _=>none
def Mu (H H':Ac):DVal->Prop
 | .optr r _=>H' r=H r
 | .oslice _ r _ _ _=>H' r=H r
 | _=>True
theorem Jy {H:Ac} {v:DVal}:Mu H H v:=by
 unfold Mu;split<;>trivial
theorem Mu.ptr {H H':Ac} {d:DVal} (h:Mu H H' d): ∀r off,d= .optr r off->H' r=H r:=fun r off e=>by subst e;exact h
def Cn8 (G:Nat->DVal) (s s':DS) (op:Op):Prop:= ∀a,Cd8 op=some a->Mu s.heap s'.heap (dev G s.env a)
theorem Cn9 {H H':Ac} {x:DVal} (h:Mu H H' x):Af5 H' x=Af5 H x:=by
 unfold Af5;split<;>try rfl
 simp only[Mu] at h;rw[h]
theorem En1 (P:Program) (dst:Option Nat) (a b:Option TypeDesc) (x:DVal) (K:DK) (s:DS) (h:Yu P dst a b x K s):
  ∃d,Bs dst d K s/\ ∀K' s',Mu s.heap s'.heap x->Bs dst d K' s'->Yu P dst a b x K' s':=by
 revert h;unfold Yu;split
 ·rintro⟨h1,h⟩;cases hb:(Af5 s.heap x).bind Yt with
  | none=>rw[hb] at h;exact h.elim
  | some l=>
   rw[hb] at h;exact⟨_,h,fun K' s' hk h'=>⟨h1,by rw[Cn9 hk,hb];exact h'⟩⟩
 ·intro h;obtain⟨d,h1,h2⟩:=Dc3 _ _ _ _ K s h;exact⟨d,h1,fun K' s' _ h'=>h2 K' s' h'⟩
theorem Tb {G:Nat->DVal} {env C:Nat->DVal}: ∀ {xs:List Operand},(∀x∈xs,dev G C x=dev G env x)->Hf G C xs=Hf G env xs
 | [],_=>rfl
 | x::xs,h=>by
  simp only[Hf];rw[h x (by simp),Tb fun y D=>h y (by simp [D])]
theorem Wv {G:Nat->DVal} {env C:Nat->DVal}: ∀ {xs:List (Nat×Operand)},(∀x∈xs.map (·.2),dev G C x=dev G env x)->Ms G C xs=Ms G env xs
 | [],_=>rfl
 | (i,x)::xs,h=>by
  simp only[Ms];rw[h x (by simp),Wv fun y D=>h y (by simp at D⊢;exact .inr D)]
theorem Ww {G:Nat->DVal} {env C:Nat->DVal} {x:Option Operand} (h: ∀y∈x.toArray,dev G C y=dev G env y):Rh G C x=Rh G env x:=by
 cases x with
 | none=>rfl
 | some x=>simp only[Rh];rw[h x (by simp)]
def Um (all:List Oper) (env:Nat->DVal) (o:Oper):Option Bool:=
 match o.guard with
 | none=>some true
 | some (j,b)=>match Ug all j with
  | some g=>match env g with
   | .bool v=>some (v==b)
   | .tuple []=>some false
   | _=>none
  | none=>none
section
variable {P:Program} {G:Nat->DVal}
theorem Ag3 {dst:Option Nat} {K:DK} {Q:DExit->DS->Prop} {s:DS} (op:Op) (he:Ul op=true) (h:dop P G dst K Q s op):
  ∃d,Bs dst d K s/\ ∀Q' K' s',(∀x∈op.operands,dev G s'.env x=dev G s.env x)->Cn8 G s s' op->Bs dst d K' s'->dop P G dst K' Q' s' op:=by
 have C: ∀ {F:DK->DS->Prop},EVF dst F->F K s->(∀K' s',(∀x∈op.operands,dev G s'.env x=dev G s.env x)-> ∀Q',F K' s'->dop P G dst K' Q' s' op)->
   ∃d,Bs dst d K s/\ ∀Q' K' s',(∀x∈op.operands,dev G s'.env x=dev G s.env x)->Cn8 G s s' op->Bs dst d K' s'->dop P G dst K' Q' s' op:=by
  intro F I hf J;obtain⟨d,h1,h2⟩:=I K s hf;exact⟨d,h1,fun Q' K' s' ha _ h'=>J K' s' ha Q' (h2 K' s' h')⟩
 cases op<;>simp only[Ul] at he<;>try (cases he;done)
 case move x=>exact C (Kh _ _) h fun K' s' ha Q' h'=>by simp only[dop];rw[ha x (by simp [Op.operands])];exact h'
 case assign x=>exact C (Kh _ _) h fun K' s' ha Q' h'=>by simp only[dop];rw[ha x (by simp [Op.operands])];exact h'
 case pick c a b=>exact C (Fh5 _ _ _ _) h fun K' s' ha Q' h'=>by simp only[dop];rw[ha c (by simp [Op.operands]),ha a (by simp [Op.operands]),ha b (by simp [Op.operands])];exact h'
 case build t ps=>
  exact C (Em3 _ _ _ _ _ _) h fun K' s' ha Q' h'=>by
   simp only[dop];rw[Wv (env:=s.env) (fun x hx=>ha x (by simpa [Op.operands] using hx))];exact h'
 case load t a=>
  obtain⟨d,h1,h2⟩:=Fh6 _ _ _ _ K s h;exact⟨d,h1,fun Q' K' s' ha hk h'=>by simp only[dop];rw[ha a (by simp [Op.operands])];exact h2 K' s' (hk a rfl).ptr h'⟩
 case nilCheck x=>exact C (Cn5 _ _) h fun K' s' ha Q' h'=>by simp only[dop];rw[ha x (by simp [Op.operands])];exact h'
 case binOp op t x y _=>
  have hn:Ji y=false:=by simpa using he
  simp only[dop,hn,Uh] at h;exact C (Em6 _ _ _ _ _ _ _) h fun K' s' ha Q' h'=>by simp only[dop,hn,Uh];rw[ha x (by simp [Op.operands]),ha y (by simp [Op.operands])];exact h'
 case unOp op t x=>exact C (Gk5 _ _ _) h fun K' s' ha Q' h'=>by simp only[dop];rw[ha x (by simp [Op.operands])];exact h'
 case convert a t x=>
  obtain⟨d,h1,h2⟩:=En1 _ _ _ _ _ K s h;exact⟨d,h1,fun Q' K' s' ha hk h'=>by simp only[dop];rw[ha x (by simp [Op.operands])];exact h2 K' s' (hk x rfl) h'⟩
 case makeInterface t x=>exact C (Cd5 _ _ _ _) h fun K' s' ha Q' h'=>by simp only[dop];rw[ha x (by simp [Op.operands])];exact h'
 case makeFunc fn fs cs=>
  exact C (Kh _ _) h fun K' s' ha Q' h'=>by
   simp only[dop];rw[Tb (env:=s.env) (xs:=fs.toList) (fun x hx=>ha x (by simp at hx;simp [Op.operands,hx])),Tb (env:=s.env) (xs:=cs.toList) (fun x hx=>ha x (by simp at hx;simp [Op.operands,hx]))];exact h'
 case slice t x lo hi mx=>
  obtain⟨d,h1,h2⟩:=Em7 _ _ _ _ _ _ _ K s h;exact⟨d,h1,fun Q' K' s' ha hk h'=>by
   simp only[dop];rw[ha x (by simp [Op.operands]),Ww (x:=lo) (env:=s.env) (fun y D=>ha y (by simp at D;simp [Op.operands,D])),Ww (x:=hi) (env:=s.env) (fun y D=>ha y (by simp at D;simp [Op.operands,D])),Ww (x:=mx) (env:=s.env) (fun y D=>ha y (by simp at D;simp [Op.operands,D]))];exact h2 K' s' (hk x rfl).ptr h'⟩
 case fieldAddr t x f=>exact C (Cd6 _ _ _ _ _) h fun K' s' ha Q' h'=>by simp only[dop];rw[ha x (by simp [Op.operands])];exact h'
 case field t x f=>exact C (Em8 _ _ _ _ _) h fun K' s' ha Q' h'=>by simp only[dop];rw[ha x (by simp [Op.operands])];exact h'
 case indexAddr t x i=>exact C (Cd7 _ _ _ _ _) h fun K' s' ha Q' h'=>by simp only[dop];rw[ha x (by simp [Op.operands]),ha i (by simp [Op.operands])];exact h'
 case index t x i=>exact C (Em9 _ _ _ _ _) h fun K' s' ha Q' h'=>by simp only[dop];rw[ha x (by simp [Op.operands]),ha i (by simp [Op.operands])];exact h'
 case typeAssert x t u ok=>exact C (Bt4 _ _ _ _ _ _) h fun K' s' ha Q' h'=>by simp only[dop];rw[ha x (by simp [Op.operands])];exact h'
 case extract x i=>exact C (Dc4 _ _ _) h fun K' s' ha Q' h'=>by simp only[dop];rw[ha x (by simp [Op.operands])];exact h'
 case call c=>
  have E: ∀s':DS,(∀x∈(Op.call c).operands,dev G s'.env x=dev G s.env x)->Hf G s'.env c.args.toList=Hf G s.env c.args.toList:=by
   intro s' ha;exact Tb fun x hx=>ha x (by simp at hx;simp [Op.operands,Call.operands,hx])
  simp only[dop] at h⊢
  cases hc:c.callee with
  | value f=>rw[hc] at he;cases he
  | invoke r m=>rw[hc] at he;cases he
  | builtin b=>
   rw[hc] at h he;simp only[Wo] at h⊢
   cases b<;>simp only at he<;>try (cases he;done)
   case len=>
    cases hx:Hf G s.env c.args.toList with
    | nil=>rw[hx] at h;exact h.elim
    | cons x xs=>
     cases xs with
     | cons y ys=>rw[hx] at h;exact h.elim
     | nil=>
      rw[hx] at h;obtain⟨d,h1,h2⟩:=En0 P x dst c.argTypes.toList K s h;exact⟨d,h1,fun Q' K' s' ha _ h'=>by rw[E s' ha,hx];exact h2 K' s' h'⟩
   case min=>
    obtain⟨d,h1,h2⟩:=Nb dst (Ac0 false (Hf G s.env c.args.toList)) K s h;exact⟨d,h1,fun Q' K' s' ha _ h'=>by rw[E s' ha];exact h2 K' s' h'⟩
   case max=>
    obtain⟨d,h1,h2⟩:=Nb dst (Ac0 true (Hf G s.env c.args.toList)) K s h;exact⟨d,h1,fun Q' K' s' ha _ h'=>by rw[E s' ha];exact h2 K' s' h'⟩
theorem Dy7 {dst:Option Nat} {K E:DK} {Q M:DExit->DS->Prop} {s C:DS} (op:Op) (ha: ∀x∈op.operands,dev G C.env x=dev G s.env x) (hh:C.heap=s.heap)
  (D: ∀d h,K ⟨Ho s.env dst d,h⟩->E ⟨Ho C.env dst d,h⟩) (Z: ∀v h,Q (.panic v) ⟨s.env,h⟩->M (.panic v) ⟨C.env,h⟩)
  (h:dop P G dst K Q s op):dop P G dst E M C op:=by
 by_cases he:Ul op=true
 ·obtain⟨d,h1,h2⟩:=Ag3 op he h;refine h2 M E C ha (fun a _=>by rw[hh];exact Jy) ?_;show E ⟨Ho C.env dst d,C.heap⟩;rw[hh];exact D _ _ h1
 ·have aa: ∀ {cs e},Ff cs e dst K s->Ff cs e dst E C:=fun hn r hr=>by
   rw[hh] at hr⊢;exact D _ _ (hn r hr)
  have O: ∀ {cs e sz l c},Bf0 cs e sz l c dst K s->Bf0 cs e sz l c dst E C:=fun hn r hr=>by
   rw[hh] at hr⊢;exact D _ _ (hn r hr)
  have panic: ∀ {x},Af6 Q s x->Af6 M C x:=by
   intro x hx;unfold Af6 at hx⊢
   split at hx<;>try exact hx.elim
   have:=Z _ _ hx;rw[<-hh] at this;exact this
  cases op<;>(try exact(he rfl).elim)<;>(try exact h.elim)
  case binOp op t x y t'=>
   have hn:Ji y=true:=by
    simp only[Ul] at he;cases S:Ji y with
    | true=>rfl
    | false=>rw[S] at he;exact absurd rfl he
   simp only[dop] at h⊢
   rw[ha x (by simp [Op.operands]),ha y (by simp [Op.operands])];rw[hn] at h⊢
   generalize dev G s.env x=dx at h⊢
   generalize dev G s.env y=dy at h⊢
   have put: ∀d,Bs dst d K s->Bs dst d E C:=fun d h=>by unfold Bs at*;rw[hh];exact D _ _ h
   have rest:Rg P t (Ig x || Ig y) op dst dx dy K s->Rg P t (Ig x || Ig y) op dst dx dy E C:=fun h=>by
    obtain⟨d,h1,h2⟩:=Em6 _ _ _ _ _ _ _ K s h;exact h2 E C (put d h1)
   cases dx<;>first | exact rest h | skip
   simp only[Ax9] at h⊢
   refine⟨h.1,fun b hb=> ?_⟩;obtain⟨d,h1,h2⟩:=Dc2 _ _ _ K s (h.2 b hb);exact h2 E C (put d h1)
  case range t x=>
   simp only[dop] at h⊢
   rw[ha x (by simp [Op.operands])];generalize P.underlying t=u at h⊢
   generalize dev G s.env x=dx at h⊢
   unfold Ca8 at h⊢
   split at h<;>try exact h.elim
   exact fun r hr=>by rw[hh] at hr⊢;exact D _ _ (h r hr)
  case next x b=>
   simp only[dop] at h⊢
   rw[ha x (by simp [Op.operands])];generalize dev G s.env x=dx at h⊢
   unfold Dm9 at h⊢
   split at h<;>try exact h.elim
   rw[hh];unfold Cy0 at h⊢
   split at h<;>try exact h.elim
   refine⟨fun hp=>by rw[hh];exact D _ _ (h.1 hp),fun hp=> ?_⟩;have:=h.2 hp;unfold Bs at*;rw[hh];exact D _ _ this
  case makeMap t r=>
   simp only[dop] at h⊢
   rw[Ww (x:=r) (env:=s.env) (fun y S=>ha y (by simp at S;simp [Op.operands,S]))];generalize P.underlying t=u at h⊢
   generalize Rh G s.env r=v at h⊢
   unfold Yy at h⊢
   split at h<;>try exact h.elim
   all_goals exact fun r hr=>by rw[hh] at hr⊢;exact D _ _ (h r hr)
  case lookup t x k ok=>
   simp only[dop] at h⊢
   rw[ha x (by simp [Op.operands]),ha k (by simp [Op.operands])];generalize P.underlying t=u at h⊢
   generalize dev G s.env x=dx at h⊢
   generalize dev G s.env k=dk at h⊢
   have put: ∀d,Bs dst d K s->Bs dst d E C:=fun d h=>by unfold Bs at*;rw[hh];exact D _ _ h
   have hF: ∀es z r,Bf9 es ok dst z r K s->Bf9 es ok dst z r E C:=fun es z r h=>by
    unfold Bf9 at h⊢
    split at h<;>try exact h.elim
    ·obtain⟨p,h1,h2⟩:=h;exact⟨p,h1,put _ h2⟩
    ·exact put _ h
   unfold Bd6 at h⊢
   split at h<;>try exact h.elim
   ·refine⟨h.1, ?_⟩;have h2:=h.2;rw[hh];generalize s.heap _=ob at h2⊢
    unfold Cy3 at h2⊢
    split at h2<;>try exact h2.elim
    exact hF _ _ _ h2
   ·exact⟨h.1,hF _ _ _ h.2⟩
  case mapUpdate t m k x=>
   simp only[dop] at h⊢
   rw[ha m (by simp [Op.operands]),ha k (by simp [Op.operands]),ha x (by simp [Op.operands])];generalize P.underlying t=u at h⊢
   generalize dev G s.env m=dm at h⊢
   generalize dev G s.env k=dk at h⊢
   generalize dev G s.env x=dx at h⊢
   unfold Ab9 at h⊢
   split at h<;>try exact h.elim
   obtain⟨h1,h2,h3⟩:=h;refine⟨h1,h2, ?_⟩;rw[hh];generalize s.heap _=ob at h3⊢
   unfold Bf8 at h3⊢
   split at h3<;>try exact h3.elim
   refine⟨h3.1, ?_⟩;have h4:=h3.2;unfold Ak5 at h4⊢
   split at h4<;>try exact h4.elim
   subst h1;rw[hh];exact D Fa _ h4
  case insert t m k x=>
   simp only[dop] at h⊢
   rw[ha m (by simp [Op.operands]),ha k (by simp [Op.operands]),ha x (by simp [Op.operands])];generalize P.underlying t=u at h⊢
   generalize dev G s.env m=dm at h⊢
   generalize dev G s.env k=dk at h⊢
   generalize dev G s.env x=dx at h⊢
   unfold Ab9 at h⊢
   split at h<;>try exact h.elim
   obtain⟨h1,h2,h3⟩:=h;refine⟨h1,h2, ?_⟩;rw[hh];generalize s.heap _=ob at h3⊢
   unfold Bf8 at h3⊢
   split at h3<;>try exact h3.elim
   refine⟨h3.1, ?_⟩;have h4:=h3.2;unfold Ak5 at h4⊢
   split at h4<;>try exact h4.elim
   subst h1;rw[hh];exact D Fa _ h4
  case alloc e=>
   simp only[dop] at h⊢
   generalize Bm P e=z at h⊢
   cases z with
   | none=>exact h.elim
   | some z=>exact aa h
  case box e x=>simp only[dop] at h⊢;rw[ha x (by simp [Op.operands])];exact aa h
  case buildSlice t n ps=>
   simp only[dop] at h⊢
   rw[Wv (env:=s.env) (fun x hx=>ha x (by simpa [Op.operands] using hx))];generalize Ms G s.env ps.toList=qs at h⊢
   generalize P.underlying t=u at h⊢
   unfold Ue at h⊢
   split at h<;>try exact h.elim
   show Aj8 _ _ _ _ _ _ _ _;generalize Bm P _=z at h⊢
   cases z with
   | none=>exact h.elim
   | some z=>
    obtain⟨h1,h2,h3⟩:=h;refine⟨h1,h2, ?_⟩;generalize Xy _ _ _=f at h3⊢
    cases f with
    | none=>exact h3.elim
    | some f=>exact O h3
  case store t a x=>
   simp only[dop] at h⊢
   obtain⟨h1,h2⟩:=h;refine⟨h1, ?_⟩;rw[ha a (by simp [Op.operands]),ha x (by simp [Op.operands])];generalize dev G s.env a=va at h2⊢
   generalize dev G s.env x=vx at h2⊢
   unfold Ca6 at h2⊢
   split at h2<;>try exact h2.elim
   rename_i ad ae af ag
   rw[hh];generalize s.heap _=ob at h2⊢
   unfold Dm3 at h2⊢
   split at h2<;>try exact h2.elim
   obtain⟨U,V,W,X⟩:=h2;refine⟨U,V,W, ?_⟩;rw[hh];exact D Fa _ X
  case makeSlice t l c=>
   simp only[dop] at h⊢
   rw[ha l (by simp [Op.operands]),ha c (by simp [Op.operands])];generalize dev G s.env l=vl at h⊢
   generalize dev G s.env c=vc at h⊢
   generalize P.underlying t=u at h⊢
   unfold Wm at h⊢
   split at h<;>try exact h.elim
   show Ay0 _ _ _ _ _ _ _ _ _;generalize Bm P _=z at h⊢
   cases z with
   | none=>exact h.elim
   | some z=>
    obtain⟨h1,h2,h3,h4,h5,h6,h7⟩:=h;exact⟨h1,h2,h3,h4,h5,h6,O h7⟩
  case panic x=>simp only[dop] at h⊢;rw[ha x (by simp [Op.operands])];exact panic h
  case call c=>
   have ab:Hf G C.env c.args.toList=Hf G s.env c.args.toList:=
    Tb fun x hx=>ha x (by simp at hx;simp [Op.operands,Call.operands,hx])
   simp only[dop] at h⊢
   cases hc:c.callee with
   | invoke r m=>rw[hc] at h;exact h.elim
   | value f=>
    rw[hc] at h;simp only[Wo] at h⊢
    rw[ab,ha f (by simp [Op.operands,Call.operands,hc])];generalize dev G s.env f=vf at h⊢
    unfold Bg2 at h⊢
    split at h<;>try exact h.elim
    all_goals
     rw[hh];refine h.mono ?_;intro e H' hr;cases e with
     | ret v=>exact D _ _ hr
     | panic v=>exact Z _ _ hr
   | builtin b=>
    rw[hc] at h;simp only[Wo] at h⊢
    rw[ab];generalize Hf G s.env c.args.toList=vs at h⊢
    cases b<;>(try (cases vs<;>exact h.elim))<;>(try (exfalso;refine he ?_;simp [Ul,hc];done))
    case cap=>
     cases vs with
     | nil=>exact h.elim
     | cons x vs=> ?_
     cases vs with
     | cons z vs=>exact h.elim
     | nil=> ?_
     simp only[Na] at h⊢
     generalize c.argTypes.toList=ts at h⊢
     unfold Ej6 at h⊢
     split at h<;>try exact h.elim
     show Ej5 _ _ _ _ _;generalize P.underlying _=u at h⊢
     unfold Ej5 at h⊢
     split at h<;>try exact h.elim
     ·show E ⟨_,C.heap⟩;rw[hh];exact D _ _ h
     ·intro c hc;show E ⟨_,C.heap⟩;rw[hh];exact D _ _ (h c hc)
     ·intro c hc ac;show E ⟨_,C.heap⟩;rw[hh];exact D _ _ (h c hc ac)
    case clear=>
     cases vs with
     | nil=>exact h.elim
     | cons x vs=> ?_
     cases vs with
     | cons z vs=>exact h.elim
     | nil=> ?_
     simp only[Na] at h⊢
     generalize c.argTypes.toList=ts at h⊢
     unfold Ck5 at h⊢
     split at h<;>try exact h.elim
     show Bf7 _ _ _ _ _ _;generalize P.underlying _=u at h⊢
     unfold Bf7 at h⊢
     split at h<;>try exact h.elim
     generalize Bm _ _=zo at h⊢
     unfold Cb0 at h⊢
     split at h<;>try exact h.elim
     ·show E ⟨_,C.heap⟩;rw[hh];exact D _ _ h
     ·refine⟨h.1,h.2.1, ?_⟩;have h2:=h.2.2;rw[hh];generalize s.heap _=ob at h2⊢
      unfold Dn1 at h2⊢
      split at h2<;>try exact h2.elim
      refine⟨h2.1,h2.2.1,h2.2.2.1, ?_⟩;rw[hh];exact D _ _ h2.2.2.2
    case delete=>
     cases vs with
     | nil=>exact h.elim
     | cons x vs=> ?_
     cases vs with
     | nil=>exact h.elim
     | cons y vs=> ?_
     cases vs with
     | cons z vs=>exact h.elim
     | nil=> ?_
     simp only[Na] at h⊢
     generalize c.argTypes.toList=ts at h⊢
     unfold Bv0 at h⊢
     split at h<;>try exact h.elim
     show Ak6 _ _ _ _ _ _ _;generalize P.underlying _=u at h⊢
     unfold Ak6 at h⊢
     split at h<;>try exact h.elim
     refine⟨h.1, ?_⟩;have h2:=h.2;rw[hh];generalize s.heap _=ob at h2⊢
     unfold Bg1 at h2⊢
     split at h2<;>try exact h2.elim
     unfold Bg0 at h2⊢
     split at h2<;>try exact h2.elim
     rw[hh];exact D _ _ h2
    case append=>
     cases vs with
     | nil=>exact h.elim
     | cons x vs=> ?_
     cases vs with
     | nil=>exact h.elim
     | cons y vs=> ?_
     cases vs with
     | cons z vs=>exact h.elim
     | nil=> ?_
     simp only[Na] at h⊢
     generalize c.argTypes.toList=ts at h⊢
     unfold As0 at h⊢
     split at h<;>try exact h.elim
     show Ak4 _ _ _ _ _ _ _ _ _;generalize Pr _=it at h⊢
     cases it with
     | true=>
      simp only[Ak4] at h⊢
      generalize P.underlying _=u at h⊢
      unfold Ak3 at h⊢
      split at h<;>try exact h.elim
      generalize Bm _ _=zo at h⊢
      unfold Bf6 at h⊢
      split at h<;>try exact h.elim
      refine⟨h.1,h.2.1,fun hn=> ?_,fun hn=>⟨(h.2.2.2 hn).1,(h.2.2.2 hn).2.1,(h.2.2.2 hn).2.2.1,O (h.2.2.2 hn).2.2.2⟩⟩;have:=h.2.2.1 hn;show E ⟨_,C.heap⟩;rw[hh];exact D _ _ this
     | false=> ?_
     simp only[Ak4] at h⊢
     generalize Ar9 _=u' at h⊢
     generalize P.underlying _=u at h⊢
     unfold Bd5 at h⊢
     split at h<;>try exact h.elim
     obtain⟨U,V,W,X,g5,J⟩:=h;refine⟨U,V,W,X,g5, ?_⟩;rw[hh];generalize Yv _ _ _=sc at J⊢
     unfold Ck4 at J⊢
     split at J<;>try exact J.elim
     obtain⟨k1,k2,I⟩:=J;refine⟨k1,k2, ?_⟩;unfold Pq at I⊢
     split at I<;>try exact I.elim
     ·refine⟨fun hn=> ?_,fun hn=>⟨(I.2 hn).1,O (I.2 hn).2⟩⟩;have:=I.1 hn;show E ⟨_,C.heap⟩;rw[hh];exact D _ _ this
     ·refine⟨I.1, ?_⟩;have L:=I.2;rw[hh];generalize s.heap _=ob at L⊢
      unfold Sw at L⊢
      split at L<;>try exact L.elim
      obtain⟨m1,m2,Y⟩:=L;refine⟨m1,fun hl=>⟨(m2 hl).1, ?_⟩,fun hl=>⟨(Y hl).1,(Y hl).2.1,fun r' pre hr hp=> ?_⟩⟩
      ·rw[hh];exact D _ _ (m2 hl).2
      ·rw[hh] at hr⊢;exact D _ _ ((Y hl).2.2 r' pre hr hp)
    case panic=>
     cases vs with
     | nil=>exact h.elim
     | cons x xs=>cases xs with
      | nil=>exact panic h
      | cons y ys=>exact h.elim
end
inductive Plan where
 | done
 | take (i:Nat) (p:Plan)
 | go (i:Nat) (ls:List Nat) (p:Plan)
 | alt (p q:Plan)
 deriving Inhabited
def Hh:List Oper->Nat->Option Oper
 | [],_=>none
 | o::_,0=>some o
 | _::r,n+1=>Hh r n
def Al5 (P:Program) (G:Nat->DVal) (K:DK) (Q:DExit->DS->Prop) (dst:Option Nat) (op:Op) (s:DS):Bool->DVal->Prop
 | true, .bool true=>dop P G dst K Q s op
 | true, .bool false=>Bs dst Fa K s
 | false, .bool true=>Bs dst Fa K s
 | false, .bool false=>dop P G dst K Q s op
 | true, .tuple []=>Bs dst Fa K s
 | false, .tuple []=>Bs dst Fa K s
 | _,_=>False
def Al6 (P:Program) (G:Nat->DVal) (K:DK) (Q:DExit->DS->Prop) (dst:Option Nat) (op:Op) (s:DS) (b:Bool):Option Nat->Prop
 | some g=>Al5 P G K Q dst op s b (s.env g)
 | none=>False
def Ga1 (P:Program) (G:Nat->DVal) (all:List Oper) (K:DK) (Q:DExit->DS->Prop) (s:DS) (dst:Option Nat) (op:Op):Option (Nat×Bool)->Prop
 | none=>dop P G dst K Q s op
 | some (j,b)=>Al6 P G K Q dst op s b (Ug all j)
def dAt (P:Program) (G:Nat->DVal) (all:List Oper) (K:DK) (Q:DExit->DS->Prop) (s:DS):Option Oper->Prop
 | some o=>Ga1 P G all K Q s o.dst o.op o.guard
 | none=>False
def En2 (G:Nat->DVal) (s:DS) (H':Ac):Option Operand->Prop
 | some a=>Mu s.heap H' (dev G s.env a)
 | none=>True
def Al7:Option Oper->Option Operand
 | some o=>Cd8 o.op
 | none=>none
def En3 (G:Nat->DVal) (all:List Oper) (s:DS) (H':Ac):List Nat->Prop
 | []=>True
 | l::ls=>En2 G s H' (Al7 (Hh all l))/\En3 G all s H' ls
def En4 (G:Nat->DVal) (all:List Oper) (ls:List Nat) (s:DS) (K:DK):DK:=fun s'=>En3 G all s s'.heap ls/\K s'
def Rq (P:Program) (G:Nat->DVal) (all:List Oper) (Q:DExit->DS->Prop):Plan->DS->Prop
 | .done,s=>Q .normal s
 | .take i p,s=>dAt P G all (Rq P G all Q p) Q s (Hh all i)
 | .go i ls p,s=>dAt P G all (En4 G all ls s (Rq P G all Q p)) Q s (Hh all i)
 | .alt p q,s=>Rq P G all Q p s/\Rq P G all Q q s
def QP (Q:DExit->DS->Prop):DExit->DS->Prop
 | .panic v,s=> ∀env,Q (.panic v) ⟨env,s.heap⟩
 | .normal,s=>Q .normal s
 | _,_=>False
def Tv (all:List Oper) (k j:Nat):Bool:=
 match Hh all k with
 | some o=>o.after.any fun e=>Region.binds .any e&&e.on==j
 | none=>false
def Bh9 (all:List Oper) (j k:Nat):Bool:=
 match Hh all j,Hh all k with
 | some x,some y=>x.apart all.toArray y
 | _,_=>true
def Dc5 (all:List Oper) (i:Nat):Bool:=
 match Hh all i with
 | some o=>Ul o.op
 | none=>false
def At1 (all:List Oper) (k:Nat) (T:List Nat):Bool:=
 match Hh all k with
 | some o=>o.after.all fun e=>!Region.binds .any e || T.contains e.on
 | none=>false
def Ob (all:List Oper) (j:Nat):Option Nat:=(Hh all j).bind (·.dst)
def Tc:Plan->List Nat
 | .go i _ _=> [i]
 | .alt p q=>Tc p++Tc q
 | _=> []
def Bv7 (all:List Oper) (T:List Nat):Plan->Bool
 | .done=>true
 | .take _ _=>true
 | p=>(List.range all.length).all fun k=>T.contains k || (Tc p).contains k || !At1 all k T
def Co0 (all:List Oper) (T:List Nat) (l:Nat):Operand->Bool
 | .tmp t=>T.all fun m=>Ob all m !=some t || Tv all l m
 | _=>true
def En5 (all:List Oper) (k:Nat):List Nat:=
 match Hh all k with
 | some o=>(o.after.toList.filter fun e=>Region.binds .any e).map (·.on)
 | none=> []
def Bd8 (all:List Oper):Nat->List Nat->List Nat
 | 0,S=>S
 | k+1,S=>Bd8 all k (if S.contains k then En5 all k++S else S)
def Gp5 (all:List Oper) (i:Nat):List Nat:=Bd8 all (i+1) [i]
def Do2 (all:List Oper) (T:List Nat) (i:Nat) (ls:List Nat):Bool:=
 T.all fun l=>match Al7 (Hh all l) with
  | none=>true
  | some a=>Tv all i l || (l !=i&&(Gp5 all i).contains l) || (ls.contains l&&Co0 all T l a)
def Ki (all:List Oper):Plan->List Nat->Bool
 | .done,T=>(List.range all.length).all fun k=>T.contains k
 | .take i p,T=>decide (i<all.length)&&!T.contains i&&Dc5 all i&&At1 all i T&&
   ((List.range all.length).all fun k=>T.contains k || k==i || Tv all k i || Bh9 all i k)&&Bv7 all (i::T) p&&Ki all p (i::T)
 | .go i ls p,T=>decide (i<all.length)&&!T.contains i&&At1 all i T&&Do2 all T i ls&&Bv7 all (i::T) p&&Ki all p (i::T)
 | .alt p q,T=>Ki all p T&&Ki all q T
section
variable {P:Program} {G:Nat->DVal} {N:Nat} {all:List Oper} {Q:DExit->DS->Prop} {s0:DS} {w0:World}
theorem Sk: ∀(all:List Oper) (j:Nat),Hh all j=all[j]?
 | [],j=>by simp [Hh]
 | o::r,0=>by simp [Hh]
 | o::r,j+1=>by simp [Hh,Sk r j]
theorem Bi0 {o:Oper} {K:DK} {s:DS}:dAt P G all K Q s (some o)↔
  (Um all s.env o=some true/\dop P G o.dst K Q s o.op)\/(Um all s.env o=some false/\Bs o.dst Fa K s):=by
 simp only[dAt];unfold Ga1 Um;cases o.guard with
 | none=>simp
 | some h=>
  obtain⟨j,b⟩:=h;simp only;cases Ug all j with
  | none=>simp [Al6]
  | some g=>
   simp only[Al6];cases hv:s.env g<;>(try (cases b<;>simp [Al5];done))
   case bool v=>cases b<;>cases v<;>simp [Al5]
   case tuple vs=>cases vs<;>cases b<;>simp [Al5]
def Fh8 (P:Program) (G:Nat->DVal) (all:List Oper) (j:Nat) (s:DS) (d:DVal):Prop:=
 ∃o,Hh all j=some o/\Ul o.op=true/\
  ((Um all s.env o=some true/\ ∀K Q,Bs o.dst d K s->dop P G o.dst K Q s o.op)\/(Um all s.env o=some false/\d=Fa))
def Seq (P:Program) (G:Nat->DVal) (all:List Oper):DS->List Nat->DS->Prop
 | s,[],s'=>s'=s
 | s,j::js,s'=> ∃d,Fh8 P G all j s d/\Seq P G all ⟨Ho s.env (Ob all j) d,s.heap⟩ js s'
def looks (all:List Oper) (j:Nat):List Nat:=
 match Hh all j with
 | some o=>o.looksAt all.toArray
 | none=> []
theorem Bv8 {o:Oper} {env y:Nat->DVal} (h: ∀t∈o.looksAt all.toArray,y t=env t): ∀x∈o.op.operands,dev G y x=dev G env x:=by
 intro x hx;cases x with
 | tmp t=>
  refine h t ?_;unfold Oper.looksAt;refine List.mem_append_left _ (List.mem_filterMap.2 ⟨.tmp t,by simpa using hx,rfl⟩)
 | _=>rfl
theorem Al8 {o:Oper} {env y:Nat->DVal} (h: ∀t∈o.looksAt all.toArray,y t=env t):Um all y o=Um all env o:=by
 unfold Um;cases hg:o.guard with
 | none=>rfl
 | some C=>
  obtain⟨j,b⟩:=C;simp only;cases hj:Ug all j with
  | none=>rfl
  | some g=>
   simp only;rw[h g];unfold Oper.looksAt;refine List.mem_append_right _ ?_;rw[hg];rw[Al3] at hj;simp [hj]
theorem Fh8.agree {j:Nat} {s y:DS} {d:DVal} (h:Fh8 P G all j s d) (ha: ∀t∈looks all j,y.env t=s.env t)
  (hk: ∀o a,Hh all j=some o->Cd8 o.op=some a->Mu s.heap y.heap (dev G s.env a)):Fh8 P G all j y d:=by
 obtain⟨o,ho,he,h⟩:=h;have C: ∀t∈o.looksAt all.toArray,y.env t=s.env t:=by
  intro t ht;exact ha t (by unfold looks;rw[ho];exact ht)
 refine⟨o,ho,he, ?_⟩;rw[Al8 C];rcases h with⟨hw,h⟩ | h
 ·refine .inl ⟨hw,fun K' D hp=> ?_⟩;have h1:=h (fun s1=>s1=⟨Ho s.env o.dst d,s.heap⟩) D rfl;obtain⟨E,I,J⟩:=Ag3 o.op he h1;refine J D K' y (Bv8 (all:=all) C) ?_ ?_
  ·exact fun a hl=>hk o a ho hl
  ·unfold Bs at I hp⊢
   have he:Ho s.env o.dst E=Ho s.env o.dst d:=congrArg DS.env I;have:Ho y.env o.dst E=Ho y.env o.dst d:=by
    cases hdst:o.dst with
    | none=>rfl
    | some t=>
     rw[hdst] at he;have h2:=congrFun he t;simp [Ho,upd] at h2;rw[h2]
   rw[this];exact hp
 ·exact .inr h
theorem Al9 {env:Nat->DVal} {dst:Option Nat} {d:DVal} {t:Nat} (h:dst≠some t):Ho env dst d t=env t:=by
 cases dst with
 | none=>rfl
 | some k=>simp only[Ho,upd];rw[if_neg];intro e;exact h (by rw[e])
theorem Bv9 {env:Nat->DVal} {x y:Option Nat} {d e:DVal} (h: ∀t,x=some t->y≠some t):Ho (Ho env x d) y e=Ho (Ho env y e) x d:=by
 cases x with
 | none=>rfl
 | some i=>
  cases y with
  | none=>rfl
  | some k=>
   have C:k≠i:=fun hh=>h i rfl (by rw[hh]);funext t;simp only[Ho,upd];by_cases h1:t=k
   ·subst h1;rw[if_pos rfl,if_neg C,if_pos rfl]
   ·rw[if_neg h1];by_cases h2:t=i
    ·rw[if_pos h2,if_pos h2]
    ·rw[if_neg h2,if_neg h2,if_neg h1]
structure Apart (all:List Oper) (j k:Nat):Prop where
 a: ∀t,Ob all j=some t->t∉looks all k
 b: ∀t,Ob all j=some t->Ob all k≠some t
 c: ∀t,Ob all k=some t->t∉looks all j
theorem Ay6 {j k:Nat} {x y:Oper} (hx:Hh all j=some x) (C:Hh all k=some y) (h:Bh9 all j k=true):Apart all j k:=by
 unfold Bh9 at h;rw[hx,C] at h;obtain⟨h1,h2,h3⟩:=Oper.apart_spec h;refine⟨?_, ?_, ?_⟩<;>simp only[Ob,looks,hx,C,Option.bind_some]<;>assumption
theorem Seq.front: ∀ {A:List Nat} {k:Nat} {B:List Nat} {s y:DS},(∀j∈A,Apart all j k)->Seq P G all s (A++k::B) y->Seq P G all s (k::(A++B)) y
 | [],k,B,s,y,_,h=>h
 | j::A,k,B,s,y,hA,h=>by
  obtain⟨d,hd,h⟩:=h;obtain⟨dk,hk,h⟩:=Seq.front (fun i hi=>hA i (by simp [hi])) h;have C:=hA j (by simp);refine⟨dk,hk.agree (fun t ht=>(Al9 (fun e=>C.a t e ht)).symm) (fun _ _ _ _=>Jy),d,hd.agree (fun t ht=>Al9 (fun e=>C.c t e ht)) (fun _ _ _ _=>Jy), ?_⟩;show Seq P G all ⟨Ho (Ho s.env _ dk) _ d,s.heap⟩ (A++B) y;rw[Bv9 (fun t h1 h2=>C.b t h2 h1)];exact h
theorem Seq.heap: ∀ {js:List Nat} {s y:DS},Seq P G all s js y->y.heap=s.heap
 | [],s,y,h=>by cases h;rfl
 | j::js,s,y,⟨d,_,h⟩=>by have:=Seq.heap h;exact this
theorem Seq.env: ∀ {js:List Nat} {s y:DS},Seq P G all s js y-> ∀t,(∀j∈js,Ob all j≠some t)->y.env t=s.env t
 | [],s,y,h,t,_=>by cases h;rfl
 | j::js,s,y,⟨d,_,h⟩,t,ht=>by
  rw[Seq.env h t fun i hi=>ht i (by simp [hi])];exact Al9 (ht j (by simp))
theorem Seq.shift {k:Option Nat} {v:DVal} {h:Ac}: ∀ {js:List Nat} {s y:DS},Seq P G all s js y->
  (∀j∈js,∀t,k=some t->t∉looks all j)->(∀j∈js,∀t,Ob all j=some t->k≠some t)->
  (∀A j B,js=A++j::B-> ∀o a,Hh all j=some o->Cd8 o.op=some a->(∀t,a= .tmp t-> ∀m∈j::B,Ob all m≠some t)/\Mu s.heap h (dev G y.env a))->
  Seq P G all ⟨Ho s.env k v,h⟩ js ⟨Ho y.env k v,h⟩
 | [],s,y,hs,_,_,_=>by cases hs;rfl
 | j::js,s,y,⟨d,hd,hs⟩,h1,h2,h3=>by
  refine⟨d,hd.agree (fun t ht=>Al9 fun e=>h1 j (by simp) t e ht) (fun o a ho ha=> ?_), ?_⟩
  ·obtain⟨C,D⟩:=h3 [] j js rfl o a ho ha;have:dev G y.env a=dev G s.env a:=by
    cases a with
    | tmp t=>
     have:=Seq.env hs t fun i hi=>C t rfl i (by simp [hi]);simp only[dev];rw[this];exact Al9 (C t rfl j (by simp))
    | _=>rfl
   rw[<-this];exact D
  ·have E:=Seq.shift (k:=k) (v:=v) (h:=h) hs (fun i hi=>h1 i (by simp [hi])) (fun i hi=>h2 i (by simp [hi])) (fun A i B e=>h3 (j::A) i B (by rw[e];rfl));show Seq P G all ⟨Ho (Ho s.env k v) (Ob all j) d,h⟩ js _;rw[Bv9 fun t e1 I=>h2 j (by simp) t I e1];exact E
end
end Go.Dl
namespace Go.Dl
abbrev pL0:Plan:=.take 0 (.take 1 (.take 2 (.take 6 (.take 7 (.alt (.go 4 [7] (.alt (.go 8 [] (.alt (.go 10 [7] (.go 3 [7] (.go 5 [7] (.go 9 [] (.go 11 [] (.go 12 [] .done)))))) (.go 3 [7] (.alt (.go 10 [7] (.go 5 [7] (.go 9 [] (.go 11 [] (.go 12 [] .done))))) (.go 5 [7] (.alt (.go 10 [7] (.go 9 [] (.go 11 [] (.go 12 [] .done)))) (.go 9 [] (.go 10 [7] (.go 11 [] (.go 12 [] .done)))))))))) (.alt (.go 10 [7] (.alt (.go 8 [] (.go 3 [7] (.go 5 [7] (.go 9 [] (.go 11 [] (.go 12 [] .done)))))) (.go 3 [7] (.alt (.go 8 [] (.go 5 [7] (.go 9 [] (.go 11 [] (.go 12 [] .done))))) (.go 5 [7] (.go 8 [] (.go 9 [] (.go 11 [] (.go 12 [] .done))))))))) (.go 3 [7] (.alt (.go 8 [] (.alt (.go 10 [7] (.go 5 [7] (.go 9 [] (.go 11 [] (.go 12 [] .done))))) (.go 5 [7] (.alt (.go 10 [7] (.go 9 [] (.go 11 [] (.go 12 [] .done)))) (.go 9 [] (.go 10 [7] (.go 11 [] (.go 12 [] .done)))))))) (.alt (.go 10 [7] (.alt (.go 8 [] (.go 5 [7] (.go 9 [] (.go 11 [] (.go 12 [] .done))))) (.go 5 [7] (.go 8 [] (.go 9 [] (.go 11 [] (.go 12 [] .done))))))) (.go 5 [7] (.alt (.go 10 [7] (.go 8 [] (.go 9 [] (.go 11 [] (.go 12 [] .done))))) (.go 8 [] (.alt (.go 10 [7] (.go 9 [] (.go 11 [] (.go 12 [] .done)))) (.go 9 [] (.go 10 [7] (.go 11 [] (.go 12 [] .done)))))))))))))) (.alt (.go 8 [] (.alt (.go 4 [7] (.alt (.go 10 [7] (.go 3 [7] (.go 5 [7] (.go 9 [] (.go 11 [] (.go 12 [] .done)))))) (.go 3 [7] (.alt (.go 10 [7] (.go 5 [7] (.go 9 [] (.go 11 [] (.go 12 [] .done))))) (.go 5 [7] (.alt (.go 10 [7] (.go 9 [] (.go 11 [] (.go 12 [] .done)))) (.go 9 [] (.go 10 [7] (.go 11 [] (.go 12 [] .done)))))))))) (.alt (.go 10 [7] (.alt (.go 4 [7] (.go 3 [7] (.go 5 [7] (.go 9 [] (.go 11 [] (.go 12 [] .done)))))) (.go 3 [7] (.go 4 [7] (.go 5 [7] (.go 9 [] (.go 11 [] (.go 12 [] .done)))))))) (.go 3 [7] (.alt (.go 10 [7] (.go 4 [7] (.go 5 [7] (.go 9 [] (.go 11 [] (.go 12 [] .done)))))) (.go 4 [7] (.alt (.go 10 [7] (.go 5 [7] (.go 9 [] (.go 11 [] (.go 12 [] .done))))) (.go 5 [7] (.alt (.go 10 [7] (.go 9 [] (.go 11 [] (.go 12 [] .done)))) (.go 9 [] (.go 10 [7] (.go 11 [] (.go 12 [] .done))))))))))))) (.alt (.go 10 [7] (.alt (.go 4 [7] (.alt (.go 8 [] (.go 3 [7] (.go 5 [7] (.go 9 [] (.go 11 [] (.go 12 [] .done)))))) (.go 3 [7] (.alt (.go 8 [] (.go 5 [7] (.go 9 [] (.go 11 [] (.go 12 [] .done))))) (.go 5 [7] (.go 8 [] (.go 9 [] (.go 11 [] (.go 12 [] .done))))))))) (.alt (.go 8 [] (.alt (.go 4 [7] (.go 3 [7] (.go 5 [7] (.go 9 [] (.go 11 [] (.go 12 [] .done)))))) (.go 3 [7] (.go 4 [7] (.go 5 [7] (.go 9 [] (.go 11 [] (.go 12 [] .done)))))))) (.go 3 [7] (.alt (.go 8 [] (.go 4 [7] (.go 5 [7] (.go 9 [] (.go 11 [] (.go 12 [] .done)))))) (.go 4 [7] (.alt (.go 8 [] (.go 5 [7] (.go 9 [] (.go 11 [] (.go 12 [] .done))))) (.go 5 [7] (.go 8 [] (.go 9 [] (.go 11 [] (.go 12 [] .done)))))))))))) (.go 3 [7] (.alt (.go 8 [] (.alt (.go 10 [7] (.go 4 [7] (.go 5 [7] (.go 9 [] (.go 11 [] (.go 12 [] .done)))))) (.go 4 [7] (.alt (.go 10 [7] (.go 5 [7] (.go 9 [] (.go 11 [] (.go 12 [] .done))))) (.go 5 [7] (.alt (.go 10 [7] (.go 9 [] (.go 11 [] (.go 12 [] .done)))) (.go 9 [] (.go 10 [7] (.go 11 [] (.go 12 [] .done)))))))))) (.alt (.go 10 [7] (.alt (.go 8 [] (.go 4 [7] (.go 5 [7] (.go 9 [] (.go 11 [] (.go 12 [] .done)))))) (.go 4 [7] (.alt (.go 8 [] (.go 5 [7] (.go 9 [] (.go 11 [] (.go 12 [] .done))))) (.go 5 [7] (.go 8 [] (.go 9 [] (.go 11 [] (.go 12 [] .done))))))))) (.go 4 [7] (.alt (.go 8 [] (.alt (.go 10 [7] (.go 5 [7] (.go 9 [] (.go 11 [] (.go 12 [] .done))))) (.go 5 [7] (.alt (.go 10 [7] (.go 9 [] (.go 11 [] (.go 12 [] .done)))) (.go 9 [] (.go 10 [7] (.go 11 [] (.go 12 [] .done)))))))) (.alt (.go 10 [7] (.alt (.go 8 [] (.go 5 [7] (.go 9 [] (.go 11 [] (.go 12 [] .done))))) (.go 5 [7] (.go 8 [] (.go 9 [] (.go 11 [] (.go 12 [] .done))))))) (.go 5 [7] (.alt (.go 10 [7] (.go 8 [] (.go 9 [] (.go 11 [] (.go 12 [] .done))))) (.go 8 [] (.alt (.go 10 [7] (.go 9 [] (.go 11 [] (.go 12 [] .done)))) (.go 9 [] (.go 10 [7] (.go 11 [] (.go 12 [] .done)))))))))))))))))))))
abbrev pL1:Plan:=.take 0 (.take 1 (.take 2 (.take 6 (.take 7 (.take 8 (.take 11 (.take 12 (.take 14 (.take 15 (.alt (.go 4 [15,12,8,2] (.alt (.go 9 [15,12,2] (.go 3 [15,12,8] (.go 5 [15,12,8] (.go 10 [15,12] (.go 13 [15] (.go 16 [] .done)))))) (.go 3 [15,12,8] (.alt (.go 9 [15,12,2] (.go 5 [15,12,8] (.go 10 [15,12] (.go 13 [15] (.go 16 [] .done))))) (.go 5 [15,12,8] (.go 9 [15,12,2] (.go 10 [15,12] (.go 13 [15] (.go 16 [] .done))))))))) (.alt (.go 9 [15,12,2] (.alt (.go 4 [15,12,8,2] (.go 3 [15,12,8] (.go 5 [15,12,8] (.go 10 [15,12] (.go 13 [15] (.go 16 [] .done)))))) (.go 3 [15,12,8] (.go 4 [15,12,8,2] (.go 5 [15,12,8] (.go 10 [15,12] (.go 13 [15] (.go 16 [] .done)))))))) (.go 3 [15,12,8] (.alt (.go 9 [15,12,2] (.go 4 [15,12,8,2] (.go 5 [15,12,8] (.go 10 [15,12] (.go 13 [15] (.go 16 [] .done)))))) (.go 4 [15,12,8,2] (.alt (.go 9 [15,12,2] (.go 5 [15,12,8] (.go 10 [15,12] (.go 13 [15] (.go 16 [] .done))))) (.go 5 [15,12,8] (.go 9 [15,12,2] (.go 10 [15,12] (.go 13 [15] (.go 16 [] .done))))))))))))))))))))
abbrev pL2:Plan:=.take 0 (.take 1 (.take 3 (.take 4 (.take 8 (.take 9 (.take 11 (.take 12 (.alt (.go 6 [12,9,4] (.alt (.go 14 [12,9,4] (.go 2 [12,9,4] (.go 5 [12,9] (.go 7 [12,9] (.go 10 [12] (.go 13 [] (.go 15 [] (.go 16 [] .done)))))))) (.go 2 [12,9,4] (.alt (.go 14 [12,9,4] (.go 5 [12,9] (.go 7 [12,9] (.go 10 [12] (.go 13 [] (.go 15 [] (.go 16 [] .done))))))) (.go 5 [12,9] (.alt (.go 14 [12,9,4] (.go 7 [12,9] (.go 10 [12] (.go 13 [] (.go 15 [] (.go 16 [] .done)))))) (.go 7 [12,9] (.alt (.go 14 [12,9,4] (.go 10 [12] (.go 13 [] (.go 15 [] (.go 16 [] .done))))) (.go 10 [12] (.alt (.go 14 [12,9,4] (.go 13 [] (.go 15 [] (.go 16 [] .done)))) (.go 13 [] (.go 14 [12,9,4] (.go 15 [] (.go 16 [] .done)))))))))))))) (.alt (.go 14 [12,9,4] (.alt (.go 6 [12,9,4] (.go 2 [12,9,4] (.go 5 [12,9] (.go 7 [12,9] (.go 10 [12] (.go 13 [] (.go 15 [] (.go 16 [] .done)))))))) (.go 2 [12,9,4] (.alt (.go 6 [12,9,4] (.go 5 [12,9] (.go 7 [12,9] (.go 10 [12] (.go 13 [] (.go 15 [] (.go 16 [] .done))))))) (.go 5 [12,9] (.go 6 [12,9,4] (.go 7 [12,9] (.go 10 [12] (.go 13 [] (.go 15 [] (.go 16 [] .done))))))))))) (.go 2 [12,9,4] (.alt (.go 6 [12,9,4] (.alt (.go 14 [12,9,4] (.go 5 [12,9] (.go 7 [12,9] (.go 10 [12] (.go 13 [] (.go 15 [] (.go 16 [] .done))))))) (.go 5 [12,9] (.alt (.go 14 [12,9,4] (.go 7 [12,9] (.go 10 [12] (.go 13 [] (.go 15 [] (.go 16 [] .done)))))) (.go 7 [12,9] (.alt (.go 14 [12,9,4] (.go 10 [12] (.go 13 [] (.go 15 [] (.go 16 [] .done))))) (.go 10 [12] (.alt (.go 14 [12,9,4] (.go 13 [] (.go 15 [] (.go 16 [] .done)))) (.go 13 [] (.go 14 [12,9,4] (.go 15 [] (.go 16 [] .done)))))))))))) (.alt (.go 14 [12,9,4] (.alt (.go 6 [12,9,4] (.go 5 [12,9] (.go 7 [12,9] (.go 10 [12] (.go 13 [] (.go 15 [] (.go 16 [] .done))))))) (.go 5 [12,9] (.go 6 [12,9,4] (.go 7 [12,9] (.go 10 [12] (.go 13 [] (.go 15 [] (.go 16 [] .done))))))))) (.go 5 [12,9] (.alt (.go 14 [12,9,4] (.go 6 [12,9,4] (.go 7 [12,9] (.go 10 [12] (.go 13 [] (.go 15 [] (.go 16 [] .done))))))) (.go 6 [12,9,4] (.alt (.go 14 [12,9,4] (.go 7 [12,9] (.go 10 [12] (.go 13 [] (.go 15 [] (.go 16 [] .done)))))) (.go 7 [12,9] (.alt (.go 14 [12,9,4] (.go 10 [12] (.go 13 [] (.go 15 [] (.go 16 [] .done))))) (.go 10 [12] (.alt (.go 14 [12,9,4] (.go 13 [] (.go 15 [] (.go 16 [] .done)))) (.go 13 [] (.go 14 [12,9,4] (.go 15 [] (.go 16 [] .done))))))))))))))))))))))))
abbrev pL3:Plan:=.take 0 (.take 1 (.take 2 (.take 3 (.take 4 (.take 5 (.take 6 (.take 7 (.take 8 (.take 9 (.take 10 (.take 11 (.take 12 (.take 13 (.take 14 (.take 15 (.take 16 (.take 17 (.take 18 (.take 19 (.take 20 .done))))))))))))))))))))
abbrev pL4:Plan:=.take 0 (.take 1 (.take 2 (.take 3 (.go 4 [3] (.go 5 [] .done)))))
abbrev pL5:Plan:=.take 0 (.take 1 (.take 2 (.take 3 (.take 4 (.take 5 (.go 6 [4] (.go 7 [] (.take 8 (.take 9 (.go 10 [] .done))))))))))
abbrev pL6:Plan:=.take 0 (.take 1 (.take 2 (.take 3 (.take 4 (.go 5 [4] (.go 6 [] (.go 7 [] .done)))))))
abbrev pL7:Plan:=.take 0 (.take 1 (.take 2 (.take 3 (.take 4 (.take 5 (.go 6 [] (.go 7 [] .done)))))))
abbrev pL8:Plan:=.take 0 (.take 2 (.take 3 (.go 1 [3] (.take 4 (.take 5 (.go 6 [] .done))))))
abbrev pL9:Plan:=.take 0 (.take 3 (.take 4 (.alt (.go 6 [4] (.go 1 [4] (.go 2 [4] (.go 5 [] (.go 7 [] .done))))) (.go 1 [4] (.alt (.go 6 [4] (.go 2 [4] (.go 5 [] (.go 7 [] .done)))) (.go 2 [4] (.alt (.go 6 [4] (.go 5 [] (.go 7 [] .done))) (.go 5 [] (.go 6 [4] (.go 7 [] .done))))))))))
abbrev pL10:Plan:=.take 0 (.take 1 (.take 2 (.take 3 (.take 4 (.take 5 (.take 6 (.take 7 (.take 8 (.take 9 (.take 10 (.take 11 (.take 12 (.take 13 (.alt (.go 15 [11,7] (.go 14 [] (.go 16 [] (.take 17 .done)))) (.go 14 [] (.go 15 [11,7] (.go 16 [] (.take 17 .done))))))))))))))))))
abbrev pL11:Plan:=.take 0 (.take 1 (.take 2 (.take 3 (.take 4 (.take 5 (.take 6 (.take 7 (.take 8 (.take 9 (.take 10 (.take 11 (.go 12 [] .done))))))))))))
abbrev pL12:Plan:=.take 0 (.take 1 (.take 2 (.take 3 (.take 4 (.take 5 (.take 6 (.take 7 (.take 8 (.take 9 (.take 10 (.take 11 .done)))))))))))
abbrev pL13:Plan:=.take 0 (.take 1 (.take 2 (.take 3 (.take 4 (.take 5 (.take 6 (.take 7 (.take 8 (.go 9 [] .done)))))))))
abbrev pL14:Plan:=.take 0 (.take 1 (.take 2 (.take 3 (.take 4 (.take 5 (.take 6 (.take 7 (.take 8 (.take 9 .done)))))))))
abbrev pL15:Plan:=.take 0 (.take 1 (.take 2 (.take 3 (.take 4 (.take 5 (.take 6 (.take 7 (.take 8 .done))))))))
abbrev pL16:Plan:=.take 0 (.take 3 (.take 4 (.take 5 (.take 6 (.go 1 [6,4] (.go 2 [6,4] (.go 7 [] .done)))))))
abbrev pL17:Plan:=.take 0 (.take 1 (.take 2 (.go 3 [1] (.go 4 [1] (.go 5 [] (.take 6 (.go 7 [] .done)))))))
abbrev pL18:Plan:=.take 0 (.take 3 (.take 4 (.go 1 [4] (.go 2 [4] (.go 5 [] .done)))))
abbrev pL19:Plan:=.take 0 (.take 1 (.take 2 (.go 3 [1] (.go 4 [] (.go 5 [] .done)))))
end Go.Dl
-- THE DATA LEVEL, PART 2: what a plan ends
namespace Go.Dl
open Go
section
variable {P:Program} {G:Nat->DVal} {N:Fr} {all:List Oper} {Q:DExit->DS->Prop} {s0:DS} {w0:World}
theorem Bi1 {F:Fence} {n:Nat} (C:FOk F) {k:Nat} {o:Oper} {c:DS} {a:Act} {w:World} {K:DK} (J:all.all (Ll N)=true) (hk:Hh all k=some o) (D:Sim G N c a w) (I:Ext s0.heap w0 c.heap w)
  (h:dAt P G all K Q c (some o)):wpOpIn F n P all.toArray (Ro G N Q s0 w0) k (Ik G N K c w) a w:=by
 have W:all.toArray[k]? =some o:=by rw[Sk] at hk;simpa using hk
 have hok:Ll N o=true:=by
  rw[Sk] at hk;exact List.all_eq_true.1 J o (List.mem_of_getElem? hk)
 unfold wpOpIn;simp only[W];have skip:Bs o.dst Fa K c->Ik G N K c w (a.put o.dst undef) w:=fun hp=>
  ⟨⟨Ho c.env o.dst Fa,c.heap⟩,hp,D.put (Pt hok) (Wp w c.heap),Ext.refl _ _⟩
 simp only[dAt] at h;unfold Ga1 at h;cases hg:o.guard with
 | none=>
  rw[hg] at h;rw[if_pos (by simp [Region.wanted,hg])];exact Uk C hok D I h
 | some X=>
  obtain⟨j,b⟩:=X;rw[hg] at h;simp only at h;cases hj:Ug all j with
  | none=>rw[hj] at h;exact h.elim
  | some g=>
   rw[hj] at h;simp only[Al6] at h;have L:(all[j]?).bind (·.dst)=some g:=by rw[<-Al3];exact hj
   obtain⟨M,O,S⟩:=Option.bind_eq_some_iff.1 L;have Y:M∈all:=List.mem_of_getElem? O;have Z:g<N:=by
    have:=List.all_eq_true.1 J M Y;have:=Pt this;rw[S] at this;simpa [Da] using this
   have y:=D.tmps g Z;have hy: ∀v,c.env g= .bool v->yielded all.toArray a.tmps j=some v:=by
    intro v hv;rw[hv] at y;simp only[Rel] at y;have h1:a.tmps[g]? =some (.bool v):=by
     rw[Array.getD_eq_getD_getElem?] at y;cases hq:a.tmps[g]? with
     | none=>
      have:=D.size;rw[Array.getElem?_eq_none_iff] at hq;omega
     | some z=>rw[hq] at y;simpa using y
    simp [yielded,O,S,h1]
   by_cases U:c.env g= .tuple []
   ·rw[U] at h y;simp only[Rel,Az] at y;obtain⟨xs,V,ab⟩:=y;have aa:yielded all.toArray a.tmps j=none:=by
     have h2: ∀z,a.tmps[g]? =some z->z= .tuple xs:=fun z hz=>by
      rw[Array.getD_eq_getD_getElem?,hz] at V;simpa using V
     unfold yielded;simp only[List.getElem?_toArray,L,Option.bind_some];cases hz:a.tmps[g]? with
     | none=>rfl
     | some z=>rw[h2 z hz]
    rw[if_neg (by simp [Region.wanted,hg,aa])];exact⟨fun f _=>C.fn f,skip (by cases b<;>exact h)⟩
   cases hv:c.env g<;>rw[hv] at h<;>(try (cases b<;>exact h.elim))
   case tuple vs=>cases vs with
    | nil=>exact absurd hv U
    | cons _ _=>cases b<;>exact h.elim
   rename_i v
   have E:=hy v hv;cases b<;>cases v<;>simp only[Al5] at h
   ·rw[if_pos (by simp [Region.wanted,hg,E])];exact Uk C hok D I h
   ·rw[if_neg (by simp [Region.wanted,hg,E])];exact⟨fun f _=>C.fn f,skip h⟩
   ·rw[if_neg (by simp [Region.wanted,hg,E])];exact⟨fun f _=>C.fn f,skip h⟩
   ·rw[if_pos (by simp [Region.wanted,hg,E])];exact Uk C hok D I h
structure Inv (P:Program) (G:Nat->DVal) (N:Fr) (all:List Oper) (Q:DExit->DS->Prop) (s0:DS) (w0:World)
  (T js:List Nat) (p:Plan) (c s:DS) (a:Act) (w:World) (listed:Array Bool):Prop where
 sim:Sim G N c a w
 ext:Ext s0.heap w0 c.heap w
 seq:Seq P G all c js s
 plan:Rq P G all Q p s
 ok:Ki all p T=true
 cov:Bv7 all T p=true
 size:listed.size=all.length
 iff: ∀i,i<all.length->(listed.getD i true=true↔i∈T/\i∉js)
 sub: ∀i∈js,i∈T/\i<all.length
 tlt: ∀i∈T,i<all.length
 nodup:js.Nodup
 eager: ∀j∈js,Dc5 all j=true
 pair:js.Pairwise fun j k=>(Tv all k j=true\/Bh9 all j k=true)/\Tv all j k=false
 out: ∀j∈js,∀k,k<all.length->k∉T->Tv all k j=true\/Bh9 all j k=true
 deps: ∀j∈js,∀e,Tv all j e=true->e∈T/\e≠j
 clo: ∀k,k<all.length->listed.getD k true=true-> ∀e,Tv all k e=true->listed.getD e false=true
theorem Vr {i:Nat} (h:i<all.length): ∃o,Hh all i=some o:=by
 rw[Sk];exact⟨all[i],by simp [h]⟩
theorem Dc6 {k e:Nat} (h:e∈En5 all k):Tv all k e=true:=by
 unfold En5 at h;unfold Tv;split at h
 ·rename_i o ho
  simp only[List.mem_map,List.mem_filter,Array.mem_toList_iff] at h;obtain⟨x,⟨hx,hb⟩,rfl⟩:=h;exact Array.any_eq_true'.2 ⟨x,hx,by simp [hb]⟩
 ·cases h
theorem Am0 {listed:Array Bool} {i:Nat} (hs:listed.size=all.length) (hi: ∀e,Tv all i e=true->listed.getD e false=true)
  (y: ∀k,k<all.length->listed.getD k true=true-> ∀e,Tv all k e=true->listed.getD e false=true): ∀(n:Nat) (S:List Nat),(∀m∈S,m=i\/listed.getD m false=true)-> ∀m∈Bd8 all n S,m=i\/listed.getD m false=true
 | 0,S,h=>h
 | k+1,S,h=>by
  rw[Bd8];refine Am0 hs hi y k _ ?_;split
  ·rename_i hk
   intro m hm;rcases List.mem_append.1 hm with hm | hm
   ·have hd:=Dc6 hm;rcases h k (List.contains_iff_mem.1 hk) with rfl | hl
    ·exact .inr (hi m hd)
    ·have C:k<listed.size:=by
      rcases Nat.lt_or_ge k listed.size with h' | h'
      ·exact h'
      ·simp [Array.getElem?_eq_none h'] at hl
     refine .inr (y k (by rw[<-hs];exact C) ?_ m hd);simpa [C] using hl
   ·exact h m hm
  ·exact h
theorem Un {k:Nat} {T:List Nat} (hk:k<all.length):At1 all k T=true↔ ∀e,Tv all k e=true->e∈T:=by
 obtain⟨o,ho⟩:=Vr hk;unfold At1 Tv;rw[ho];simp only[Array.all_eq_true_iff_forall_mem,Bool.or_eq_true,Bool.not_eq_true',List.contains_iff_mem];constructor
 ·intro h e he;obtain⟨x,hx,hb⟩:=Array.any_eq_true'.1 he;simp only[jF,beq_iff_eq] at hb;rcases h x hx with h1 | h1
  ·rw[hb.1] at h1;cases h1
  ·rw[<-hb.2];exact h1
 ·intro h x hx;by_cases hb:Region.binds .any x=true
  ·exact .inr (h x.on (Array.any_eq_true'.2 ⟨x,hx,by simp [hb]⟩))
  ·exact .inl (by simpa using hb)
theorem Wx {listed:Array Bool} {k:Nat} (hs:listed.size=all.length):k∈Region.ready .any all.toArray listed↔
  k<all.length/\listed.getD k true=false/\ ∀e,Tv all k e=true->listed.getD e false=true:=by
 rw[mem_ready];constructor
 ·rintro⟨h0,o,ho,h⟩;have C:all[k]? =some o:=by simpa using ho
  have y:k<all.length:=(List.getElem?_eq_some_iff.1 C).1;refine⟨y,h0,fun e he=> ?_⟩;unfold Tv at he;rw[Sk,C] at he;obtain⟨x,hx,hb⟩:=Array.any_eq_true'.1 he;simp only[jF,beq_iff_eq] at hb;rw[<-hb.2];exact h x hx hb.1
 ·rintro⟨y,h0,h⟩;refine⟨h0,all[k],by simp [y],fun x hx hb=>h x.on ?_⟩;unfold Tv;rw[Sk,List.getElem?_eq_getElem y];exact Array.any_eq_true'.2 ⟨x,hx,by simp [hb]⟩
theorem Yb {listed:Array Bool} {e:Nat} (h:e<listed.size):listed.getD e false=listed.getD e true:=by
 simp [h]
theorem Inv.advance {T js:List Nat} {i:Nat} {p:Plan} {c s:DS} {a:Act} {w:World} {listed:Array Bool} (h:Inv P G N all Q s0 w0 T js (.take i p) c s a w listed):
    ∃s',Inv P G N all Q s0 w0 (i::T) (js++ [i]) p c s' a w listed:=by
  have hok:=h.ok
  simp only[Ki,jF,decide_eq_true_eq,Bool.not_eq_true',List.all_eq_true,List.mem_range,Bool.or_eq_true,List.contains_iff_mem,beq_iff_eq] at hok
  obtain⟨⟨⟨⟨⟨⟨hi,J⟩,he⟩,hd⟩,ha⟩,hc⟩,hp⟩:=hok
  have C:i∉T:=by intro hm;rw[List.contains_iff_mem.2 hm] at J;cases J
  rw[Un hi] at hd
  obtain⟨o,ho⟩:=Vr hi
  have hpl:=h.plan
  simp only[Rq,ho] at hpl
  have E:Ul o.op=true:=by unfold Dc5 at he;rw[ho] at he;exact he
  have hst: ∃d,Fh8 P G all i s d/\Rq P G all Q p ⟨Ho s.env (Ob all i) d,s.heap⟩:=by
    have hdst:Ob all i=o.dst:=by simp [Ob,ho]
    rw[hdst]
    rcases Bi0.1 hpl with⟨hw,M⟩ | ⟨hw,O⟩
    · obtain⟨d,S,U⟩:=Ag3 o.op E M
      exact⟨d,⟨o,ho,E, .inl ⟨hw,fun K Q V=>U Q K s (fun _ _=>rfl) (fun _ _=>Jy) V⟩⟩,S⟩
    · exact⟨Fa,⟨o,ho,E, .inr ⟨hw,rfl⟩⟩,O⟩
  obtain⟨d,W,X⟩:=hst
  have Y: ∀(js:List Nat) (c:DS),Seq P G all c js s->Seq P G all c (js++ [i]) ⟨Ho s.env (Ob all i) d,s.heap⟩:=by
    intro js
    induction js with
    | nil=>intro c hc;cases hc;exact⟨d,W,rfl⟩
    | cons j js ih=>intro c hc;obtain⟨Z,h1,h2⟩:=hc;exact⟨Z,h1,ih _ h2⟩
  refine⟨⟨Ho s.env (Ob all i) d,s.heap⟩, ?_⟩
  exact {
    sim:=h.sim,ext:=h.ext,seq:=Y js c h.seq,plan:=X,ok:=hp,cov:=hc,size:=h.size
    iff:=fun k hk=>by
      rw[h.iff k hk]
      simp only[List.mem_cons,List.mem_append,List.not_mem_nil,or_false,not_or]
      constructor
      · rintro⟨h1,h2⟩
        exact⟨.inr h1,h2,fun e=>C (e▸h1)⟩
      · rintro⟨h1,h2,h3⟩
        exact⟨h1.resolve_left h3,h2⟩
    sub:=fun k hk=>by
      simp only[List.mem_append,List.mem_cons,List.not_mem_nil,or_false] at hk⊢
      rcases hk with hk | rfl
      · exact⟨.inr (h.sub k hk).1,(h.sub k hk).2⟩
      · exact⟨.inl rfl,hi⟩
    tlt:=fun k hk=>by
      simp only[List.mem_cons] at hk
      rcases hk with rfl | hk
      · exact hi
      · exact h.tlt k hk
    nodup:=by
      rw[List.nodup_append]
      refine⟨h.nodup,by simp, ?_⟩
      intro x hx y L e
      simp only[List.mem_cons,List.not_mem_nil,or_false] at L
      subst L;subst e
      exact C (h.sub x hx).1
    eager:=fun k hk=>by
      simp only[List.mem_append,List.mem_cons,List.not_mem_nil,or_false] at hk
      rcases hk with hk | rfl
      · exact h.eager k hk
      · exact he
    pair:=by
      rw[List.pairwise_append]
      refine⟨h.pair,by simp, ?_⟩
      intro j hj k hk
      simp only[List.mem_cons,List.not_mem_nil,or_false] at hk
      subst hk
      refine⟨h.out j hj k hi C, ?_⟩
      cases hdep:Tv all j k with
      | false=>rfl
      | true=>exact(C (h.deps j hj k hdep).1).elim
    out:=fun j hj k hk D=>by
      simp only[List.mem_append,List.mem_cons,List.not_mem_nil,or_false,not_or] at hj D
      rcases hj with hj | rfl
      · exact h.out j hj k hk D.2
      · rcases ha k hk with((h1 | h1) | h1) | h1
        · exact(D.2 h1).elim
        · exact(D.1 h1).elim
        · exact .inl h1
        · exact .inr h1
    deps:=fun j hj e I=>by
      simp only[List.mem_append,List.mem_cons,List.not_mem_nil,or_false] at hj⊢
      rcases hj with hj | rfl
      · exact⟨.inr (h.deps j hj e I).1,(h.deps j hj e I).2⟩
      · have:=hd e I
        exact⟨.inr this,fun hh=>C (hh▸this)⟩
    clo:=h.clo }
def Do3:Plan->Prop
 | .take _ _=>False
 | _=>True
theorem Inv.normal: ∀ {p:Plan} {T js:List Nat} {c s:DS} {a:Act} {w:World} {listed:Array Bool},Inv P G N all Q s0 w0 T js p c s a w listed->
  ∃T' js' p' s',Inv P G N all Q s0 w0 T' js' p' c s' a w listed/\Do3 p'
 | .take i p,T,js,c,s,a,w,listed,h=>by
  obtain⟨s',h'⟩:=h.advance;exact h'.normal
 | .done,T,js,c,s,a,w,listed,h=>⟨T,js,_,s,h,trivial⟩
 | .go i ls p,T,js,c,s,a,w,listed,h=>⟨T,js,_,s,h,trivial⟩
 | .alt p q,T,js,c,s,a,w,listed,h=>⟨T,js,_,s,h,trivial⟩
theorem At2: ∀(p:Plan) (T:List Nat) (s:DS),Ki all p T=true->Rq P G all Q p s->
  ((∀i,i<all.length->i∈T)/\Q .normal s)\/ ∃i,i<all.length/\i∉T/\ ∀e,Tv all i e=true->e∈T
 | .done,T,s,hok,h=>by
  simp only[Ki,List.all_eq_true,List.mem_range,List.contains_iff_mem] at hok;exact .inl ⟨hok,h⟩
 | .take i p,T,s,hok,h=>by
  simp only[Ki,jF,decide_eq_true_eq,Bool.not_eq_true'] at hok;obtain⟨⟨⟨⟨⟨⟨hi,y⟩,he⟩,hd⟩,_⟩,_⟩,_⟩:=hok;exact .inr ⟨i,hi,(fun hm=>by rw[List.contains_iff_mem.2 hm] at y;cases y),(Un hi).1 hd⟩
 | .go i ls p,T,s,hok,h=>by
  simp only[Ki,jF,decide_eq_true_eq,Bool.not_eq_true'] at hok;obtain⟨⟨⟨⟨⟨hi,y⟩,hd⟩,_⟩,_⟩,_⟩:=hok;exact .inr ⟨i,hi,(fun hm=>by rw[List.contains_iff_mem.2 hm] at y;cases y),(Un hi).1 hd⟩
 | .alt p q,T,s,hok,h=>by
  simp only[Ki,jF] at hok;exact At2 p T s hok.1 h.1
theorem Ag4: ∀(p:Plan) (T:List Nat) (s:DS) (k:Nat),Ki all p T=true->Rq P G all Q p s->k∈Tc p->
  ∃ls p',Ki all (.go k ls p') T=true/\Rq P G all Q (.go k ls p') s
 | .done,T,s,k,_,_,hk=>by simp [Tc] at hk
 | .take i p,T,s,k,_,_,hk=>by simp [Tc] at hk
 | .go i ls p,T,s,k,hok,h,hk=>by
  simp only[Tc,List.mem_cons,List.not_mem_nil,or_false] at hk;subst hk;exact⟨ls,p,hok,h⟩
 | .alt p q,T,s,k,hok,h,hk=>by
  simp only[Ki,jF] at hok;simp only[Tc,List.mem_append] at hk;rcases hk with hk | hk
  ·exact Ag4 p T s k hok.1 h.1 hk
  ·exact Ag4 q T s k hok.2 h.2 hk
theorem Dc7 {p:Plan} {T:List Nat} (y:Bv7 all T p=true) (C:Ki all p T=true) (I:Do3 p) {k:Nat} (hk:k<all.length) (D:k∉T) (J: ∀e,Tv all k e=true->e∈T):k∈Tc p:=by
 have E:((List.range all.length).all fun k=>T.contains k || (Tc p).contains k || !At1 all k T)=true->k∈Tc p:=by
  intro h;simp only[List.all_eq_true,List.mem_range,Bool.or_eq_true,List.contains_iff_mem,Bool.not_eq_true'] at h;rcases h k hk with(h1 | h1) | h1
  ·exact(D h1).elim
  ·exact h1
  ·rw[(Un hk).2 J] at h1;cases h1
 cases p with
 | done=>
  simp only[Ki,List.all_eq_true,List.mem_range,List.contains_iff_mem] at C;exact(D (C k hk)).elim
 | take i p=>exact I.elim
 | go i ls p=>exact E y
 | alt p q=>exact E y
theorem Bw0 {s:DS} {H':Ac}: ∀ {ls:List Nat},En3 G all s H' ls-> ∀l∈ls,En2 G s H' (Al7 (Hh all l))
 | [],_,l,hl=>by simp at hl
 | x::ls,h,l,hl=>by
  simp only[List.mem_cons] at hl;rcases hl with rfl | hl
  ·exact h.1
  ·exact Bw0 h.2 l hl
theorem Inv.sound {F:Fence} {n:Nat} (hF:FOk F) (aj:all.all (Ll N)=true) (hQ: ∀v env env' h,Q (.panic v) ⟨env,h⟩->Q (.panic v) ⟨env',h⟩): ∀(Fm:Nat) (U T js:List Nat) (p:Plan) (c s:DS) (a:Act) (w:World) (listed:Array Bool),
    Inv P G N all Q s0 w0 T js p c s a w listed->U.length<=Fm->(∀i,i<all.length->listed.getD i true=false->i∈U)->
    wpAnyIn F n P .any all.toArray (Ro G N Q s0 w0) Fm listed a w:=by
  intro Fm
  induction Fm with
  | zero=>
    intro U T js p c s a w listed h hU I
    have a8:U= []:=List.eq_nil_of_length_eq_zero (Nat.le_zero.1 hU)
    subst a8
    have W: ∀i,i<all.length->listed.getD i true=true:=by
      intro i hi
      cases hl:listed.getD i true with
      | true=>rfl
      | false=>exact absurd (I i hi hl) (by simp)
    have X:js= []:=by
      cases js with
      | nil=>rfl
      | cons j js=>
        have hs:=h.sub j (by simp)
        exact absurd (by simp) ((h.iff j hs.2).1 (W j hs.2)).2
    subst X
    have hsc:=h.seq
    simp only[Seq] at hsc
    refine⟨?_, ?_⟩
    · rw[List.eq_nil_iff_forall_not_mem]
      intro k hk
      rw[Wx h.size] at hk
      rw[W k hk.1] at hk
      cases hk.2.1
    · rcases At2 p T s h.ok h.plan with⟨_,hq⟩ | ⟨i,hi,Y,_⟩
      · subst hsc;exact⟨.normal,s,hq, .normal,h.sim,h.ext⟩
      · exact absurd ((h.iff i hi).1 (W i hi)).1 Y
  | succ Fm ih=>
    intro U T js p c s a w listed h0 hU I
    obtain⟨T,js,p,s,h,a9⟩:=h0.normal
    have ak: ∀e,listed.getD e false=true->e∈T/\e∉js:=by
      intro e he
      have J:e<listed.size:=by
        rcases Nat.lt_or_ge e listed.size with h' | h'
        · exact h'
        · simp [Array.getElem?_eq_none h'] at he
      have:=he
      rw[Yb J] at this
      exact(h.iff e (by rw[<-h.size];exact J)).1 this
    refine⟨fun hr=> ?_,fun k hk=> ?_⟩
    · -- nothing may come up: all have
      have al: ∀k,k∉Region.ready .any all.toArray listed:=by rw[hr];simp
      have am: ∀e,e∈T->e∉js->e<all.length->listed.getD e false=true:=by
        intro e h1 h2 h3
        rw[Yb (by rw[h.size];exact h3)]
        exact(h.iff e h3).2 ⟨h1,h2⟩
      have ao: ∀i,i<all.length-> ¬(i∈T/\i∉js)->listed.getD i true=false:=by
        intro i hi hn
        cases hl:listed.getD i true with
        | false=>rfl
        | true=>exact(hn ((h.iff i hi).1 hl)).elim
      have X:js= []:=by
        cases js with
        | nil=>rfl
        | cons j js=>
          refine(al j ((Wx h.size).2 ⟨(h.sub j (by simp)).2,ao j (h.sub j (by simp)).2 (fun hh=>hh.2 (by simp)),fun e he=> ?_⟩)).elim
          obtain⟨D,E⟩:=h.deps j (by simp) e he
          refine am e D (fun hm=> ?_) (h.tlt e D)
          simp only[List.mem_cons] at hm
          rcases hm with hm | hm
          · exact E hm
          · have:=((List.pairwise_cons.1 h.pair).1 e hm).2
            rw[he] at this;cases this
      subst X
      have hsc:=h.seq
      simp only[Seq] at hsc
      rcases At2 p T s h.ok h.plan with⟨_,hq⟩ | ⟨i,hi,Y,hd⟩
      · subst hsc;exact⟨.normal,s,hq, .normal,h.sim,h.ext⟩
      · exact(al i ((Wx h.size).2 ⟨hi,ao i hi (fun hh=>Y hh.1),fun e he=>am e (hd e he) (by simp) (h.tlt e (hd e he))⟩)).elim
    · rw[Wx h.size] at hk
      obtain⟨C,ap,hdep⟩:=hk
      obtain⟨o,ho⟩:=Vr C
      have L: ∀e,Tv all k e=true->e∈T/\e∉js:=fun e he=>ak e (hdep e he)
      have ba:k∈U:=I k C ap
      have aq:(U.erase k).length<=Fm:=by
        rw[List.length_erase_of_mem ba];omega
      have M: ∀i,i≠k->(listed.setIfInBounds k true).getD i true=listed.getD i true:=fun i hi=>getD_set_ne true (Ne.symm hi)
      have Z:(listed.setIfInBounds k true).getD k true=true:=by
        have:k<listed.size:=by rw[h.size];exact C
        simp [this]
      have ar: ∀e,listed.getD e false=true->(listed.setIfInBounds k true).getD e false=true:=by
        intro e he
        have J:e<listed.size:=by
          rcases Nat.lt_or_ge e listed.size with h' | h'
          · exact h'
          · simp [Array.getElem?_eq_none h'] at he
        by_cases au:e=k
        · subst au
          simp [J]
        · rw[getD_set_ne false (Ne.symm au)];exact he
      have av: ∀i,i<all.length->(listed.setIfInBounds k true).getD i true=true-> ∀e,Tv all i e=true->(listed.setIfInBounds k true).getD e false=true:=by
        intro i hi hl e he
        by_cases y:i=k
        · subst y;exact ar e (hdep e he)
        · rw[M i y] at hl
          exact ar e (h.clo i hi hl e he)
      have aw: ∀i,i<all.length->(listed.setIfInBounds k true).getD i true=false->i∈U.erase k:=by
        intro i hi hl
        by_cases y:i=k
        · subst y;rw[Z] at hl;cases hl
        · rw[M i y] at hl
          exact(List.mem_erase_of_ne y).2 (I i hi hl)
      by_cases aa:k∈js
      · -- it was taken before
        obtain⟨A,B,rfl⟩:=List.append_of_mem aa
        have bb:=List.pairwise_append.1 h.pair
        have bc:=h.nodup
        rw[List.nodup_append] at bc
        have bd: ∀j∈A,Apart all j k:=by
          intro j hj
          have be:=(h.sub j (by simp [hj])).2
          obtain⟨x,hx⟩:=Vr be
          rcases(bb.2.2 j hj k (by simp)).1 with hd | ha
          · exact absurd (by simp [hj]) (L j hd).2
          · exact Ay6 hx ho ha
        obtain⟨d,ab,ax⟩:=Seq.front bd h.seq
        obtain⟨o',ay,bo,ab⟩:=ab
        rw[ho] at ay;cases ay
        have hdst:Ob all k=o.dst:=by simp [Ob,ho]
        have ac:dAt P G all (fun s1=>s1=⟨Ho c.env o.dst d,c.heap⟩) Q c (some o):=by
          rw[Bi0]
          rcases ab with⟨hw,hv⟩ | ⟨hw,rfl⟩
          · exact .inl ⟨hw,hv _ _ rfl⟩
          · exact .inr ⟨hw,rfl⟩
        refine wpOpIn_mono ?_ (Bi1 hF aj ho h.sim h.ext ac)
        rintro a' w' ⟨s1,rfl,ad,ae⟩
        refine ih (U.erase k) T (A++B) p ⟨Ho c.env o.dst d,c.heap⟩ s a' w' _ ?_ aq aw
        have O: ∀i,i∈A++B->i∈A++k::B:=fun i hi=>by
          simp only[List.mem_append,List.mem_cons] at hi⊢
          rcases hi with hi | hi
          · exact .inl hi
          · exact .inr (.inr hi)
        have a0:(A++B).Sublist (A++k::B):=List.Sublist.append (List.Sublist.refl A) (List.sublist_cons_self k B)
        have bf:k∉A++B:=by
          intro hm
          have:=h.nodup
          rw[(List.perm_middle (a:=k) (l₁:=A) (l₂:=B)).nodup_iff] at this
          exact(List.nodup_cons.1 this).1 hm
        exact {
          sim:=ad,ext:=h.ext.trans ae,seq:=by rw[hdst] at ax;exact ax,plan:=h.plan,ok:=h.ok,cov:=h.cov
          size:=by simp [h.size]
          iff:=fun i hi=>by
            by_cases y:i=k
            · subst y
              rw[Z]
              exact⟨fun _=>⟨(h.sub i (by simp)).1,bf⟩,fun _=>rfl⟩
            · rw[M i y,h.iff i hi]
              simp only[List.mem_append,List.mem_cons,not_or]
              constructor
              · rintro⟨D,E,g3⟩;exact⟨D,E,g3.2⟩
              · rintro⟨D,E,g3⟩;exact⟨D,E,y,g3⟩
          sub:=fun i hi=>h.sub i (O i hi)
          tlt:=h.tlt
          nodup:=h.nodup.sublist a0
          eager:=fun i hi=>h.eager i (O i hi)
          pair:=h.pair.sublist a0
          out:=fun i hi=>h.out i (O i hi)
          deps:=fun i hi=>h.deps i (O i hi)
          clo:=av }
      · -- it is the plan's next
        have a1:k∉T:=by
          intro hm
          have:=(h.iff k C).2 ⟨hm,aa⟩
          rw[ap] at this;cases this
        have hf:=Dc7 h.cov h.ok a9 C a1 fun e he=>(L e he).1
        obtain⟨ls,p',hok,hpl⟩:=Ag4 p T s k h.ok h.plan hf
        simp only[Ki,jF,decide_eq_true_eq,Bool.not_eq_true'] at hok
        obtain⟨⟨⟨⟨⟨_,_⟩,hd⟩,af⟩,bg⟩,bh⟩:=hok
        simp only[Rq,ho] at hpl
        have ag: ∀j∈js,Apart all j k:=by
          intro j hj
          obtain⟨x,hx⟩:=Vr (h.sub j hj).2
          rcases h.out j hj k C a1 with hd | ha
          · exact absurd hj (L j hd).2
          · exact Ay6 hx ho ha
        have hdst:Ob all k=o.dst:=by simp [Ob,ho]
        have bi:looks all k=o.looksAt all.toArray:=by simp [looks,ho]
        have agree: ∀t∈o.looksAt all.toArray,c.env t=s.env t:=by
          intro t ht
          refine(Seq.env h.seq t fun j hj e=> ?_).symm
          exact(ag j hj).a t e (by rw[bi];exact ht)
        have shift: ∀d H',En4 G all ls s (Rq P G all Q p') ⟨Ho s.env o.dst d,H'⟩->
            (∃s1,Rq P G all Q p' s1/\Seq P G all ⟨Ho c.env o.dst d,H'⟩ js s1):=by
          intro d H' S
          refine⟨_,S.2,Seq.shift h.seq (fun j hj t e=> ?_) (fun j hj t e e2=> ?_) ?_⟩
          · exact(ag j hj).c t (by rw[hdst];exact e)
          · exact(ag j hj).b t e (by rw[hdst];exact e2)
          · intro A j B e oj a a2 a3
            have ah:j∈js:=by rw[e];simp
            have bj:=(h.sub j ah).1
            unfold Do2 at af
            rw[List.all_eq_true] at af
            have hl:=af j bj
            simp only[Al7,a2,a3,Bool.or_eq_true,jF,List.contains_iff_mem,bne_iff_ne] at hl
            rcases hl with(hl | ⟨ai,V⟩) | ⟨ai,V⟩
            · exact absurd ah (L j hl).2
            · rcases Am0 h.size hdep h.clo (k+1) [k] (fun m hm=> .inl (by simpa using hm)) j V with hh | hh
              · exact absurd hh ai
              · exact absurd ah (ak j hh).2
            · refine⟨fun t ht m hm bk=> ?_, ?_⟩
              · subst ht
                simp only[Co0,List.all_eq_true,Bool.or_eq_true,bne_iff_ne] at V
                have a4:m∈js:=by rw[e];exact List.mem_append_right _ hm
                rcases V m (h.sub m a4).1 with g | g
                · exact g bk
                · simp only[List.mem_cons] at hm
                  rcases hm with rfl | hm
                  · exact(h.deps m a4 m g).2 rfl
                  · have hp:=h.pair
                    rw[e,List.pairwise_append] at hp
                    have:=(List.pairwise_cons.1 hp.2.1).1 m hm
                    rw[g] at this
                    cases this.2
              · have a5:=Bw0 S.1 j ai
                simp only[Al7,a2,a3,En2] at a5
                rw[<-Seq.heap h.seq]
                exact a5
        have ac:dAt P G all (fun c1=> ∃s1,Rq P G all Q p' s1/\Seq P G all c1 js s1) Q c (some o):=by
          rw[Bi0] at hpl⊢
          rw[Al8 agree]
          have a6:=Seq.heap h.seq
          rcases hpl with⟨hw,bl⟩ | ⟨hw,a7⟩
          · refine .inl ⟨hw,Dy7 o.op (Bv8 (all:=all) agree) a6.symm (fun d H' S=>shift d H' S) (fun v H' hq=>hQ v _ _ H' hq) bl⟩
          · refine .inr ⟨hw, ?_⟩
            unfold Bs at a7⊢
            rw[<-a6]
            exact shift _ _ a7
        refine wpOpIn_mono ?_ (Bi1 hF aj ho h.sim h.ext ac)
        rintro a' w' ⟨c1,⟨s1,hp1,bm⟩,ad,ae⟩
        refine ih (U.erase k) (k::T) js p' c1 s1 a' w' _ ?_ aq aw
        exact {
          sim:=ad,ext:=h.ext.trans ae,seq:=bm,plan:=hp1,ok:=bh,cov:=bg
          size:=by simp [h.size]
          iff:=fun i hi=>by
            by_cases y:i=k
            · subst y
              rw[Z]
              exact⟨fun _=>⟨by simp,aa⟩,fun _=>rfl⟩
            · rw[M i y,h.iff i hi]
              simp [y]
          sub:=fun i hi=>⟨by simp [(h.sub i hi).1],(h.sub i hi).2⟩
          tlt:=fun i hi=>by
            simp only[List.mem_cons] at hi
            rcases hi with rfl | hi
            · exact C
            · exact h.tlt i hi
          nodup:=h.nodup
          eager:=h.eager
          pair:=h.pair
          out:=fun i hi m hm bn=>h.out i hi m hm (fun hh=>bn (by simp [hh]))
          deps:=fun i hi e he=>⟨by simp [(h.deps i hi e he).1],(h.deps i hi e he).2⟩
          clo:=av }
theorem Fh9 {id:Nat} {y:Array Oper} {s:DS} (hm:P.follows .mixedOrders=true) (p:Plan)
    (hp:(y.toList.all (Ll N)&&Bv7 y.toList [] p&&Ki y.toList p [])=true) (h:Rq P G y.toList (QP Q) p s):DWp P G N (.region id y true) Q s:=by
  intro F n B C a w hS
  simp only[jF] at hp
  obtain⟨⟨D,hc⟩,hok⟩:=hp
  have hE:Ext s.heap w s.heap { w with drawn:=w.drawn+1 }:=⟨rfl,rfl,rfl,Nat.le_refl _,fun _ _ _=>rfl,fun _ h=> .inl h,fun _ _=>rfl,fun _ _ _=>rfl⟩
  have E:Bj { w with drawn:=w.drawn+1 } s.heap:=fun r o hr=>(hS.heap r o hr).lasts hE.lasts
  have I:Sim G ⟨N.n,B⟩ s a { w with drawn:=w.drawn+1 }:=hS.ext hE E
  have key:=Inv.sound (n:=n) C (P:=P) (G:=G) (N:=⟨N.n,B⟩) (all:=y.toList) (Q:=QP Q) (s0:=s) (w0:=w) D
    (fun v env env' h hq J=>hq J) y.toList.length (List.range y.toList.length) [] [] p s s a { w with drawn:=w.drawn+1 } (Array.replicate y.size false)
    { sim:=I,ext:=hE,seq:=rfl,plan:=h,ok:=hok,cov:=hc,size:=by simp
      iff:=fun i hi=>by
        have:i<y.size:=by simpa using hi
        simp [this]
      sub:=by simp
      tlt:=by simp
      nodup:=by simp
      eager:=by simp
      pair:=by simp
      out:=by simp
      deps:=by simp
      clo:=fun k hk hl=>by
        have:k<y.size:=by simpa using hk
        simp [this] at hl } (by simp) (fun i hi _=>by simpa using hi)
  have e1:y.toList.toArray=y:=by simp
  have L:y.toList.length=y.size:=by simp
  rw[e1,L] at key
  refine wpIn_mono (wpIn_region_any hm key) ?_
  rintro e a' w' ⟨e',s',hq,hx,M,O⟩
  refine⟨e',s', ?_,hx,M,O⟩
  cases hx with
  | normal=>exact hq
  | panic d v hv=>exact hq s'.env
  | exit=>exact hq.elim
  | goto=>exact hq.elim
  | ret=>exact hq.elim
end
attribute [go_sem] Hh.eq_1 Hh.eq_2 Hh.eq_3 Al5.eq_1 Al5.eq_2 Al5.eq_3 Al5.eq_4 Al5.eq_5 Al5.eq_6 Al6.eq_1 Ga1.eq_1 Ga1.eq_2 dAt.eq_1 Mu.eq_1 Mu.eq_2 En2.eq_1 En2.eq_2 Al7.eq_1 Cd8.eq_1 Cd8.eq_2 Cd8.eq_3 En3.eq_1 En3.eq_2 Rq.eq_1 Rq.eq_2 Rq.eq_3 Rq.eq_4 QP.eq_1 QP.eq_2 En4
section
variable (v:DVal) (H H':Ac)
@[go_sem] theorem Fv9 (cs:List DVal) (o:Nat):Mu H H' (.vptr cs o)=True:=rfl
@[go_sem] theorem Ff3 (cs:List DVal) (o:Nat):Mu H H' (.vslice cs o)=True:=rfl
@[go_sem] theorem Ga2 (k:IntKind) (n:Int):Mu H H' (.int k n)=True:=rfl
@[go_sem] theorem Fw0 (b:Bool):Mu H H' (.bool b)=True:=rfl
@[go_sem] theorem Ej3:Mu H H' .nilSlice=True:=rfl
@[go_sem] theorem Ga3 (s:List UInt8):Mu H H' (.str s)=True:=rfl
end
end Go.Dl
-- THE DATA LEVEL, PART 5: loops over itera
namespace Go.Dl
open Go Go.RowKit
section
variable {P:Program} {G:Nat->DVal} {N:Nat} {w w':World} {Q:DExit->DS->Prop}
theorem Nc {α:Type} {f:Nat->Option α} {l:Nat} (h:f l=none) (x:Option α):upd (upd f l x) l none=f:=by
 funext i;simp only[upd];split
 ·rename_i e;subst e;exact h.symm
 ·rfl
end
def Co1 (Hi X:Ac):Ac:=fun r=>match X r with
 | some o=>some o
 | none=>Hi r
def Gk6 (Hi X:Ac):Prop:= ∀r,X r≠none->Hi r=none
def h0:Ac:=fun _=>none
theorem Do4 (h:Ac):Co1 h h0=h:=rfl
theorem Do5 {y X:Ac} {r:Nat} (h:X r=none):Co1 y X r=y r:=by simp [Co1,h]
theorem Ga4 {y X:Ac} {r:Nat} {o:DObj} (h:X r=some o):Co1 y X r=some o:=by simp [Co1,h]
theorem Av {H:Ac} {r h:Nat} {o:DObj}:upd H r (some o) h=none↔h≠r/\r≠h/\H h=none:=by
 unfold upd;by_cases e:h=r
 ·simp [e]
 ·simp [e,Ne.symm e,eq_comm]
section
end
mutual
/-- The value, with block r (its cells: cs) seen as memory that lasts. -/
def fz (r:Nat) (cs:List DVal):DVal->DVal
 | .optr r' off=>if r'=r then .vptr cs off else .optr r' off
 | .oslice sz r' off len lo=>if r'=r then .vslice ((cs.drop off).take (len*sz)) len else .oslice sz r' off len lo
 | .func fn a c=> .func fn (fzs r cs a) (fzs r cs c)
 | .iface t v=> .iface t (fz r cs v)
 | .agg l=> .agg (fzs r cs l)
 | .tuple l=> .tuple (fzs r cs l)
 | .vptr l off=> .vptr (fzs r cs l) off
 | .vslice l n=> .vslice (fzs r cs l) n
 | d=>d
def fzs (r:Nat) (cs:List DVal):List DVal->List DVal
 | []=> []
 | d::ds=>fz r cs d::fzs r cs ds
end
section
variable {P:Program} {G:Nat->DVal} {w:World} {H:Ac}
theorem Di (H:Ac) (r:Nat) (w:World):Lasts H w (upd H r none) w:=
 ⟨fun b i x hb hc=>⟨by simp only[upd];split;rfl;exact hb,hc⟩,Nat.le_refl _,fun _ _=>rfl⟩
theorem Zh (h:Bj w H) {r:Nat} {cs:List DVal} {e:TypeId} (hr:H r=some (.cells cs e)): ∃xs,Az w (upd H r none) cs xs/\Ud w (upd H r none) r 0 xs:=by
 obtain⟨xs,hl,hh⟩:=h.holds hr;exact⟨xs,hl.lasts (Di H r w), .inr ⟨by simp [upd],fun i x hx=>by simpa using hh i x hx⟩⟩
theorem Ud.part {b off:Nat} {xs:List Value} (h:Ud w H b off xs) (m n:Nat):Ud w H b (off+m) ((xs.drop m).take n):=by
 rcases h with rfl | ⟨h1,h2⟩
 ·exact .inl (by simp)
 ·refine .inr ⟨h1,fun i x hx=> ?_⟩;have:xs[m+i]? =some x:=by
   rw[List.getElem?_take] at hx;split at hx
   ·simpa using hx
   ·cases hx
  have:=h2 _ x this
  rwa [<-Nat.add_assoc] at this
mutual
theorem Dc8 (C:Bj w H) {r:Nat} {cs:List DVal} {e:TypeId} (hr:H r=some (.cells cs e)): ∀(d:DVal) (v:Value),Rel w H d v->Rel w (upd H r none) (fz r cs d) v
 | .optr r' off,v,h=>by
  simp only[fz]
  split
  ·rename_i e';subst e'
   simp only[Rel] at h⊢
   obtain⟨xs,hl,hc⟩:=Zh C hr
   exact⟨r',0,xs,by simpa using h,hc,hl⟩
  ·simpa [Rel] using h
 | .oslice sz r' off len lo,v,h=>by
  simp only[fz]
  split
  ·rename_i e';subst e'
   simp only[Rel] at h⊢
   obtain⟨o,cap,rfl,h1,h2,h3,h4⟩:=h
   obtain⟨xs,hl,hc⟩:=Zh C hr
   refine⟨_,cap,rfl,h2, ?_⟩
   by_cases h0:cap=0
   ·have:len=0:=by omega
    subst this;left;simp
   ·have ho:o=off:=h3.resolve_left h0
    subst ho
    right
    refine⟨r',o,(xs.drop o).take (len*sz),rfl, ?_,(hl.drop o).take _⟩
    have:=hc.part o (len*sz)
    simpa using this
  ·exact Rel.lasts (Di H r w) _ _ h
 | .func fn a c,v,h=>by
  simp only[Rel,fz] at h⊢
  obtain⟨xs,ys,rfl,h1,h2⟩:=h
  exact⟨xs,ys,rfl,Wy C hr _ _ h1,Wy C hr _ _ h2⟩
 | .iface t d,v,h=>by
  simp only[Rel,fz] at h⊢
  obtain⟨x,rfl,h1⟩:=h
  exact⟨x,rfl,Dc8 C hr _ _ h1⟩
 | .agg l,v,h=>by
  simp only[Rel,fz] at h⊢
  obtain⟨x,rfl,h1⟩:=h
  exact⟨x,rfl,Wy C hr _ _ h1⟩
 | .tuple l,v,h=>by
  simp only[Rel,fz] at h⊢
  obtain⟨x,rfl,h1⟩:=h
  exact⟨x,rfl,Wy C hr _ _ h1⟩
 | .raw x,v,h=>by simp only[fz];exact Rel.lasts (Di H r w) _ _ h
 | .bool x,v,h=>by simp only[fz];exact Rel.lasts (Di H r w) _ _ h
 | .int x y,v,h=>by simp only[fz];exact Rel.lasts (Di H r w) _ _ h
 | .str x,v,h=>by simp only[fz];exact Rel.lasts (Di H r w) _ _ h
 | .nilPtr,v,h=>by simp only[fz];exact Rel.lasts (Di H r w) _ _ h
 | .vptr l off,v,h=>by
  simp only[Rel,fz] at h⊢
  obtain⟨b,o,xs,rfl,h1,h2⟩:=h
  exact⟨b,o,xs,rfl,h1.lasts (Di H r w),Wy C hr _ _ h2⟩
 | .nilSlice,v,h=>by simp only[fz];exact Rel.lasts (Di H r w) _ _ h
 | .vslice l n,v,h=>by
  simp only[Rel,fz] at h⊢
  obtain⟨a,cap,rfl,hle,h1⟩:=h
  refine⟨a,cap,rfl,hle, ?_⟩
  rcases h1 with h1 | ⟨b,o,xs,rfl,h1,h2⟩
  ·subst h1;exact .inl rfl
  ·exact .inr ⟨b,o,xs,rfl,h1.lasts (Di H r w),Wy C hr _ _ h2⟩
 | .nilMap,v,h=>by simp only[fz];exact Rel.lasts (Di H r w) _ _ h
 | .omap x,v,h=>by simp only[fz];exact Rel.lasts (Di H r w) _ _ h
 | .nilFunc,v,h=>by simp only[fz];exact Rel.lasts (Di H r w) _ _ h
 | .nilIface,v,h=>by simp only[fz];exact Rel.lasts (Di H r w) _ _ h
theorem Wy (D:Bj w H) {r:Nat} {cs:List DVal} {e:TypeId} (hr:H r=some (.cells cs e)): ∀(C:List DVal) (vs:List Value),Az w H C vs->Az w (upd H r none) (fzs r cs C) vs
 | [],vs,h=>by simpa [fzs,Az] using h
 | d::C,vs,h=>by
  simp only[fzs,Az] at h⊢
  obtain⟨y,ys,rfl,h1,h2⟩:=h
  exact⟨y,ys,rfl,Dc8 D hr _ _ h1,Wy D hr _ _ h2⟩
end
def Ln (H:Ac) (v:DVal) (H':Ac) (v':DVal):Prop:= ∀w,Bj w H->Bj w H'/\(∀b,H' b≠none->H b≠none)/\ ∀x,Rel w H v x->Rel w H' v' x
theorem Ln.trans {H H' y:Ac} {v C D:DVal} (h:Ln H v H' C) (k:Ln H' C y D):Ln H v y D:=fun w hw=>by
 obtain⟨h1,h2,h3⟩:=h w hw;obtain⟨k1,E,I⟩:=k w h1;exact⟨k1,fun b hb=>h2 b (E b hb),fun x hx=>I x (h3 x hx)⟩
theorem Ln.fz {H:Ac} {v:DVal} {r:Nat} {cs:List DVal} {e:TypeId} (hr:H r=some (.cells cs e)):Ln H v (upd H r none) (fz r cs v):=fun w hw=>
 ⟨hw.letGo r,fun b hb=>by simp only[upd] at hb;split at hb<;>simp_all,fun x hx=>Dc8 hw hr _ _ hx⟩
theorem Ln.drop (H:Ac) (v:DVal) (r:Nat):Ln H v (upd H r none) v:=fun w hw=>
 ⟨hw.letGo r,fun b hb=>by simp only[upd] at hb;split at hb<;>simp_all,fun x hx=>Rel.lasts (Di H r w) _ _ hx⟩
theorem Es.ghost {R:DEnd->Ac->Prop} {v y:DVal} {H H':Ac} (g:Ln H v H' y) (h:Es R y H'):Es R v H:=by
 obtain⟨C,H2,k,D⟩:=h;exact⟨C,H2,g.trans k,D⟩
theorem Es.fz {R:DEnd->Ac->Prop} {v:DVal} {H:Ac} (r:Nat) {cs:List DVal} {e:TypeId} (hr:H r=some (.cells cs e)) (h:Es R (fz r cs v) (upd H r none)):Es R v H:= .ghost (.fz hr) h
theorem Es.drop {R:DEnd->Ac->Prop} {v:DVal} {H:Ac} (r:Nat) (h:Es R v (upd H r none)):Es R v H:= .ghost (.drop H v r) h
theorem Af.ghost {f:FuncId} {args:List DVal} {H:Ac} {R C:DEnd->Ac->Prop} (h:Af P G f args H R) (hr: ∀e H',R e H'-> ∃v v' H'',e= .ret v/\Ln H' v H'' v'/\C (.ret v') H''):Af P G f args H C:=by
 refine⟨h.1,fun vs w hv D hG=>(h.2 vs w hv D hG).mono fun e w' ⟨e',H',r,k1,E,y⟩=> ?_⟩;obtain⟨v,v',H'',rfl,g,r'⟩:=hr _ _ r;obtain⟨I,J,L⟩:=g w' E;cases k1 with
 | ret d x hx=>exact⟨.ret v',H'',r', .ret _ _ (L x hx),I,y.os,y.tape,y.output,y.size,y.block,fun b hb=>y.own b (J b hb),y.keep,y.fz⟩
theorem Af.pre {f:FuncId} {args args':List DVal} {H H':Ac} {R:DEnd->Ac->Prop} (g:Ln H (.tuple args) H' (.tuple args')) (h:Af P G f args' H' R):Af P G f args H R:=by
 refine⟨h.1,fun vs w hv D hG=> ?_⟩;obtain⟨E,C,I⟩:=g w D;have hl:Lasts H w H' w:=⟨fun b i x hb hc=>⟨by
  cases e:H' b with
  | none=>rfl
  | some o=>exact absurd hb (C b (by simp [e])),hc⟩,Nat.le_refl _,fun _ _=>rfl⟩
 have J:Az w H' args' vs:=by
  have:=I (.tuple vs.toArray) (by simp only[Rel];exact⟨_,rfl,hv⟩);simp only[Rel] at this;obtain⟨xs,h1,h2⟩:=this;cases h1;exact h2
 refine(h.2 vs w J E (hG.lasts hl)).mono fun e w' ⟨e',L,r,k1,M,y⟩=>⟨e',L,r,k1,M,y.os,y.tape,y.output,y.size,fun b hb hn=>y.block b hb (by
  cases e:H' b with
  | none=>rfl
  | some o=>exact absurd hn (C b (by simp [e]))),fun b hb=> ?_,y.keep,fun a ha hn=>y.fz a ha (by
  cases e:H' a.block with
  | none=>rfl
  | some o=>exact absurd hn (C a.block (by simp [e])))⟩
 rcases y.own b hb with k | k
 ·exact .inl (C b k)
 ·exact .inr k
theorem Af.fzArgs {f:FuncId} {args:List DVal} {H:Ac} {R:DEnd->Ac->Prop} (r:Nat) {cs:List DVal} {e:TypeId} (hr:H r=some (.cells cs e)) (h:Af P G f (fzs r cs args) (upd H r none) R):Af P G f args H R:=
 .pre (by have:=Ln.fz (v:= .tuple args) hr;simpa only[fz] using this) h
def En6:DVal->Bool
 | .bool _ | .int _ _ | .str _ | .nilPtr | .nilSlice | .nilMap | .nilFunc | .nilIface=>true
 | .tuple l=>plains l
 | .agg l=>plains l
 | _=>false
where plains:List DVal->Bool
 | []=>true
 | d::ds=>En6 d&&plains ds
end
attribute [go_sem] fz.eq_1 fz.eq_2 fz.eq_3 fz.eq_4 fz.eq_5 fz.eq_6 fzs.eq_1 fzs.eq_2 Do4
theorem Fy {α:Type} (f:Nat->α) (r:Nat) (a b:α):upd (upd f r a) r b=upd f r b:=by
 funext i;simp only[upd];split<;>rfl
theorem Zi {α:Type} {y C:Nat} (h:y≠C) (f:Nat->α) (a b:α):upd (upd f C b) y a=upd (upd f y a) C b:=by
 funext i;simp only[upd];by_cases e1:i=y<;>by_cases D:i=C<;>simp_all
theorem Co2 (xs h:List DVal):Cn xs 0 h=h++xs.drop h.length:=by simp [Cn]
theorem Co3 (x:DVal) (xs h:List DVal) (n:Nat):Cn (x::xs) (n+1) h=x::Cn xs n h:=by
 simp [Cn,Nat.add_right_comm]
attribute [go_sem] Fy Co2 Co3
theorem Af.fzA {P:Program} {G:Nat->DVal} {f:FuncId} {args:List DVal} {H:Ac} {R:DEnd->Ac->Prop} (r:Nat) {cs:List DVal} {e:TypeId} (hr:H r=none) (h:Af P G f (fzs r cs args) H R):Af P G f args (upd H r (some (.cells cs e))) R:=
 Af.fzArgs r (Aa _ _ _) (by rw[Nc hr];exact h)
theorem Es.fzA {R:DEnd->Ac->Prop} {v:DVal} {H:Ac} (r:Nat) {cs:List DVal} {e:TypeId} (hr:H r=none) (h:Es R (Dl.fz r cs v) H):Es R v (upd H r (some (.cells cs e))):=
 Es.fz r (Aa _ _ _) (by rw[Nc hr];exact h)
theorem Es.dropA {R:DEnd->Ac->Prop} {v:DVal} {H:Ac} (r:Nat) {o:Option DObj} (hr:H r=none) (h:Es R v H):Es R v (upd H r o):=
 Es.drop r (by rw[Nc hr];exact h)
section
variable {P:Program} {G:Nat->DVal} {N:Nat} {Q:DExit->DS->Prop}
theorem Aj {id:Nat} {y:List Oper} {s:DS} (hm:P.follows .mixedOrders=true) (p:Plan) (hp:(y.all (Ll N)&&Bv7 y [] p&&Ki y p [])=true) (h:Rq P G y (QP Q) p s):dwp P G N (.region id y.toArray true) Q s:=
 Fh9 (N:=⟨N,⟨0,[],false⟩⟩) hm p (by simpa using hp) (by simpa using h)
end
abbrev Au (v:DVal) (H:Ac):DEnd->Ac->Prop:=fun e H'=>e= .ret v/\H'=H
def Gk7 (H:Ac) (e:TypeId) (size n:Nat) (cs:List DVal) (v:DVal) (H':Ac):Prop:=
 (n=0/\cs= []/\v= .nilSlice/\H'=H)\/ ∃r,H r=none/\cs.length=n*size/\v= .oslice size r 0 n n/\H'=upd H r (some (.cells cs e))
section
variable {P:Program} {G:Nat->DVal} {Q:DExit->DS->Prop}
theorem Zj {α:Type} {f:Nat->α} {r:Nat} {x:α} (h:f r=x):upd f r x=f:=by
 funext i;simp only[upd];split
 ·rename_i e;rw[e,h]
 ·rfl
theorem Ay7 {e:TypeId} {size bytes r off len lo n:Nat} {y:List DVal} {dst:Option Nat} {K:DK} {s:DS} {cs:List DVal} (h:len+n<=lo):
  Sw e size bytes r off len lo n y dst K s (some (.cells cs e))=(off+(len+n)*size<=cs.length/\
    K ⟨Ho s.env dst (.oslice size r off (len+n) lo),upd s.heap r (some (.cells (Cn cs (off+len*size) y) e))⟩):=by
 simp only[Sw,true_and,eq_iff_iff];exact⟨fun k=>k.1 h,fun k=>⟨fun _=>k,fun hn=>(hn h).elim⟩⟩
theorem Am1 {e:TypeId} {size bytes r len lo n:Nat} {D:List DVal} {dst:Option Nat} {K:DK} {s:DS} {cs:List DVal} (E:len<=lo) (h:lo<len+n):
  Sw e size bytes r 0 len lo n D dst K s (some (.cells cs e))=(len*size<=cs.length/\(len+n)*bytes<=35184372088832/\ ∀r',upd s.heap r none r'=none->
    K ⟨Ho s.env dst (.oslice size r' 0 (len+n) (len+n)),upd (upd s.heap r none) r' (some (.cells (cs.take (len*size)++D) e))⟩):=by
 simp only[Sw,true_and,eq_iff_iff,E,true_or,if_true];have hn: ¬len+n<=lo:=by omega
 refine⟨fun k=> ?_,fun k=>⟨fun hh=>(hn hh).elim,fun _=> ?_⟩⟩
 ·obtain⟨k1,y,C⟩:=k.2 hn;refine⟨by omega,y,fun r' hr=> ?_⟩;have:=C r' [] hr (fun _=>rfl);simpa using this
 ·obtain⟨k1,y,C⟩:=k;refine⟨by omega,y,fun r' pre hr hp=> ?_⟩;have I:=hp trivial;subst I;have:=C r' hr;simpa using this
theorem Ln.slice {H:Ac} {e:TypeId} {size n lo:Nat} {cs rest:List DVal} {r:Nat} (hr:H r=none) (hl:cs.length=n*size):Ln (upd H r (some (.cells (cs++rest) e))) (.oslice size r 0 n lo) H (.vslice cs n):=by
 have:=Ln.fz (v:= .oslice size r 0 n lo) (Aa H r (some (.cells (cs++rest) e)));rw[Nc hr] at this;simp only[Dl.fz,if_pos,jJ] at this;rw[List.take_append_of_le_length (by omega),List.take_of_length_le (by omega)] at this;exact this
theorem Gk7.ghost {H H0:Ac} {e:TypeId} {size n:Nat} {cs:List DVal} {v:DVal} (hv:Gk7 H e size n cs v H0):Ln H0 v H (.vslice cs n):=by
 rcases hv with⟨rfl,rfl,rfl,rfl⟩ | ⟨r,hr,hl,rfl,rfl⟩
 ·intro w hw;refine⟨hw,fun _ h=>h,fun x hx=> ?_⟩;simp only[Rel] at hx⊢
  exact⟨none,0,hx,Nat.le_refl _, .inl (by simp)⟩
 ·have:=Ln.fz (v:= .oslice size r 0 n n) (Aa H r (some (.cells cs e)));rw[Nc hr] at this;simp only[fz,if_pos,jJ] at this;rw[List.take_of_length_le (by omega)] at this;exact this
end
def DLe (d d':DVal):Prop:= ∀(w:World) (H:Ac) (x:Value),Rel w H d x->Rel w H d' x
theorem DLe.nil:DLe .nilSlice (.vslice [] 0):=fun w H x hx=>by
 simp only[Rel] at hx⊢
 exact⟨none,0,hx,Nat.le_refl _, .inl (by simp)⟩
theorem Es.le {R:DEnd->Ac->Prop} {v y:DVal} {H:Ac} (g:DLe v y) (h:Es R y H):Es R v H:= .ghost (fun w hw=>⟨hw,fun _ h=>h,fun x hx=>g _ _ _ hx⟩) h
theorem Ri.drop {G:Nat->DVal} (s:DS) (r:Nat):Ri G s ⟨s.env,upd s.heap r none⟩:=fun w h hG=>
 ⟨h.letGo r,fun b hb=>by simp only[upd] at hb;split at hb<;>simp_all,hG.lasts (Di _ r w),fun i x hx=>Rel.lasts (Di _ r w) _ _ hx⟩
theorem Co4 {H H':Ac} (h: ∀r o,H' r=some o->H r=some o) {b:Nat} (hb:H b=none):H' b=none:=by
 cases e:H' b with
 | none=>rfl
 | some o=>rw[h b o e] at hb;cases hb
theorem Er {H H':Ac} (h: ∀r o,H' r=some o->H r=some o) (w:World):Lasts H w H' w:=
 ⟨fun b i x hb hc=>⟨Co4 h hb,hc⟩,Nat.le_refl _,fun _ _=>rfl⟩
theorem Ln.sub {H H':Ac} (h: ∀r o,H' r=some o->H r=some o) (v:DVal):Ln H v H' v:=fun w hw=>
 ⟨fun r o ho=>(hw r o (h r o ho)).lasts (Er h w),fun b hb e=>hb (Co4 h e),fun x hx=>Rel.lasts (Er h w) _ _ hx⟩
theorem Es.sub {R:DEnd->Ac->Prop} {v:DVal} {H H':Ac} (h: ∀r o,H' r=some o->H r=some o) (k:Es R v H'):Es R v H:= .ghost (.sub h v) k
theorem Ae {α:Type} {H:Nat->Option α} {a b:Nat} {o:α} (ha:H a=none) (hb:H b=some o):b≠a:=fun e=>by rw[e,ha] at hb;cases hb
theorem Ag5 (r:Nat) (cs:List DVal) (l m:List DVal):fzs r cs (l++m)=fzs r cs l++fzs r cs m:=by
 induction l with
 | nil=>simp [fzs]
 | cons d l ih=>simp [fzs,ih]
theorem Co5 {α:Type} (p:α->Bool) (x:α):Option.all p (some x)=p x:=rfl
attribute [go_sem] Ay7 Am1 Co5
end Go.Dl
-- THE DATA LEVEL: the lemmas that the long
namespace Go.Dl
open Go
attribute [go_sem] jD Int.sub_zero Int.zero_add Int.add_zero Nat.add_sub_cancel Dy1 jA jB List.all_cons List.all_nil Bool.and_true jS Bool.or_false Bool.false_or jM jR jE jJ decide_true decide_false Nat.mul_one Nat.one_mul Nat.zero_add Nat.add_zero Nat.mul_zero Nat.zero_mul Bool.not_true Bool.not_false Option.map_some Option.map_none Nat.le_refl Nat.zero_lt_succ ne_eq not_true_eq_false not_false_eq_true Option.isSome_some Fz9 Em2 Dy2 true_imp_iff false_imp_iff beq_self_eq_true forall_const Cn3 jK
end Go.Dl
-- Facts on the types of this seat, each by
namespace Go.Dl
open Go Go.Proofs
theorem Fi0:Tryz.prog.cellsOf 2=1:=by kernel_rfl
theorem Ga5:(Tryz.prog.info? 2).isSome=true:=by kernel_rfl
theorem Gk8:Dy Tryz.prog 2=some false:=by kernel_rfl
theorem Fi1:Tryz.prog.cellsOf 3=1:=by kernel_rfl
theorem Ga6:(Tryz.prog.info? 3).isSome=true:=by kernel_rfl
theorem Gk9:Dy Tryz.prog 3=some false:=by kernel_rfl
theorem Ga7:Bm Tryz.prog 3=some (.int .i64 0):=by kernel_rfl
theorem Fi2:Tryz.prog.cellsOf 4=1:=by kernel_rfl
theorem Ga8:(Tryz.prog.info? 4).isSome=true:=by kernel_rfl
theorem Gl0:Dy Tryz.prog 4=some false:=by kernel_rfl
theorem Fi3:Tryz.prog.cellsOf 5=1:=by kernel_rfl
theorem Ga9:Bm Tryz.prog 5=some (.int .u8 0):=by kernel_rfl
theorem Fi4:Tryz.prog.cellsOf 9=1:=by kernel_rfl
theorem Fi5:Tryz.prog.bytesOf 9=16:=by kernel_rfl
theorem Gb0:(Tryz.prog.info? 9).isSome=true:=by kernel_rfl
theorem Gl1:Dy Tryz.prog 9=some false:=by kernel_rfl
theorem Gb1:Bm Tryz.prog 9=some (.str []):=by kernel_rfl
theorem En7:Tryz.prog.cellsOf 22=1:=by kernel_rfl
theorem Fi6:(Tryz.prog.info? 22).isSome=true:=by kernel_rfl
theorem Gb2:Dy Tryz.prog 22=some false:=by kernel_rfl
theorem En8:Tryz.prog.cellsOf 23=1:=by kernel_rfl
theorem Fi7:(Tryz.prog.info? 23).isSome=true:=by kernel_rfl
theorem Gb3:Dy Tryz.prog 23=some false:=by kernel_rfl
theorem En9:Tryz.prog.cellsOf 24=1:=by kernel_rfl
theorem Fi8:(Tryz.prog.info? 24).isSome=true:=by kernel_rfl
theorem Gb4:Dy Tryz.prog 24=some false:=by kernel_rfl
theorem Eo0:Tryz.prog.cellsOf 25=1:=by kernel_rfl
theorem Fi9:(Tryz.prog.info? 25).isSome=true:=by kernel_rfl
theorem Gb5:Dy Tryz.prog 25=some false:=by kernel_rfl
theorem Eo1:Tryz.prog.cellsOf 27=9:=by kernel_rfl
theorem Eo2:Tryz.prog.bytesOf 27=104:=by kernel_rfl
theorem Fj0:(Tryz.prog.info? 27).isSome=true:=by kernel_rfl
theorem Gb6:Dy Tryz.prog 27=some true:=by kernel_rfl
theorem Gb7:Ew Tryz.prog 27=true:=by kernel_rfl
theorem Fj1:Bm Tryz.prog 27=some (.agg [.int .u8 0, .int .u8 0, .int .i64 0, .str [], .nilSlice, .nilSlice, .int .i64 0, .int .i64 0, .int .i64 0]):=by kernel_rfl
theorem Eo3:Tryz.prog.cellsOf 29=1:=by kernel_rfl
theorem Fj2:(Tryz.prog.info? 29).isSome=true:=by kernel_rfl
theorem Gb8:Dy Tryz.prog 29=some false:=by kernel_rfl
theorem Eo4:Tryz.prog.cellsOf 31=4:=by kernel_rfl
theorem Eo5:Tryz.prog.bytesOf 31=40:=by kernel_rfl
theorem Fj3:(Tryz.prog.info? 31).isSome=true:=by kernel_rfl
theorem Gb9:Dy Tryz.prog 31=some true:=by kernel_rfl
theorem Gc0:Ew Tryz.prog 31=true:=by kernel_rfl
theorem Fj4:Bm Tryz.prog 31=some (.agg [.int .u8 0, .int .i64 0, .str [], .int .i64 0]):=by kernel_rfl
theorem Eo6:Tryz.prog.cellsOf 32=1:=by kernel_rfl
theorem Fj5:(Tryz.prog.info? 32).isSome=true:=by kernel_rfl
theorem Gc1:Dy Tryz.prog 32=some false:=by kernel_rfl
theorem Eo7:Tryz.prog.cellsOf 36=1:=by kernel_rfl
theorem Fj6:(Tryz.prog.info? 36).isSome=true:=by kernel_rfl
theorem Gc2:Dy Tryz.prog 36=some false:=by kernel_rfl
theorem Fj7:Bm Tryz.prog 36=some (.int .i64 0):=by kernel_rfl
theorem Eo8:Tryz.prog.cellsOf 41=1:=by kernel_rfl
theorem Fj8:(Tryz.prog.info? 41).isSome=true:=by kernel_rfl
theorem Gc3:Dy Tryz.prog 41=some false:=by kernel_rfl
theorem Eo9:Tryz.prog.cellsOf 44=10:=by kernel_rfl
theorem Ep0:Tryz.prog.bytesOf 44=128:=by kernel_rfl
theorem Fj9:(Tryz.prog.info? 44).isSome=true:=by kernel_rfl
theorem Gc4:Dy Tryz.prog 44=some true:=by kernel_rfl
theorem Gc5:Ew Tryz.prog 44=true:=by kernel_rfl
theorem Fk0:Bm Tryz.prog 44=some (.agg [.nilSlice, .int .u8 0, .int .u8 0, .int .i64 0, .str [], .nilSlice, .nilSlice, .int .i64 0, .int .i64 0, .int .i64 0]):=by kernel_rfl
theorem Ep1:Tryz.prog.cellsOf 45=1:=by kernel_rfl
theorem Gc6:Dy Tryz.prog 45=some false:=by kernel_rfl
theorem Ep2:Tryz.prog.cellsOf 47=2:=by kernel_rfl
theorem Ep3:Tryz.prog.bytesOf 47=32:=by kernel_rfl
theorem Fk1:(Tryz.prog.info? 47).isSome=true:=by kernel_rfl
theorem Gc7:Dy Tryz.prog 47=some true:=by kernel_rfl
theorem Gc8:Ew Tryz.prog 47=true:=by kernel_rfl
theorem Fk2:Bm Tryz.prog 47=some (.agg [.int .u8 0, .nilSlice]):=by kernel_rfl
theorem Ep4:Tryz.prog.cellsOf 51=1:=by kernel_rfl
theorem Fk3:(Tryz.prog.info? 51).isSome=true:=by kernel_rfl
theorem Gc9:Dy Tryz.prog 51=some false:=by kernel_rfl
theorem Ep5:Tryz.prog.cellsOf 53=1:=by kernel_rfl
theorem Fk4:(Tryz.prog.info? 53).isSome=true:=by kernel_rfl
theorem Gd0:Dy Tryz.prog 53=some false:=by kernel_rfl
theorem Fk5:Bm Tryz.prog 53=some (.int .u8 0):=by kernel_rfl
theorem Ep6:Tryz.prog.cellsOf 54=1:=by kernel_rfl
theorem Fk6:(Tryz.prog.info? 54).isSome=true:=by kernel_rfl
theorem Gd1:Dy Tryz.prog 54=some false:=by kernel_rfl
theorem Fk7:Bm Tryz.prog 54=some (.nilSlice):=by kernel_rfl
theorem Ep7:Tryz.prog.cellsOf 56=36:=by kernel_rfl
theorem Fk8:(Tryz.prog.info? 56).isSome=true:=by kernel_rfl
theorem Gd2:Dy Tryz.prog 56=some true:=by kernel_rfl
theorem Gd3:Ew Tryz.prog 56=true:=by kernel_rfl
theorem Fk9:Bm Tryz.prog 56=some (.agg [.int .u8 0, .int .u8 0, .int .i64 0, .str [], .nilSlice, .nilSlice, .int .i64 0, .int .i64 0, .int .i64 0, .int .u8 0, .int .u8 0, .int .i64 0, .str [], .nilSlice, .nilSlice, .int .i64 0, .int .i64 0, .int .i64 0, .int .u8 0, .int .u8 0, .int .i64 0, .str [], .nilSlice, .nilSlice, .int .i64 0, .int .i64 0, .int .i64 0, .int .u8 0, .int .u8 0, .int .i64 0, .str [], .nilSlice, .nilSlice, .int .i64 0, .int .i64 0, .int .i64 0]):=by kernel_rfl
theorem Ep8:Tryz.prog.cellsOf 58=27:=by kernel_rfl
theorem Fl0:(Tryz.prog.info? 58).isSome=true:=by kernel_rfl
theorem Gd4:Dy Tryz.prog 58=some true:=by kernel_rfl
theorem Gd5:Ew Tryz.prog 58=true:=by kernel_rfl
theorem Fl1:Bm Tryz.prog 58=some (.agg [.int .u8 0, .int .u8 0, .int .i64 0, .str [], .nilSlice, .nilSlice, .int .i64 0, .int .i64 0, .int .i64 0, .int .u8 0, .int .u8 0, .int .i64 0, .str [], .nilSlice, .nilSlice, .int .i64 0, .int .i64 0, .int .i64 0, .int .u8 0, .int .u8 0, .int .i64 0, .str [], .nilSlice, .nilSlice, .int .i64 0, .int .i64 0, .int .i64 0]):=by kernel_rfl
theorem Ep9:Tryz.prog.cellsOf 59=1:=by kernel_rfl
theorem Fl2:(Tryz.prog.info? 59).isSome=true:=by kernel_rfl
theorem Gd6:Dy Tryz.prog 59=some false:=by kernel_rfl
theorem Eq0:Tryz.prog.cellsOf 60=1:=by kernel_rfl
theorem Fl3:(Tryz.prog.info? 60).isSome=true:=by kernel_rfl
theorem Gd7:Dy Tryz.prog 60=some false:=by kernel_rfl
theorem Eq1:Tryz.prog.cellsOf 62=87:=by kernel_rfl
theorem Fl4:(Tryz.prog.info? 62).isSome=true:=by kernel_rfl
theorem Gd8:Dy Tryz.prog 62=some true:=by kernel_rfl
theorem Gd9:Ew Tryz.prog 62=true:=by kernel_rfl
theorem Fl5:Bm Tryz.prog 62=some (.agg [.int .u8 0, .nilSlice, .int .u8 0, .int .u8 0, .int .i64 0, .str [], .nilSlice, .nilSlice, .int .i64 0, .int .i64 0, .int .i64 0, .int .u8 0, .int .u8 0, .int .i64 0, .str [], .nilSlice, .nilSlice, .int .i64 0, .int .i64 0, .int .i64 0, .int .u8 0, .int .u8 0, .int .i64 0, .str [], .nilSlice, .nilSlice, .int .i64 0, .int .i64 0, .int .i64 0, .int .u8 0, .int .u8 0, .int .i64 0, .str [], .nilSlice, .nilSlice, .int .i64 0, .int .i64 0, .int .i64 0, .int .u8 0, .int .u8 0, .int .i64 0, .str [], .nilSlice, .nilSlice, .int .i64 0, .int .i64 0, .int .i64 0, .int .u8 0, .int .u8 0, .int .i64 0, .str [], .nilSlice, .nilSlice, .int .i64 0, .int .i64 0, .int .i64 0, .int .u8 0, .int .u8 0, .int .i64 0, .str [], .nilSlice, .nilSlice, .int .i64 0, .int .i64 0, .int .i64 0, .int .u8 0, .int .u8 0, .int .i64 0, .str [], .nilSlice, .nilSlice, .int .i64 0, .int .i64 0, .int .i64 0, .int .u8 0, .int .u8 0, .int .i64 0, .str [], .nilSlice, .nilSlice, .int .i64 0, .int .i64 0, .int .i64 0, .nilSlice, .str [], .nilSlice, .bool false]):=by kernel_rfl
theorem Eq2:Tryz.prog.cellsOf 65=1:=by kernel_rfl
theorem Fl6:(Tryz.prog.info? 65).isSome=true:=by kernel_rfl
theorem Ge0:Dy Tryz.prog 65=some false:=by kernel_rfl
theorem Dy8:Tryz.prog.cellsOf 113=1:=by kernel_rfl
theorem Eq3:(Tryz.prog.info? 113).isSome=true:=by kernel_rfl
theorem Fl7:Dy Tryz.prog 113=some false:=by kernel_rfl
theorem Eq4:Bm Tryz.prog 113=some (.nilFunc):=by kernel_rfl
theorem Dy9:Tryz.prog.cellsOf 119=1:=by kernel_rfl
theorem Eq5:(Tryz.prog.info? 119).isSome=true:=by kernel_rfl
theorem Fl8:Dy Tryz.prog 119=some false:=by kernel_rfl
theorem Eq6:Bm Tryz.prog 119=some (.nilFunc):=by kernel_rfl
theorem Dz0:Tryz.prog.cellsOf 134=1:=by kernel_rfl
theorem Eq7:(Tryz.prog.info? 134).isSome=true:=by kernel_rfl
theorem Fl9:Dy Tryz.prog 134=some false:=by kernel_rfl
theorem Eq8:Bm Tryz.prog 134=some (.int .u8 0):=by kernel_rfl
theorem Dz1:Tryz.prog.cellsOf 136=21:=by kernel_rfl
theorem Dz2:Tryz.prog.bytesOf 136=248:=by kernel_rfl
theorem Eq9:(Tryz.prog.info? 136).isSome=true:=by kernel_rfl
theorem Fm0:Dy Tryz.prog 136=some true:=by kernel_rfl
theorem Fm1:Ew Tryz.prog 136=true:=by kernel_rfl
theorem Er0:Bm Tryz.prog 136=some (.agg [.nilSlice, .int .u8 0, .int .u8 0, .int .u8 0, .int .i64 0, .str [], .nilSlice, .nilSlice, .int .i64 0, .int .i64 0, .int .i64 0, .int .u8 0, .int .u8 0, .int .i64 0, .str [], .nilSlice, .nilSlice, .int .i64 0, .int .i64 0, .int .i64 0, .int .i64 0]):=by kernel_rfl
theorem Dz3:Tryz.prog.cellsOf 139=1:=by kernel_rfl
theorem Fm2:Dy Tryz.prog 139=some false:=by kernel_rfl
theorem Dz4:Tryz.prog.cellsOf 140=1:=by kernel_rfl
theorem Fm3:Dy Tryz.prog 140=some false:=by kernel_rfl
theorem Fm4:Ew Tryz.prog 143=true:=by kernel_rfl
theorem Er1:Bm Tryz.prog 143=some (.agg [.nilSlice]):=by kernel_rfl
theorem Fm5:Ew Tryz.prog 146=true:=by kernel_rfl
theorem Er2:Bm Tryz.prog 146=some (.agg [.nilSlice]):=by kernel_rfl
theorem Dz5:Tryz.prog.cellsOf 154=2:=by kernel_rfl
theorem Dz6:Tryz.prog.bytesOf 154=32:=by kernel_rfl
theorem Er3:(Tryz.prog.info? 154).isSome=true:=by kernel_rfl
theorem Fm6:Ew Tryz.prog 154=true:=by kernel_rfl
theorem Er4:Bm Tryz.prog 154=some (.agg [.int .i64 0, .nilSlice]):=by kernel_rfl
theorem Dz7:Tryz.prog.cellsOf 157=8:=by kernel_rfl
theorem Er5:(Tryz.prog.info? 157).isSome=true:=by kernel_rfl
theorem Fm7:Ew Tryz.prog 157=true:=by kernel_rfl
theorem Er6:Bm Tryz.prog 157=some (.agg [.nilFunc, .nilFunc, .nilFunc, .nilFunc, .nilFunc, .nilFunc, .nilFunc, .nilFunc]):=by kernel_rfl
theorem Dz8:Tryz.prog.cellsOf 164=2:=by kernel_rfl
theorem Dz9:Tryz.prog.bytesOf 164=48:=by kernel_rfl
theorem Er7:(Tryz.prog.info? 164).isSome=true:=by kernel_rfl
theorem Fm8:Dy Tryz.prog 164=some true:=by kernel_rfl
theorem Er8:Bm Tryz.prog 164=some (.agg [.nilSlice, .nilSlice]):=by kernel_rfl
theorem Ea0:Tryz.prog.cellsOf 187=10:=by kernel_rfl
theorem Ea1:Tryz.prog.bytesOf 187=120:=by kernel_rfl
theorem Er9:(Tryz.prog.info? 187).isSome=true:=by kernel_rfl
theorem Fm9:Dy Tryz.prog 187=some true:=by kernel_rfl
theorem Fn0:Ew Tryz.prog 187=true:=by kernel_rfl
theorem Es0:Bm Tryz.prog 187=some (.agg [.str [], .int .u8 0, .int .u8 0, .int .i64 0, .str [], .nilSlice, .nilSlice, .int .i64 0, .int .i64 0, .int .i64 0]):=by kernel_rfl
theorem Ea2:Tryz.prog.cellsOf 202=47:=by kernel_rfl
theorem Ea3:Tryz.prog.bytesOf 202=552:=by kernel_rfl
theorem Es1:(Tryz.prog.info? 202).isSome=true:=by kernel_rfl
theorem Fn1:Dy Tryz.prog 202=some true:=by kernel_rfl
theorem Fn2:Ew Tryz.prog 202=true:=by kernel_rfl
theorem Es2:Bm Tryz.prog 202=some (.agg [.nilSlice, .int .u8 0, .int .u8 0, .int .i64 0, .str [], .nilSlice, .nilSlice, .int .i64 0, .int .i64 0, .int .i64 0, .int .u8 0, .int .u8 0, .int .i64 0, .str [], .nilSlice, .nilSlice, .int .i64 0, .int .i64 0, .int .i64 0, .int .u8 0, .int .u8 0, .int .i64 0, .str [], .nilSlice, .nilSlice, .int .i64 0, .int .i64 0, .int .i64 0, .int .u8 0, .int .u8 0, .int .i64 0, .str [], .nilSlice, .nilSlice, .int .i64 0, .int .i64 0, .int .i64 0, .int .u8 0, .int .u8 0, .int .i64 0, .str [], .nilSlice, .nilSlice, .int .i64 0, .int .i64 0, .int .i64 0, .int .i64 0]):=by kernel_rfl
theorem Fn3:Ew Tryz.prog 226=true:=by kernel_rfl
theorem Es3:Bm Tryz.prog 226=some (.agg [.nilSlice, .int .i64 0]):=by kernel_rfl
theorem Ea4:Tryz.prog.cellsOf 231=1:=by kernel_rfl
theorem Es4:(Tryz.prog.info? 231).isSome=true:=by kernel_rfl
theorem Fn4:Ew Tryz.prog 231=true:=by kernel_rfl
theorem Es5:Bm Tryz.prog 231=some (.agg [.int .i64 0]):=by kernel_rfl
theorem Ea5:Tryz.prog.cellsOf 236=1:=by kernel_rfl
theorem Es6:(Tryz.prog.info? 236).isSome=true:=by kernel_rfl
theorem Fn5:Dy Tryz.prog 236=some false:=by kernel_rfl
theorem Es7:Bm Tryz.prog 236=some (.nilMap):=by kernel_rfl
theorem Fn6:Ew Tryz.prog 241=true:=by kernel_rfl
theorem Es8:Bm Tryz.prog 241=some (.agg [.nilSlice]):=by kernel_rfl
theorem Fn7:Ew Tryz.prog 246=true:=by kernel_rfl
theorem Es9:Bm Tryz.prog 246=some (.agg [.nilSlice, .int .i64 0]):=by kernel_rfl
theorem Ea6:Tryz.prog.cellsOf 248=2:=by kernel_rfl
theorem Et0:(Tryz.prog.info? 248).isSome=true:=by kernel_rfl
theorem Fn8:Ew Tryz.prog 248=true:=by kernel_rfl
theorem Et1:Bm Tryz.prog 248=some (.agg [.int .i64 0, .int .i64 0]):=by kernel_rfl
theorem Ea7:Tryz.prog.cellsOf 251=2:=by kernel_rfl
theorem Et2:(Tryz.prog.info? 251).isSome=true:=by kernel_rfl
theorem Fn9:Dy Tryz.prog 251=some true:=by kernel_rfl
theorem Fo0:Ew Tryz.prog 251=true:=by kernel_rfl
theorem Et3:Bm Tryz.prog 251=some (.agg [.str [], .nilFunc]):=by kernel_rfl
theorem Fo1:Ew Tryz.prog 263=true:=by kernel_rfl
theorem Et4:Bm Tryz.prog 263=some (.agg [.bool false, .bool false]):=by kernel_rfl
attribute [go_sem] Tryz.underlying0 Fi0 Ga5 Gk8 Tryz.underlying2 Fi1 Ga6 Gk9 Ga7 Tryz.underlying3 Fi2 Ga8 Gl0 Tryz.underlying4 Fi3 Ga9 Tryz.underlying5 Fi4 Fi5 Gb0 Gl1 Gb1 Tryz.underlying9 Tryz.underlying20 Tryz.underlying21 En7 Fi6 Gb2 En8 Fi7 Gb3 En9 Fi8 Gb4 Tryz.underlying24 Eo0 Fi9 Gb5 Tryz.underlying25 Eo1 Eo2 Fj0 Gb6 Gb7 Fj1 Tryz.underlying27 Eo3 Fj2 Gb8 Eo4 Eo5 Fj3 Gb9 Gc0 Fj4 Tryz.underlying31 Eo6 Fj5 Gc1 Tryz.underlying32 Eo7 Fj6 Gc2 Fj7 Eo8 Fj8 Gc3 Tryz.underlying41 Eo9 Ep0 Fj9 Gc4 Gc5 Fk0 Tryz.underlying44 Ep1 Gc6 Tryz.underlying45 Ep2 Ep3 Fk1 Gc7 Gc8 Fk2 Tryz.underlying47 Ep4 Fk3 Gc9 Ep5 Fk4 Gd0 Fk5 Tryz.underlying53 Ep6 Fk6 Gd1 Fk7 Tryz.underlying54 Ep7 Fk8 Gd2 Gd3 Fk9 Tryz.underlying56 Ep8 Fl0 Gd4 Gd5 Fl1 Tryz.underlying58 Ep9 Fl2 Gd6 Tryz.underlying59 Eq0 Fl3 Gd7 Tryz.underlying60 Eq1 Fl4 Gd8 Gd9 Fl5 Tryz.underlying62 Eq2 Fl6 Ge0 Tryz.underlying65 Tryz.underlying72 Tryz.underlying85 Dy8 Eq3 Fl7 Eq4 Tryz.underlying117 Dy9 Eq5 Fl8 Eq6 Dz0 Eq7 Fl9 Eq8 Tryz.underlying134 Dz1 Dz2 Eq9 Fm0 Fm1 Er0 Tryz.underlying136 Dz3 Fm2 Dz4 Fm3 Fm4 Er1 Tryz.underlying143 Fm5 Er2 Tryz.underlying146 Dz5 Dz6 Er3 Fm6 Er4 Tryz.underlying154 Dz7 Er5 Fm7 Er6 Tryz.underlying157 Tryz.underlying158 Dz8 Dz9 Er7 Fm8 Er8 Tryz.underlying164 Tryz.underlying172 Ea0 Ea1 Er9 Fm9 Fn0 Es0 Tryz.underlying187 Ea2 Ea3 Es1 Fn1 Fn2 Es2 Tryz.underlying202 Tryz.underlying204 Tryz.underlying205 Tryz.underlying208 Tryz.underlying209 Tryz.underlying211 Tryz.underlying214 Tryz.underlying215 Fn3 Es3 Tryz.underlying226 Ea4 Es4 Fn4 Es5 Tryz.underlying231 Ea5 Es6 Fn5 Es7 Tryz.underlying236 Fn6 Es8 Tryz.underlying241 Fn7 Es9 Tryz.underlying246 Ea6 Et0 Fn8 Et1 Tryz.underlying248 Ea7 Et2 Fn9 Fo0 Et3 Tryz.underlying251 Tryz.underlying253 Fo1 Et4 Tryz.underlying263 Tryz.underlying264 Tryz.underlying273 Tryz.underlying274 Tryz.underlying276 Tryz.underlying277 Tryz.underlying279 Tryz.underlying282 Tryz.underlying310 Tryz.underlying332 Tryz.underlying334 Tryz.underlying336 Tryz.underlying338 Tryz.underlying340 Tryz.underlying341 Tryz.underlying342 Tryz.underlying344 Tryz.underlying345 Tryz.underlying347 Tryz.underlying350 Tryz.underlying352 Tryz.underlying353 Tryz.results6 Tryz.results11 Tryz.results12 Tryz.results13 Tryz.results16 Tryz.results19 Tryz.results20 Tryz.results21 Tryz.results24 Tryz.results26 Tryz.results27 Tryz.results28 Tryz.results29 Tryz.results30 Tryz.results32 Tryz.results33 Tryz.results35 Tryz.results37 Tryz.results41 Tryz.results45 Tryz.results50 Tryz.results51 Tryz.results52 Tryz.results53 Tryz.results54 Tryz.results55 Tryz.results57 Tryz.results58 Tryz.results59 Tryz.results60 Tryz.results61 Tryz.results62 Tryz.results63 Tryz.results64 Tryz.results65 Tryz.results66 Tryz.results67 Tryz.results68 Tryz.results69 Tryz.results70 Tryz.results71 Tryz.results72 Tryz.results73 Tryz.results74 Tryz.results75 Tryz.results76 Tryz.results77 Tryz.results81 Tryz.results82 Tryz.results84 Tryz.results85 Tryz.results86 Tryz.results87 Tryz.results88 Tryz.results89 Tryz.results90 Tryz.results91 Tryz.results92 Tryz.results93 Tryz.results94 Tryz.results95 Tryz.results96 Tryz.results97 Tryz.results98 Tryz.results99 Tryz.results100 Tryz.results101 Tryz.results102 Tryz.results103 Tryz.results104 Tryz.results105 Tryz.results106 Tryz.results107 Tryz.results108 Tryz.results109 Tryz.results110 Tryz.results111 Tryz.results112 Tryz.results113 Tryz.results116 Tryz.results117 Tryz.results118 Tryz.results119 Tryz.results120 Tryz.results121 Tryz.results122 Tryz.results123 Tryz.results124 Tryz.results125 Tryz.results126 Tryz.results127 Tryz.results128 Tryz.results129 Tryz.results130 Tryz.results131 Tryz.results132 Tryz.results139 Tryz.results140 Tryz.results141 Tryz.results142 Tryz.results143 Tryz.results144 Tryz.results147 Tryz.results148 Tryz.results149 Tryz.results150 Tryz.results163 Tryz.results164 Tryz.results165 Tryz.results166 Tryz.results167 Tryz.results168 Tryz.results169 Tryz.results170 Tryz.results171 Tryz.results172 Tryz.results173 Tryz.results174 Tryz.results175 Tryz.results176 Tryz.results178 Tryz.results179 Tryz.results180 Tryz.results181 Tryz.results182 Tryz.results183 Tryz.results184 Tryz.results185 Tryz.results186 Tryz.results187 Tryz.results189 Tryz.results191 Tryz.results192 Tryz.results193 Tryz.results194 Tryz.results195 Tryz.results196 Tryz.results197 Tryz.results198 Tryz.results199 Tryz.results200 Tryz.results201 Tryz.results202 Tryz.results203 Tryz.results204 Tryz.results205 Tryz.results206 Tryz.results207 Tryz.results208 Tryz.results209 Tryz.results210 Tryz.results211 Tryz.results212 Tryz.results213 Tryz.results214 Tryz.results216 Tryz.results217 Tryz.results218 Tryz.results219 Tryz.results220 Tryz.results222 Tryz.results223 Tryz.results227 Tryz.results228 Tryz.results230 Tryz.results231 Tryz.results232 Tryz.results233 Tryz.results235 Tryz.results236 Tryz.results237 Tryz.results244 Tryz.results245 Tryz.results246 Tryz.results247 Tryz.results248 Tryz.results249 Tryz.results250 Tryz.results251 Tryz.results252 Tryz.results253 Tryz.results254 Tryz.results255 Tryz.results256 Tryz.results257 Tryz.results258 Tryz.results259 Tryz.results260 Tryz.results261 Tryz.results262 Tryz.results263 Tryz.results264 Tryz.results265 Tryz.results266 Tryz.results267 Tryz.results268 Tryz.results269 Tryz.results270 Tryz.results271 Tryz.results272 Tryz.results273 Tryz.results274 Tryz.results275 Tryz.results276 Tryz.results277 Tryz.results278 Tryz.results279 Tryz.results280 Tryz.results281 Tryz.results282 Tryz.results287 Tryz.results288 Tryz.results289 Tryz.results293 Tryz.results294 Tryz.results295 Tryz.results296 Tryz.results297 Tryz.results298 Tryz.results299 Tryz.results300 Tryz.results301 Tryz.results302 Tryz.results303 Tryz.results304 Tryz.results305 Tryz.results306 Tryz.results315 Tryz.results316 Tryz.results317 Tryz.results318 Tryz.results319 Tryz.results320 Tryz.results325
end Go.Dl
-- THE LIBRARY's FUNCTIONS AT THE DATA LEVE
namespace Go.Dl
open Go Go.Proofs
set_option maxRecDepth 10000
section
variable {P:Program} {G:Nat->DVal}
structure Quiet (w w':World):Prop where
 os:w'.os=w.os
 tape:w'.tape=w.tape
 output:w'.output=w.output
 size:w.heap.size<=w'.heap.size
 block: ∀b,b<w.heap.size->w'.heap[b]? =w.heap[b]?
theorem Quiet.below {w w':World} (h:RowKit.Below w.heap.size w w'):Quiet w w':=⟨h.os,h.tape,h.output,h.size,h.block⟩
theorem Quiet.ext {w w':World} {H:Ac} (y:Bj w H) (h:Quiet w w'):Bj w' H/\Ext H w H w':=by
 have hE:Ext H w H w':=⟨h.os,h.tape,h.output,h.size,fun b hb _=>h.block b hb,fun b hb=> .inl hb,fun b hb=>by rw[h.block b hb],fun a ha _=>by unfold World.frozen?;rw[h.block _ ha]⟩;refine⟨fun r o ho=> ?_,hE⟩;rw[h.block r (y.lt (by simp [ho]))];exact(y r o ho).lasts hE.lasts
theorem Ea8 {w:World} {H:Ac} {g:Nat} {cs:List DVal} {name:String} {k:IntKind} {C:List Int} (J:P.globalNamed name=some g) (h:Rel w H (.vptr cs 0) (.pointer (some ⟨g,0,none⟩)))
  (E:cs=C.map fun z=> .int k z): ∀i z,C[i]? =some z->w.cell? ⟨g,i,none⟩=some (.int k z):=by
 simp only[Rel] at h;obtain⟨b,o,xs,e,hc,hr⟩:=h;simp only[Value.pointer.injEq,Option.some.injEq,Addr.mk.injEq,Nat.add_zero,and_true] at e;obtain⟨rfl,rfl⟩:=e;intro i z hz;have h1:cs[i]? =some (.int k z):=by rw[E];simp [hz]
 obtain⟨y,I,D⟩:=hr.get h1;simp only[Rel] at D;subst D;have:=hc.holds i _ I;simpa using this
end
section
end
section
variable {α:Type} {c:α->List DVal} {k:Nat}
theorem Ax (hk: ∀x,(c x).length=k) (l:List α):(l.flatMap c).length=l.length*k:=by
 induction l with
 | nil=>simp
 | cons x l ih=>simp [List.flatMap_cons,ih,hk,Nat.add_mul];omega
theorem Bw1 (hk: ∀x,(c x).length=k): ∀(l:List α) (i:Nat),(l.flatMap c).drop (i*k)=(l.drop i).flatMap c
 | l,0=>by simp
 | [],i+1=>by simp
 | x::l,i+1=>by
  rw[List.flatMap_cons,show(i+1)*k=(c x).length+i*k by rw[hk,Nat.add_mul];omega,List.drop_append,jE,<-Bw1 hk l i];simp
theorem Cu (hk: ∀x,(c x).length=k) (l:List α) (i:Nat) (h:i<l.length):((l.flatMap c).drop (i*k)).take k=c l[i]:=by
 rw[Bw1 hk,List.drop_eq_getElem_cons h,List.flatMap_cons,List.take_append_of_le_length (by rw[hk];omega),List.take_of_length_le (by rw[hk];omega)]
theorem Hw (hk: ∀x,(c x).length=k) (l:List α) (i:Nat) (h:i<l.length) (j:Nat) (y:j<k):(l.flatMap c)[i*k+j]? =(c l[i])[j]? :=by
 rw[<-Cu hk l i h,List.getElem?_take,if_pos y,List.getElem?_drop]
end
def Bc3 {α:Type} (p:α->Bool) (l:List α):Int:=match l.findIdx? p with | some i=>(i:Int) | none=> -1
theorem Ac3 {α:Type} {p:α->Bool} {l:List α} {i:Nat} (h:i<l.length) (hp:p l[i]=true) (y: ∀x∈l.take i,p x=false):Bc3 p l=i:=by
 have:l.findIdx? p=some i:=by
  rw[List.findIdx?_eq_some_iff_getElem];exact⟨h,hp,fun j hj=>by have:=y l[j] (List.mem_take_iff_getElem.2 ⟨j,by omega,rfl⟩);simp [this]⟩
 rw[Bc3,this]
theorem Ac4 {α:Type} {p:α->Bool} {l:List α} (h: ∀x∈l,p x=false):Bc3 p l= -1:=by
 have:l.findIdx? p=none:=by rw[List.findIdx?_eq_none_iff];intro x hx;rw[h x hx]
 rw[Bc3,this]
theorem Vs {α:Type} (p:α->Bool) (l:List α):decide (0<=Bc3 p l)=l.any p:=by
 unfold Bc3;cases h:l.findIdx? p with
 | some i=>
  obtain⟨h1,h2,_⟩:=List.findIdx?_eq_some_iff_getElem.1 h;have:l.any p=true:=List.any_eq_true.2 ⟨_,List.getElem_mem h1,h2⟩;rw[this];simp
 | none=>
  rw[List.findIdx?_eq_none_iff] at h;have:l.any p=false:=by rw[List.any_eq_false];intro x hx;rw[h x hx];simp
  rw[this];rfl
theorem Mh {α:Type} {p:α->Prop} {l:List α} {i:Nat} (h:i<l.length) (y: ∀x∈l.take i,p x) (hx:p l[i]): ∀x∈l.take (i+1),p x:=by
 intro x hm;rw[List.take_succ_eq_append_getElem h,List.mem_append,List.mem_singleton] at hm;rcases hm with hm | rfl
 ·exact y x hm
 ·exact hx
theorem Td {c d:UInt8} (h:c≠d): ¬(c.toNat:Int)=(d.toNat:Int):=fun e=>h (UInt8.toNat_inj.1 (by omega))
def Ae7 (l:List (List UInt8)):DVal:= .vslice (l.map .str) l.length
end Go.Dl
-- Rows of the call's own: a list of lists 
namespace Go.Dl
open Go
def Am2:DVal->Bool
 | .bool _ | .int _ _ | .str _ | .nilPtr | .nilSlice | .nilMap | .nilFunc | .nilIface=>true
 | .optr _ _ | .oslice _ _ _ _ _ | .omap _=>true
 | .tuple l=>looses l
 | .agg l=>looses l
 | _=>false
where looses:List DVal->Bool
 | []=>true
 | d::ds=>Am2 d&&looses ds
mutual
theorem Ac5 {w:World} {H H':Ac}: ∀(d:DVal) (v:Value),Am2 d=true->Rel w H d v->Rel w H' d v
 | .tuple l,v,hp,h=>by
  simp only[Am2] at hp
  simp only[Rel] at h⊢
  obtain⟨x,rfl,h1⟩:=h
  exact⟨x,rfl,Pw _ _ hp h1⟩
 | .agg l,v,hp,h=>by
  simp only[Am2] at hp
  simp only[Rel] at h⊢
  obtain⟨x,rfl,h1⟩:=h
  exact⟨x,rfl,Pw _ _ hp h1⟩
 | .bool x,v,hp,h=>by simpa [Rel] using h
 | .int x y,v,hp,h=>by simpa [Rel] using h
 | .str x,v,hp,h=>by simpa [Rel] using h
 | .nilPtr,v,hp,h=>by simpa [Rel] using h
 | .nilSlice,v,hp,h=>by simpa [Rel] using h
 | .nilMap,v,hp,h=>by simpa [Rel] using h
 | .nilFunc,v,hp,h=>by simpa [Rel] using h
 | .nilIface,v,hp,h=>by simpa [Rel] using h
 | .optr _ _,v,hp,h=>by simpa [Rel] using h
 | .oslice _ _ _ _ _,v,hp,h=>by simpa [Rel] using h
 | .omap _,v,hp,h=>by simpa [Rel] using h
 | .raw _,_,hp,_=>by cases hp
 | .vptr _ _,_,hp,_=>by cases hp
 | .vslice _ _,_,hp,_=>by cases hp
 | .func _ _ _,_,hp,_=>by cases hp
 | .iface _ _,_,hp,_=>by cases hp
theorem Pw {w:World} {H H':Ac}: ∀(C:List DVal) (vs:List Value),Am2.looses C=true->Az w H C vs->Az w H' C vs
 | [],_,_,h=>by simpa [Az] using h
 | d::C,vs,hp,h=>by
  simp only[Am2.looses,jF] at hp
  simp only[Az] at h⊢
  obtain⟨y,ys,rfl,h1,h2⟩:=h
  exact⟨y,ys,rfl,Ac5 d y hp.1 h1,Pw C ys hp.2 h2⟩
end
def Dc9:DObj->Bool
 | .cells cs _=>Am2.looses cs
 | .map es=>es.all fun p=>Am2 p.1&&Am2 p.2
 | .loop _ _ _=>false
 | .iter _ _=>true
def Fw1 (H H':Ac):Prop:= ∀r o,H' r=some o->H r=some o\/Dc9 o=true
theorem Fw1.refl (H:Ac):Fw1 H H:=fun _ _ h=> .inl h
end Go.Dl
-- THE DATA LEVEL, PART J: slices that are 
namespace Go.Dl
open Go Go.RowKit
theorem Co6 (H:Ac) (w:World):Lasts H w h0 w:=Er (fun r o h=>by cases h) w
def Sub (H H':Ac):Prop:= ∀r o,H r=some o->H' r=some o
theorem Sub.refl (H:Ac):Sub H H:=fun _ _ h=>h
theorem Sub.trans {H H' y:Ac} (h:Sub H H') (k:Sub H' y):Sub H y:=fun r o x=>k r o (h r o x)
theorem Sub.lo {H H':Ac} (h:Sub H H') {r:Nat} (hr:H' r=none):H r=none:=by
 cases e:H r with
 | none=>rfl
 | some o=>rw[h r o e] at hr;cases hr
theorem Sub.up {H H':Ac} (h:Sub H H') {r:Nat} (hr:H r=none) (x:Option DObj):Sub H (upd H' r x):=fun b o hb=>by
 have:b≠r:=fun e=>by rw[e,hr] at hb;cases hb
 simp only[upd,if_neg this];exact h b o hb
theorem Sub.new {H H':Ac} (h:Sub H H') {r:Nat} (hr:H' r=none) (x:Option DObj):Sub H (upd H' r x):=h.up (h.lo hr) x
theorem Sub.both {H H':Ac} (h:Sub H H') (r:Nat) (x:Option DObj):Sub (upd H r x) (upd H' r x):=fun b o hb=>by
 simp only[upd] at hb⊢;split<;>rename_i e
 ·rwa [if_pos e] at hb
 ·rw[if_neg e] at hb;exact h b o hb
def Jf (H:Ac) (e:TypeId) (size n:Nat) (cs:List DVal) (v:DVal) (H':Ac):Prop:=
 (n=0/\cs= []/\v= .nilSlice/\Sub H H')\/ ∃r,H r=none/\cs.length=n*size/\v= .oslice size r 0 n n/\H' r=some (.cells cs e)/\Sub H H'
section
variable {P:Program} {G:Nat->DVal} {H H':Ac} {e:TypeId} {size n:Nat} {cs:List DVal} {v:DVal}
theorem Jf.nil (e:TypeId) (size:Nat) (h:Sub H H'):Jf H e size 0 [] .nilSlice H':= .inl ⟨rfl,rfl,rfl,h⟩
theorem Jf.sub (h:Jf H e size n cs v H'):Sub H H':=by
 rcases h with⟨_,_,_,h⟩ | ⟨_,_,_,_,_,h⟩<;>exact h
theorem Jf.keep (h:Jf H e size n cs v H') {r:Nat} {o:DObj} (hr:H r=some o):H' r=some o:=h.sub r o hr
theorem Jf.more (h:Jf H e size n cs v H') {y:Ac} (k:Sub H' y):Jf H e size n cs v y:=by
 rcases h with⟨a,b,c,d⟩ | ⟨r,a,b,c,d,f⟩
 ·exact .inl ⟨a,b,c,d.trans k⟩
 ·exact .inr ⟨r,a,b,c,k _ _ d,f.trans k⟩
theorem Jf.new (h:Jf H e size n cs v H') {r:Nat} (hr:H' r=none) (x:Option DObj):Jf H e size n cs v (upd H' r x):=h.more ((Sub.refl H').up hr x)
theorem Jf.less (h:Jf H e size n cs v H') {y:Ac} (k:Sub y H):Jf y e size n cs v H':=by
 rcases h with⟨a,b,c,d⟩ | ⟨r,a,b,c,d,f⟩
 ·exact .inl ⟨a,b,c,k.trans d⟩
 ·exact .inr ⟨r,k.lo a,b,c,d,k.trans f⟩
theorem Jf.frame (h:Jf H e size n cs v H') {r:Nat} (hr:H' r=none) (o:DObj):Jf (upd H r (some o)) e size n cs v (upd H' r (some o)):=by
 rcases h with⟨a,b,c,d⟩ | ⟨r0,a,b,c,d,f⟩
 ·exact .inl ⟨a,b,c,d.both _ _⟩
 ·have:r0≠r:=fun e=>by rw[e,hr] at d;cases d
  exact .inr ⟨r0,by simp [upd,this,a],b,c,by simp [upd,this,d],f.both _ _⟩
theorem Jf.exact (h:Jf H e size n cs v H'): ∃H1,Gk7 H e size n cs v H1/\Sub H1 H':=by
 rcases h with⟨a,b,c,d⟩ | ⟨r,a,b,c,d,f⟩
 ·exact⟨H, .inl ⟨a,b,c,rfl⟩,d⟩
 ·refine⟨_, .inr ⟨r,a,b,c,rfl⟩,fun k o hk=> ?_⟩;simp only[upd] at hk;split at hk
  ·rename_i e;subst e;cases hk;exact d
  ·exact f k o hk
theorem Jf.append {m bytes:Nat} {h:List DVal} {dst:Option Nat} {K:DK} {env:Nat->DVal} (hv:Jf H e size n cs v H') (hm:h.length=m*size) (hb:(n+m)*bytes<=35184372088832)
  (y: ∀v' H2,Jf H e size (n+m) (cs++h) v' H2->K ⟨Ho env dst v',H2⟩):Pq e size bytes m h dst v K ⟨env,H'⟩:=by
 rcases hv with⟨rfl,rfl,rfl,hs⟩ | ⟨r,hr,hl,rfl,hc,hs⟩
 ·simp only[Pq];refine⟨fun h0=> ?_,fun h0=>⟨by simpa using hb,fun r hr=> ?_⟩⟩
  ·subst h0;have:h= []:=List.length_eq_zero_iff.1 (by omega);subst this;exact y _ _ (.inl ⟨rfl,rfl,rfl,hs⟩)
  ·refine y _ _ (.inr ⟨r,hs.lo hr,by simpa using hm,by simp,by rw[jG];exact Aa _ _ _,hs.new hr _⟩)
 ·simp only[Pq,true_and];rw[hc];by_cases h0:m=0
  ·subst h0;have:h= []:=List.length_eq_zero_iff.1 (by omega);subst this;rw[Ay7 (by omega)];refine⟨by simp [hl], ?_⟩;have:=y (.oslice size r 0 (n+0) n) H' (.inr ⟨r,hr,by simpa using hl,by simp,by simpa using hc,hs⟩);simp only[Cn,jB,jH,Nat.add_zero,List.take_append_drop];rw[Zj hc];simpa using this
  ·rw[Am1 (by omega) (by omega)];refine⟨by omega,hb,fun r' C=> ?_⟩;dsimp only at C⊢
   by_cases e1:r'=r
   ·subst e1;refine y _ _ (.inr ⟨r',hr, ?_,rfl, ?_, ?_⟩)
    ·simp [hl,hm,Nat.add_mul]
    ·rw[Aa,List.take_of_length_le (by omega)]
    ·exact(hs.up hr _).up hr _
   ·have D:H' r'=none:=by simpa [upd,e1] using C
    refine y _ _ (.inr ⟨r',hs.lo D, ?_,rfl, ?_, ?_⟩)
    ·simp [hl,hm,Nat.add_mul]
    ·rw[Aa,List.take_of_length_le (by omega)]
    ·exact(hs.up hr _).up (hs.lo D) _
theorem Jf.appendO {r m bytes:Nat} {y:List DVal} {dst:Option Nat} {K:DK} {env:Nat->DVal} (hv:Jf H e size n cs (.oslice size r 0 n n) H') (hm:y.length=m*size) (hb:(n+m)*bytes<=35184372088832)
  (C: ∀v' H2,Jf H e size (n+m) (cs++y) v' H2->K ⟨Ho env dst v',H2⟩):Sw e size bytes r 0 n n m y dst K ⟨env,H'⟩ (some (.cells cs e)):=by
 have h:=Jf.append hv hm hb C;have hc:H' r=some (.cells cs e):=by
  rcases hv with⟨_,_,h,_⟩ | ⟨r',_,_,h,hc,_⟩
  ·cases h
  ·cases h;exact hc
 simp only[Pq,true_and,hc] at h;exact h
theorem Jf.ghost (hv:Jf H e size n cs v H'):Ln H' v H (.vslice cs n):=by
 obtain⟨H1,h1,h2⟩:=hv.exact;exact(Ln.sub h2 v).trans h1.ghost
theorem Jf.fin {R:DEnd->Ac->Prop} (hv:Jf H e size n cs v H') (h:R (.ret (.vslice cs n)) H):Es R v H':= .ghost hv.ghost (.refl h)
theorem Dn5.runG {y:(DExit->DS->Prop)->DK} {Q:DExit->DS->Prop} {s:DS} {ι:Type} (I:ι->(Nat->DVal)->Ac->Prop) (μ:ι->Nat) (i:ι) (s0:DS) (C:Ri G s s0) (h0:I i s0.env s0.heap)
  (hr: ∀i env heap,I i env heap->y (Ay2 (fun s1=> ∃j s2,Ri G s1 s2/\I j s2.env s2.heap/\μ j<μ i) Q) ⟨env,heap⟩):Dn5 G y Q s:=
 ⟨ι,fun i s=>I i s.env s.heap,μ,⟨i,s0,C,h0⟩,fun i s h=>hr i s.env s.heap h⟩
theorem Jf.cell1 (h:Jf H e size n cs v H'):v.cells= [v]/\v.one=true:=by
 rcases h with⟨_,_,rfl,_⟩ | ⟨_,_,_,rfl,_⟩<;>exact⟨rfl,rfl⟩
end
end Go.Dl
-- THE DATA LEVEL, PART K: the frame of a c
namespace Go.Dl
open Go
set_option maxRecDepth 10000
theorem Af.frame {P:Program} {G:Nat->DVal} {f:FuncId} {args args':List DVal} {H:Ac} {R:DEnd->Ac->Prop} (h:Af P G f args' h0 R)
  (hb: ∀w vs,Bj w H->Az w H args vs->Az w h0 args' vs) (E: ∀e X,R e X-> ∃v,e= .ret v/\Am2 v=true/\Fw1 h0 X):Af P G f args H (fun e H'=> ∃X,R e X/\Gk6 H X/\H'=Co1 H X):=by
 refine⟨h.1,fun vs w hv C hg=> ?_⟩;have I:GOk G w h0:=hg.lasts (Co6 H w);refine(h.2 vs w (hb w vs C hv) (fun r o hr=>by cases hr) I).mono fun x w' ⟨e',X,r,k1,J,y⟩=> ?_;obtain⟨v,rfl,hl,L⟩:=E _ _ r;have D: ∀b,X b≠none->w.heap.size<=b:=fun b hb=>(y.own b hb).resolve_left (fun k=>k rfl);have hd:Gk6 H X:=fun b hb=>by
  cases e1:H b with
  | none=>rfl
  | some o=>have:=C.lt (r:=b) (by simp [e1]);have:=D b hb;omega
 have hE:Ext H w (Co1 H X) w':=⟨y.os,y.tape,y.output,y.size,fun b hb _=>y.block b hb rfl,fun b hb=>by
  by_cases e1:X b=none
  ·rw[Do5 e1] at hb;exact .inl hb
  ·exact .inr (D b e1),y.keep,fun a ha _=>y.fz a ha rfl⟩
 refine⟨.ret v,Co1 H X,⟨X,r,hd,rfl⟩, ?_, ?_,hE⟩
 ·cases k1 with
  | ret d x hx=>exact .ret _ _ (Ac5 _ _ hl hx)
 ·intro b o ho;cases e1:X b with
  | none=>
   rw[Do5 e1] at ho;rw[y.block b (C.lt (by simp [ho])) rfl];exact(C b o ho).lasts hE.lasts
  | some o'=>
   rw[Ga4 e1] at ho;cases ho;have hlo:Dc9 o=true:=(L b o e1).resolve_left (fun k=>by cases k);have hr:=J b o e1;cases o with
   | cells cs e=>
    obtain⟨xs,c,M,h1,h2,h3,h4⟩:=hr;exact⟨xs,c,M,h1,h2,Pw _ _ hlo h3,h4⟩
   | loop _ _ _=>cases hlo
   | iter _ _=>exact hr
   | map es=>
    obtain⟨ms,c,h1,h2⟩:=hr;refine⟨ms,c,h1, ?_⟩;simp only[Dc9,List.all_eq_true,jF] at hlo;clear h1 e1;generalize ms.toList=l at h2
    induction es generalizing l with
    | nil=>exact h2
    | cons p es ih=>
     obtain⟨m,O,rfl,S,U,V⟩:=h2;exact⟨m,O,rfl,Ac5 _ _ (hlo p (by simp)).1 S,Ac5 _ _ (hlo p (by simp)).2 U,ih (fun q hq=>hlo q (List.mem_cons_of_mem _ hq)) _ V⟩
theorem Af.lent {P:Program} {G:Nat->DVal} {f:FuncId} {args args':List DVal} {H:Ac} {v:DVal} (h:Af P G f args' h0 (Au v h0))
  (hb: ∀w vs,Bj w H->Az w H args vs->Az w h0 args' vs) (hv:Am2 v=true):Af P G f args H (Au v H):=
 (h.frame hb (fun e X hr=>⟨v,hr.1,hv,by rw[hr.2];exact .refl _⟩)).mono fun e H' ⟨X,hr,_,y⟩=>⟨hr.1,by rw[y,hr.2,Do4]⟩
def Ay8:List (List UInt8):= [[97,98,111,114,116],
 [97,98,115],
 [97,99,99,101,112,116],
 [97,99,99,101,115,115],
 [97,108,105,97,115,101,100],
 [97,108,108],
 [97,110,100],
 [97,114,114,97,121],
 [98,101,103,105,110],
 [98,111,100,121],
 [99,97,115,101],
 [99,111,110,115,116,97,110,116],
 [100,101,99,108,97,114,101],
 [100,101,108,97,121],
 [100,111],
 [101,108,115,101],
 [101,108,115,105,102],
 [101,110,100],
 [101,110,116,114,121],
 [101,120,99,101,112,116,105,111,110],
 [101,120,105,116],
 [102,111,114],
 [102,117,110,99,116,105,111,110],
 [103,101,110,101,114,105,99],
 [105,102],
 [105,110],
 [105,115],
 [108,105,109,105,116,101,100],
 [108,111,111,112],
 [109,111,100],
 [110,101,119],
 [110,111,116],
 [110,117,108,108],
 [111,102],
 [111,114],
 [111,116,104,101,114,115],
 [111,117,116],
 [112,97,99,107,97,103,101],
 [112,114,97,103,109,97],
 [112,114,105,118,97,116,101],
 [112,114,111,99,101,100,117,114,101],
 [112,114,111,116,101,99,116,101,100],
 [114,97,105,115,101],
 [114,97,110,103,101],
 [114,101,99,111,114,100],
 [114,101,109],
 [114,101,110,97,109,101,115],
 [114,101,113,117,101,117,101],
 [114,101,116,117,114,110],
 [114,101,118,101,114,115,101],
 [115,101,108,101,99,116],
 [115,101,112,97,114,97,116,101],
 [115,117,98,116,121,112,101],
 [116,97,115,107],
 [116,101,114,109,105,110,97,116,101],
 [116,104,101,110],
 [116,121,112,101],
 [117,110,116,105,108],
 [117,115,101],
 [119,104,101,110],
 [119,104,105,108,101],
 [119,105,116,104],
 [120,111,114]]
def Dj (c:UInt8):Bool:=decide (65<=c.toNat)&&decide (c.toNat<=90) || decide (97<=c.toNat)&&decide (c.toNat<=122)
def Eh (c:UInt8):Bool:=decide (48<=c.toNat)&&decide (c.toNat<=57)
def Ea (c:UInt8):Bool:=Dj c || Eh c || decide (c=95)
def Et (s:List UInt8):List UInt8:=s.takeWhile Ea
def Tw (s:List UInt8):Bool:=decide (s∈Ay8)
def Lo (s:List UInt8):Bool:=(match s with | c::_=>Dj c | []=>false)&&decide (s.length<=32)&&s.all Ea&&!Tw s
def Rr:List (UInt8×UInt8):= [(61,62),(46,46),(58,61),(47,61),(60,61),(62,61),(60,62)]
def Ae8:List UInt8:= [40,41,44,59,58,46,39,43,45,42,47,61,60,62,124]
def Nq:List UInt8->Nat
 | []=>0
 | [a]=>if a∈Ae8 then 1 else 0
 | a::b::_=>if(a,b)∈Rr then 2 else if a∈Ae8 then 1 else 0
def Co7 (s:List UInt8):Bool:=decide (s≠ [])&&decide (Nq s=s.length)
structure Tok where
 kind:Int
 line:Int
 text:List UInt8
 n:Int
 deriving DecidableEq,Inhabited
def Am3:Tok:=⟨0,0,[],0⟩
def Vc (t:Tok):Bool:=
 if t.kind=1 then decide (t.n=0)&&Lo t.text else if t.kind=2 then decide (t.n=0)&&Tw t.text
 else if t.kind=4 then decide (t.n=0)&&Co7 t.text else decide (t.kind=3)&&decide (t.text= [])&&decide (0<=t.n)&&decide (t.n<=2147483647)
def Tx (w:List UInt8):Nat:=w.foldl (fun v c=>10*v+(c.toNat-48)) 0
def Bc4 (w:List UInt8):Option Nat:=if w.length<=10/\w.all Eh=true/\Tx w<=2147483647 then some (Tx w) else none
def Ei (s:List UInt8):Tok×Nat:=
 match s with
 | []=>(Am3,0)
 | c::_=>if Dj c then(if Tw (Et s) then(⟨2,0,Et s,0⟩,(Et s).length) else if Lo (Et s) then(⟨1,0,Et s,0⟩,(Et s).length) else(Am3,0))
  else if Eh c then(match Bc4 (Et s) with | some v=>(⟨3,0,[],v⟩,(Et s).length) | none=>(Am3,0))
  else(⟨4,0,s.take (Nq s),0⟩,Nq s)
def Px (s:List UInt8):Bool:=s.all fun c=>decide (32<=c.toNat)&&decide (c.toNat<=126)
def Fv (s:List UInt8):List UInt8:=s.dropWhile (· ==32)
def Pl:List UInt8->Bool
 | 45::45::_=>true
 | _=>false
def At3:Nat->List UInt8->List (Tok×Bool)
 | 0,_=> []
 | k+1,s=>
  if Fv s= []\/Pl (Fv s)=true then(if Px (Fv s) then [] else [(Am3,false)])
  else if(Ei (Fv s)).2=0 then [((Ei (Fv s)).1,false)]
  else((Ei (Fv s)).1,true)::At3 k ((Fv s).drop (Ei (Fv s)).2)
def Gv (s:List UInt8):List (Tok×Bool):=At3 (s.length+1) s
theorem Ac6 (s:List UInt8):(Fv s).length<=s.length:=by
 unfold Fv;exact(List.dropWhile_sublist _).length_le
theorem Ay9: ∀(k k':Nat) (s:List UInt8),s.length<k->s.length<k'->At3 k s=At3 k' s
 | 0,_,_,h,_=>by omega
 | _,0,_,_,h=>by omega
 | k+1,k'+1,s,h,h'=>by
  unfold At3;split
  ·rfl
  ·rename_i hc
   split
   ·rfl
   ·rename_i h0
    have hl:=Ac6 s;have y:Fv s≠ []:=fun e=>hc (.inl e);have C:0<(Fv s).length:=List.length_pos_iff.2 y;rw[Ay9 k k' _ (by rw[List.length_drop];omega) (by rw[List.length_drop];omega)]
theorem Nr (s:List UInt8):Gv s=
  if Fv s= []\/Pl (Fv s)=true then(if Px (Fv s) then [] else [(Am3,false)])
  else if(Ei (Fv s)).2=0 then [((Ei (Fv s)).1,false)]
  else((Ei (Fv s)).1,true)::Gv ((Fv s).drop (Ei (Fv s)).2):=by
 unfold Gv;rw[At3];split
 ·rfl
 ·rename_i hc
  split
  ·rfl
  ·rename_i h0
   have hl:=Ac6 s;have h:Fv s≠ []:=fun e=>hc (.inl e);have y:0<(Fv s).length:=List.length_pos_iff.2 h;rw[Ay9 s.length _ ((Fv s).drop (Ei (Fv s)).2) (by rw[List.length_drop];omega) (Nat.lt_succ_self _)]
theorem Ea9 {p:List UInt8->Prop} (h: ∀s,((Ei (Fv s)).2≠0->Fv s≠ []->p ((Fv s).drop (Ei (Fv s)).2))->p s): ∀s,p s:=by
 intro s
 induction hn:s.length using Nat.strongRecOn generalizing s with
 | ind n ih=>
  subst hn;refine h s fun h0 y=>ih _ ?_ _ rfl;have hl:=Ac6 s;have C:0<(Fv s).length:=List.length_pos_iff.2 y;rw[List.length_drop];omega
theorem Dd0: ∀s:List UInt8,(Gv s).length<=s.length+1:=
 Ea9 fun s ih=>by
  rw[Nr];split
  ·split<;>simp
  ·rename_i hc
   split
   ·simp
   ·rename_i h0
    have h:Fv s≠ []:=fun e=>hc (.inl e);have:=ih h0 h;have hl:=Ac6 s;have y:0<(Fv s).length:=List.length_pos_iff.2 h;rw[List.length_drop] at this;rw[jA];omega
theorem Bi2 (s r:List UInt8) (c:UInt8) (y:Ea c=false):Et (s++c::r)=Et s:=by
 unfold Et;rw[List.takeWhile_append];split
 ·rename_i h
  have:s.takeWhile Ea=s:=(List.takeWhile_prefix Ea).eq_of_length h;rw[this];simp [y]
 ·rfl
theorem Dd1 (s:List UInt8):Nq s<=s.length:=by
 match s with
 | []=>exact Nat.le_refl _
 | [a]=>simp only[Nq];split<;>simp
 | a::b::s=>simp only[Nq];split<;>(try split)<;>simp
theorem Do6 (s:List UInt8):(Et s).length<=s.length:=(List.takeWhile_sublist _).length_le
theorem Am4 (s:List UInt8):(Ei s).2<=s.length:=by
 have hw:=Do6 s
 have hs:=Dd1 s
 match s with
 | []=>exact Nat.le_refl _
 | c::s=>
  unfold Ei
  dsimp only
  split
  ·split
   ·exact hw
   ·split
    ·exact hw
    ·exact Nat.zero_le _
  ·split
   ·split
    ·exact hw
    ·exact Nat.zero_le _
   ·exact hs
theorem Eb0 (s r:List UInt8):Px (s++r)=(Px s&&Px r):=by simp [Px]
def Cx (c:UInt8):List UInt8->List UInt8->List (List UInt8)
 | [],cur=> [cur]
 | b::s,cur=>if b=c then cur::Cx c s [] else Cx c s (cur++ [b])
theorem Ag6 (c:UInt8) (w:List UInt8) (h:c∉w): ∀cur,Cx c w cur= [cur++w]:=by
 induction w with
 | nil=>intro cur;simp [Cx]
 | cons b w ih=>
  intro cur;simp only[List.mem_cons,not_or] at h;rw[Cx,if_neg (fun e=>h.1 e.symm),ih h.2];simp
theorem Bi3 (c:UInt8) (w r:List UInt8) (h:c∉w): ∀cur,Cx c (w++c::r) cur=(cur++w)::Cx c r []:=by
 induction w with
 | nil=>intro cur;simp [Cx]
 | cons b w ih=>
  intro cur;simp only[List.mem_cons,not_or] at h;rw[jI,Cx,if_neg (fun e=>h.1 e.symm),ih h.2];simp
theorem Az0 (c:UInt8) (b:List UInt8): ∀(a h:List UInt8),Cx c (a++c::b) h=Cx c a h++Cx c b []
 | [],h=>by simp [Cx]
 | x::a,h=>by
  rw[jI,Cx,Cx];split
  ·rw[Az0 c b a []];rfl
  ·exact Az0 c b a _
theorem Bi4 (c:UInt8): ∀(a h:List UInt8),Cx c a h≠ []
 | [],h=>by simp [Cx]
 | x::a,h=>by
  rw[Cx];split
  ·simp
  ·exact Bi4 c a _
theorem Zk (c:UInt8): ∀(a y w:List UInt8),c∉y->w∈Cx c a y->c∉w
 | [],y,w,h,hw=>by
  simp only[Cx,List.mem_singleton] at hw;rw[hw];exact h
 | x::a,y,w,h,hw=>by
  rw[Cx] at hw;split at hw
  ·rcases List.mem_cons.1 hw with rfl | hw
   ·exact h
   ·exact Zk c a [] w (by simp) hw
  ·rename_i hx
   exact Zk c a _ w (by simp only[List.mem_append,List.mem_singleton,not_or];exact⟨h,fun e=>hx e.symm⟩) hw
def At4 (ls:List (List UInt8)):Nat:=(ls.map fun s=>s.length+1).sum
theorem Zl (c:UInt8): ∀(a h:List UInt8),At4 (Cx c a h)=a.length+h.length+1
 | [],h=>by simp [Cx,At4]
 | x::a,h=>by
  rw[Cx];split
  ·have:=Zl c a [];simp only[At4,jN,List.sum_cons,jA,jB] at this⊢
   omega
  ·have:=Zl c a (h++ [x]);rw[this];simp only[jC,jA,jB];omega
def Ae9:List (List UInt8)->List UInt8
 | []=> []
 | [s]=>s
 | s::t::l=>s++10::Ae9 (t::l)
def En (s:List UInt8):List (List UInt8):=Cx 10 s []
theorem Bi5: ∀ls:List (List UInt8),ls≠ []->(∀s∈ls,(10:UInt8)∉s)->En (Ae9 ls)=ls
 | [],h,_=>absurd rfl h
 | [s],_,hs=>by rw[Ae9,En,Ag6 10 s (hs s (by simp))];rfl
 | s::t::l,_,hs=>by
  have:=Bi5 (t::l) (by simp) fun u hu=>hs u (List.mem_cons_of_mem _ hu);rw[En] at this⊢
  rw[Ae9,Bi3 10 s _ (hs s (by simp)),this];rfl
theorem Dd2 (s:List UInt8): ∀cur,Ae9 (Cx 10 s cur)=cur++s:=by
 induction s with
 | nil=>intro cur;simp [Cx,Ae9]
 | cons x s ih=>
  intro cur;rw[Cx];split
  ·rename_i h
   subst h;have:=ih [];cases hsp:Cx 10 s [] with
   | nil=>exact absurd hsp (Bi4 _ _ _)
   | cons t l=>rw[hsp] at this;rw[Ae9,this];rfl
  ·rw[ih];simp
def Nd:List (List UInt8)->Nat->List (Tok×Bool×Int)
 | [],_=> []
 | s::ls,i=>(Gv s).map (fun p=>({ p.1 with line:=i },p.2,(i:Int)))++Nd ls (i+1)
def Cd9:List (Tok×Bool×Int)->Nat->Option (Int×Int)
 | [],_=>none
 | p::r,n=>if p.2.1=false then some (p.2.2,20) else if n=8192 then some (p.2.2,3) else Cd9 r (n+1)
def Ar (src:List UInt8):List Tok×Int×Int:=
 if 65536<src.length then([],0,3) else match Cd9 (Nd (En src) 1) 0 with
  | some e=>([],e.1,e.2)
  | none=>((Nd (En src) 1).map (·.1),0,0)
def Ge1 (k:Nat) (p:Tok×Bool×Int):Tok×Bool×Int:=({ p.1 with line:=p.1.line+k },p.2.1,p.2.2+k)
theorem Dd3 (k:Nat): ∀(b:List (List UInt8)) (i:Nat),Nd b (i+k)=(Nd b i).map (Ge1 k)
 | [],i=>rfl
 | s::b,i=>by
  rw[Nd,Nd,List.map_append,show i+k+1=(i+1)+k by omega,Dd3 k b,List.map_map];congr 1
def Dd4 (y:List (Tok×Bool×Int)):Option (Int×Int):=(y.find? fun p=>!p.2.1).map fun p=>(p.2.2,20)
theorem Bi6: ∀(y:List (Tok×Bool×Int)) (n:Nat),n+y.length<=8192->Cd9 y n=Dd4 y
 | [],n,_=>rfl
 | p::y,n,h=>by
  rw[jA] at h;rw[Cd9,Dd4,List.find?_cons];cases hp:p.2.1 with
  | false=>simp
  | true=>
   rw[if_neg (by simp),if_neg (by omega),Bi6 y (n+1) (by omega)];rfl
theorem Co8: ∀(ls:List (List UInt8)) (i:Nat),(Nd ls i).length<=At4 ls
 | [],_=>by simp [Nd,At4]
 | s::ls,i=>by
  have h1:=Dd0 s;have h2:=Co8 ls (i+1);rw[Nd,jC,jK];simp only[At4,jN,List.sum_cons] at h2⊢
  omega
theorem Dd5 (h:List UInt8) (i:Nat):(Nd (En h) i).length<=h.length+1:=by
 have h1:=Co8 (En h) i;have h2:=Zl 10 h [];rw[En] at h1⊢
 rw[h2] at h1;simpa using h1
theorem Ce0 {y:List UInt8} (h:y.length<=8191):Ar y=match Dd4 (Nd (En y) 1) with
  | some e=>([],e.1,e.2)
  | none=>((Nd (En y) 1).map (·.1),0,0):=by
 have:=Dd5 y 1
 rw[Ar,if_neg (by omega),Bi6 _ _ (by omega)]
end Go.Dl
