/- The data level and the contracts of the functions that are reached (part 3). -/
import Derived.Orders
import Derived.Test.YtpkdkhoeaibpaaaGreatDoorProg
import Derived.KernelRfl
import Derived.Lib.ItoaMem
import Derived.Lib.ConvBytes
import Derived.Lib.LaidTab
import Derived.Lib.ItoaLen
import Derived.Lib.ParseIntBTie
import Derived.Lib.IndexMore
import Derived.Lib.IndexAny
import Derived.Lib.TrimByte
import Derived.Lib.Strings
import Derived.Lib.Repeat
import Derived.Lib.CountLaws
import Derived.Lib.ParseIntB
import Derived.Test.YtpkdkhoeaibpaaaGreatDoorPdb
set_option linter.unusedSimpArgs false
set_option linter.unusedVariables false
set_option linter.unusedSectionVars false
-- THE DATA LEVEL, PART Y: regions whose order is drawn: a plan takes operations that only compute as early as they may come; whatever order is drawn ends as the plan does.
namespace Go.Dl
open Go
def EVF (dst:Option Nat) (F:DK->DS->Prop):Prop:=
 ∀K s,F K s-> ∃d,Cb dst d K s/\ ∀K' s',Cb dst d K' s'->F K' s'
theorem Gp (dst:Option Nat) (d:DVal):EVF dst (Cb dst d):=fun K s h=>⟨d,h,fun K' s' h'=>h'⟩
theorem Hl (dst:Option Nat) {F:DK->DS->Prop} (h: ∀K s,¬F K s):EVF dst F:=fun K s hf=>(h K s hf).elim
theorem Cl {dst:Option Nat} {p:Prop} {F:DK->DS->Prop} (h:EVF dst F):EVF dst (fun K s=>p/\F K s):=fun K s ⟨hp,hf⟩=>by
 obtain⟨d,h1,h2⟩:=h K s hf;exact⟨d,h1,fun K' s' h'=>⟨hp,h2 K' s' h'⟩⟩
theorem Hx (dst:Option Nat) (o:Option DVal):EVF dst (Hv dst o):=by
 cases o with
 | none=>exact Hl _ fun K s h=>h
 | some d=>exact Gp dst d
theorem De1 (dst:Option Nat) (c a b:DVal):EVF dst (Al9 dst c a b):=by
 intro K s h;revert h;unfold Al9;split
 ·intro h;exact⟨_,h,fun _ _ h'=>h'⟩
 ·intro h;exact h.elim
theorem Cp8 (P:Program) (dst:Option Nat) (b:Bool) (t:Option TypeDesc) (z:Option DVal) (ps:List (Nat×DVal)):EVF dst (Tk P dst b t z ps):=by
 intro K s h;revert h;unfold Tk;split
 ·intro h;exact Hx _ _ K s h
 ·intro h;exact Hx _ _ K s h
 ·intro h;exact h.elim
theorem Bc0 (size:Nat) (dst:Option Nat) (ag:Option Bool) (cs:List DVal) (off:Nat):EVF dst (Tl size dst ag cs off):=by
 intro K s h;revert h;unfold Tl;split
 ·intro h;exact Cl (Gp _ _) K s h
 ·intro h;exact Hx _ _ K s h
 ·intro h;exact h.elim
theorem Cp9 (size:Nat) (ag:Option Bool) (dst:Option Nat) (off:Nat) (o:Option DObj):EVF dst (Ab1 size ag dst off o):=by
 intro K s h;revert h;unfold Ab1;split
 ·intro h;exact Bc0 _ _ _ _ _ K s h
 ·intro h;exact h.elim
theorem De2 (size:Nat) (ag:Option Bool) (dst:Option Nat) (v:DVal) (K:DK) (s:DS) (h:Xt size ag dst v K s):
  ∃d,Cb dst d K s/\ ∀K' s',(∀r off,v= .optr r off->s'.heap r=s.heap r)->Cb dst d K' s'->Xt size ag dst v K' s':=by
 unfold Xt at h;split at h<;>try exact h.elim
 ·obtain⟨d,h1,h2⟩:=Bc0 _ _ _ _ _ K s h;exact⟨d,h1,fun K' s' _ h'=>h2 K' s' h'⟩
 ·rename_i r off
  obtain⟨d,h1,h2⟩:=Cp9 _ _ _ _ _ K s h;exact⟨d,h1,fun K' s' hk h'=>by show Ab1 _ _ _ _ (s'.heap r) K' s';rw[hk r off rfl];exact h2 K' s' h'⟩
theorem Bc1 (dst:Option Nat) (v:DVal):EVF dst (Ns dst v):=by
 intro K s h;revert h;unfold Ns;split<;>intro h<;>first | exact h.elim | exact⟨_,h,fun _ _ h'=>h'⟩
theorem Bo8 (dst:Option Nat) (o b:Option Bool):EVF dst (Kz dst o b):=by
 intro K s h;revert h;unfold Kz;split<;>intro h<;>first | exact h.elim | exact⟨_,h,fun _ _ h'=>h'⟩
theorem Cg0 (k:IntKind) (a b:Int) (dst:Option Nat) (op:BinOp):EVF dst (fun K s=>Um k a b dst K s op):=by
 intro K s h;revert h;unfold Um;split<;>intro h<;>first | exact h.elim | exact⟨_,h,fun _ _ h'=>h'⟩ | exact⟨_,h.2,fun _ _ h'=>⟨h.1,h'⟩⟩
theorem Cq0 (k:IntKind) (a b:Int) (dst:Option Nat) (op:BinOp):EVF dst (fun K s=>Ab3 k a b dst K s op):=by
 intro K s h;revert h;unfold Ab3;split<;>intro h<;>first | exact h.elim | exact⟨_,h,fun _ _ h'=>h'⟩ | exact⟨_,h.2,fun _ _ h'=>⟨h.1,h'⟩⟩
theorem Cg1 (a b:List UInt8) (dst:Option Nat) (op:BinOp):EVF dst (fun K s=>Si a b dst K s op):=by
 intro K s h;revert h;unfold Si;split<;>intro h<;>first | exact h.elim | exact⟨_,h,fun _ _ h'=>h'⟩ | exact⟨_,h.2,fun _ _ h'=>⟨h.1,h'⟩⟩
theorem De3 (op:BinOp) (k k':IntKind) (a b:Int) (dst:Option Nat) (x:Bool):EVF dst (fun K s=>Am1 op k k' a b dst K s x):=by
 cases x
 ·exact Cl (Cg0 k a b dst op)
 ·exact Cq0 k a b dst op
theorem Cq1 (P:Program) (t:TypeId) (c:Bool) (op:BinOp) (dst:Option Nat) (x y:DVal):EVF dst (Ix P t c op dst x y):=by
 intro K s h;revert h;unfold Ix;split
 ·intro h;exact De3 _ _ _ _ _ _ _ K s h
 ·intro h;exact Cg1 _ _ _ _ K s h
 ·intro h;exact Cl (Cl (Bo8 _ _ _)) K s h
 ·intro h;exact Bo8 _ _ _ K s h
theorem Dz3 (dst:Option Nat) (op:UnOp) (x:DVal):EVF dst (dUn dst op x):=by
 intro K s h;revert h;unfold dUn;split<;>intro h<;>first | exact h.elim | exact⟨_,h,fun _ _ h'=>h'⟩
theorem Bo9 (dst:Option Nat) (a b:Option TypeDesc) (x:DVal):EVF dst (Lr dst a b x):=by
 intro K s h;revert h;unfold Lr;split<;>intro h<;>first | exact h.elim | exact⟨_,h,fun _ _ h'=>h'⟩
theorem Au0 (t:TypeId) (x:DVal) (dst:Option Nat) (b:Bool):EVF dst (Ls t x dst b):=by
 intro K s h;revert h;unfold Ls;split<;>intro h<;>first | exact h.elim | exact⟨_,h,fun _ _ h'=>h'⟩
theorem Bc2 (l:List UInt8) (dst:Option Nat) (a b:Option Int):EVF dst (fun K s=>Sj l dst K s a b):=by
 cases a<;>cases b<;>first | exact Hl _ (fun K s h=>h) | exact Cl (Cl (Cl (Gp _ _)))
theorem Am9 (size:Nat) (cs:List DVal) (len:Nat) (dst:Option Nat) (a b:Option Int):EVF dst (fun K s=>Sk size cs len dst K s a b):=by
 cases a<;>cases b<;>first | exact Hl _ (fun K s h=>h) | exact Cl (Cl (Cl (Gp _ _)))
theorem Wv (size r off cap:Nat) (dst:Option Nat) (a b c:Option Int):EVF dst (fun K s=>Mp size r off cap dst K s a b c):=by
 cases a<;>cases b<;>cases c<;>first | exact Hl _ (fun K s h=>h) | exact Cl (Cl (Cl (Cl (Gp _ _))))
theorem Cg2 (dst:Option Nat) (a b:Option Int):EVF dst (fun K s=>Zs dst K s a b):=by
 cases a<;>cases b<;>first | exact Hl _ (fun K s h=>h) | exact Cl (Cl (Gp _ _))
theorem Cq2 (P:Program) (lo hi:Option DVal) (dst:Option Nat) (t:Option TypeDesc) (v:DVal) (m:Option DVal) (K:DK) (s:DS) (h:Tm P lo hi dst t v m K s):
  ∃d,Cb dst d K s/\ ∀K' s',(∀r off,v= .optr r off->s'.heap r=s.heap r)->Cb dst d K' s'->Tm P lo hi dst t v m K' s':=by
 have lift: ∀ {F:DK->DS->Prop},EVF dst F->F K s-> ∃d,Cb dst d K s/\ ∀K' s',(∀r off,v= .optr r off->s'.heap r=s.heap r)->Cb dst d K' s'->F K' s':=by
  intro F hF hf;obtain⟨d,h1,h2⟩:=hF K s hf;exact⟨d,h1,fun K' s' _ h'=>h2 K' s' h'⟩
 unfold Tm at h;split at h<;>try exact h.elim
 ·exact lift (Bc2 _ _ _ _) h
 ·exact lift (Cl (Cg2 _ _ _)) h
 ·exact lift (Cl (Am9 _ _ _ _ _ _)) h
 ·exact lift (Cl (Cl (Wv _ _ _ _ _ _ _ _))) h
 ·exact lift (Cl (Cl (Cl (Wv _ _ _ _ _ _ _ _)))) h
 ·rename_i n e r off
  obtain⟨h1,h2,h3⟩:=h;obtain⟨d,h4,h5⟩:=Wv _ _ _ _ _ _ _ _ K s h3;exact⟨d,h4,fun K' s' hk h'=>⟨h1,by rw[hk r off rfl];exact h2,h5 K' s' h'⟩⟩
 ·exact lift (Cl (Cl (Am9 _ _ _ _ _ _))) h
theorem Ak4 (P:Program) (x:DVal) (dst:Option Nat) (f:Option Field):EVF dst (Ra P x dst f):=by
 cases f with
 | none=>exact Hl _ (fun K s h=>h)
 | some f=>exact Cl (Hx _ _)
theorem Au1 (P:Program) (f:Nat) (x:DVal) (dst:Option Nat) (t:Option TypeDesc):EVF dst (Ic P f x dst t):=by
 intro K s h;revert h;unfold Ic;split
 ·intro h;exact Ak4 _ _ _ _ K s h
 ·intro h;exact h.elim
theorem Bw4 (size:Nat) (cs:List DVal) (off:Nat) (dst:Option Nat) (b:Option Bool):EVF dst (Ab5 size cs off dst b):=by
 intro K s h;revert h;unfold Ab5;split
 ·intro h;exact Gp _ _ K s h
 ·intro h;exact Hx _ _ K s h
 ·intro h;exact h.elim
theorem Cg3 (P:Program) (cs:List DVal) (dst:Option Nat) (f:Option Field):EVF dst (Ar2 P cs dst f):=by
 cases f with
 | none=>exact Hl _ (fun K s h=>h)
 | some f=>exact Bw4 _ _ _ _ _
theorem Cq3 (P:Program) (f:Nat) (dst:Option Nat) (t:Option TypeDesc) (x:DVal):EVF dst (Tn P f dst t x):=by
 intro K s h;revert h;unfold Tn;split
 ·intro h;exact Cg3 _ _ _ _ K s h
 ·intro h;exact h.elim
theorem Au2 (P:Program) (dst:Option Nat) (t:Option TypeDesc) (x i:DVal):EVF dst (Ie P dst t x i):=by
 intro K s h;revert h;unfold Ie;split
 ·intro h;exact Cl (Cl (Cl (Cl (Gp _ _)))) K s h
 ·intro h;exact Cl (Cl (Cl (Gp _ _))) K s h
 ·intro h;exact Cl (Cl (Cl (Hx _ _))) K s h
 ·intro h;exact h.elim
theorem Cq4 (P:Program) (dst:Option Nat) (t:Option TypeDesc) (x i:DVal):EVF dst (Wl P dst t x i):=by
 intro K s h;revert h;unfold Wl;split
 ·intro h;exact Cl (Cl (Bw4 _ _ _ _ _)) K s h
 ·intro h;exact Cl (Hx _ _) K s h
 ·intro h;exact h.elim
theorem Bp0 (i:Nat) (dst:Option Nat) (x:DVal):EVF dst (Nt i dst x):=by
 intro K s h;revert h;unfold Nt;split
 ·intro h;exact Hx _ _ K s h
 ·intro h;exact h.elim
theorem Ad6 (dst:Option Nat) (z:Option DVal):EVF dst (Un dst z):=by
 cases z with
 | none=>exact Hl _ (fun K s h=>h)
 | some z=>exact Gp _ _
theorem Bc3 (v:DVal) (z:Option DVal) (dst:Option Nat) (a b:Bool):EVF dst (Lp v z dst a b):=by
 cases a<;>cases b
 ·exact Hl _ (fun K s h=>h)
 ·exact Gp _ _
 ·exact Ad6 _ _
 ·exact Gp _ _
theorem Ak5 (P:Program) (t:TypeId) (ok:Bool) (dst:Option Nat) (b:Bool) (x:DVal):EVF dst (Ej P t ok dst b x):=by
 intro K s h;revert h;unfold Ej;split
 ·intro h;exact Bc3 _ _ _ _ _ K s h
 ·intro h;exact Cl (Ad6 _ _) K s h
 ·intro h;exact h.elim
theorem Dq5 (dst:Option Nat) (t:Option TypeDesc) (x:DVal):EVF dst (Cb2 dst t x):=by
 intro K s h;revert h;unfold Cb2;split<;>intro h<;>first | exact h.elim | exact⟨_,h,fun _ _ h'=>h'⟩
theorem Cq5 (P:Program) (x:DVal) (dst:Option Nat) (ts:List TypeId):EVF dst (Ar3 P x dst ts):=by
 intro K s h;revert h;unfold Ar3;split
 ·intro h;exact Dq5 _ _ _ K s h
 ·intro h;exact h.elim
def Mv:Op->Bool
 | .move _ | .assign _ | .pick _ _ _ | .build _ _ | .load _ _ | .nilCheck _ | .unOp _ _ _ | .convert _ _ _ | .makeInterface _ _ | .makeFunc _ _ _
 | .slice _ _ _ _ _ | .fieldAddr _ _ _ | .field _ _ _ | .indexAddr _ _ _ | .index _ _ _ | .typeAssert _ _ _ _ | .extract _ _=>true
 | .binOp _ _ _ y _=>!Fm y
 | .call c=>match c.callee with
  | .builtin .len | .builtin .min | .builtin .max=>true
  | _=>false
 | _=>false
def Au3:Op->Option Operand
 | .load _ a=>some a
 | .slice _ x _ _ _=>some x
 | .convert _ _ x=>some x
 | _=>none
def Hc (H H':Bb):DVal->Prop
 | .optr r _=>H' r=H r
 | .oslice _ r _ _ _=>H' r=H r
 | _=>True
theorem Mw {H:Bb} {v:DVal}:Hc H H v:=by
 unfold Hc;split<;>trivial
theorem Hc.ptr {H H':Bb} {d:DVal} (h:Hc H H' d): ∀r off,d= .optr r off->H' r=H r:=fun r off e=>by subst e;exact h
def Bc4 (G:Nat->DVal) (s s':DS) (op:Op):Prop:= ∀a,Au3 op=some a->Hc s.heap s'.heap (dev G s.env a)
theorem Bc5 {H H':Bb} {x:DVal} (h:Hc H H' x):Ot H' x=Ot H x:=by
 unfold Ot;split<;>try rfl
 simp only[Hc] at h;rw[h]
theorem Cq6 (P:Program) (dst:Option Nat) (a b:Option TypeDesc) (x:DVal) (K:DK) (s:DS) (h:Ja P dst a b x K s):
  ∃d,Cb dst d K s/\ ∀K' s',Hc s.heap s'.heap x->Cb dst d K' s'->Ja P dst a b x K' s':=by
 revert h;unfold Ja;split
 ·rintro⟨h1,h⟩;cases hb:(Ot s.heap x).bind Ld with
  | none=>rw[hb] at h;exact h.elim
  | some l=>
   rw[hb] at h;exact⟨_,h,fun K' s' hk h'=>⟨h1,by rw[Bc5 hk,hb];exact h'⟩⟩
 ·intro h;obtain⟨d,h1,h2⟩:=Bo9 _ _ _ _ K s h;exact⟨d,h1,fun K' s' _ h'=>h2 K' s' h'⟩
theorem Lw {G:Nat->DVal} {env env':Nat->DVal}: ∀ {xs:List Operand},(∀x∈xs,dev G env' x=dev G env x)->Ei G env' xs=Ei G env xs
 | [],_=>rfl
 | x::xs,h=>by
  simp only[Ei];rw[h x (by simp),Lw fun y hy=>h y (by simp [hy])]
theorem Pb {G:Nat->DVal} {env env':Nat->DVal}: ∀ {xs:List (Nat×Operand)},(∀x∈xs.map (·.2),dev G env' x=dev G env x)->Hb G env' xs=Hb G env xs
 | [],_=>rfl
 | (i,x)::xs,h=>by
  simp only[Hb];rw[h x (by simp),Pb fun y hy=>h y (by simp at hy⊢;exact .inr hy)]
theorem Pc {G:Nat->DVal} {env env':Nat->DVal} {x:Option Operand} (h: ∀y∈x.toArray,dev G env' y=dev G env y):Ks G env' x=Ks G env x:=by
 cases x with
 | none=>rfl
 | some x=>simp only[Ks];rw[h x (by simp)]
def Mx (all:List Oper) (env:Nat->DVal) (o:Oper):Option Bool:=
 match o.guard with
 | none=>some true
 | some (j,b)=>match Le all j with
  | some g=>match env g with
   | .bool v=>some (v==b)
   | .tuple []=>some false
   | _=>none
  | none=>none
end Go.Dl

-- THE DATA LEVEL, PART Z: an operation hangs on its operands alone.
namespace Go.Dl
open Go
section
variable {P:Program} {G:Nat->DVal}
theorem Tx {dst:Option Nat} {K:DK} {Q:DExit->DS->Prop} {s:DS} (op:Op) (he:Mv op=true) (h:dop P G dst K Q s op):
  ∃d,Cb dst d K s/\ ∀Q' K' s',(∀x∈op.operands,dev G s'.env x=dev G s.env x)->Bc4 G s s' op->Cb dst d K' s'->dop P G dst K' Q' s' op:=by
 have lift: ∀ {F:DK->DS->Prop},EVF dst F->F K s->(∀K' s',(∀x∈op.operands,dev G s'.env x=dev G s.env x)-> ∀Q',F K' s'->dop P G dst K' Q' s' op)->
   ∃d,Cb dst d K s/\ ∀Q' K' s',(∀x∈op.operands,dev G s'.env x=dev G s.env x)->Bc4 G s s' op->Cb dst d K' s'->dop P G dst K' Q' s' op:=by
  intro F hF hf hT;obtain⟨d,h1,h2⟩:=hF K s hf;exact⟨d,h1,fun Q' K' s' ha _ h'=>hT K' s' ha Q' (h2 K' s' h')⟩
 cases op<;>simp only[Mv] at he<;>try (cases he;done)
 case move x=>exact lift (Gp _ _) h fun K' s' ha Q' h'=>by simp only[dop];rw[ha x (by simp [Op.operands])];exact h'
 case assign x=>exact lift (Gp _ _) h fun K' s' ha Q' h'=>by simp only[dop];rw[ha x (by simp [Op.operands])];exact h'
 case pick c a b=>exact lift (De1 _ _ _ _) h fun K' s' ha Q' h'=>by simp only[dop];rw[ha c (by simp [Op.operands]),ha a (by simp [Op.operands]),ha b (by simp [Op.operands])];exact h'
 case build t ps=>
  exact lift (Cp8 _ _ _ _ _ _) h fun K' s' ha Q' h'=>by
   simp only[dop];rw[Pb (env:=s.env) (fun x hx=>ha x (by simpa [Op.operands] using hx))];exact h'
 case load t a=>
  obtain⟨d,h1,h2⟩:=De2 _ _ _ _ K s h;exact⟨d,h1,fun Q' K' s' ha hk h'=>by simp only[dop];rw[ha a (by simp [Op.operands])];exact h2 K' s' (hk a rfl).ptr h'⟩
 case nilCheck x=>exact lift (Bc1 _ _) h fun K' s' ha Q' h'=>by simp only[dop];rw[ha x (by simp [Op.operands])];exact h'
 case binOp op t x y _=>
  have hn:Fm y=false:=by simpa using he
  simp only[dop,hn,Kt] at h;exact lift (Cq1 _ _ _ _ _ _ _) h fun K' s' ha Q' h'=>by simp only[dop,hn,Kt];rw[ha x (by simp [Op.operands]),ha y (by simp [Op.operands])];exact h'
 case unOp op t x=>exact lift (Dz3 _ _ _) h fun K' s' ha Q' h'=>by simp only[dop];rw[ha x (by simp [Op.operands])];exact h'
 case convert a t x=>
  obtain⟨d,h1,h2⟩:=Cq6 _ _ _ _ _ K s h;exact⟨d,h1,fun Q' K' s' ha hk h'=>by simp only[dop];rw[ha x (by simp [Op.operands])];exact h2 K' s' (hk x rfl) h'⟩
 case makeInterface t x=>exact lift (Au0 _ _ _ _) h fun K' s' ha Q' h'=>by simp only[dop];rw[ha x (by simp [Op.operands])];exact h'
 case makeFunc fn fs cs=>
  exact lift (Gp _ _) h fun K' s' ha Q' h'=>by
   simp only[dop];rw[Lw (env:=s.env) (xs:=fs.toList) (fun x hx=>ha x (by simp at hx;simp [Op.operands,hx])),Lw (env:=s.env) (xs:=cs.toList) (fun x hx=>ha x (by simp at hx;simp [Op.operands,hx]))];exact h'
 case slice t x lo hi mx=>
  obtain⟨d,h1,h2⟩:=Cq2 _ _ _ _ _ _ _ K s h;exact⟨d,h1,fun Q' K' s' ha hk h'=>by
   simp only[dop];rw[ha x (by simp [Op.operands]),Pc (x:=lo) (env:=s.env) (fun y hy=>ha y (by simp at hy;simp [Op.operands,hy])),Pc (x:=hi) (env:=s.env) (fun y hy=>ha y (by simp at hy;simp [Op.operands,hy])),Pc (x:=mx) (env:=s.env) (fun y hy=>ha y (by simp at hy;simp [Op.operands,hy]))];exact h2 K' s' (hk x rfl).ptr h'⟩
 case fieldAddr t x f=>exact lift (Au1 _ _ _ _ _) h fun K' s' ha Q' h'=>by simp only[dop];rw[ha x (by simp [Op.operands])];exact h'
 case field t x f=>exact lift (Cq3 _ _ _ _ _) h fun K' s' ha Q' h'=>by simp only[dop];rw[ha x (by simp [Op.operands])];exact h'
 case indexAddr t x i=>exact lift (Au2 _ _ _ _ _) h fun K' s' ha Q' h'=>by simp only[dop];rw[ha x (by simp [Op.operands]),ha i (by simp [Op.operands])];exact h'
 case index t x i=>exact lift (Cq4 _ _ _ _ _) h fun K' s' ha Q' h'=>by simp only[dop];rw[ha x (by simp [Op.operands]),ha i (by simp [Op.operands])];exact h'
 case typeAssert x t u ok=>exact lift (Ak5 _ _ _ _ _ _) h fun K' s' ha Q' h'=>by simp only[dop];rw[ha x (by simp [Op.operands])];exact h'
 case extract x i=>exact lift (Bp0 _ _ _) h fun K' s' ha Q' h'=>by simp only[dop];rw[ha x (by simp [Op.operands])];exact h'
 case call c=>
  have hargs: ∀s':DS,(∀x∈(Op.call c).operands,dev G s'.env x=dev G s.env x)->Ei G s'.env c.args.toList=Ei G s.env c.args.toList:=by
   intro s' ha;exact Lw fun x hx=>ha x (by simp at hx;simp [Op.operands,Call.operands,hx])
  simp only[dop] at h⊢
  cases hc:c.callee with
  | value f=>rw[hc] at he;cases he
  | invoke r m=>rw[hc] at he;cases he
  | builtin b=>
   rw[hc] at h he;simp only[Mr] at h⊢
   cases b<;>simp only at he<;>try (cases he;done)
   case len=>
    cases hx:Ei G s.env c.args.toList with
    | nil=>rw[hx] at h;exact h.elim
    | cons x xs=>
     cases xs with
     | cons y ys=>rw[hx] at h;exact h.elim
     | nil=>
      rw[hx] at h;obtain⟨d,h1,h2⟩:=Cq5 P x dst c.argTypes.toList K s h;exact⟨d,h1,fun Q' K' s' ha _ h'=>by rw[hargs s' ha,hx];exact h2 K' s' h'⟩
   case min=>
    obtain⟨d,h1,h2⟩:=Hx dst (Ia false (Ei G s.env c.args.toList)) K s h;exact⟨d,h1,fun Q' K' s' ha _ h'=>by rw[hargs s' ha];exact h2 K' s' h'⟩
   case max=>
    obtain⟨d,h1,h2⟩:=Hx dst (Ia true (Ei G s.env c.args.toList)) K s h;exact⟨d,h1,fun Q' K' s' ha _ h'=>by rw[hargs s' ha];exact h2 K' s' h'⟩
theorem Cg4 {dst:Option Nat} {K K':DK} {Q Q':DExit->DS->Prop} {s s':DS} (op:Op) (ha: ∀x∈op.operands,dev G s'.env x=dev G s.env x) (hh:s'.heap=s.heap)
  (hK: ∀d h,K ⟨Ez s.env dst d,h⟩->K' ⟨Ez s'.env dst d,h⟩) (hQ: ∀v h,Q (.panic v) ⟨s.env,h⟩->Q' (.panic v) ⟨s'.env,h⟩)
  (h:dop P G dst K Q s op):dop P G dst K' Q' s' op:=by
 by_cases he:Mv op=true
 ·obtain⟨d,h1,h2⟩:=Tx op he h;refine h2 Q' K' s' ha (fun a _=>by rw[hh];exact Mw) ?_;show K' ⟨Ez s'.env dst d,s'.heap⟩;rw[hh];exact hK _ _ h1
 ·have newP: ∀ {cs e},Ab0 cs e dst K s->Ab0 cs e dst K' s':=fun hn r hr=>by
   rw[hh] at hr⊢;exact hK _ _ (hn r hr)
  have newS: ∀ {cs e sz l c},Xs cs e sz l c dst K s->Xs cs e sz l c dst K' s':=fun hn r hr=>by
   rw[hh] at hr⊢;exact hK _ _ (hn r hr)
  have panic: ∀ {x},Rc Q s x->Rc Q' s' x:=by
   intro x hx;unfold Rc at hx⊢
   split at hx<;>try exact hx.elim
   have:=hQ _ _ hx;rw[<-hh] at this;exact this
  cases op<;>(try exact(he rfl).elim)<;>(try exact h.elim)
  case binOp op t x y t'=>
   have hn:Fm y=true:=by
    simp only[Mv] at he;cases hy:Fm y with
    | true=>rfl
    | false=>rw[hy] at he;exact absurd rfl he
   simp only[dop] at h⊢
   rw[ha x (by simp [Op.operands]),ha y (by simp [Op.operands])];rw[hn] at h⊢
   generalize dev G s.env x=dx at h⊢
   generalize dev G s.env y=dy at h⊢
   have put: ∀d,Cb dst d K s->Cb dst d K' s':=fun d h=>by unfold Cb at*;rw[hh];exact hK _ _ h
   have rest:Ix P t (Ed x || Ed y) op dst dx dy K s->Ix P t (Ed x || Ed y) op dst dx dy K' s':=fun h=>by
    obtain⟨d,h1,h2⟩:=Cq1 _ _ _ _ _ _ _ K s h;exact h2 K' s' (put d h1)
   cases dx<;>first | exact rest h | skip
   simp only[Sz] at h⊢
   refine⟨h.1,fun b hb=> ?_⟩;obtain⟨d,h1,h2⟩:=Bo8 _ _ _ K s (h.2 b hb);exact h2 K' s' (put d h1)
  case range t x=>
   simp only[dop] at h⊢
   rw[ha x (by simp [Op.operands])];generalize P.underlying t=u at h⊢
   generalize dev G s.env x=dx at h⊢
   unfold Ab4 at h⊢
   split at h<;>try exact h.elim
   exact fun r hr=>by rw[hh] at hr⊢;exact hK _ _ (h r hr)
  case next x b=>
   simp only[dop] at h⊢
   rw[ha x (by simp [Op.operands])];generalize dev G s.env x=dx at h⊢
   unfold Am2 at h⊢
   split at h<;>try exact h.elim
   rw[hh];unfold Ar1 at h⊢
   split at h<;>try exact h.elim
   refine⟨fun hp=>by rw[hh];exact hK _ _ (h.1 hp),fun hp=> ?_⟩;have:=h.2 hp;unfold Cb at*;rw[hh];exact hK _ _ this
  case makeMap t r=>
   simp only[dop] at h⊢
   rw[Pc (x:=r) (env:=s.env) (fun y hy=>ha y (by simp at hy;simp [Op.operands,hy]))];generalize P.underlying t=u at h⊢
   generalize Ks G s.env r=v at h⊢
   unfold Nw at h⊢
   split at h<;>try exact h.elim
   all_goals exact fun r hr=>by rw[hh] at hr⊢;exact hK _ _ (h r hr)
  case lookup t x k ok=>
   simp only[dop] at h⊢
   rw[ha x (by simp [Op.operands]),ha k (by simp [Op.operands])];generalize P.underlying t=u at h⊢
   generalize dev G s.env x=dx at h⊢
   generalize dev G s.env k=dk at h⊢
   have put: ∀d,Cb dst d K s->Cb dst d K' s':=fun d h=>by unfold Cb at*;rw[hh];exact hK _ _ h
   have hF: ∀es z r,Tp es ok dst z r K s->Tp es ok dst z r K' s':=fun es z r h=>by
    unfold Tp at h⊢
    split at h<;>try exact h.elim
    ·obtain⟨p,h1,h2⟩:=h;exact⟨p,h1,put _ h2⟩
    ·exact put _ h
   unfold Us at h⊢
   split at h<;>try exact h.elim
   ·refine⟨h.1, ?_⟩;have h2:=h.2;rw[hh];generalize s.heap _=ob at h2⊢
    unfold Bk9 at h2⊢
    split at h2<;>try exact h2.elim
    exact hF _ _ _ h2
   ·exact⟨h.1,hF _ _ _ h.2⟩
  case mapUpdate t m k x=>
   simp only[dop] at h⊢
   rw[ha m (by simp [Op.operands]),ha k (by simp [Op.operands]),ha x (by simp [Op.operands])];generalize P.underlying t=u at h⊢
   generalize dev G s.env m=dm at h⊢
   generalize dev G s.env k=dk at h⊢
   generalize dev G s.env x=dx at h⊢
   unfold Mq at h⊢
   split at h<;>try exact h.elim
   obtain⟨h1,h2,h3⟩:=h;refine⟨h1,h2, ?_⟩;rw[hh];generalize s.heap _=ob at h3⊢
   unfold Ur at h3⊢
   split at h3<;>try exact h3.elim
   refine⟨h3.1, ?_⟩;have h4:=h3.2;unfold Uq at h4⊢
   split at h4<;>try exact h4.elim
   subst h1;rw[hh];exact hK Di _ h4
  case insert t m k x=>
   simp only[dop] at h⊢
   rw[ha m (by simp [Op.operands]),ha k (by simp [Op.operands]),ha x (by simp [Op.operands])];generalize P.underlying t=u at h⊢
   generalize dev G s.env m=dm at h⊢
   generalize dev G s.env k=dk at h⊢
   generalize dev G s.env x=dx at h⊢
   unfold Mq at h⊢
   split at h<;>try exact h.elim
   obtain⟨h1,h2,h3⟩:=h;refine⟨h1,h2, ?_⟩;rw[hh];generalize s.heap _=ob at h3⊢
   unfold Ur at h3⊢
   split at h3<;>try exact h3.elim
   refine⟨h3.1, ?_⟩;have h4:=h3.2;unfold Uq at h4⊢
   split at h4<;>try exact h4.elim
   subst h1;rw[hh];exact hK Di _ h4
  case alloc e=>
   simp only[dop] at h⊢
   generalize Bz P e=z at h⊢
   cases z with
   | none=>exact h.elim
   | some z=>exact newP h
  case box e x=>simp only[dop] at h⊢;rw[ha x (by simp [Op.operands])];exact newP h
  case buildSlice t n ps=>
   simp only[dop] at h⊢
   rw[Pb (env:=s.env) (fun x hx=>ha x (by simpa [Op.operands] using hx))];generalize Hb G s.env ps.toList=qs at h⊢
   generalize P.underlying t=u at h⊢
   unfold Ik at h⊢
   split at h<;>try exact h.elim
   show Oo _ _ _ _ _ _ _ _;generalize Bz P _=z at h⊢
   cases z with
   | none=>exact h.elim
   | some z=>
    obtain⟨h1,h2,h3⟩:=h;refine⟨h1,h2, ?_⟩;generalize Iz _ _ _=f at h3⊢
    cases f with
    | none=>exact h3.elim
    | some f=>exact newS h3
  case store t a x=>
   simp only[dop] at h⊢
   obtain⟨h1,h2⟩:=h;refine⟨h1, ?_⟩;rw[ha a (by simp [Op.operands]),ha x (by simp [Op.operands])];generalize dev G s.env a=va at h2⊢
   generalize dev G s.env x=vx at h2⊢
   unfold Wk at h2⊢
   split at h2<;>try exact h2.elim
   rename_i hx0 hx1 hx2 hx3
   rw[hh];generalize s.heap _=ob at h2⊢
   unfold Ar0 at h2⊢
   split at h2<;>try exact h2.elim
   obtain⟨g1,g2,g3,g4⟩:=h2;refine⟨g1,g2,g3, ?_⟩;rw[hh];exact hK Di _ g4
  case makeSlice t l c=>
   simp only[dop] at h⊢
   rw[ha l (by simp [Op.operands]),ha c (by simp [Op.operands])];generalize dev G s.env l=vl at h⊢
   generalize dev G s.env c=vc at h⊢
   generalize P.underlying t=u at h⊢
   unfold Ju at h⊢
   split at h<;>try exact h.elim
   show Qz _ _ _ _ _ _ _ _ _;generalize Bz P _=z at h⊢
   cases z with
   | none=>exact h.elim
   | some z=>
    obtain⟨h1,h2,h3,h4,h5,h6,h7⟩:=h;exact⟨h1,h2,h3,h4,h5,h6,newS h7⟩
  case panic x=>simp only[dop] at h⊢;rw[ha x (by simp [Op.operands])];exact panic h
  case call c=>
   have hargs:Ei G s'.env c.args.toList=Ei G s.env c.args.toList:=
    Lw fun x hx=>ha x (by simp at hx;simp [Op.operands,Call.operands,hx])
   simp only[dop] at h⊢
   cases hc:c.callee with
   | invoke r m=>rw[hc] at h;exact h.elim
   | value f=>
    rw[hc] at h;simp only[Mr] at h⊢
    rw[hargs,ha f (by simp [Op.operands,Call.operands,hc])];generalize dev G s.env f=vf at h⊢
    unfold Wm at h⊢
    split at h<;>try exact h.elim
    all_goals
     rw[hh];refine h.mono ?_;intro e H' hr;cases e with
     | ret v=>exact hK _ _ hr
     | panic v=>exact hQ _ _ hr
   | builtin b=>
    rw[hc] at h;simp only[Mr] at h⊢
    rw[hargs];generalize Ei G s.env c.args.toList=vs at h⊢
    cases b<;>(try (cases vs<;>exact h.elim))<;>(try (exfalso;refine he ?_;simp [Mv,hc];done))
    case cap=>
     cases vs with
     | nil=>exact h.elim
     | cons x vs=> ?_
     cases vs with
     | cons z vs=>exact h.elim
     | nil=> ?_
     simp only[Ha] at h⊢
     generalize c.argTypes.toList=ts at h⊢
     unfold Cn1 at h⊢
     split at h<;>try exact h.elim
     show Cn0 _ _ _ _ _;generalize P.underlying _=u at h⊢
     unfold Cn0 at h⊢
     split at h<;>try exact h.elim
     ·show K' ⟨_,s'.heap⟩;rw[hh];exact hK _ _ h
     ·intro c hc;show K' ⟨_,s'.heap⟩;rw[hh];exact hK _ _ (h c hc)
     ·intro c hc hc';show K' ⟨_,s'.heap⟩;rw[hh];exact hK _ _ (h c hc hc')
    case clear=>
     cases vs with
     | nil=>exact h.elim
     | cons x vs=> ?_
     cases vs with
     | cons z vs=>exact h.elim
     | nil=> ?_
     simp only[Ha] at h⊢
     generalize c.argTypes.toList=ts at h⊢
     unfold Az2 at h⊢
     split at h<;>try exact h.elim
     show Ab8 _ _ _ _ _ _;generalize P.underlying _=u at h⊢
     unfold Ab8 at h⊢
     split at h<;>try exact h.elim
     generalize Bz _ _=zo at h⊢
     unfold Ar4 at h⊢
     split at h<;>try exact h.elim
     ·show K' ⟨_,s'.heap⟩;rw[hh];exact hK _ _ h
     ·refine⟨h.1,h.2.1, ?_⟩;have h2:=h.2.2;rw[hh];generalize s.heap _=ob at h2⊢
      unfold Bv5 at h2⊢
      split at h2<;>try exact h2.elim
      refine⟨h2.1,h2.2.1,h2.2.2.1, ?_⟩;rw[hh];exact hK _ _ h2.2.2.2
    case delete=>
     cases vs with
     | nil=>exact h.elim
     | cons x vs=> ?_
     cases vs with
     | nil=>exact h.elim
     | cons y vs=> ?_
     cases vs with
     | cons z vs=>exact h.elim
     | nil=> ?_
     simp only[Ha] at h⊢
     generalize c.argTypes.toList=ts at h⊢
     unfold Am4 at h⊢
     split at h<;>try exact h.elim
     show Ut _ _ _ _ _ _ _;generalize P.underlying _=u at h⊢
     unfold Ut at h⊢
     split at h<;>try exact h.elim
     refine⟨h.1, ?_⟩;have h2:=h.2;rw[hh];generalize s.heap _=ob at h2⊢
     unfold Ac0 at h2⊢
     split at h2<;>try exact h2.elim
     unfold Ab9 at h2⊢
     split at h2<;>try exact h2.elim
     rw[hh];exact hK _ _ h2
    case append=>
     cases vs with
     | nil=>exact h.elim
     | cons x vs=> ?_
     cases vs with
     | nil=>exact h.elim
     | cons y vs=> ?_
     cases vs with
     | cons z vs=>exact h.elim
     | nil=> ?_
     simp only[Ha] at h⊢
     generalize c.argTypes.toList=ts at h⊢
     unfold Nv at h⊢
     split at h<;>try exact h.elim
     show Rb _ _ _ _ _ _ _ _ _;generalize Jd _=it at h⊢
     cases it with
     | true=>
      simp only[Rb] at h⊢
      generalize P.underlying _=u at h⊢
      unfold Up at h⊢
      split at h<;>try exact h.elim
      generalize Bz _ _=zo at h⊢
      unfold Ab7 at h⊢
      split at h<;>try exact h.elim
      refine⟨h.1,h.2.1,fun hn=> ?_,fun hn=>⟨(h.2.2.2 hn).1,(h.2.2.2 hn).2.1,(h.2.2.2 hn).2.2.1,newS (h.2.2.2 hn).2.2.2⟩⟩;have:=h.2.2.1 hn;show K' ⟨_,s'.heap⟩;rw[hh];exact hK _ _ this
     | false=> ?_
     simp only[Rb] at h⊢
     generalize To _=u' at h⊢
     generalize P.underlying _=u at h⊢
     unfold Uo at h⊢
     split at h<;>try exact h.elim
     obtain⟨g1,g2,g3,g4,g5,g6⟩:=h;refine⟨g1,g2,g3,g4,g5, ?_⟩;rw[hh];generalize Lt _ _ _=sc at g6⊢
     unfold Ab6 at g6⊢
     split at g6<;>try exact g6.elim
     obtain⟨k1,k2,k3⟩:=g6;refine⟨k1,k2, ?_⟩;unfold Hh at k3⊢
     split at k3<;>try exact k3.elim
     ·refine⟨fun hn=> ?_,fun hn=>⟨(k3.2 hn).1,newS (k3.2 hn).2⟩⟩;have:=k3.1 hn;show K' ⟨_,s'.heap⟩;rw[hh];exact hK _ _ this
     ·refine⟨k3.1, ?_⟩;have k4:=k3.2;rw[hh];generalize s.heap _=ob at k4⊢
      unfold Jc at k4⊢
      split at k4<;>try exact k4.elim
      obtain⟨m1,m2,m3⟩:=k4;refine⟨m1,fun hl=>⟨(m2 hl).1, ?_⟩,fun hl=>⟨(m3 hl).1,(m3 hl).2.1,fun r' pre hr hp=> ?_⟩⟩
      ·rw[hh];exact hK _ _ (m2 hl).2
      ·rw[hh] at hr⊢;exact hK _ _ ((m3 hl).2.2 r' pre hr hp)
    case panic=>
     cases vs with
     | nil=>exact h.elim
     | cons x xs=>cases xs with
      | nil=>exact panic h
      | cons y ys=>exact h.elim
end
end Go.Dl

-- THE DATA LEVEL, PART 1: plans of regions whose order is drawn.
namespace Go.Dl
open Go
inductive Plan where
 | done
 | take (i:Nat) (p:Plan)
 | go (i:Nat) (ls:List Nat) (p:Plan)
 | alt (p q:Plan)
 deriving Inhabited
def Dy:List Oper->Nat->Option Oper
 | [],_=>none
 | o::_,0=>some o
 | _::r,n+1=>Dy r n
def Vb (P:Program) (G:Nat->DVal) (K:DK) (Q:DExit->DS->Prop) (dst:Option Nat) (op:Op) (s:DS):Bool->DVal->Prop
 | true, .bool true=>dop P G dst K Q s op
 | true, .bool false=>Cb dst Di K s
 | false, .bool true=>Cb dst Di K s
 | false, .bool false=>dop P G dst K Q s op
 | true, .tuple []=>Cb dst Di K s
 | false, .tuple []=>Cb dst Di K s
 | _,_=>False
def Ob (P:Program) (G:Nat->DVal) (K:DK) (Q:DExit->DS->Prop) (dst:Option Nat) (op:Op) (s:DS) (b:Bool):Option Nat->Prop
 | some g=>Vb P G K Q dst op s b (s.env g)
 | none=>False
def Cg5 (P:Program) (G:Nat->DVal) (all:List Oper) (K:DK) (Q:DExit->DS->Prop) (s:DS) (dst:Option Nat) (op:Op):Option (Nat×Bool)->Prop
 | none=>dop P G dst K Q s op
 | some (j,b)=>Ob P G K Q dst op s b (Le all j)
def dAt (P:Program) (G:Nat->DVal) (all:List Oper) (K:DK) (Q:DExit->DS->Prop) (s:DS):Option Oper->Prop
 | some o=>Cg5 P G all K Q s o.dst o.op o.guard
 | none=>False
def Cq7 (G:Nat->DVal) (s:DS) (H':Bb):Option Operand->Prop
 | some a=>Hc s.heap H' (dev G s.env a)
 | none=>True
def Pd:Option Oper->Option Operand
 | some o=>Au3 o.op
 | none=>none
def Bw5 (G:Nat->DVal) (all:List Oper) (s:DS) (H':Bb):List Nat->Prop
 | []=>True
 | l::ls=>Cq7 G s H' (Pd (Dy all l))/\Bw5 G all s H' ls
def Bw6 (G:Nat->DVal) (all:List Oper) (ls:List Nat) (s:DS) (K:DK):DK:=fun s'=>Bw5 G all s s'.heap ls/\K s'
def Hy (P:Program) (G:Nat->DVal) (all:List Oper) (Q:DExit->DS->Prop):Plan->DS->Prop
 | .done,s=>Q .normal s
 | .take i p,s=>dAt P G all (Hy P G all Q p) Q s (Dy all i)
 | .go i ls p,s=>dAt P G all (Bw6 G all ls s (Hy P G all Q p)) Q s (Dy all i)
 | .alt p q,s=>Hy P G all Q p s/\Hy P G all Q q s
def QP (Q:DExit->DS->Prop):DExit->DS->Prop
 | .panic v,s=> ∀env,Q (.panic v) ⟨env,s.heap⟩
 | .normal,s=>Q .normal s
 | _,_=>False
def Ml (all:List Oper) (k j:Nat):Bool:=
 match Dy all k with
 | some o=>o.after.any fun e=>Region.binds .any e&&e.on==j
 | none=>false
def Ad7 (all:List Oper) (j k:Nat):Bool:=
 match Dy all j,Dy all k with
 | some x,some y=>x.apart all.toArray y
 | _,_=>true
def Bp1 (all:List Oper) (i:Nat):Bool:=
 match Dy all i with
 | some o=>Mv o.op
 | none=>false
def Ww (all:List Oper) (k:Nat) (T:List Nat):Bool:=
 match Dy all k with
 | some o=>o.after.all fun e=>!Region.binds .any e || T.contains e.on
 | none=>false
def Ir (all:List Oper) (j:Nat):Option Nat:=(Dy all j).bind (·.dst)
def Lx:Plan->List Nat
 | .go i _ _=> [i]
 | .alt p q=>Lx p++Lx q
 | _=> []
def Ya (all:List Oper) (T:List Nat):Plan->Bool
 | .done=>true
 | .take _ _=>true
 | p=>(List.range all.length).all fun k=>T.contains k || (Lx p).contains k || !Ww all k T
def Bc6 (all:List Oper) (T:List Nat) (l:Nat):Operand->Bool
 | .tmp t=>T.all fun m=>Ir all m !=some t || Ml all l m
 | _=>true
def Cq8 (all:List Oper) (k:Nat):List Nat:=
 match Dy all k with
 | some o=>(o.after.toList.filter fun e=>Region.binds .any e).map (·.on)
 | none=> []
def Zv (all:List Oper):Nat->List Nat->List Nat
 | 0,S=>S
 | k+1,S=>Zv all k (if S.contains k then Cq8 all k++S else S)
def Eh4 (all:List Oper) (i:Nat):List Nat:=Zv all (i+1) [i]
def Bw7 (all:List Oper) (T:List Nat) (i:Nat) (ls:List Nat):Bool:=
 T.all fun l=>match Pd (Dy all l) with
  | none=>true
  | some a=>Ml all i l || (l !=i&&(Eh4 all i).contains l) || (ls.contains l&&Bc6 all T l a)
def Fx (all:List Oper):Plan->List Nat->Bool
 | .done,T=>(List.range all.length).all fun k=>T.contains k
 | .take i p,T=>decide (i<all.length)&&!T.contains i&&Bp1 all i&&Ww all i T&&
   ((List.range all.length).all fun k=>T.contains k || k==i || Ml all k i || Ad7 all i k)&&Ya all (i::T) p&&Fx all p (i::T)
 | .go i ls p,T=>decide (i<all.length)&&!T.contains i&&Ww all i T&&Bw7 all T i ls&&Ya all (i::T) p&&Fx all p (i::T)
 | .alt p q,T=>Fx all p T&&Fx all q T
section
variable {P:Program} {G:Nat->DVal} {N:Nat} {all:List Oper} {Q:DExit->DS->Prop} {s0:DS} {w0:World}
theorem Lq: ∀(all:List Oper) (j:Nat),Dy all j=all[j]?
 | [],j=>by simp [Dy]
 | o::r,0=>by simp [Dy]
 | o::r,j+1=>by simp [Dy,Lq r j]
theorem Ad8 {o:Oper} {K:DK} {s:DS}:dAt P G all K Q s (some o)↔
  (Mx all s.env o=some true/\dop P G o.dst K Q s o.op)\/(Mx all s.env o=some false/\Cb o.dst Di K s):=by
 simp only[dAt];unfold Cg5 Mx;cases o.guard with
 | none=>simp
 | some jb=>
  obtain⟨j,b⟩:=jb;simp only;cases Le all j with
  | none=>simp [Ob]
  | some g=>
   simp only[Ob];cases hv:s.env g<;>(try (cases b<;>simp [Vb];done))
   case bool v=>cases b<;>cases v<;>simp [Vb]
   case tuple vs=>cases vs<;>cases b<;>simp [Vb]
def De4 (P:Program) (G:Nat->DVal) (all:List Oper) (j:Nat) (s:DS) (d:DVal):Prop:=
 ∃o,Dy all j=some o/\Mv o.op=true/\
  ((Mx all s.env o=some true/\ ∀K Q,Cb o.dst d K s->dop P G o.dst K Q s o.op)\/(Mx all s.env o=some false/\d=Di))
def Seq (P:Program) (G:Nat->DVal) (all:List Oper):DS->List Nat->DS->Prop
 | s,[],s'=>s'=s
 | s,j::js,s'=> ∃d,De4 P G all j s d/\Seq P G all ⟨Ez s.env (Ir all j) d,s.heap⟩ js s'
def looks (all:List Oper) (j:Nat):List Nat:=
 match Dy all j with
 | some o=>o.looksAt all.toArray
 | none=> []
theorem An0 {o:Oper} {env env':Nat->DVal} (h: ∀t∈o.looksAt all.toArray,env' t=env t): ∀x∈o.op.operands,dev G env' x=dev G env x:=by
 intro x hx;cases x with
 | tmp t=>
  refine h t ?_;unfold Oper.looksAt;refine List.mem_append_left _ (List.mem_filterMap.2 ⟨.tmp t,by simpa using hx,rfl⟩)
 | _=>rfl
theorem Vc {o:Oper} {env env':Nat->DVal} (h: ∀t∈o.looksAt all.toArray,env' t=env t):Mx all env' o=Mx all env o:=by
 unfold Mx;cases hg:o.guard with
 | none=>rfl
 | some jb=>
  obtain⟨j,b⟩:=jb;simp only;cases hj:Le all j with
  | none=>rfl
  | some g=>
   simp only;rw[h g];unfold Oper.looksAt;refine List.mem_append_right _ ?_;rw[hg];rw[Va] at hj;simp [hj]
theorem De4.agree {j:Nat} {s s':DS} {d:DVal} (h:De4 P G all j s d) (ha: ∀t∈looks all j,s'.env t=s.env t)
  (hk: ∀o a,Dy all j=some o->Au3 o.op=some a->Hc s.heap s'.heap (dev G s.env a)):De4 P G all j s' d:=by
 obtain⟨o,ho,he,h⟩:=h;have ha': ∀t∈o.looksAt all.toArray,s'.env t=s.env t:=by
  intro t ht;exact ha t (by unfold looks;rw[ho];exact ht)
 refine⟨o,ho,he, ?_⟩;rw[Vc ha'];rcases h with⟨hw,h⟩ | h
 ·refine .inl ⟨hw,fun K' Q' hp=> ?_⟩;have h1:=h (fun s1=>s1=⟨Ez s.env o.dst d,s.heap⟩) Q' rfl;obtain⟨d',hd',hall⟩:=Tx o.op he h1;refine hall Q' K' s' (An0 (all:=all) ha') ?_ ?_
  ·exact fun a hl=>hk o a ho hl
  ·unfold Cb at hd' hp⊢
   have he:Ez s.env o.dst d'=Ez s.env o.dst d:=congrArg DS.env hd';have:Ez s'.env o.dst d'=Ez s'.env o.dst d:=by
    cases hdst:o.dst with
    | none=>rfl
    | some t=>
     rw[hdst] at he;have h2:=congrFun he t;simp [Ez,upd] at h2;rw[h2]
   rw[this];exact hp
 ·exact .inr h
theorem Vd {env:Nat->DVal} {dst:Option Nat} {d:DVal} {t:Nat} (h:dst≠some t):Ez env dst d t=env t:=by
 cases dst with
 | none=>rfl
 | some k=>simp only[Ez,upd];rw[if_neg];intro e;exact h (by rw[e])
theorem An1 {env:Nat->DVal} {x y:Option Nat} {d e:DVal} (h: ∀t,x=some t->y≠some t):Ez (Ez env x d) y e=Ez (Ez env y e) x d:=by
 cases x with
 | none=>rfl
 | some i=>
  cases y with
  | none=>rfl
  | some k=>
   have hne:k≠i:=fun hh=>h i rfl (by rw[hh]);funext t;simp only[Ez,upd];by_cases h1:t=k
   ·subst h1;rw[if_pos rfl,if_neg hne,if_pos rfl]
   ·rw[if_neg h1];by_cases h2:t=i
    ·rw[if_pos h2,if_pos h2]
    ·rw[if_neg h2,if_neg h2,if_neg h1]
structure Apart (all:List Oper) (j k:Nat):Prop where
 a: ∀t,Ir all j=some t->t∉looks all k
 b: ∀t,Ir all j=some t->Ir all k≠some t
 c: ∀t,Ir all k=some t->t∉looks all j
theorem Yb {j k:Nat} {x y:Oper} (hx:Dy all j=some x) (hy:Dy all k=some y) (h:Ad7 all j k=true):Apart all j k:=by
 unfold Ad7 at h;rw[hx,hy] at h;obtain⟨h1,h2,h3⟩:=Oper.apart_spec h;refine⟨?_, ?_, ?_⟩<;>simp only[Ir,looks,hx,hy,Option.bind_some]<;>assumption
theorem Seq.front: ∀ {A:List Nat} {k:Nat} {B:List Nat} {s s':DS},(∀j∈A,Apart all j k)->Seq P G all s (A++k::B) s'->Seq P G all s (k::(A++B)) s'
 | [],k,B,s,s',_,h=>h
 | j::A,k,B,s,s',hA,h=>by
  obtain⟨d,hd,h⟩:=h;obtain⟨dk,hk,h⟩:=Seq.front (fun i hi=>hA i (by simp [hi])) h;have ap:=hA j (by simp);refine⟨dk,hk.agree (fun t ht=>(Vd (fun e=>ap.a t e ht)).symm) (fun _ _ _ _=>Mw),d,hd.agree (fun t ht=>Vd (fun e=>ap.c t e ht)) (fun _ _ _ _=>Mw), ?_⟩;show Seq P G all ⟨Ez (Ez s.env _ dk) _ d,s.heap⟩ (A++B) s';rw[An1 (fun t h1 h2=>ap.b t h2 h1)];exact h
theorem Seq.heap: ∀ {js:List Nat} {s s':DS},Seq P G all s js s'->s'.heap=s.heap
 | [],s,s',h=>by cases h;rfl
 | j::js,s,s',⟨d,_,h⟩=>by have:=Seq.heap h;exact this
theorem Seq.env: ∀ {js:List Nat} {s s':DS},Seq P G all s js s'-> ∀t,(∀j∈js,Ir all j≠some t)->s'.env t=s.env t
 | [],s,s',h,t,_=>by cases h;rfl
 | j::js,s,s',⟨d,_,h⟩,t,ht=>by
  rw[Seq.env h t fun i hi=>ht i (by simp [hi])];exact Vd (ht j (by simp))
theorem Seq.shift {k:Option Nat} {v:DVal} {h:Bb}: ∀ {js:List Nat} {s s':DS},Seq P G all s js s'->
  (∀j∈js,∀t,k=some t->t∉looks all j)->(∀j∈js,∀t,Ir all j=some t->k≠some t)->
  (∀A j B,js=A++j::B-> ∀o a,Dy all j=some o->Au3 o.op=some a->(∀t,a= .tmp t-> ∀m∈j::B,Ir all m≠some t)/\Hc s.heap h (dev G s'.env a))->
  Seq P G all ⟨Ez s.env k v,h⟩ js ⟨Ez s'.env k v,h⟩
 | [],s,s',hs,_,_,_=>by cases hs;rfl
 | j::js,s,s',⟨d,hd,hs⟩,h1,h2,h3=>by
  refine⟨d,hd.agree (fun t ht=>Vd fun e=>h1 j (by simp) t e ht) (fun o a ho ha=> ?_), ?_⟩
  ·obtain⟨g1,g2⟩:=h3 [] j js rfl o a ho ha;have:dev G s'.env a=dev G s.env a:=by
    cases a with
    | tmp t=>
     have:=Seq.env hs t fun i hi=>g1 t rfl i (by simp [hi]);simp only[dev];rw[this];exact Vd (g1 t rfl j (by simp))
    | _=>rfl
   rw[<-this];exact g2
  ·have hs':=Seq.shift (k:=k) (v:=v) (h:=h) hs (fun i hi=>h1 i (by simp [hi])) (fun i hi=>h2 i (by simp [hi])) (fun A i B e=>h3 (j::A) i B (by rw[e];rfl));show Seq P G all ⟨Ez (Ez s.env k v) (Ir all j) d,h⟩ js _;rw[An1 fun t e1 e2=>h2 j (by simp) t e2 e1];exact hs'
end
end Go.Dl

-- THE DATA LEVEL, PART 2: what a plan ends with, every order that is drawn ends with.
namespace Go.Dl
open Go
section
variable {P:Program} {G:Nat->DVal} {N:Fr} {all:List Oper} {Q:DExit->DS->Prop} {s0:DS} {w0:World}
theorem Ad9 {F:Fence} {n:Nat} (hF:FOk F) {k:Nat} {o:Oper} {c:DS} {a:Act} {w:World} {K:DK} (hall:all.all (Gm N)=true) (hk:Dy all k=some o) (hS:Sim G N c a w) (hE:Ext s0.heap w0 c.heap w)
  (h:dAt P G all K Q c (some o)):wpOpIn F n P all.toArray (Lf G N Q s0 w0) k (Fi G N K c w) a w:=by
 have hko:all.toArray[k]? =some o:=by rw[Lq] at hk;simpa using hk
 have hok:Gm N o=true:=by
  rw[Lq] at hk;exact List.all_eq_true.1 hall o (List.mem_of_getElem? hk)
 unfold wpOpIn;simp only[hko];have skip:Cb o.dst Di K c->Fi G N K c w (a.put o.dst undef) w:=fun hp=>
  ⟨⟨Ez c.env o.dst Di,c.heap⟩,hp,hS.put (Jx hok) (Ov w c.heap),Ext.refl _ _⟩
 simp only[dAt] at h;unfold Cg5 at h;cases hg:o.guard with
 | none=>
  rw[hg] at h;rw[if_pos (by simp [Region.wanted,hg])];exact Mu hF hok hS hE h
 | some jb=>
  obtain⟨j,b⟩:=jb;rw[hg] at h;simp only at h;cases hj:Le all j with
  | none=>rw[hj] at h;exact h.elim
  | some g=>
   rw[hj] at h;simp only[Ob] at h;have hjo:(all[j]?).bind (·.dst)=some g:=by rw[<-Va];exact hj
   obtain⟨oj,hoj,hdj⟩:=Option.bind_eq_some_iff.1 hjo;have hmem:oj∈all:=List.mem_of_getElem? hoj;have hgN:g<N:=by
    have:=List.all_eq_true.1 hall oj hmem;have:=Jx this;rw[hdj] at this;simpa [Cq] using this
   have hrel:=hS.tmps g hgN;have hy: ∀v,c.env g= .bool v->yielded all.toArray a.tmps j=some v:=by
    intro v hv;rw[hv] at hrel;simp only[Rel] at hrel;have h1:a.tmps[g]? =some (.bool v):=by
     rw[Array.getD_eq_getD_getElem?] at hrel;cases hq:a.tmps[g]? with
     | none=>
      have:=hS.size;rw[Array.getElem?_eq_none_iff] at hq;omega
     | some z=>rw[hq] at hrel;simpa using hrel
    simp [yielded,hoj,hdj,h1]
   by_cases hun:c.env g= .tuple []
   ·rw[hun] at h hrel;simp only[Rel,Br] at hrel;obtain⟨xs,hxs,hx0⟩:=hrel;have hyn:yielded all.toArray a.tmps j=none:=by
     have h2: ∀z,a.tmps[g]? =some z->z= .tuple xs:=fun z hz=>by
      rw[Array.getD_eq_getD_getElem?,hz] at hxs;simpa using hxs
     unfold yielded;simp only[List.getElem?_toArray,hjo,Option.bind_some];cases hz:a.tmps[g]? with
     | none=>rfl
     | some z=>rw[h2 z hz]
    rw[if_neg (by simp [Region.wanted,hg,hyn])];exact⟨fun f _=>hF.fn f,skip (by cases b<;>exact h)⟩
   cases hv:c.env g<;>rw[hv] at h<;>(try (cases b<;>exact h.elim))
   case tuple vs=>cases vs with
    | nil=>exact absurd hv hun
    | cons _ _=>cases b<;>exact h.elim
   rename_i v
   have hy':=hy v hv;cases b<;>cases v<;>simp only[Vb] at h
   ·rw[if_pos (by simp [Region.wanted,hg,hy'])];exact Mu hF hok hS hE h
   ·rw[if_neg (by simp [Region.wanted,hg,hy'])];exact⟨fun f _=>hF.fn f,skip h⟩
   ·rw[if_neg (by simp [Region.wanted,hg,hy'])];exact⟨fun f _=>hF.fn f,skip h⟩
   ·rw[if_pos (by simp [Region.wanted,hg,hy'])];exact Mu hF hok hS hE h
structure Inv (P:Program) (G:Nat->DVal) (N:Fr) (all:List Oper) (Q:DExit->DS->Prop) (s0:DS) (w0:World)
  (T js:List Nat) (p:Plan) (c s:DS) (a:Act) (w:World) (listed:Array Bool):Prop where
 sim:Sim G N c a w
 ext:Ext s0.heap w0 c.heap w
 seq:Seq P G all c js s
 plan:Hy P G all Q p s
 ok:Fx all p T=true
 cov:Ya all T p=true
 size:listed.size=all.length
 iff: ∀i,i<all.length->(listed.getD i true=true↔i∈T/\i∉js)
 sub: ∀i∈js,i∈T/\i<all.length
 tlt: ∀i∈T,i<all.length
 nodup:js.Nodup
 eager: ∀j∈js,Bp1 all j=true
 pair:js.Pairwise fun j k=>(Ml all k j=true\/Ad7 all j k=true)/\Ml all j k=false
 out: ∀j∈js,∀k,k<all.length->k∉T->Ml all k j=true\/Ad7 all j k=true
 deps: ∀j∈js,∀e,Ml all j e=true->e∈T/\e≠j
 clo: ∀k,k<all.length->listed.getD k true=true-> ∀e,Ml all k e=true->listed.getD e false=true
theorem Oc {i:Nat} (h:i<all.length): ∃o,Dy all i=some o:=by
 rw[Lq];exact⟨all[i],by simp [h]⟩
theorem Bp2 {k e:Nat} (h:e∈Cq8 all k):Ml all k e=true:=by
 unfold Cq8 at h;unfold Ml;split at h
 ·rename_i o ho
  simp only[List.mem_map,List.mem_filter,Array.mem_toList_iff] at h;obtain⟨x,⟨hx,hb⟩,rfl⟩:=h;exact Array.any_eq_true'.2 ⟨x,hx,by simp [hb]⟩
 ·cases h
theorem Ve {listed:Array Bool} {i:Nat} (hs:listed.size=all.length) (hi: ∀e,Ml all i e=true->listed.getD e false=true)
  (hc: ∀k,k<all.length->listed.getD k true=true-> ∀e,Ml all k e=true->listed.getD e false=true): ∀(n:Nat) (S:List Nat),(∀m∈S,m=i\/listed.getD m false=true)-> ∀m∈Zv all n S,m=i\/listed.getD m false=true
 | 0,S,h=>h
 | k+1,S,h=>by
  rw[Zv];refine Ve hs hi hc k _ ?_;split
  ·rename_i hk
   intro m hm;rcases List.mem_append.1 hm with hm | hm
   ·have hd:=Bp2 hm;rcases h k (List.contains_iff_mem.1 hk) with rfl | hl
    ·exact .inr (hi m hd)
    ·have hlt:k<listed.size:=by
      rcases Nat.lt_or_ge k listed.size with h' | h'
      ·exact h'
      ·simp [Array.getElem?_eq_none h'] at hl
     refine .inr (hc k (by rw[<-hs];exact hlt) ?_ m hd);simpa [hlt] using hl
   ·exact h m hm
  ·exact h
theorem My {k:Nat} {T:List Nat} (hk:k<all.length):Ww all k T=true↔ ∀e,Ml all k e=true->e∈T:=by
 obtain⟨o,ho⟩:=Oc hk;unfold Ww Ml;rw[ho];simp only[Array.all_eq_true_iff_forall_mem,Bool.or_eq_true,Bool.not_eq_true',List.contains_iff_mem];constructor
 ·intro h e he;obtain⟨x,hx,hb⟩:=Array.any_eq_true'.1 he;simp only[Bool.and_eq_true,beq_iff_eq] at hb;rcases h x hx with h1 | h1
  ·rw[hb.1] at h1;cases h1
  ·rw[<-hb.2];exact h1
 ·intro h x hx;by_cases hb:Region.binds .any x=true
  ·exact .inr (h x.on (Array.any_eq_true'.2 ⟨x,hx,by simp [hb]⟩))
  ·exact .inl (by simpa using hb)
theorem Pe {listed:Array Bool} {k:Nat} (hs:listed.size=all.length):k∈Region.ready .any all.toArray listed↔
  k<all.length/\listed.getD k true=false/\ ∀e,Ml all k e=true->listed.getD e false=true:=by
 rw[mem_ready];constructor
 ·rintro⟨h0,o,ho,h⟩;have ho':all[k]? =some o:=by simpa using ho
  have hlt:k<all.length:=(List.getElem?_eq_some_iff.1 ho').1;refine⟨hlt,h0,fun e he=> ?_⟩;unfold Ml at he;rw[Lq,ho'] at he;obtain⟨x,hx,hb⟩:=Array.any_eq_true'.1 he;simp only[Bool.and_eq_true,beq_iff_eq] at hb;rw[<-hb.2];exact h x hx hb.1
 ·rintro⟨hlt,h0,h⟩;refine⟨h0,all[k],by simp [hlt],fun x hx hb=>h x.on ?_⟩;unfold Ml;rw[Lq,List.getElem?_eq_getElem hlt];exact Array.any_eq_true'.2 ⟨x,hx,by simp [hb]⟩
theorem Qg {listed:Array Bool} {e:Nat} (h:e<listed.size):listed.getD e false=listed.getD e true:=by
 simp [h]
theorem Inv.advance {T js:List Nat} {i:Nat} {p:Plan} {c s:DS} {a:Act} {w:World} {listed:Array Bool} (h:Inv P G N all Q s0 w0 T js (.take i p) c s a w listed):
    ∃s',Inv P G N all Q s0 w0 (i::T) (js++ [i]) p c s' a w listed:=by
  have hok:=h.ok
  simp only[Fx,Bool.and_eq_true,decide_eq_true_eq,Bool.not_eq_true',List.all_eq_true,List.mem_range,Bool.or_eq_true,List.contains_iff_mem,beq_iff_eq] at hok
  obtain⟨⟨⟨⟨⟨⟨hi,hT⟩,he⟩,hd⟩,ha⟩,hc⟩,hp⟩:=hok
  have hT':i∉T:=by intro hm;rw[List.contains_iff_mem.2 hm] at hT;cases hT
  rw[My hi] at hd
  obtain⟨o,ho⟩:=Oc hi
  have hpl:=h.plan
  simp only[Hy,ho] at hpl
  have heo:Mv o.op=true:=by unfold Bp1 at he;rw[ho] at he;exact he
  have hst: ∃d,De4 P G all i s d/\Hy P G all Q p ⟨Ez s.env (Ir all i) d,s.heap⟩:=by
    have hdst:Ir all i=o.dst:=by simp [Ir,ho]
    rw[hdst]
    rcases Ad8.1 hpl with⟨hw,hdop⟩ | ⟨hw,hput⟩
    · obtain⟨d,hd1,hd2⟩:=Tx o.op heo hdop
      exact⟨d,⟨o,ho,heo, .inl ⟨hw,fun K Q hK=>hd2 Q K s (fun _ _=>rfl) (fun _ _=>Mw) hK⟩⟩,hd1⟩
    · exact⟨Di,⟨o,ho,heo, .inr ⟨hw,rfl⟩⟩,hput⟩
  obtain⟨d,hev,hpl'⟩:=hst
  have seqApp: ∀(js:List Nat) (c:DS),Seq P G all c js s->Seq P G all c (js++ [i]) ⟨Ez s.env (Ir all i) d,s.heap⟩:=by
    intro js
    induction js with
    | nil=>intro c hc;cases hc;exact⟨d,hev,rfl⟩
    | cons j js ih=>intro c hc;obtain⟨d',h1,h2⟩:=hc;exact⟨d',h1,ih _ h2⟩
  refine⟨⟨Ez s.env (Ir all i) d,s.heap⟩, ?_⟩
  exact {
    sim:=h.sim,ext:=h.ext,seq:=seqApp js c h.seq,plan:=hpl',ok:=hp,cov:=hc,size:=h.size
    iff:=fun k hk=>by
      rw[h.iff k hk]
      simp only[List.mem_cons,List.mem_append,List.not_mem_nil,or_false,not_or]
      constructor
      · rintro⟨h1,h2⟩
        exact⟨.inr h1,h2,fun e=>hT' (e▸h1)⟩
      · rintro⟨h1,h2,h3⟩
        exact⟨h1.resolve_left h3,h2⟩
    sub:=fun k hk=>by
      simp only[List.mem_append,List.mem_cons,List.not_mem_nil,or_false] at hk⊢
      rcases hk with hk | rfl
      · exact⟨.inr (h.sub k hk).1,(h.sub k hk).2⟩
      · exact⟨.inl rfl,hi⟩
    tlt:=fun k hk=>by
      simp only[List.mem_cons] at hk
      rcases hk with rfl | hk
      · exact hi
      · exact h.tlt k hk
    nodup:=by
      rw[List.nodup_append]
      refine⟨h.nodup,by simp, ?_⟩
      intro x hx y hy e
      simp only[List.mem_cons,List.not_mem_nil,or_false] at hy
      subst hy;subst e
      exact hT' (h.sub x hx).1
    eager:=fun k hk=>by
      simp only[List.mem_append,List.mem_cons,List.not_mem_nil,or_false] at hk
      rcases hk with hk | rfl
      · exact h.eager k hk
      · exact he
    pair:=by
      rw[List.pairwise_append]
      refine⟨h.pair,by simp, ?_⟩
      intro j hj k hk
      simp only[List.mem_cons,List.not_mem_nil,or_false] at hk
      subst hk
      refine⟨h.out j hj k hi hT', ?_⟩
      cases hdep:Ml all j k with
      | false=>rfl
      | true=>exact(hT' (h.deps j hj k hdep).1).elim
    out:=fun j hj k hk hkT=>by
      simp only[List.mem_append,List.mem_cons,List.not_mem_nil,or_false,not_or] at hj hkT
      rcases hj with hj | rfl
      · exact h.out j hj k hk hkT.2
      · rcases ha k hk with((h1 | h1) | h1) | h1
        · exact(hkT.2 h1).elim
        · exact(hkT.1 h1).elim
        · exact .inl h1
        · exact .inr h1
    deps:=fun j hj e hde=>by
      simp only[List.mem_append,List.mem_cons,List.not_mem_nil,or_false] at hj⊢
      rcases hj with hj | rfl
      · exact⟨.inr (h.deps j hj e hde).1,(h.deps j hj e hde).2⟩
      · have:=hd e hde
        exact⟨.inr this,fun hh=>hT' (hh▸this)⟩
    clo:=h.clo }
def Bw8:Plan->Prop
 | .take _ _=>False
 | _=>True
theorem Inv.normal: ∀ {p:Plan} {T js:List Nat} {c s:DS} {a:Act} {w:World} {listed:Array Bool},Inv P G N all Q s0 w0 T js p c s a w listed->
  ∃T' js' p' s',Inv P G N all Q s0 w0 T' js' p' c s' a w listed/\Bw8 p'
 | .take i p,T,js,c,s,a,w,listed,h=>by
  obtain⟨s',h'⟩:=h.advance;exact h'.normal
 | .done,T,js,c,s,a,w,listed,h=>⟨T,js,_,s,h,trivial⟩
 | .go i ls p,T,js,c,s,a,w,listed,h=>⟨T,js,_,s,h,trivial⟩
 | .alt p q,T,js,c,s,a,w,listed,h=>⟨T,js,_,s,h,trivial⟩
theorem Wx: ∀(p:Plan) (T:List Nat) (s:DS),Fx all p T=true->Hy P G all Q p s->
  ((∀i,i<all.length->i∈T)/\Q .normal s)\/ ∃i,i<all.length/\i∉T/\ ∀e,Ml all i e=true->e∈T
 | .done,T,s,hok,h=>by
  simp only[Fx,List.all_eq_true,List.mem_range,List.contains_iff_mem] at hok;exact .inl ⟨hok,h⟩
 | .take i p,T,s,hok,h=>by
  simp only[Fx,Bool.and_eq_true,decide_eq_true_eq,Bool.not_eq_true'] at hok;obtain⟨⟨⟨⟨⟨⟨hi,hT⟩,he⟩,hd⟩,_⟩,_⟩,_⟩:=hok;exact .inr ⟨i,hi,(fun hm=>by rw[List.contains_iff_mem.2 hm] at hT;cases hT),(My hi).1 hd⟩
 | .go i ls p,T,s,hok,h=>by
  simp only[Fx,Bool.and_eq_true,decide_eq_true_eq,Bool.not_eq_true'] at hok;obtain⟨⟨⟨⟨⟨hi,hT⟩,hd⟩,_⟩,_⟩,_⟩:=hok;exact .inr ⟨i,hi,(fun hm=>by rw[List.contains_iff_mem.2 hm] at hT;cases hT),(My hi).1 hd⟩
 | .alt p q,T,s,hok,h=>by
  simp only[Fx,Bool.and_eq_true] at hok;exact Wx p T s hok.1 h.1
theorem Ty: ∀(p:Plan) (T:List Nat) (s:DS) (k:Nat),Fx all p T=true->Hy P G all Q p s->k∈Lx p->
  ∃ls p',Fx all (.go k ls p') T=true/\Hy P G all Q (.go k ls p') s
 | .done,T,s,k,_,_,hk=>by simp [Lx] at hk
 | .take i p,T,s,k,_,_,hk=>by simp [Lx] at hk
 | .go i ls p,T,s,k,hok,h,hk=>by
  simp only[Lx,List.mem_cons,List.not_mem_nil,or_false] at hk;subst hk;exact⟨ls,p,hok,h⟩
 | .alt p q,T,s,k,hok,h,hk=>by
  simp only[Fx,Bool.and_eq_true] at hok;simp only[Lx,List.mem_append] at hk;rcases hk with hk | hk
  ·exact Ty p T s k hok.1 h.1 hk
  ·exact Ty q T s k hok.2 h.2 hk
theorem Bp3 {p:Plan} {T:List Nat} (hc:Ya all T p=true) (hok:Fx all p T=true) (hn:Bw8 p) {k:Nat} (hk:k<all.length) (hT:k∉T) (hd: ∀e,Ml all k e=true->e∈T):k∈Lx p:=by
 have gen:((List.range all.length).all fun k=>T.contains k || (Lx p).contains k || !Ww all k T)=true->k∈Lx p:=by
  intro h;simp only[List.all_eq_true,List.mem_range,Bool.or_eq_true,List.contains_iff_mem,Bool.not_eq_true'] at h;rcases h k hk with(h1 | h1) | h1
  ·exact(hT h1).elim
  ·exact h1
  ·rw[(My hk).2 hd] at h1;cases h1
 cases p with
 | done=>
  simp only[Fx,List.all_eq_true,List.mem_range,List.contains_iff_mem] at hok;exact(hT (hok k hk)).elim
 | take i p=>exact hn.elim
 | go i ls p=>exact gen hc
 | alt p q=>exact gen hc
theorem An2 {s:DS} {H':Bb}: ∀ {ls:List Nat},Bw5 G all s H' ls-> ∀l∈ls,Cq7 G s H' (Pd (Dy all l))
 | [],_,l,hl=>by simp at hl
 | x::ls,h,l,hl=>by
  simp only[List.mem_cons] at hl;rcases hl with rfl | hl
  ·exact h.1
  ·exact An2 h.2 l hl
theorem Inv.sound {F:Fence} {n:Nat} (hF:FOk F) (hall:all.all (Gm N)=true) (hQ: ∀v env env' h,Q (.panic v) ⟨env,h⟩->Q (.panic v) ⟨env',h⟩): ∀(Cw:Nat) (U T js:List Nat) (p:Plan) (c s:DS) (a:Act) (w:World) (listed:Array Bool),
    Inv P G N all Q s0 w0 T js p c s a w listed->U.length<=Cw->(∀i,i<all.length->listed.getD i true=false->i∈U)->
    wpAnyIn F n P .any all.toArray (Lf G N Q s0 w0) Cw listed a w:=by
  intro Cw
  induction Cw with
  | zero=>
    intro U T js p c s a w listed h hU hUm
    have hnil:U= []:=List.eq_nil_of_length_eq_zero (Nat.le_zero.1 hU)
    subst hnil
    have hall1: ∀i,i<all.length->listed.getD i true=true:=by
      intro i hi
      cases hl:listed.getD i true with
      | true=>rfl
      | false=>exact absurd (hUm i hi hl) (by simp)
    have hjs:js= []:=by
      cases js with
      | nil=>rfl
      | cons j js=>
        have hs:=h.sub j (by simp)
        exact absurd (by simp) ((h.iff j hs.2).1 (hall1 j hs.2)).2
    subst hjs
    have hsc:=h.seq
    simp only[Seq] at hsc
    refine⟨?_, ?_⟩
    · rw[List.eq_nil_iff_forall_not_mem]
      intro k hk
      rw[Pe h.size] at hk
      rw[hall1 k hk.1] at hk
      cases hk.2.1
    · rcases Wx p T s h.ok h.plan with⟨_,hq⟩ | ⟨i,hi,hiT,_⟩
      · subst hsc;exact⟨.normal,s,hq, .normal,h.sim,h.ext⟩
      · exact absurd ((h.iff i hi).1 (hall1 i hi)).1 hiT
  | succ Cw ih=>
    intro U T js p c s a w listed h0 hU hUm
    obtain⟨T,js,p,s,h,hnt⟩:=h0.normal
    have inList: ∀e,listed.getD e false=true->e∈T/\e∉js:=by
      intro e he
      have hlt:e<listed.size:=by
        rcases Nat.lt_or_ge e listed.size with h' | h'
        · exact h'
        · simp [Array.getElem?_eq_none h'] at he
      have:=he
      rw[Qg hlt] at this
      exact(h.iff e (by rw[<-h.size];exact hlt)).1 this
    refine⟨fun hr=> ?_,fun k hk=> ?_⟩
    · -- nothing may come up: all have
      have hno: ∀k,k∉Region.ready .any all.toArray listed:=by rw[hr];simp
      have toL: ∀e,e∈T->e∉js->e<all.length->listed.getD e false=true:=by
        intro e h1 h2 h3
        rw[Qg (by rw[h.size];exact h3)]
        exact(h.iff e h3).2 ⟨h1,h2⟩
      have unl: ∀i,i<all.length-> ¬(i∈T/\i∉js)->listed.getD i true=false:=by
        intro i hi hn
        cases hl:listed.getD i true with
        | false=>rfl
        | true=>exact(hn ((h.iff i hi).1 hl)).elim
      have hjs:js= []:=by
        cases js with
        | nil=>rfl
        | cons j js=>
          refine(hno j ((Pe h.size).2 ⟨(h.sub j (by simp)).2,unl j (h.sub j (by simp)).2 (fun hh=>hh.2 (by simp)),fun e he=> ?_⟩)).elim
          obtain⟨g1,g2⟩:=h.deps j (by simp) e he
          refine toL e g1 (fun hm=> ?_) (h.tlt e g1)
          simp only[List.mem_cons] at hm
          rcases hm with hm | hm
          · exact g2 hm
          · have:=((List.pairwise_cons.1 h.pair).1 e hm).2
            rw[he] at this;cases this
      subst hjs
      have hsc:=h.seq
      simp only[Seq] at hsc
      rcases Wx p T s h.ok h.plan with⟨_,hq⟩ | ⟨i,hi,hiT,hd⟩
      · subst hsc;exact⟨.normal,s,hq, .normal,h.sim,h.ext⟩
      · exact(hno i ((Pe h.size).2 ⟨hi,unl i hi (fun hh=>hiT hh.1),fun e he=>toL e (hd e he) (by simp) (h.tlt e (hd e he))⟩)).elim
    · rw[Pe h.size] at hk
      obtain⟨hkn,hun,hdep⟩:=hk
      obtain⟨o,ho⟩:=Oc hkn
      have hdepT: ∀e,Ml all k e=true->e∈T/\e∉js:=fun e he=>inList e (hdep e he)
      have hU':k∈U:=hUm k hkn hun
      have hUl:(U.erase k).length<=Cw:=by
        rw[List.length_erase_of_mem hU'];omega
      have hset: ∀i,i≠k->(listed.setIfInBounds k true).getD i true=listed.getD i true:=fun i hi=>getD_set_ne true (Ne.symm hi)
      have hsetk:(listed.setIfInBounds k true).getD k true=true:=by
        have:k<listed.size:=by rw[h.size];exact hkn
        simp [this]
      have hup: ∀e,listed.getD e false=true->(listed.setIfInBounds k true).getD e false=true:=by
        intro e he
        have hlt:e<listed.size:=by
          rcases Nat.lt_or_ge e listed.size with h' | h'
          · exact h'
          · simp [Array.getElem?_eq_none h'] at he
        by_cases hek:e=k
        · subst hek
          simp [hlt]
        · rw[getD_set_ne false (Ne.symm hek)];exact he
      have hclo: ∀i,i<all.length->(listed.setIfInBounds k true).getD i true=true-> ∀e,Ml all i e=true->(listed.setIfInBounds k true).getD e false=true:=by
        intro i hi hl e he
        by_cases hik:i=k
        · subst hik;exact hup e (hdep e he)
        · rw[hset i hik] at hl
          exact hup e (h.clo i hi hl e he)
      have hUm': ∀i,i<all.length->(listed.setIfInBounds k true).getD i true=false->i∈U.erase k:=by
        intro i hi hl
        by_cases hik:i=k
        · subst hik;rw[hsetk] at hl;cases hl
        · rw[hset i hik] at hl
          exact(List.mem_erase_of_ne hik).2 (hUm i hi hl)
      by_cases hkj:k∈js
      · -- it was taken before
        obtain⟨A,B,rfl⟩:=List.append_of_mem hkj
        have hpw:=List.pairwise_append.1 h.pair
        have hnd:=h.nodup
        rw[List.nodup_append] at hnd
        have apA: ∀j∈A,Apart all j k:=by
          intro j hj
          have hjlt:=(h.sub j (by simp [hj])).2
          obtain⟨x,hx⟩:=Oc hjlt
          rcases(hpw.2.2 j hj k (by simp)).1 with hd | ha
          · exact absurd (by simp [hj]) (hdepT j hd).2
          · exact Yb hx ho ha
        obtain⟨d,hev,hrest⟩:=Seq.front apA h.seq
        obtain⟨o',ho',heo,hev⟩:=hev
        rw[ho] at ho';cases ho'
        have hdst:Ir all k=o.dst:=by simp [Ir,ho]
        have hat:dAt P G all (fun s1=>s1=⟨Ez c.env o.dst d,c.heap⟩) Q c (some o):=by
          rw[Ad8]
          rcases hev with⟨hw,hv⟩ | ⟨hw,rfl⟩
          · exact .inl ⟨hw,hv _ _ rfl⟩
          · exact .inr ⟨hw,rfl⟩
        refine wpOpIn_mono ?_ (Ad9 hF hall ho h.sim h.ext hat)
        rintro a' w' ⟨s1,rfl,hS',hE'⟩
        refine ih (U.erase k) T (A++B) p ⟨Ez c.env o.dst d,c.heap⟩ s a' w' _ ?_ hUl hUm'
        have memE: ∀i,i∈A++B->i∈A++k::B:=fun i hi=>by
          simp only[List.mem_append,List.mem_cons] at hi⊢
          rcases hi with hi | hi
          · exact .inl hi
          · exact .inr (.inr hi)
        have subl:(A++B).Sublist (A++k::B):=List.Sublist.append (List.Sublist.refl A) (List.sublist_cons_self k B)
        have kno:k∉A++B:=by
          intro hm
          have:=h.nodup
          rw[(List.perm_middle (a:=k) (l₁:=A) (l₂:=B)).nodup_iff] at this
          exact(List.nodup_cons.1 this).1 hm
        exact {
          sim:=hS',ext:=h.ext.trans hE',seq:=by rw[hdst] at hrest;exact hrest,plan:=h.plan,ok:=h.ok,cov:=h.cov
          size:=by simp [h.size]
          iff:=fun i hi=>by
            by_cases hik:i=k
            · subst hik
              rw[hsetk]
              exact⟨fun _=>⟨(h.sub i (by simp)).1,kno⟩,fun _=>rfl⟩
            · rw[hset i hik,h.iff i hi]
              simp only[List.mem_append,List.mem_cons,not_or]
              constructor
              · rintro⟨g1,g2,g3⟩;exact⟨g1,g2,g3.2⟩
              · rintro⟨g1,g2,g3⟩;exact⟨g1,g2,hik,g3⟩
          sub:=fun i hi=>h.sub i (memE i hi)
          tlt:=h.tlt
          nodup:=h.nodup.sublist subl
          eager:=fun i hi=>h.eager i (memE i hi)
          pair:=h.pair.sublist subl
          out:=fun i hi=>h.out i (memE i hi)
          deps:=fun i hi=>h.deps i (memE i hi)
          clo:=hclo }
      · -- it is the plan's next
        have hkT:k∉T:=by
          intro hm
          have:=(h.iff k hkn).2 ⟨hm,hkj⟩
          rw[hun] at this;cases this
        have hf:=Bp3 h.cov h.ok hnt hkn hkT fun e he=>(hdepT e he).1
        obtain⟨ls,p',hok,hpl⟩:=Ty p T s k h.ok h.plan hf
        simp only[Fx,Bool.and_eq_true,decide_eq_true_eq,Bool.not_eq_true'] at hok
        obtain⟨⟨⟨⟨⟨_,_⟩,hd⟩,hlk⟩,hc'⟩,hp'⟩:=hok
        simp only[Hy,ho] at hpl
        have apJ: ∀j∈js,Apart all j k:=by
          intro j hj
          obtain⟨x,hx⟩:=Oc (h.sub j hj).2
          rcases h.out j hj k hkn hkT with hd | ha
          · exact absurd hj (hdepT j hd).2
          · exact Yb hx ho ha
        have hdst:Ir all k=o.dst:=by simp [Ir,ho]
        have hlooks:looks all k=o.looksAt all.toArray:=by simp [looks,ho]
        have agree: ∀t∈o.looksAt all.toArray,c.env t=s.env t:=by
          intro t ht
          refine(Seq.env h.seq t fun j hj e=> ?_).symm
          exact(apJ j hj).a t e (by rw[hlooks];exact ht)
        have shift: ∀d H',Bw6 G all ls s (Hy P G all Q p') ⟨Ez s.env o.dst d,H'⟩->
            (∃s1,Hy P G all Q p' s1/\Seq P G all ⟨Ez c.env o.dst d,H'⟩ js s1):=by
          intro d H' hK
          refine⟨_,hK.2,Seq.shift h.seq (fun j hj t e=> ?_) (fun j hj t e e2=> ?_) ?_⟩
          · exact(apJ j hj).c t (by rw[hdst];exact e)
          · exact(apJ j hj).b t e (by rw[hdst];exact e2)
          · intro A j B e oj a hoj hla
            have hjm:j∈js:=by rw[e];simp
            have hjT:=(h.sub j hjm).1
            unfold Bw7 at hlk
            rw[List.all_eq_true] at hlk
            have hl:=hlk j hjT
            simp only[Pd,hoj,hla,Bool.or_eq_true,Bool.and_eq_true,List.contains_iff_mem,bne_iff_ne] at hl
            rcases hl with(hl | ⟨hl1,hl2⟩) | ⟨hl1,hl2⟩
            · exact absurd hjm (hdepT j hl).2
            · rcases Ve h.size hdep h.clo (k+1) [k] (fun m hm=> .inl (by simpa using hm)) j hl2 with hh | hh
              · exact absurd hh hl1
              · exact absurd hjm (inList j hh).2
            · refine⟨fun t ht m hm hdm=> ?_, ?_⟩
              · subst ht
                simp only[Bc6,List.all_eq_true,Bool.or_eq_true,bne_iff_ne] at hl2
                have hmj:m∈js:=by rw[e];exact List.mem_append_right _ hm
                rcases hl2 m (h.sub m hmj).1 with g | g
                · exact g hdm
                · simp only[List.mem_cons] at hm
                  rcases hm with rfl | hm
                  · exact(h.deps m hmj m g).2 rfl
                  · have hp:=h.pair
                    rw[e,List.pairwise_append] at hp
                    have:=(List.pairwise_cons.1 hp.2.1).1 m hm
                    rw[g] at this
                    cases this.2
              · have hkl:=An2 hK.1 j hl1
                simp only[Pd,hoj,hla,Cq7] at hkl
                rw[<-Seq.heap h.seq]
                exact hkl
        have hat:dAt P G all (fun c1=> ∃s1,Hy P G all Q p' s1/\Seq P G all c1 js s1) Q c (some o):=by
          rw[Ad8] at hpl⊢
          rw[Vc agree]
          have hheap:=Seq.heap h.seq
          rcases hpl with⟨hw,hop⟩ | ⟨hw,hput⟩
          · refine .inl ⟨hw,Cg4 o.op (An0 (all:=all) agree) hheap.symm (fun d H' hK=>shift d H' hK) (fun v H' hq=>hQ v _ _ H' hq) hop⟩
          · refine .inr ⟨hw, ?_⟩
            unfold Cb at hput⊢
            rw[<-hheap]
            exact shift _ _ hput
        refine wpOpIn_mono ?_ (Ad9 hF hall ho h.sim h.ext hat)
        rintro a' w' ⟨c1,⟨s1,hp1,hseq⟩,hS',hE'⟩
        refine ih (U.erase k) (k::T) js p' c1 s1 a' w' _ ?_ hUl hUm'
        exact {
          sim:=hS',ext:=h.ext.trans hE',seq:=hseq,plan:=hp1,ok:=hp',cov:=hc'
          size:=by simp [h.size]
          iff:=fun i hi=>by
            by_cases hik:i=k
            · subst hik
              rw[hsetk]
              exact⟨fun _=>⟨by simp,hkj⟩,fun _=>rfl⟩
            · rw[hset i hik,h.iff i hi]
              simp [hik]
          sub:=fun i hi=>⟨by simp [(h.sub i hi).1],(h.sub i hi).2⟩
          tlt:=fun i hi=>by
            simp only[List.mem_cons] at hi
            rcases hi with rfl | hi
            · exact hkn
            · exact h.tlt i hi
          nodup:=h.nodup
          eager:=h.eager
          pair:=h.pair
          out:=fun i hi m hm hmT=>h.out i hi m hm (fun hh=>hmT (by simp [hh]))
          deps:=fun i hi e he=>⟨by simp [(h.deps i hi e he).1],(h.deps i hi e he).2⟩
          clo:=hclo }
theorem Bw9 {id:Nat} {ops:Array Oper} {s:DS} (hm:P.follows .mixedOrders=true) (p:Plan)
    (hp:(ops.toList.all (Gm N)&&Ya ops.toList [] p&&Fx ops.toList p [])=true) (h:Hy P G ops.toList (QP Q) p s):DWp P G N (.region id ops true) Q s:=by
  intro F n B hF a w hS
  simp only[Bool.and_eq_true] at hp
  obtain⟨⟨hall,hc⟩,hok⟩:=hp
  have hE:Ext s.heap w s.heap { w with drawn:=w.drawn+1 }:=⟨rfl,rfl,rfl,Nat.le_refl _,fun _ _ _=>rfl,fun _ h=> .inl h,fun _ _=>rfl,fun _ _ _=>rfl⟩
  have hSH:Bw { w with drawn:=w.drawn+1 } s.heap:=fun r o hr=>(hS.heap r o hr).lasts hE.lasts
  have hS':Sim G ⟨N.n,B⟩ s a { w with drawn:=w.drawn+1 }:=hS.ext hE hSH
  have key:=Inv.sound (n:=n) hF (P:=P) (G:=G) (N:=⟨N.n,B⟩) (all:=ops.toList) (Q:=QP Q) (s0:=s) (w0:=w) hall
    (fun v env env' h hq env''=>hq env'') ops.toList.length (List.range ops.toList.length) [] [] p s s a { w with drawn:=w.drawn+1 } (Array.replicate ops.size false)
    { sim:=hS',ext:=hE,seq:=rfl,plan:=h,ok:=hok,cov:=hc,size:=by simp
      iff:=fun i hi=>by
        have:i<ops.size:=by simpa using hi
        simp [this]
      sub:=by simp
      tlt:=by simp
      nodup:=by simp
      eager:=by simp
      pair:=by simp
      out:=by simp
      deps:=by simp
      clo:=fun k hk hl=>by
        have:k<ops.size:=by simpa using hk
        simp [this] at hl } (by simp) (fun i hi _=>by simpa using hi)
  have e1:ops.toList.toArray=ops:=by simp
  have e2:ops.toList.length=ops.size:=by simp
  rw[e1,e2] at key
  refine wpIn_mono (wpIn_region_any hm key) ?_
  rintro e a' w' ⟨e',s',hq,hx,hS1,hE1⟩
  refine⟨e',s', ?_,hx,hS1,hE1⟩
  cases hx with
  | normal=>exact hq
  | panic d v hv=>exact hq s'.env
  | exit=>exact hq.elim
  | goto=>exact hq.elim
  | ret=>exact hq.elim
end
end Go.Dl

-- THE DATA LEVEL, PART 3: plans run by simp.
namespace Go.Dl
open Go
attribute [go_sem] Dy.eq_1 Dy.eq_2 Dy.eq_3 Vb.eq_1 Vb.eq_2 Vb.eq_3 Vb.eq_4 Vb.eq_5 Vb.eq_6 Ob.eq_1 Cg5.eq_1 Cg5.eq_2 dAt.eq_1 Hc.eq_1 Hc.eq_2 Cq7.eq_1 Cq7.eq_2 Pd.eq_1 Au3.eq_1 Au3.eq_2 Au3.eq_3 Bw5.eq_1 Bw5.eq_2 Hy.eq_1 Hy.eq_2 Hy.eq_3 Hy.eq_4 QP.eq_1 QP.eq_2
attribute [go_sem] Bw6
section
variable (v:DVal) (H H':Bb)
@[go_sem] theorem Dl7 (cs:List DVal) (o:Nat):Hc H H' (.vptr cs o)=True:=rfl
@[go_sem] theorem Db8 (cs:List DVal) (o:Nat):Hc H H' (.vslice cs o)=True:=rfl
@[go_sem] theorem Dq6 (k:IntKind) (n:Int):Hc H H' (.int k n)=True:=rfl
@[go_sem] theorem Dl8 (b:Bool):Hc H H' (.bool b)=True:=rfl
@[go_sem] theorem Cm7:Hc H H' .nilSlice=True:=rfl
@[go_sem] theorem Dq7 (s:List UInt8):Hc H H' (.str s)=True:=rfl
end
end Go.Dl

-- THE DATA LEVEL, PART 5: loops over iterators: a round, the statement.
namespace Go.Dl
open Go Go.RowKit
section
variable {P:Program} {G:Nat->DVal} {N:Nat} {w w':World} {Q:DExit->DS->Prop}
theorem Hz {α:Type} {f:Nat->Option α} {l:Nat} (h:f l=none) (x:Option α):upd (upd f l x) l none=f:=by
 funext i;simp only[upd];split
 ·rename_i e;subst e;exact h.symm
 ·rfl
end
end Go.Dl

-- THE DATA LEVEL, PART 6: a heap in two parts; the contract of an iterator; the loop over it.
namespace Go.Dl
open Go Go.RowKit
def Bc7 (Hi X:Bb):Bb:=fun r=>match X r with
 | some o=>some o
 | none=>Hi r
def Dz4 (Hi X:Bb):Prop:= ∀r,X r≠none->Hi r=none
def h0:Bb:=fun _=>none
theorem Bx0 (Hi:Bb):Bc7 Hi h0=Hi:=rfl
theorem Bx1 {Hi X:Bb} {r:Nat} (h:X r=none):Bc7 Hi X r=Hi r:=by simp [Bc7,h]
theorem Dq8 {Hi X:Bb} {r:Nat} {o:DObj} (h:X r=some o):Bc7 Hi X r=some o:=by simp [Bc7,h]
theorem Dl9 {H:Bb} {r r':Nat} {o:DObj}:upd H r (some o) r'=none↔r'≠r/\r≠r'/\H r'=none:=by
 unfold upd;by_cases e:r'=r
 ·simp [e]
 ·simp [e,Ne.symm e,eq_comm]
section
end
end Go.Dl

-- THE DATA LEVEL, PART 7: own memory seen as memory that lasts; calls that only look.
namespace Go.Dl
open Go Go.RowKit
mutual
/-- The value, with block r (its cells: cs) seen as memory that lasts. -/
def fz (r:Nat) (cs:List DVal):DVal->DVal
 | .optr r' off=>if r'=r then .vptr cs off else .optr r' off
 | .oslice sz r' off len lo=>if r'=r then .vslice ((cs.drop off).take (len*sz)) len else .oslice sz r' off len lo
 | .func fn a c=> .func fn (fzs r cs a) (fzs r cs c)
 | .iface t v=> .iface t (fz r cs v)
 | .agg l=> .agg (fzs r cs l)
 | .tuple l=> .tuple (fzs r cs l)
 | .vptr l off=> .vptr (fzs r cs l) off
 | .vslice l n=> .vslice (fzs r cs l) n
 | d=>d
def fzs (r:Nat) (cs:List DVal):List DVal->List DVal
 | []=> []
 | d::ds=>fz r cs d::fzs r cs ds
end
section
variable {P:Program} {G:Nat->DVal} {w:World} {H:Bb}
theorem Cx (H:Bb) (r:Nat) (w:World):Lasts H w (upd H r none) w:=
 ⟨fun b i x hb hc=>⟨by simp only[upd];split;rfl;exact hb,hc⟩,Nat.le_refl _,fun _ _=>rfl⟩
theorem Rn (hH:Bw w H) {r:Nat} {cs:List DVal} {e:TypeId} (hr:H r=some (.cells cs e)): ∃xs,Br w (upd H r none) cs xs/\Mn w (upd H r none) r 0 xs:=by
 obtain⟨xs,hl,hh⟩:=hH.holds hr;exact⟨xs,hl.lasts (Cx H r w), .inr ⟨by simp [upd],fun i x hx=>by simpa using hh i x hx⟩⟩
theorem Mn.part {b off:Nat} {xs:List Value} (h:Mn w H b off xs) (m n:Nat):Mn w H b (off+m) ((xs.drop m).take n):=by
 rcases h with rfl | ⟨h1,h2⟩
 ·exact .inl (by simp)
 ·refine .inr ⟨h1,fun i x hx=> ?_⟩;have:xs[m+i]? =some x:=by
   rw[List.getElem?_take] at hx;split at hx
   ·simpa using hx
   ·cases hx
  have:=h2 _ x this
  rwa [<-Nat.add_assoc] at this
mutual
theorem Bp4 (hH:Bw w H) {r:Nat} {cs:List DVal} {e:TypeId} (hr:H r=some (.cells cs e)): ∀(d:DVal) (v:Value),Rel w H d v->Rel w (upd H r none) (fz r cs d) v
 | .optr r' off,v,h=>by
  simp only[fz]
  split
  ·rename_i e';subst e'
   simp only[Rel] at h⊢
   obtain⟨xs,hl,hc⟩:=Rn hH hr
   exact⟨r',0,xs,by simpa using h,hc,hl⟩
  ·simpa [Rel] using h
 | .oslice sz r' off len lo,v,h=>by
  simp only[fz]
  split
  ·rename_i e';subst e'
   simp only[Rel] at h⊢
   obtain⟨o,cap,rfl,h1,h2,h3,h4⟩:=h
   obtain⟨xs,hl,hc⟩:=Rn hH hr
   refine⟨_,cap,rfl,h2, ?_⟩
   by_cases h0:cap=0
   ·have:len=0:=by omega
    subst this;left;simp
   ·have ho:o=off:=h3.resolve_left h0
    subst ho
    right
    refine⟨r',o,(xs.drop o).take (len*sz),rfl, ?_,(hl.drop o).take _⟩
    have:=hc.part o (len*sz)
    simpa using this
  ·exact Rel.lasts (Cx H r w) _ _ h
 | .func fn a c,v,h=>by
  simp only[Rel,fz] at h⊢
  obtain⟨xs,ys,rfl,h1,h2⟩:=h
  exact⟨xs,ys,rfl,Pf hH hr _ _ h1,Pf hH hr _ _ h2⟩
 | .iface t d,v,h=>by
  simp only[Rel,fz] at h⊢
  obtain⟨x,rfl,h1⟩:=h
  exact⟨x,rfl,Bp4 hH hr _ _ h1⟩
 | .agg l,v,h=>by
  simp only[Rel,fz] at h⊢
  obtain⟨x,rfl,h1⟩:=h
  exact⟨x,rfl,Pf hH hr _ _ h1⟩
 | .tuple l,v,h=>by
  simp only[Rel,fz] at h⊢
  obtain⟨x,rfl,h1⟩:=h
  exact⟨x,rfl,Pf hH hr _ _ h1⟩
 | .raw x,v,h=>by simp only[fz];exact Rel.lasts (Cx H r w) _ _ h
 | .bool x,v,h=>by simp only[fz];exact Rel.lasts (Cx H r w) _ _ h
 | .int x y,v,h=>by simp only[fz];exact Rel.lasts (Cx H r w) _ _ h
 | .str x,v,h=>by simp only[fz];exact Rel.lasts (Cx H r w) _ _ h
 | .nilPtr,v,h=>by simp only[fz];exact Rel.lasts (Cx H r w) _ _ h
 | .vptr l off,v,h=>by
  simp only[Rel,fz] at h⊢
  obtain⟨b,o,xs,rfl,h1,h2⟩:=h
  exact⟨b,o,xs,rfl,h1.lasts (Cx H r w),Pf hH hr _ _ h2⟩
 | .nilSlice,v,h=>by simp only[fz];exact Rel.lasts (Cx H r w) _ _ h
 | .vslice l n,v,h=>by
  simp only[Rel,fz] at h⊢
  obtain⟨a,cap,rfl,hle,h1⟩:=h
  refine⟨a,cap,rfl,hle, ?_⟩
  rcases h1 with h1 | ⟨b,o,xs,rfl,h1,h2⟩
  ·subst h1;exact .inl rfl
  ·exact .inr ⟨b,o,xs,rfl,h1.lasts (Cx H r w),Pf hH hr _ _ h2⟩
 | .nilMap,v,h=>by simp only[fz];exact Rel.lasts (Cx H r w) _ _ h
 | .omap x,v,h=>by simp only[fz];exact Rel.lasts (Cx H r w) _ _ h
 | .nilFunc,v,h=>by simp only[fz];exact Rel.lasts (Cx H r w) _ _ h
 | .nilIface,v,h=>by simp only[fz];exact Rel.lasts (Cx H r w) _ _ h
theorem Pf (hH:Bw w H) {r:Nat} {cs:List DVal} {e:TypeId} (hr:H r=some (.cells cs e)): ∀(ds:List DVal) (vs:List Value),Br w H ds vs->Br w (upd H r none) (fzs r cs ds) vs
 | [],vs,h=>by simpa [fzs,Br] using h
 | d::ds,vs,h=>by
  simp only[fzs,Br] at h⊢
  obtain⟨y,ys,rfl,h1,h2⟩:=h
  exact⟨y,ys,rfl,Bp4 hH hr _ _ h1,Pf hH hr _ _ h2⟩
end
def Lb (H:Bb) (v:DVal) (H':Bb) (v':DVal):Prop:= ∀w,Bw w H->Bw w H'/\(∀b,H' b≠none->H b≠none)/\ ∀x,Rel w H v x->Rel w H' v' x
theorem Lb.trans {H H' H'':Bb} {v v' v'':DVal} (h:Lb H v H' v') (k:Lb H' v' H'' v''):Lb H v H'' v'':=fun w hw=>by
 obtain⟨h1,h2,h3⟩:=h w hw;obtain⟨k1,k2,k3⟩:=k w h1;exact⟨k1,fun b hb=>h2 b (k2 b hb),fun x hx=>k3 x (h3 x hx)⟩
theorem Lb.fz {H:Bb} {v:DVal} {r:Nat} {cs:List DVal} {e:TypeId} (hr:H r=some (.cells cs e)):Lb H v (upd H r none) (fz r cs v):=fun w hw=>
 ⟨hw.letGo r,fun b hb=>by simp only[upd] at hb;split at hb<;>simp_all,fun x hx=>Bp4 hw hr _ _ hx⟩
theorem Lb.drop (H:Bb) (v:DVal) (r:Nat):Lb H v (upd H r none) v:=fun w hw=>
 ⟨hw.letGo r,fun b hb=>by simp only[upd] at hb;split at hb<;>simp_all,fun x hx=>Rel.lasts (Cx H r w) _ _ hx⟩
theorem Rm.ghost {R:DEnd->Bb->Prop} {v v':DVal} {H H':Bb} (g:Lb H v H' v') (h:Rm R v' H'):Rm R v H:=by
 obtain⟨v2,H2,k,hR⟩:=h;exact⟨v2,H2,g.trans k,hR⟩
theorem Rm.fz {R:DEnd->Bb->Prop} {v:DVal} {H:Bb} (r:Nat) {cs:List DVal} {e:TypeId} (hr:H r=some (.cells cs e)) (h:Rm R (fz r cs v) (upd H r none)):Rm R v H:= .ghost (.fz hr) h
theorem Rm.drop {R:DEnd->Bb->Prop} {v:DVal} {H:Bb} (r:Nat) (h:Rm R v (upd H r none)):Rm R v H:= .ghost (.drop H v r) h
theorem Bh.ghost {f:FuncId} {args:List DVal} {H:Bb} {R R':DEnd->Bb->Prop} (h:Bh P G f args H R) (hr: ∀e H',R e H'-> ∃v v' H'',e= .ret v/\Lb H' v H'' v'/\R' (.ret v') H''):Bh P G f args H R':=by
 refine⟨h.1,fun vs w hv hH hG=>(h.2 vs w hv hH hG).mono fun e w' ⟨e',H',r,k1,k2,k3⟩=> ?_⟩;obtain⟨v,v',H'',rfl,g,r'⟩:=hr _ _ r;obtain⟨g1,g2,g3⟩:=g w' k2;cases k1 with
 | ret d x hx=>exact⟨.ret v',H'',r', .ret _ _ (g3 x hx),g1,k3.os,k3.tape,k3.output,k3.size,k3.block,fun b hb=>k3.own b (g2 b hb),k3.keep,k3.fz⟩
theorem Bh.pre {f:FuncId} {args args':List DVal} {H H':Bb} {R:DEnd->Bb->Prop} (g:Lb H (.tuple args) H' (.tuple args')) (h:Bh P G f args' H' R):Bh P G f args H R:=by
 refine⟨h.1,fun vs w hv hH hG=> ?_⟩;obtain⟨g1,g2,g3⟩:=g w hH;have hl:Lasts H w H' w:=⟨fun b i x hb hc=>⟨by
  cases e:H' b with
  | none=>rfl
  | some o=>exact absurd hb (g2 b (by simp [e])),hc⟩,Nat.le_refl _,fun _ _=>rfl⟩
 have hv':Br w H' args' vs:=by
  have:=g3 (.tuple vs.toArray) (by simp only[Rel];exact⟨_,rfl,hv⟩);simp only[Rel] at this;obtain⟨xs,h1,h2⟩:=this;cases h1;exact h2
 refine(h.2 vs w hv' g1 (hG.lasts hl)).mono fun e w' ⟨e',H'',r,k1,k2,k3⟩=>⟨e',H'',r,k1,k2,k3.os,k3.tape,k3.output,k3.size,fun b hb hn=>k3.block b hb (by
  cases e:H' b with
  | none=>rfl
  | some o=>exact absurd hn (g2 b (by simp [e]))),fun b hb=> ?_,k3.keep,fun a ha hn=>k3.fz a ha (by
  cases e:H' a.block with
  | none=>rfl
  | some o=>exact absurd hn (g2 a.block (by simp [e])))⟩
 rcases k3.own b hb with k | k
 ·exact .inl (g2 b k)
 ·exact .inr k
theorem Bh.fzArgs {f:FuncId} {args:List DVal} {H:Bb} {R:DEnd->Bb->Prop} (r:Nat) {cs:List DVal} {e:TypeId} (hr:H r=some (.cells cs e)) (h:Bh P G f (fzs r cs args) (upd H r none) R):Bh P G f args H R:=
 .pre (by have:=Lb.fz (v:= .tuple args) hr;simpa only[fz] using this) h
def plain:DVal->Bool
 | .bool _ | .int _ _ | .str _ | .nilPtr | .nilSlice | .nilMap | .nilFunc | .nilIface=>true
 | .tuple l=>plains l
 | .agg l=>plains l
 | _=>false
where plains:List DVal->Bool
 | []=>true
 | d::ds=>plain d&&plains ds
end
attribute [go_sem] fz.eq_1 fz.eq_2 fz.eq_3 fz.eq_4 fz.eq_5 fz.eq_6 fzs.eq_1 fzs.eq_2
end Go.Dl

-- THE DATA LEVEL, PART 8: loops over iterators, ready for use.
namespace Go.Dl
open Go Go.RowKit
attribute [go_sem] Bx0
theorem De5 {α:Type} (f:Nat->α) (r:Nat) (a b:α):upd (upd f r a) r b=upd f r b:=by
 funext i;simp only[upd];split<;>rfl
theorem Bc8 (xs ys:List DVal):splice xs 0 ys=ys++xs.drop ys.length:=by simp [splice]
theorem Bc9 (x:DVal) (xs ys:List DVal) (n:Nat):splice (x::xs) (n+1) ys=x::splice xs n ys:=by
 simp [splice,Nat.add_right_comm]
attribute [go_sem] De5 Bc8 Bc9
theorem Bh.fzA {P:Program} {G:Nat->DVal} {f:FuncId} {args:List DVal} {H:Bb} {R:DEnd->Bb->Prop} (r:Nat) {cs:List DVal} {e:TypeId} (hr:H r=none) (h:Bh P G f (fzs r cs args) H R):Bh P G f args (upd H r (some (.cells cs e))) R:=
 Bh.fzArgs r (Bp _ _ _) (by rw[Hz hr];exact h)
theorem Rm.fzA {R:DEnd->Bb->Prop} {v:DVal} {H:Bb} (r:Nat) {cs:List DVal} {e:TypeId} (hr:H r=none) (h:Rm R (Dl.fz r cs v) H):Rm R v (upd H r (some (.cells cs e))):=
 Rm.fz r (Bp _ _ _) (by rw[Hz hr];exact h)
theorem Rm.dropA {R:DEnd->Bb->Prop} {v:DVal} {H:Bb} (r:Nat) {o:Option DObj} (hr:H r=none) (h:Rm R v H):Rm R v (upd H r o):=
 Rm.drop r (by rw[Hz hr];exact h)
section
variable {P:Program} {G:Nat->DVal} {N:Nat} {Q:DExit->DS->Prop}
theorem Gs {id:Nat} {ops:List Oper} {s:DS} (hm:P.follows .mixedOrders=true) (p:Plan) (hp:(ops.all (Gm N)&&Ya ops [] p&&Fx ops p [])=true) (h:Hy P G ops (QP Q) p s):dwp P G N (.region id ops.toArray true) Q s:=
 Bw9 (N:=⟨N,⟨0,[],false⟩⟩) hm p (by simpa using hp) (by simpa using h)
end
end Go.Dl

-- THE DATA LEVEL, PART 9: slices that are built up; plain lists seen as slices.
namespace Go.Dl
open Go Go.RowKit
abbrev Bt (v:DVal) (H:Bb):DEnd->Bb->Prop:=fun e H'=>e= .ret v/\H'=H
def Dz5 (H:Bb) (e:TypeId) (size n:Nat) (cs:List DVal) (v:DVal) (H':Bb):Prop:=
 (n=0/\cs= []/\v= .nilSlice/\H'=H)\/ ∃r,H r=none/\cs.length=n*size/\v= .oslice size r 0 n n/\H'=upd H r (some (.cells cs e))
section
variable {P:Program} {G:Nat->DVal} {Q:DExit->DS->Prop}
theorem Ly {α:Type} {f:Nat->α} {r:Nat} {x:α} (h:f r=x):upd f r x=f:=by
 funext i;simp only[upd];split
 ·rename_i e;rw[e,h]
 ·rfl
theorem Yc {e:TypeId} {size bytes r off len lo n:Nat} {news:List DVal} {dst:Option Nat} {K:DK} {s:DS} {cs:List DVal} (h:len+n<=lo):
  Jc e size bytes r off len lo n news dst K s (some (.cells cs e))=(off+(len+n)*size<=cs.length/\
    K ⟨Ez s.env dst (.oslice size r off (len+n) lo),upd s.heap r (some (.cells (splice cs (off+len*size) news) e))⟩):=by
 simp only[Jc,true_and,eq_iff_iff];exact⟨fun k=>k.1 h,fun k=>⟨fun _=>k,fun hn=>(hn h).elim⟩⟩
theorem Vf {e:TypeId} {size bytes r len lo n:Nat} {news:List DVal} {dst:Option Nat} {K:DK} {s:DS} {cs:List DVal} (hle:len<=lo) (h:lo<len+n):
  Jc e size bytes r 0 len lo n news dst K s (some (.cells cs e))=(len*size<=cs.length/\(len+n)*bytes<=35184372088832/\ ∀r',upd s.heap r none r'=none->
    K ⟨Ez s.env dst (.oslice size r' 0 (len+n) (len+n)),upd (upd s.heap r none) r' (some (.cells (cs.take (len*size)++news) e))⟩):=by
 simp only[Jc,true_and,eq_iff_iff,hle,true_or,if_true];have hn: ¬len+n<=lo:=by omega
 refine⟨fun k=> ?_,fun k=>⟨fun hh=>(hn hh).elim,fun _=> ?_⟩⟩
 ·obtain⟨k1,k2,k3⟩:=k.2 hn;refine⟨by omega,k2,fun r' hr=> ?_⟩;have:=k3 r' [] hr (fun _=>rfl);simpa using this
 ·obtain⟨k1,k2,k3⟩:=k;refine⟨by omega,k2,fun r' pre hr hp=> ?_⟩;have hpre:=hp trivial;subst hpre;have:=k3 r' hr;simpa using this
theorem Lb.slice {H:Bb} {e:TypeId} {size n lo:Nat} {cs rest:List DVal} {r:Nat} (hr:H r=none) (hl:cs.length=n*size):Lb (upd H r (some (.cells (cs++rest) e))) (.oslice size r 0 n lo) H (.vslice cs n):=by
 have:=Lb.fz (v:= .oslice size r 0 n lo) (Bp H r (some (.cells (cs++rest) e)));rw[Hz hr] at this;simp only[Dl.fz,if_pos,List.drop_zero] at this;rw[List.take_append_of_le_length (by omega),List.take_of_length_le (by omega)] at this;exact this
theorem Dz5.ghost {H H0:Bb} {e:TypeId} {size n:Nat} {cs:List DVal} {v:DVal} (hv:Dz5 H e size n cs v H0):Lb H0 v H (.vslice cs n):=by
 rcases hv with⟨rfl,rfl,rfl,rfl⟩ | ⟨r,hr,hl,rfl,rfl⟩
 ·intro w hw;refine⟨hw,fun _ h=>h,fun x hx=> ?_⟩;simp only[Rel] at hx⊢
  exact⟨none,0,hx,Nat.le_refl _, .inl (by simp)⟩
 ·have:=Lb.fz (v:= .oslice size r 0 n n) (Bp H r (some (.cells cs e)));rw[Hz hr] at this;simp only[fz,if_pos,List.drop_zero] at this;rw[List.take_of_length_le (by omega)] at this;exact this
end
def DLe (d d':DVal):Prop:= ∀(w:World) (H:Bb) (x:Value),Rel w H d x->Rel w H d' x
theorem DLe.nil:DLe .nilSlice (.vslice [] 0):=fun w H x hx=>by
 simp only[Rel] at hx⊢
 exact⟨none,0,hx,Nat.le_refl _, .inl (by simp)⟩
theorem Rd.drop {G:Nat->DVal} (s:DS) (r:Nat):Rd G s ⟨s.env,upd s.heap r none⟩:=fun w hH hG=>
 ⟨hH.letGo r,fun b hb=>by simp only[upd] at hb;split at hb<;>simp_all,hG.lasts (Cx _ r w),fun i x hx=>Rel.lasts (Cx _ r w) _ _ hx⟩
theorem Bd0 {H H':Bb} (h: ∀r o,H' r=some o->H r=some o) {b:Nat} (hb:H b=none):H' b=none:=by
 cases e:H' b with
 | none=>rfl
 | some o=>rw[h b o e] at hb;cases hb
theorem Ka {H H':Bb} (h: ∀r o,H' r=some o->H r=some o) (w:World):Lasts H w H' w:=
 ⟨fun b i x hb hc=>⟨Bd0 h hb,hc⟩,Nat.le_refl _,fun _ _=>rfl⟩
theorem Lb.sub {H H':Bb} (h: ∀r o,H' r=some o->H r=some o) (v:DVal):Lb H v H' v:=fun w hw=>
 ⟨fun r o ho=>(hw r o (h r o ho)).lasts (Ka h w),fun b hb e=>hb (Bd0 h e),fun x hx=>Rel.lasts (Ka h w) _ _ hx⟩
theorem Rm.sub {R:DEnd->Bb->Prop} {v:DVal} {H H':Bb} (h: ∀r o,H' r=some o->H r=some o) (k:Rm R v H'):Rm R v H:= .ghost (.sub h v) k
theorem Dz {α:Type} {H:Nat->Option α} {a b:Nat} {o:α} (ha:H a=none) (hb:H b=some o):b≠a:=fun e=>by rw[e,ha] at hb;cases hb
theorem Bd1 {α:Type} (p:α->Bool) (x:α):Option.all p (some x)=p x:=rfl
attribute [go_sem] Yc Vf Bd1
end Go.Dl

-- THE DATA LEVEL: the lemmas that the long simp call (simp (disch := omega) only [go_sem] in fill.py) takes besides the equations.
namespace Go.Dl
open Go
attribute [go_sem] Int.toNat_natCast Int.sub_zero Int.zero_add Int.add_zero Nat.add_sub_cancel Cf8 List.length_cons List.length_nil List.all_cons List.all_nil Bool.and_true Bool.true_and Bool.or_false Bool.false_or
attribute [go_sem] List.take_succ_cons List.take_zero List.drop_succ_cons List.drop_zero decide_true decide_false Nat.mul_one Nat.one_mul Nat.zero_add Nat.add_zero Nat.mul_zero Nat.zero_mul Bool.not_true Bool.not_false
attribute [go_sem] Option.map_some Option.map_none Nat.le_refl Nat.zero_lt_succ ne_eq not_true_eq_false not_false_eq_true Option.isSome_some Dq4 Cp7 Cf9 true_imp_iff false_imp_iff beq_self_eq_true forall_const Bb9 List.length_map
end Go.Dl

-- Facts on the types of this seat, each by the kernel. MADE BY PROGRAM (facts.py).
namespace Go.Dl
open Go Go.Proofs
theorem De6:Tryz.prog.cellsOf 2=1:=by kernel_rfl
theorem Dq9:(Tryz.prog.info? 2).isSome=true:=by kernel_rfl
theorem Dz6:Dg Tryz.prog 2=some false:=by kernel_rfl
theorem De7:Tryz.prog.cellsOf 3=1:=by kernel_rfl
theorem Dr0:(Tryz.prog.info? 3).isSome=true:=by kernel_rfl
theorem Dz7:Dg Tryz.prog 3=some false:=by kernel_rfl
theorem Dr1:Bz Tryz.prog 3=some (.int .i64 0):=by kernel_rfl
theorem De8:Tryz.prog.cellsOf 4=1:=by kernel_rfl
theorem Dz8:Dg Tryz.prog 4=some false:=by kernel_rfl
theorem De9:Tryz.prog.cellsOf 9=1:=by kernel_rfl
theorem Dr2:(Tryz.prog.info? 9).isSome=true:=by kernel_rfl
theorem Dz9:Dg Tryz.prog 9=some false:=by kernel_rfl
theorem Dr3:Bz Tryz.prog 9=some (.str []):=by kernel_rfl
theorem Cq9:Tryz.prog.cellsOf 22=1:=by kernel_rfl
theorem Dr4:Dg Tryz.prog 22=some false:=by kernel_rfl
theorem Cr0:Tryz.prog.cellsOf 23=1:=by kernel_rfl
theorem Dr5:Dg Tryz.prog 23=some false:=by kernel_rfl
theorem Cr1:Tryz.prog.cellsOf 24=1:=by kernel_rfl
theorem Df0:(Tryz.prog.info? 24).isSome=true:=by kernel_rfl
theorem Dr6:Dg Tryz.prog 24=some false:=by kernel_rfl
theorem Cr2:Tryz.prog.cellsOf 25=1:=by kernel_rfl
theorem Df1:(Tryz.prog.info? 25).isSome=true:=by kernel_rfl
theorem Dr7:Dg Tryz.prog 25=some false:=by kernel_rfl
theorem Cr3:Tryz.prog.cellsOf 26=1:=by kernel_rfl
theorem Df2:(Tryz.prog.info? 26).isSome=true:=by kernel_rfl
theorem Dr8:Dg Tryz.prog 26=some false:=by kernel_rfl
theorem Cr4:Tryz.prog.cellsOf 27=1:=by kernel_rfl
theorem Df3:(Tryz.prog.info? 27).isSome=true:=by kernel_rfl
theorem Dr9:Dg Tryz.prog 27=some false:=by kernel_rfl
theorem Cr5:Tryz.prog.cellsOf 29=9:=by kernel_rfl
theorem Cr6:Tryz.prog.bytesOf 29=104:=by kernel_rfl
theorem Df4:(Tryz.prog.info? 29).isSome=true:=by kernel_rfl
theorem Ds0:Dg Tryz.prog 29=some true:=by kernel_rfl
theorem Ds1:Mo Tryz.prog 29=true:=by kernel_rfl
theorem Df5:Bz Tryz.prog 29=some (.agg [.int .u8 0, .int .u8 0, .int .i64 0, .str [], .nilSlice, .nilSlice, .int .i64 0, .int .i64 0, .int .i64 0]):=by kernel_rfl
theorem Cr7:Tryz.prog.cellsOf 32=21:=by kernel_rfl
theorem Df6:(Tryz.prog.info? 32).isSome=true:=by kernel_rfl
theorem Ds2:Dg Tryz.prog 32=some true:=by kernel_rfl
theorem Df7:Bz Tryz.prog 32=some (.agg [.nilSlice, .int .u8 0, .int .u8 0, .int .u8 0, .int .i64 0, .str [], .nilSlice, .nilSlice, .int .i64 0, .int .i64 0, .int .i64 0, .int .u8 0, .int .u8 0, .int .i64 0, .str [], .nilSlice, .nilSlice, .int .i64 0, .int .i64 0, .int .i64 0, .int .i64 0]):=by kernel_rfl
theorem Cr8:Tryz.prog.cellsOf 36=1:=by kernel_rfl
theorem Ds3:Dg Tryz.prog 36=some false:=by kernel_rfl
theorem Cr9:Tryz.prog.cellsOf 40=1:=by kernel_rfl
theorem Df8:(Tryz.prog.info? 40).isSome=true:=by kernel_rfl
theorem Ds4:Dg Tryz.prog 40=some false:=by kernel_rfl
theorem Cs0:Tryz.prog.cellsOf 45=36:=by kernel_rfl
theorem Ds5:Dg Tryz.prog 45=some true:=by kernel_rfl
theorem Cs1:Tryz.prog.cellsOf 47=27:=by kernel_rfl
theorem Ds6:Dg Tryz.prog 47=some true:=by kernel_rfl
theorem Cs2:Tryz.prog.cellsOf 48=1:=by kernel_rfl
theorem Ds7:Dg Tryz.prog 48=some false:=by kernel_rfl
theorem Cs3:Tryz.prog.cellsOf 49=1:=by kernel_rfl
theorem Ds8:Dg Tryz.prog 49=some false:=by kernel_rfl
theorem Cs4:Tryz.prog.cellsOf 50=1:=by kernel_rfl
theorem Df9:(Tryz.prog.info? 50).isSome=true:=by kernel_rfl
theorem Ds9:Dg Tryz.prog 50=some false:=by kernel_rfl
theorem Dg0:Bz Tryz.prog 50=some (.int .u8 0):=by kernel_rfl
theorem Cs5:Tryz.prog.cellsOf 51=1:=by kernel_rfl
theorem Dt0:Dg Tryz.prog 51=some false:=by kernel_rfl
theorem Cs6:Tryz.prog.cellsOf 53=87:=by kernel_rfl
theorem Dt1:Dg Tryz.prog 53=some true:=by kernel_rfl
theorem Cg6:Tryz.prog.cellsOf 110=10:=by kernel_rfl
theorem Cs7:(Tryz.prog.info? 110).isSome=true:=by kernel_rfl
theorem Dg1:Dg Tryz.prog 110=some true:=by kernel_rfl
theorem Cg7:Tryz.prog.cellsOf 115=8:=by kernel_rfl
theorem Cs8:(Tryz.prog.info? 115).isSome=true:=by kernel_rfl
theorem Dg2:Mo Tryz.prog 115=true:=by kernel_rfl
theorem Cs9:Bz Tryz.prog 115=some (.agg [.nilFunc, .nilFunc, .nilFunc, .nilFunc, .nilFunc, .nilFunc, .nilFunc, .nilFunc]):=by kernel_rfl
theorem Cg8:Tryz.prog.cellsOf 123=47:=by kernel_rfl
theorem Ct0:(Tryz.prog.info? 123).isSome=true:=by kernel_rfl
theorem Dg3:Dg Tryz.prog 123=some true:=by kernel_rfl
theorem Ct1:Bz Tryz.prog 123=some (.agg [.nilSlice, .int .u8 0, .int .u8 0, .int .i64 0, .str [], .nilSlice, .nilSlice, .int .i64 0, .int .i64 0, .int .i64 0, .int .u8 0, .int .u8 0, .int .i64 0, .str [], .nilSlice, .nilSlice, .int .i64 0, .int .i64 0, .int .i64 0, .int .u8 0, .int .u8 0, .int .i64 0, .str [], .nilSlice, .nilSlice, .int .i64 0, .int .i64 0, .int .i64 0, .int .u8 0, .int .u8 0, .int .i64 0, .str [], .nilSlice, .nilSlice, .int .i64 0, .int .i64 0, .int .i64 0, .int .u8 0, .int .u8 0, .int .i64 0, .str [], .nilSlice, .nilSlice, .int .i64 0, .int .i64 0, .int .i64 0, .int .i64 0]):=by kernel_rfl
theorem Cg9:Tryz.prog.cellsOf 126=1:=by kernel_rfl
theorem Dg4:Dg Tryz.prog 126=some false:=by kernel_rfl
theorem Ch0:Tryz.prog.cellsOf 128=2:=by kernel_rfl
theorem Ct2:(Tryz.prog.info? 128).isSome=true:=by kernel_rfl
theorem Dg5:Dg Tryz.prog 128=some true:=by kernel_rfl
theorem Ct3:Bz Tryz.prog 128=some (.agg [.nilSlice, .nilSlice]):=by kernel_rfl
theorem Ch1:Tryz.prog.cellsOf 182=1:=by kernel_rfl
theorem Ct4:(Tryz.prog.info? 182).isSome=true:=by kernel_rfl
theorem Dg6:Dg Tryz.prog 182=some false:=by kernel_rfl
theorem Ct5:Bz Tryz.prog 182=some (.nilFunc):=by kernel_rfl
theorem Ch2:Tryz.prog.cellsOf 196=1:=by kernel_rfl
theorem Dg7:Dg Tryz.prog 196=some false:=by kernel_rfl
theorem Ch3:Tryz.prog.cellsOf 198=2:=by kernel_rfl
theorem Ct6:(Tryz.prog.info? 198).isSome=true:=by kernel_rfl
theorem Dg8:Dg Tryz.prog 198=some true:=by kernel_rfl
theorem Ct7:Bz Tryz.prog 198=some (.agg [.int .u8 0, .nilSlice]):=by kernel_rfl
theorem Ch4:Tryz.prog.cellsOf 222=10:=by kernel_rfl
theorem Ct8:(Tryz.prog.info? 222).isSome=true:=by kernel_rfl
theorem Dg9:Dg Tryz.prog 222=some true:=by kernel_rfl
theorem Ct9:Bz Tryz.prog 222=some (.agg [.nilSlice, .int .u8 0, .int .u8 0, .int .i64 0, .str [], .nilSlice, .nilSlice, .int .i64 0, .int .i64 0, .int .i64 0]):=by kernel_rfl
theorem Ch5:Tryz.prog.cellsOf 262=1:=by kernel_rfl
theorem Cu0:(Tryz.prog.info? 262).isSome=true:=by kernel_rfl
theorem Dh0:Dg Tryz.prog 262=some false:=by kernel_rfl
theorem Cu1:Bz Tryz.prog 262=some (.nilMap):=by kernel_rfl
attribute [go_sem] Tryz.underlying0 Tryz.underlying1
attribute [go_sem] De6 Dq9 Dz6 Tryz.underlying2 De7 Dr0 Dz7 Dr1 Tryz.underlying3
attribute [go_sem] De8 Dz8 Tryz.underlying4 Tryz.underlying5
attribute [go_sem] Tryz.underlying6 Tryz.eqGuardType7
attribute [go_sem] Tryz.stoodInHeld7 Tryz.underlying7 Tryz.eqGuardType8 Tryz.stoodInHeld8 Tryz.underlying8
attribute [go_sem] De9 Dr2 Dz9 Dr3 Tryz.underlying9 Tryz.underlying10
attribute [go_sem] Tryz.underlying11 Tryz.underlying12
attribute [go_sem] Tryz.eqGuardType13 Tryz.stoodInHeld13 Tryz.underlying13
attribute [go_sem] Tryz.eqGuardType14 Tryz.stoodInHeld14 Tryz.underlying14 Tryz.underlying15
attribute [go_sem] Tryz.underlying16 Tryz.underlying17
attribute [go_sem] Tryz.eqGuardType18 Tryz.stoodInHeld18 Tryz.underlying18
attribute [go_sem] Tryz.eqGuardType19 Tryz.stoodInHeld19 Tryz.underlying19 Tryz.underlying20
attribute [go_sem] Tryz.underlying21 Cq9 Dr4 Tryz.underlying22
attribute [go_sem] Cr0 Dr5 Tryz.underlying23 Cr1 Df0 Dr6 Tryz.underlying24
attribute [go_sem] Cr2 Df1 Dr7 Tryz.underlying25 Cr3 Df2 Dr8 Tryz.underlying26
attribute [go_sem] Cr4 Df3 Dr9 Tryz.underlying27 Tryz.eqGuardType28
attribute [go_sem] Tryz.stoodInHeld28 Tryz.underlying28 Cr5 Cr6 Df4 Ds0 Ds1 Tryz.eqGuardType29 Tryz.stoodInHeld29 Df5 Tryz.underlying29
attribute [go_sem] Tryz.underlying30 Tryz.eqGuardType31
attribute [go_sem] Tryz.stoodInHeld31 Tryz.underlying31 Cr7 Df6 Ds2 Tryz.eqGuardType32 Tryz.stoodInHeld32 Df7 Tryz.underlying32
attribute [go_sem] Tryz.underlying33 Tryz.underlying34
attribute [go_sem] Tryz.underlying35 Cr8 Ds3 Tryz.underlying36
attribute [go_sem] Tryz.underlying37 Tryz.underlying38
attribute [go_sem] Tryz.underlying39 Cr9 Df8 Ds4 Tryz.underlying40
attribute [go_sem] Tryz.underlying41 Tryz.underlying42
attribute [go_sem] Tryz.underlying43 Tryz.eqGuardType44
attribute [go_sem] Tryz.stoodInHeld44 Tryz.underlying44 Cs0 Ds5 Tryz.eqGuardType45 Tryz.stoodInHeld45 Tryz.underlying45
attribute [go_sem] Tryz.eqGuardType46 Tryz.stoodInHeld46 Tryz.underlying46 Cs1
attribute [go_sem] Ds6 Tryz.eqGuardType47 Tryz.stoodInHeld47 Tryz.underlying47 Cs2 Ds7 Tryz.underlying48
attribute [go_sem] Cs3 Ds8 Tryz.underlying49 Cs4 Df9 Ds9 Dg0 Tryz.underlying50
attribute [go_sem] Cs5 Dt0 Tryz.underlying51 Tryz.eqGuardType52
attribute [go_sem] Tryz.stoodInHeld52 Tryz.underlying52 Cs6 Dt1 Tryz.eqGuardType53 Tryz.stoodInHeld53 Tryz.underlying53
attribute [go_sem] Tryz.eqGuardType54 Tryz.stoodInHeld54 Tryz.underlying54
attribute [go_sem] Tryz.eqGuardType55 Tryz.stoodInHeld55 Tryz.underlying55 Tryz.underlying56
attribute [go_sem] Tryz.underlying57 Tryz.underlying58
attribute [go_sem] Tryz.underlying59 Tryz.underlying60
attribute [go_sem] Tryz.underlying61 Tryz.underlying62
attribute [go_sem] Tryz.underlying63 Tryz.underlying64
attribute [go_sem] Tryz.underlying65 Tryz.underlying66
attribute [go_sem] Tryz.underlying67 Tryz.underlying68
attribute [go_sem] Tryz.underlying69 Tryz.underlying70
attribute [go_sem] Tryz.underlying71 Tryz.underlying72
attribute [go_sem] Tryz.underlying73 Tryz.underlying74
attribute [go_sem] Tryz.underlying75 Tryz.underlying76
attribute [go_sem] Tryz.underlying77 Tryz.underlying78
attribute [go_sem] Tryz.underlying79 Tryz.eqGuardType80
attribute [go_sem] Tryz.stoodInHeld80 Tryz.underlying80 Tryz.eqGuardType81 Tryz.stoodInHeld81 Tryz.underlying81
attribute [go_sem] Tryz.underlying82 Tryz.underlying83
attribute [go_sem] Tryz.underlying84 Tryz.underlying85
attribute [go_sem] Tryz.underlying86 Tryz.underlying87
attribute [go_sem] Tryz.underlying88 Tryz.underlying89
attribute [go_sem] Tryz.underlying90 Tryz.underlying91
attribute [go_sem] Tryz.underlying92 Tryz.underlying93
attribute [go_sem] Tryz.underlying94 Tryz.underlying95
attribute [go_sem] Tryz.underlying96 Tryz.underlying97
attribute [go_sem] Tryz.underlying98 Tryz.underlying99
attribute [go_sem] Tryz.underlying100 Tryz.underlying101
attribute [go_sem] Tryz.underlying102 Tryz.underlying103
attribute [go_sem] Tryz.underlying104 Tryz.underlying105
attribute [go_sem] Tryz.underlying106 Tryz.underlying107
attribute [go_sem] Tryz.underlying108 Tryz.eqGuardType109
attribute [go_sem] Tryz.stoodInHeld109 Tryz.underlying109 Cg6 Cs7 Dg1 Tryz.eqGuardType110 Tryz.stoodInHeld110 Tryz.underlying110
attribute [go_sem] Tryz.underlying111 Tryz.underlying112
attribute [go_sem] Tryz.underlying113 Tryz.underlying114
attribute [go_sem] Cg7 Cs8 Dg2 Tryz.eqGuardType115 Cs9 Tryz.underlying115
attribute [go_sem] Tryz.underlying116 Tryz.underlying117
attribute [go_sem] Tryz.underlying118 Tryz.underlying119
attribute [go_sem] Tryz.underlying120 Tryz.underlying121
attribute [go_sem] Tryz.eqGuardType122 Tryz.stoodInHeld122 Tryz.underlying122 Cg8 Ct0 Dg3 Tryz.eqGuardType123 Tryz.stoodInHeld123
attribute [go_sem] Ct1 Tryz.underlying123 Tryz.underlying124
attribute [go_sem] Tryz.underlying125 Cg9 Dg4 Tryz.underlying126
attribute [go_sem] Tryz.eqGuardType127 Tryz.stoodInHeld127 Tryz.underlying127 Ch0 Ct2 Dg5 Tryz.eqGuardType128 Tryz.stoodInHeld128
attribute [go_sem] Ct3 Tryz.underlying128 Tryz.underlying129
attribute [go_sem] Tryz.underlying130 Tryz.eqGuardType131 Tryz.stoodInHeld131 Tryz.underlying131
attribute [go_sem] Tryz.eqGuardType132 Tryz.stoodInHeld132 Tryz.underlying132
attribute [go_sem] Tryz.underlying133 Tryz.underlying134
attribute [go_sem] Tryz.underlying135 Tryz.underlying136
attribute [go_sem] Tryz.underlying137 Tryz.underlying138
attribute [go_sem] Tryz.underlying139 Tryz.underlying140
attribute [go_sem] Tryz.underlying141 Tryz.underlying142
attribute [go_sem] Tryz.underlying143 Tryz.eqGuardType144 Tryz.stoodInHeld144 Tryz.underlying144
attribute [go_sem] Tryz.eqGuardType145 Tryz.stoodInHeld145 Tryz.underlying145
attribute [go_sem] Tryz.underlying146 Tryz.underlying147
attribute [go_sem] Tryz.underlying148 Tryz.underlying149
attribute [go_sem] Tryz.underlying150 Tryz.underlying151
attribute [go_sem] Tryz.underlying152 Tryz.eqGuardType153 Tryz.stoodInHeld153 Tryz.underlying153
attribute [go_sem] Tryz.eqGuardType154 Tryz.stoodInHeld154 Tryz.underlying154
attribute [go_sem] Tryz.underlying155 Tryz.underlying156
attribute [go_sem] Tryz.underlying157 Tryz.eqGuardType158 Tryz.stoodInHeld158 Tryz.underlying158
attribute [go_sem] Tryz.eqGuardType159 Tryz.stoodInHeld159 Tryz.underlying159
attribute [go_sem] Tryz.eqGuardType160 Tryz.stoodInHeld160 Tryz.underlying160 Tryz.eqGuardType161 Tryz.stoodInHeld161
attribute [go_sem] Tryz.underlying161 Tryz.underlying162
attribute [go_sem] Tryz.underlying163 Tryz.underlying164
attribute [go_sem] Tryz.underlying165 Tryz.eqGuardType166 Tryz.underlying166
attribute [go_sem] Tryz.underlying167 Tryz.underlying168
attribute [go_sem] Tryz.underlying169 Tryz.underlying170
attribute [go_sem] Tryz.underlying171 Tryz.underlying172
attribute [go_sem] Tryz.underlying173 Tryz.underlying174
attribute [go_sem] Tryz.underlying175 Tryz.underlying176
attribute [go_sem] Tryz.underlying177 Tryz.underlying178
attribute [go_sem] Tryz.underlying179 Tryz.underlying180
attribute [go_sem] Tryz.underlying181 Ch1 Ct4 Dg6 Ct5 Tryz.underlying182
attribute [go_sem] Tryz.underlying183 Tryz.underlying184
attribute [go_sem] Tryz.underlying185 Tryz.underlying186
attribute [go_sem] Tryz.underlying187 Tryz.underlying188
attribute [go_sem] Tryz.underlying189 Tryz.underlying190
attribute [go_sem] Tryz.underlying191 Tryz.underlying192
attribute [go_sem] Tryz.underlying193 Tryz.underlying194
attribute [go_sem] Tryz.underlying195 Ch2 Dg7 Tryz.underlying196
attribute [go_sem] Tryz.eqGuardType197 Tryz.stoodInHeld197 Tryz.underlying197 Ch3 Ct6 Dg8
attribute [go_sem] Tryz.eqGuardType198 Tryz.stoodInHeld198 Ct7 Tryz.underlying198 Tryz.underlying199
attribute [go_sem] Tryz.underlying200 Tryz.underlying201
attribute [go_sem] Tryz.underlying202 Tryz.underlying203
attribute [go_sem] Tryz.underlying204 Tryz.underlying205
attribute [go_sem] Tryz.underlying206 Tryz.underlying207
attribute [go_sem] Tryz.underlying208 Tryz.underlying209
attribute [go_sem] Tryz.underlying210 Tryz.underlying211
attribute [go_sem] Tryz.underlying212 Tryz.underlying213
attribute [go_sem] Tryz.underlying214 Tryz.underlying215
attribute [go_sem] Tryz.underlying216 Tryz.underlying217
attribute [go_sem] Tryz.underlying218 Tryz.underlying219
attribute [go_sem] Tryz.underlying220 Tryz.eqGuardType221 Tryz.stoodInHeld221
attribute [go_sem] Tryz.underlying221 Ch4 Ct8 Dg9 Tryz.eqGuardType222 Tryz.stoodInHeld222 Ct9 Tryz.underlying222
attribute [go_sem] Tryz.underlying223 Tryz.underlying224
attribute [go_sem] Tryz.underlying225 Tryz.underlying226
attribute [go_sem] Tryz.underlying227 Tryz.underlying228
attribute [go_sem] Tryz.underlying229 Tryz.underlying230
attribute [go_sem] Tryz.underlying231 Tryz.underlying232
attribute [go_sem] Tryz.underlying233 Tryz.underlying234
attribute [go_sem] Tryz.underlying235 Tryz.underlying236
attribute [go_sem] Tryz.underlying237 Tryz.underlying238
attribute [go_sem] Tryz.underlying239 Tryz.underlying240
attribute [go_sem] Tryz.eqGuardType241 Tryz.stoodInHeld241 Tryz.underlying241
attribute [go_sem] Tryz.eqGuardType242 Tryz.stoodInHeld242 Tryz.underlying242 Tryz.underlying243
attribute [go_sem] Tryz.underlying244 Tryz.underlying245
attribute [go_sem] Tryz.underlying246 Tryz.underlying247
attribute [go_sem] Tryz.underlying248 Tryz.underlying249
attribute [go_sem] Tryz.underlying250 Tryz.eqGuardType251 Tryz.stoodInHeld251
attribute [go_sem] Tryz.underlying251 Tryz.eqGuardType252 Tryz.stoodInHeld252 Tryz.underlying252
attribute [go_sem] Tryz.underlying253 Tryz.underlying254
attribute [go_sem] Tryz.underlying255 Tryz.underlying256
attribute [go_sem] Tryz.underlying257 Tryz.underlying258
attribute [go_sem] Tryz.underlying259 Tryz.underlying260
attribute [go_sem] Tryz.underlying261 Ch5 Cu0 Dh0 Cu1 Tryz.underlying262
attribute [go_sem] Tryz.underlying263 Tryz.underlying264
attribute [go_sem] Tryz.underlying265 Tryz.underlying266
attribute [go_sem] Tryz.underlying267 Tryz.underlying268
attribute [go_sem] Tryz.underlying269 Tryz.underlying270
attribute [go_sem] Tryz.underlying271 Tryz.underlying272
attribute [go_sem] Tryz.underlying273 Tryz.underlying274
attribute [go_sem] Tryz.underlying275 Tryz.underlying276
attribute [go_sem] Tryz.underlying277 Tryz.underlying278
attribute [go_sem] Tryz.underlying279 Tryz.underlying280
attribute [go_sem] Tryz.underlying281 Tryz.underlying282
attribute [go_sem] Tryz.underlying283 Tryz.underlying284
attribute [go_sem] Tryz.eqGuardType285 Tryz.underlying285 Tryz.underlying286
attribute [go_sem] Tryz.underlying287 Tryz.underlying288
attribute [go_sem] Tryz.underlying289 Tryz.underlying290
attribute [go_sem] Tryz.underlying291 Tryz.underlying292
attribute [go_sem] Tryz.underlying293 Tryz.underlying294
attribute [go_sem] Tryz.underlying295 Tryz.eqGuardType296 Tryz.stoodInHeld296
attribute [go_sem] Tryz.underlying296 Tryz.eqGuardType297 Tryz.stoodInHeld297 Tryz.underlying297
attribute [go_sem] Tryz.underlying298 Tryz.underlying299
attribute [go_sem] Tryz.eqGuardType300 Tryz.stoodInHeld300 Tryz.underlying300
attribute [go_sem] Tryz.eqGuardType301 Tryz.stoodInHeld301 Tryz.underlying301 Tryz.underlying302
attribute [go_sem] Tryz.underlying303 Tryz.underlying304
attribute [go_sem] Tryz.underlying305 Tryz.underlying306
attribute [go_sem] Tryz.underlying307 Tryz.underlying308
attribute [go_sem] Tryz.eqGuardType309 Tryz.stoodInHeld309 Tryz.underlying309
attribute [go_sem] Tryz.eqGuardType310 Tryz.stoodInHeld310 Tryz.underlying310 Tryz.underlying311
attribute [go_sem] Tryz.underlying312 Tryz.underlying313
attribute [go_sem] Tryz.underlying314 Tryz.underlying315
attribute [go_sem] Tryz.underlying316 Tryz.underlying317
attribute [go_sem] Tryz.underlying318 Tryz.underlying319
attribute [go_sem] Tryz.underlying320 Tryz.underlying321
attribute [go_sem] Tryz.eqGuardType322 Tryz.stoodInHeld322 Tryz.underlying322
attribute [go_sem] Tryz.eqGuardType323 Tryz.stoodInHeld323 Tryz.underlying323 Tryz.underlying324
attribute [go_sem] Tryz.eqGuardType325 Tryz.stoodInHeld325 Tryz.underlying325
attribute [go_sem] Tryz.eqGuardType326 Tryz.stoodInHeld326 Tryz.underlying326 Tryz.underlying327
attribute [go_sem] Tryz.eqGuardType328 Tryz.stoodInHeld328 Tryz.underlying328
attribute [go_sem] Tryz.eqGuardType329 Tryz.stoodInHeld329 Tryz.underlying329 Tryz.underlying330
attribute [go_sem] Tryz.underlying331 Tryz.underlying332
attribute [go_sem] Tryz.underlying333 Tryz.underlying334
attribute [go_sem] Tryz.eqGuardType335 Tryz.stoodInHeld335 Tryz.underlying335
attribute [go_sem] Tryz.eqGuardType336 Tryz.stoodInHeld336 Tryz.underlying336 Tryz.eqGuardType337
attribute [go_sem] Tryz.underlying337 Tryz.eqGuardType338 Tryz.stoodInHeld338 Tryz.underlying338
attribute [go_sem] Tryz.eqGuardType339 Tryz.stoodInHeld339 Tryz.underlying339
attribute [go_sem] Tryz.underlying340 Tryz.underlying341
attribute [go_sem] Tryz.underlying342 Tryz.underlying343
attribute [go_sem] Tryz.underlying344 Tryz.underlying345
attribute [go_sem] Tryz.eqGuardType346 Tryz.stoodInHeld346 Tryz.underlying346 Tryz.eqGuardType347 Tryz.stoodInHeld347
attribute [go_sem] Tryz.underlying347 Tryz.underlying348 Tryz.results0 Tryz.results1 Tryz.results2 Tryz.results3 Tryz.results4
attribute [go_sem] Tryz.results5 Tryz.results6 Tryz.results7 Tryz.results8 Tryz.results9 Tryz.results10 Tryz.results11 Tryz.results12 Tryz.results13 Tryz.results14 Tryz.results15 Tryz.results16
attribute [go_sem] Tryz.results17 Tryz.results18 Tryz.results19 Tryz.results20 Tryz.results21 Tryz.results22 Tryz.results23 Tryz.results24 Tryz.results25 Tryz.results26 Tryz.results27 Tryz.results28
attribute [go_sem] Tryz.results29 Tryz.results30 Tryz.results31 Tryz.results32 Tryz.results33 Tryz.results34 Tryz.results35 Tryz.results36 Tryz.results37 Tryz.results38 Tryz.results39 Tryz.results40
attribute [go_sem] Tryz.results41 Tryz.results42 Tryz.results43 Tryz.results44 Tryz.results45 Tryz.results46 Tryz.results47 Tryz.results48 Tryz.results49 Tryz.results50 Tryz.results51 Tryz.results52
attribute [go_sem] Tryz.results53 Tryz.results54 Tryz.results55 Tryz.results56 Tryz.results57 Tryz.results58 Tryz.results59 Tryz.results60 Tryz.results61 Tryz.results62 Tryz.results63 Tryz.results64
attribute [go_sem] Tryz.results65 Tryz.results66 Tryz.results67 Tryz.results68 Tryz.results69 Tryz.results70 Tryz.results71 Tryz.results72 Tryz.results73 Tryz.results74 Tryz.results75 Tryz.results76
attribute [go_sem] Tryz.results77 Tryz.results78 Tryz.results79 Tryz.results80 Tryz.results81 Tryz.results82 Tryz.results83 Tryz.results84 Tryz.results85 Tryz.results86 Tryz.results87 Tryz.results88
attribute [go_sem] Tryz.results89 Tryz.results90 Tryz.results91 Tryz.results92 Tryz.results93 Tryz.results94 Tryz.results95 Tryz.results96 Tryz.results97 Tryz.results98 Tryz.results99 Tryz.results100
attribute [go_sem] Tryz.results101 Tryz.results102 Tryz.results103 Tryz.results104 Tryz.results105 Tryz.results106 Tryz.results107 Tryz.results108 Tryz.results109 Tryz.results110 Tryz.results111 Tryz.results112
attribute [go_sem] Tryz.results113 Tryz.results114 Tryz.results115 Tryz.results116 Tryz.results117 Tryz.results118 Tryz.results119 Tryz.results120 Tryz.results121 Tryz.results122 Tryz.results123 Tryz.results124
attribute [go_sem] Tryz.results125 Tryz.results126 Tryz.results127 Tryz.results128 Tryz.results129 Tryz.results130 Tryz.results131 Tryz.results132 Tryz.results133 Tryz.results134 Tryz.results135 Tryz.results136
attribute [go_sem] Tryz.results137 Tryz.results138 Tryz.results139 Tryz.results140 Tryz.results141 Tryz.results142 Tryz.results143 Tryz.results144 Tryz.results145 Tryz.results146 Tryz.results147 Tryz.results148
attribute [go_sem] Tryz.results149 Tryz.results150 Tryz.results151 Tryz.results152 Tryz.results153 Tryz.results154 Tryz.results155 Tryz.results156 Tryz.results157 Tryz.results158 Tryz.results159 Tryz.results160
attribute [go_sem] Tryz.results161 Tryz.results162 Tryz.results163 Tryz.results164 Tryz.results165 Tryz.results166 Tryz.results167 Tryz.results168 Tryz.results169 Tryz.results170 Tryz.results171 Tryz.results172
attribute [go_sem] Tryz.results173 Tryz.results174 Tryz.results175 Tryz.results176 Tryz.results177 Tryz.results178 Tryz.results179 Tryz.results180 Tryz.results181 Tryz.results182 Tryz.results183 Tryz.results184
attribute [go_sem] Tryz.results185 Tryz.results186 Tryz.results187 Tryz.results188 Tryz.results189 Tryz.results190 Tryz.results191 Tryz.results192 Tryz.results193 Tryz.results194 Tryz.results195 Tryz.results196
attribute [go_sem] Tryz.results197 Tryz.results198 Tryz.results199 Tryz.results200 Tryz.results201 Tryz.results202 Tryz.results203 Tryz.results204 Tryz.results205 Tryz.results206 Tryz.results207 Tryz.results208
attribute [go_sem] Tryz.results209 Tryz.results210 Tryz.results211 Tryz.results212 Tryz.results213 Tryz.results214 Tryz.results215 Tryz.results216 Tryz.results217 Tryz.results218 Tryz.results219 Tryz.results220
attribute [go_sem] Tryz.results221 Tryz.results222 Tryz.results223 Tryz.results224 Tryz.results225 Tryz.results226 Tryz.results227 Tryz.results228 Tryz.results229 Tryz.results230 Tryz.results231 Tryz.results232
attribute [go_sem] Tryz.results233 Tryz.results234 Tryz.results235 Tryz.results236 Tryz.results237 Tryz.results238 Tryz.results239 Tryz.results240 Tryz.results241 Tryz.results242 Tryz.results243 Tryz.results244
attribute [go_sem] Tryz.results245 Tryz.results246 Tryz.results247 Tryz.results248 Tryz.results249 Tryz.results250 Tryz.results251 Tryz.results252 Tryz.results253 Tryz.results254 Tryz.results255 Tryz.results256
attribute [go_sem] Tryz.results257 Tryz.results258 Tryz.results259 Tryz.results260 Tryz.results261 Tryz.results262 Tryz.results263 Tryz.results264 Tryz.results265 Tryz.results266 Tryz.results267 Tryz.results268
attribute [go_sem] Tryz.results269 Tryz.results270 Tryz.results271 Tryz.results272 Tryz.results273 Tryz.results274 Tryz.results275 Tryz.results276 Tryz.results277 Tryz.results278 Tryz.results279 Tryz.results280
attribute [go_sem] Tryz.results281 Tryz.results282 Tryz.results283 Tryz.results284 Tryz.results285 Tryz.results286 Tryz.results287 Tryz.results288 Tryz.results289 Tryz.results290 Tryz.results291 Tryz.results292
attribute [go_sem] Tryz.results293 Tryz.results294 Tryz.results295 Tryz.results296 Tryz.results297 Tryz.results298 Tryz.results299 Tryz.results300 Tryz.results301 Tryz.results302 Tryz.results303 Tryz.results304
attribute [go_sem] Tryz.results305 Tryz.results306 Tryz.results307 Tryz.results308 Tryz.results309 Tryz.results310 Tryz.results311 Tryz.results312 Tryz.results313 Tryz.results314 Tryz.results315 Tryz.results316
attribute [go_sem] Tryz.results317 Tryz.results318 Tryz.results319 Tryz.results320 Tryz.results321 Tryz.results322 Tryz.results323 Tryz.results324 Tryz.results325 Tryz.results326 Tryz.results327 Tryz.results328
attribute [go_sem] Tryz.results329 Tryz.results330 Tryz.results331 Tryz.results332 Tryz.results333 Tryz.results334 Tryz.results335 Tryz.results336 Tryz.results337 Tryz.results338 Tryz.results339 Tryz.results340
attribute [go_sem] Tryz.results341 Tryz.results342 Tryz.results343 Tryz.results344 Tryz.results345 Tryz.results346 Tryz.results347 Tryz.results348 Tryz.results349 Tryz.results350 Tryz.results351 Tryz.results352
attribute [go_sem] Tryz.results353 Tryz.results354
end Go.Dl

-- THE LIBRARY's FUNCTIONS AT THE DATA LEVEL: what is common to all of them.
namespace Go.Dl
open Go Go.Proofs
set_option maxRecDepth 10000
section
variable {P:Program} {G:Nat->DVal}
structure Quiet (w w':World):Prop where
 os:w'.os=w.os
 tape:w'.tape=w.tape
 output:w'.output=w.output
 size:w.heap.size<=w'.heap.size
 block: ∀b,b<w.heap.size->w'.heap[b]? =w.heap[b]?
theorem Quiet.below {w w':World} (h:RowKit.Below w.heap.size w w'):Quiet w w':=⟨h.os,h.tape,h.output,h.size,h.block⟩
theorem Quiet.ext {w w':World} {H:Bb} (hH:Bw w H) (h:Quiet w w'):Bw w' H/\Ext H w H w':=by
 have hE:Ext H w H w':=⟨h.os,h.tape,h.output,h.size,fun b hb _=>h.block b hb,fun b hb=> .inl hb,fun b hb=>by rw[h.block b hb],fun a ha _=>by unfold World.frozen?;rw[h.block _ ha]⟩;refine⟨fun r o ho=> ?_,hE⟩;rw[h.block r (hH.lt (by simp [ho]))];exact(hH r o ho).lasts hE.lasts
theorem Ch6 {w:World} {H:Bb} {g:Nat} {cs:List DVal} {name:String} {k:IntKind} {zs:List Int} (hg:P.globalNamed name=some g) (h:Rel w H (.vptr cs 0) (.pointer (some ⟨g,0,none⟩)))
  (hcs:cs=zs.map fun z=> .int k z): ∀i z,zs[i]? =some z->w.cell? ⟨g,i,none⟩=some (.int k z):=by
 simp only[Rel] at h;obtain⟨b,o,xs,e,hc,hr⟩:=h;simp only[Value.pointer.injEq,Option.some.injEq,Addr.mk.injEq,Nat.add_zero,and_true] at e;obtain⟨rfl,rfl⟩:=e;intro i z hz;have h1:cs[i]? =some (.int k z):=by rw[hcs];simp [hz]
 obtain⟨y,hy,hrel⟩:=hr.get h1;simp only[Rel] at hrel;subst hrel;have:=hc.holds i _ hy;simpa using this
end
section
end
end Go.Dl

-- General plain laws: cells of lists of structs, positions, texts of integers, pieces.
namespace Go.Dl
open Go Go.Proofs
set_option maxRecDepth 10000
section
variable {α:Type} {c:α->List DVal} {k:Nat}
theorem Bq (hk: ∀x,(c x).length=k) (l:List α):(l.flatMap c).length=l.length*k:=by
 induction l with
 | nil=>simp
 | cons x l ih=>simp [List.flatMap_cons,ih,hk,Nat.add_mul];omega
theorem An3 (hk: ∀x,(c x).length=k): ∀(l:List α) (i:Nat),(l.flatMap c).drop (i*k)=(l.drop i).flatMap c
 | l,0=>by simp
 | [],i+1=>by simp
 | x::l,i+1=>by
  rw[List.flatMap_cons,show(i+1)*k=(c x).length+i*k by rw[hk,Nat.add_mul];omega,List.drop_append,List.drop_succ_cons,<-An3 hk l i];simp
theorem Cm (hk: ∀x,(c x).length=k) (l:List α) (i:Nat) (h:i<l.length):((l.flatMap c).drop (i*k)).take k=c l[i]:=by
 rw[An3 hk,List.drop_eq_getElem_cons h,List.flatMap_cons,List.take_append_of_le_length (by rw[hk];omega),List.take_of_length_le (by rw[hk];omega)]
theorem Cy (hk: ∀x,(c x).length=k) (l:List α) (i:Nat) (h:i<l.length) (j:Nat) (hj:j<k):(l.flatMap c)[i*k+j]? =(c l[i])[j]? :=by
 rw[<-Cm hk l i h,List.getElem?_take,if_pos hj,List.getElem?_drop]
end
def Zi {α:Type} (p:α->Bool) (l:List α):Int:=match l.findIdx? p with | some i=>(i:Int) | none=> -1
theorem So {α:Type} {p:α->Bool} {l:List α} {i:Nat} (h:i<l.length) (hp:p l[i]=true) (hn: ∀x∈l.take i,p x=false):Zi p l=i:=by
 have:l.findIdx? p=some i:=by
  rw[List.findIdx?_eq_some_iff_getElem];exact⟨h,hp,fun j hj=>by have:=hn l[j] (List.mem_take_iff_getElem.2 ⟨j,by omega,rfl⟩);simp [this]⟩
 rw[Zi,this]
theorem Sp {α:Type} {p:α->Bool} {l:List α} (hn: ∀x∈l,p x=false):Zi p l= -1:=by
 have:l.findIdx? p=none:=by rw[List.findIdx?_eq_none_iff];intro x hx;rw[hn x hx]
 rw[Zi,this]
theorem Od {α:Type} (p:α->Bool) (l:List α):decide (0<=Zi p l)=l.any p:=by
 unfold Zi;cases h:l.findIdx? p with
 | some i=>
  obtain⟨h1,h2,_⟩:=List.findIdx?_eq_some_iff_getElem.1 h;have:l.any p=true:=List.any_eq_true.2 ⟨_,List.getElem_mem h1,h2⟩;rw[this];simp
 | none=>
  rw[List.findIdx?_eq_none_iff] at h;have:l.any p=false:=by rw[List.any_eq_false];intro x hx;rw[h x hx];simp
  rw[this];rfl
theorem Hm {α:Type} {p:α->Prop} {l:List α} {i:Nat} (h:i<l.length) (hn: ∀x∈l.take i,p x) (hx:p l[i]): ∀x∈l.take (i+1),p x:=by
 intro x hm;rw[List.take_succ_eq_append_getElem h,List.mem_append,List.mem_singleton] at hm;rcases hm with hm | rfl
 ·exact hn x hm
 ·exact hx
theorem Bd2 {c d:UInt8} (h:c≠d): ¬(c.toNat:Int)=(d.toNat:Int):=fun e=>h (UInt8.toNat_inj.1 (by omega))
def Yd (l:List (List UInt8)):DVal:= .vslice (l.map .str) l.length
end Go.Dl

-- Rows of the call's own: a list of lists of ints, each in a block of its own.
namespace Go.Dl
open Go
def Vg:DVal->Bool
 | .bool _ | .int _ _ | .str _ | .nilPtr | .nilSlice | .nilMap | .nilFunc | .nilIface=>true
 | .optr _ _ | .oslice _ _ _ _ _ | .omap _=>true
 | .tuple l=>looses l
 | .agg l=>looses l
 | _=>false
where looses:List DVal->Bool
 | []=>true
 | d::ds=>Vg d&&looses ds
mutual
theorem Sq {w:World} {H H':Bb}: ∀(d:DVal) (v:Value),Vg d=true->Rel w H d v->Rel w H' d v
 | .tuple l,v,hp,h=>by
  simp only[Vg] at hp
  simp only[Rel] at h⊢
  obtain⟨x,rfl,h1⟩:=h
  exact⟨x,rfl,Pg _ _ hp h1⟩
 | .agg l,v,hp,h=>by
  simp only[Vg] at hp
  simp only[Rel] at h⊢
  obtain⟨x,rfl,h1⟩:=h
  exact⟨x,rfl,Pg _ _ hp h1⟩
 | .bool x,v,hp,h=>by simpa [Rel] using h
 | .int x y,v,hp,h=>by simpa [Rel] using h
 | .str x,v,hp,h=>by simpa [Rel] using h
 | .nilPtr,v,hp,h=>by simpa [Rel] using h
 | .nilSlice,v,hp,h=>by simpa [Rel] using h
 | .nilMap,v,hp,h=>by simpa [Rel] using h
 | .nilFunc,v,hp,h=>by simpa [Rel] using h
 | .nilIface,v,hp,h=>by simpa [Rel] using h
 | .optr _ _,v,hp,h=>by simpa [Rel] using h
 | .oslice _ _ _ _ _,v,hp,h=>by simpa [Rel] using h
 | .omap _,v,hp,h=>by simpa [Rel] using h
 | .raw _,_,hp,_=>by cases hp
 | .vptr _ _,_,hp,_=>by cases hp
 | .vslice _ _,_,hp,_=>by cases hp
 | .func _ _ _,_,hp,_=>by cases hp
 | .iface _ _,_,hp,_=>by cases hp
theorem Pg {w:World} {H H':Bb}: ∀(ds:List DVal) (vs:List Value),Vg.looses ds=true->Br w H ds vs->Br w H' ds vs
 | [],_,_,h=>by simpa [Br] using h
 | d::ds,vs,hp,h=>by
  simp only[Vg.looses,Bool.and_eq_true] at hp
  simp only[Br] at h⊢
  obtain⟨y,ys,rfl,h1,h2⟩:=h
  exact⟨y,ys,rfl,Sq d y hp.1 h1,Pg ds ys hp.2 h2⟩
end
def Bp5:DObj->Bool
 | .cells cs _=>Vg.looses cs
 | .map es=>es.all fun p=>Vg p.1&&Vg p.2
 | .loop _ _ _=>false
 | .iter _ _=>true
def Dm0 (H H':Bb):Prop:= ∀r o,H' r=some o->H r=some o\/Bp5 o=true
theorem Dm0.refl (H:Bb):Dm0 H H:=fun _ _ h=> .inl h
end Go.Dl

-- THE DATA LEVEL, PART J: slices that are built up beside other memory of the call's own that nobody asks for any more.
namespace Go.Dl
open Go Go.RowKit
theorem Bd3 (H:Bb) (w:World):Lasts H w h0 w:=Ka (fun r o h=>by cases h) w
def Sub (H H':Bb):Prop:= ∀r o,H r=some o->H' r=some o
theorem Sub.refl (H:Bb):Sub H H:=fun _ _ h=>h
theorem Sub.trans {H H' H'':Bb} (h:Sub H H') (k:Sub H' H''):Sub H H'':=fun r o x=>k r o (h r o x)
theorem Sub.lo {H H':Bb} (h:Sub H H') {r:Nat} (hr:H' r=none):H r=none:=by
 cases e:H r with
 | none=>rfl
 | some o=>rw[h r o e] at hr;cases hr
theorem Sub.up {H H':Bb} (h:Sub H H') {r:Nat} (hr:H r=none) (x:Option DObj):Sub H (upd H' r x):=fun b o hb=>by
 have:b≠r:=fun e=>by rw[e,hr] at hb;cases hb
 simp only[upd,if_neg this];exact h b o hb
theorem Sub.new {H H':Bb} (h:Sub H H') {r:Nat} (hr:H' r=none) (x:Option DObj):Sub H (upd H' r x):=h.up (h.lo hr) x
def Qr (H:Bb) (e:TypeId) (size n:Nat) (cs:List DVal) (v:DVal) (H':Bb):Prop:=
 (n=0/\cs= []/\v= .nilSlice/\Sub H H')\/ ∃r,H r=none/\cs.length=n*size/\v= .oslice size r 0 n n/\H' r=some (.cells cs e)/\Sub H H'
section
variable {P:Program} {G:Nat->DVal} {H H':Bb} {e:TypeId} {size n:Nat} {cs:List DVal} {v:DVal}
theorem Qr.sub (h:Qr H e size n cs v H'):Sub H H':=by
 rcases h with⟨_,_,_,h⟩ | ⟨_,_,_,_,_,h⟩<;>exact h
theorem Qr.keep (h:Qr H e size n cs v H') {r:Nat} {o:DObj} (hr:H r=some o):H' r=some o:=h.sub r o hr
theorem Qr.more (h:Qr H e size n cs v H') {H2:Bb} (k:Sub H' H2):Qr H e size n cs v H2:=by
 rcases h with⟨a,b,c,d⟩ | ⟨r,a,b,c,d,f⟩
 ·exact .inl ⟨a,b,c,d.trans k⟩
 ·exact .inr ⟨r,a,b,c,k _ _ d,f.trans k⟩
theorem Qr.new (h:Qr H e size n cs v H') {r:Nat} (hr:H' r=none) (x:Option DObj):Qr H e size n cs v (upd H' r x):=h.more ((Sub.refl H').up hr x)
theorem Qr.less (h:Qr H e size n cs v H') {H1:Bb} (k:Sub H1 H):Qr H1 e size n cs v H':=by
 rcases h with⟨a,b,c,d⟩ | ⟨r,a,b,c,d,f⟩
 ·exact .inl ⟨a,b,c,k.trans d⟩
 ·exact .inr ⟨r,k.lo a,b,c,d,k.trans f⟩
theorem Qr.exact (h:Qr H e size n cs v H'): ∃H1,Dz5 H e size n cs v H1/\Sub H1 H':=by
 rcases h with⟨a,b,c,d⟩ | ⟨r,a,b,c,d,f⟩
 ·exact⟨H, .inl ⟨a,b,c,rfl⟩,d⟩
 ·refine⟨_, .inr ⟨r,a,b,c,rfl⟩,fun k o hk=> ?_⟩;simp only[upd] at hk;split at hk
  ·rename_i e;subst e;cases hk;exact d
  ·exact f k o hk
theorem Qr.append {m bytes:Nat} {news:List DVal} {dst:Option Nat} {K:DK} {env:Nat->DVal} (hv:Qr H e size n cs v H') (hm:news.length=m*size) (hb:(n+m)*bytes<=35184372088832)
  (hK: ∀v' H2,Qr H e size (n+m) (cs++news) v' H2->K ⟨Ez env dst v',H2⟩):Hh e size bytes m news dst v K ⟨env,H'⟩:=by
 rcases hv with⟨rfl,rfl,rfl,hs⟩ | ⟨r,hr,hl,rfl,hc,hs⟩
 ·simp only[Hh];refine⟨fun h0=> ?_,fun h0=>⟨by simpa using hb,fun r hr=> ?_⟩⟩
  ·subst h0;have:news= []:=List.length_eq_zero_iff.1 (by omega);subst this;exact hK _ _ (.inl ⟨rfl,rfl,rfl,hs⟩)
  ·refine hK _ _ (.inr ⟨r,hs.lo hr,by simpa using hm,by simp,by rw[List.nil_append];exact Bp _ _ _,hs.new hr _⟩)
 ·simp only[Hh,true_and];rw[hc];by_cases h0:m=0
  ·subst h0;have:news= []:=List.length_eq_zero_iff.1 (by omega);subst this;rw[Yc (by omega)];refine⟨by simp [hl], ?_⟩;have:=hK (.oslice size r 0 (n+0) n) H' (.inr ⟨r,hr,by simpa using hl,by simp,by simpa using hc,hs⟩);simp only[splice,List.length_nil,List.append_nil,Nat.add_zero,List.take_append_drop];rw[Ly hc];simpa using this
  ·rw[Vf (by omega) (by omega)];refine⟨by omega,hb,fun r' hr'=> ?_⟩;dsimp only at hr'⊢
   by_cases e1:r'=r
   ·subst e1;refine hK _ _ (.inr ⟨r',hr, ?_,rfl, ?_, ?_⟩)
    ·simp [hl,hm,Nat.add_mul]
    ·rw[Bp,List.take_of_length_le (by omega)]
    ·exact(hs.up hr _).up hr _
   ·have hr2:H' r'=none:=by simpa [upd,e1] using hr'
    refine hK _ _ (.inr ⟨r',hs.lo hr2, ?_,rfl, ?_, ?_⟩)
    ·simp [hl,hm,Nat.add_mul]
    ·rw[Bp,List.take_of_length_le (by omega)]
    ·exact(hs.up hr _).up (hs.lo hr2) _
theorem Qr.appendO {r m bytes:Nat} {news:List DVal} {dst:Option Nat} {K:DK} {env:Nat->DVal} (hv:Qr H e size n cs (.oslice size r 0 n n) H') (hm:news.length=m*size) (hb:(n+m)*bytes<=35184372088832)
  (hK: ∀v' H2,Qr H e size (n+m) (cs++news) v' H2->K ⟨Ez env dst v',H2⟩):Jc e size bytes r 0 n n m news dst K ⟨env,H'⟩ (some (.cells cs e)):=by
 have h:=Qr.append hv hm hb hK;have hc:H' r=some (.cells cs e):=by
  rcases hv with⟨_,_,h,_⟩ | ⟨r',_,_,h,hc,_⟩
  ·cases h
  ·cases h;exact hc
 simp only[Hh,true_and,hc] at h;exact h
theorem Qr.ghost (hv:Qr H e size n cs v H'):Lb H' v H (.vslice cs n):=by
 obtain⟨H1,h1,h2⟩:=hv.exact;exact(Lb.sub h2 v).trans h1.ghost
theorem Qr.fin {R:DEnd->Bb->Prop} (hv:Qr H e size n cs v H') (h:R (.ret (.vslice cs n)) H):Rm R v H':= .ghost hv.ghost (.refl h)
end
end Go.Dl

-- THE DATA LEVEL, PART K: the frame of a call: what a callee makes with no memory of the caller's at hand, it makes beside it.
namespace Go.Dl
open Go
set_option maxRecDepth 10000
theorem Bh.frame {P:Program} {G:Nat->DVal} {f:FuncId} {args args':List DVal} {H:Bb} {R:DEnd->Bb->Prop} (h:Bh P G f args' h0 R)
  (hb: ∀w vs,Bw w H->Br w H args vs->Br w h0 args' vs) (hR: ∀e X,R e X-> ∃v,e= .ret v/\Vg v=true/\Dm0 h0 X):Bh P G f args H (fun e H'=> ∃X,R e X/\Dz4 H X/\H'=Bc7 H X):=by
 refine⟨h.1,fun vs w hv hH hg=> ?_⟩;have hg0:GOk G w h0:=hg.lasts (Bd3 H w);refine(h.2 vs w (hb w vs hH hv) (fun r o hr=>by cases hr) hg0).mono fun x w' ⟨e',X,r,k1,k2,k3⟩=> ?_;obtain⟨v,rfl,hl,hX⟩:=hR _ _ r;have hown: ∀b,X b≠none->w.heap.size<=b:=fun b hb=>(k3.own b hb).resolve_left (fun k=>k rfl);have hd:Dz4 H X:=fun b hb=>by
  cases e1:H b with
  | none=>rfl
  | some o=>have:=hH.lt (r:=b) (by simp [e1]);have:=hown b hb;omega
 have hE:Ext H w (Bc7 H X) w':=⟨k3.os,k3.tape,k3.output,k3.size,fun b hb _=>k3.block b hb rfl,fun b hb=>by
  by_cases e1:X b=none
  ·rw[Bx1 e1] at hb;exact .inl hb
  ·exact .inr (hown b e1),k3.keep,fun a ha _=>k3.fz a ha rfl⟩
 refine⟨.ret v,Bc7 H X,⟨X,r,hd,rfl⟩, ?_, ?_,hE⟩
 ·cases k1 with
  | ret d x hx=>exact .ret _ _ (Sq _ _ hl hx)
 ·intro b o ho;cases e1:X b with
  | none=>
   rw[Bx1 e1] at ho;rw[k3.block b (hH.lt (by simp [ho])) rfl];exact(hH b o ho).lasts hE.lasts
  | some o'=>
   rw[Dq8 e1] at ho;cases ho;have hlo:Bp5 o=true:=(hX b o e1).resolve_left (fun k=>by cases k);have hr:=k2 b o e1;cases o with
   | cells cs e=>
    obtain⟨xs,c,fz',h1,h2,h3,h4⟩:=hr;exact⟨xs,c,fz',h1,h2,Pg _ _ hlo h3,h4⟩
   | loop _ _ _=>cases hlo
   | iter _ _=>exact hr
   | map es=>
    obtain⟨ms,c,h1,h2⟩:=hr;refine⟨ms,c,h1, ?_⟩;simp only[Bp5,List.all_eq_true,Bool.and_eq_true] at hlo;clear h1 e1;generalize ms.toList=l at h2
    induction es generalizing l with
    | nil=>exact h2
    | cons p es ih=>
     obtain⟨m,ms',rfl,g1,g2,g3⟩:=h2;exact⟨m,ms',rfl,Sq _ _ (hlo p (by simp)).1 g1,Sq _ _ (hlo p (by simp)).2 g2,ih (fun q hq=>hlo q (List.mem_cons_of_mem _ hq)) _ g3⟩
theorem Bh.lent {P:Program} {G:Nat->DVal} {f:FuncId} {args args':List DVal} {H:Bb} {v:DVal} (h:Bh P G f args' h0 (Bt v h0))
  (hb: ∀w vs,Bw w H->Br w H args vs->Br w h0 args' vs) (hv:Vg v=true):Bh P G f args H (Bt v H):=
 (h.frame hb (fun e X hr=>⟨v,hr.1,hv,by rw[hr.2];exact .refl _⟩)).mono fun e H' ⟨X,hr,_,hH⟩=>⟨hr.1,by rw[hH,hr.2,Bx0]⟩
end Go.Dl

-- Chapter 2: tokens: the plain laws, part 1: the words, the symbols, what a line yields.
namespace Go.Dl
open Go
set_option maxRecDepth 10000
def An4:List (List UInt8):= [[97,98,111,114,116],
 [97,98,115],
 [97,99,99,101,112,116],
 [97,99,99,101,115,115],
 [97,108,105,97,115,101,100],
 [97,108,108],
 [97,110,100],
 [97,114,114,97,121],
 [98,101,103,105,110],
 [98,111,100,121],
 [99,97,115,101],
 [99,111,110,115,116,97,110,116],
 [100,101,99,108,97,114,101],
 [100,101,108,97,121],
 [100,111],
 [101,108,115,101],
 [101,108,115,105,102],
 [101,110,100],
 [101,110,116,114,121],
 [101,120,99,101,112,116,105,111,110],
 [101,120,105,116],
 [102,111,114],
 [102,117,110,99,116,105,111,110],
 [103,101,110,101,114,105,99],
 [105,102],
 [105,110],
 [105,115],
 [108,105,109,105,116,101,100],
 [108,111,111,112],
 [109,111,100],
 [110,101,119],
 [110,111,116],
 [110,117,108,108],
 [111,102],
 [111,114],
 [111,116,104,101,114,115],
 [111,117,116],
 [112,97,99,107,97,103,101],
 [112,114,97,103,109,97],
 [112,114,105,118,97,116,101],
 [112,114,111,99,101,100,117,114,101],
 [112,114,111,116,101,99,116,101,100],
 [114,97,105,115,101],
 [114,97,110,103,101],
 [114,101,99,111,114,100],
 [114,101,109],
 [114,101,110,97,109,101,115],
 [114,101,113,117,101,117,101],
 [114,101,116,117,114,110],
 [114,101,118,101,114,115,101],
 [115,101,108,101,99,116],
 [115,101,112,97,114,97,116,101],
 [115,117,98,116,121,112,101],
 [116,97,115,107],
 [116,101,114,109,105,110,97,116,101],
 [116,104,101,110],
 [116,121,112,101],
 [117,110,116,105,108],
 [117,115,101],
 [119,104,101,110],
 [119,104,105,108,101],
 [119,105,116,104],
 [120,111,114]]
def Ga (c:UInt8):Bool:=decide (65<=c.toNat)&&decide (c.toNat<=90) || decide (97<=c.toNat)&&decide (c.toNat<=122)
def Lz (c:UInt8):Bool:=decide (48<=c.toNat)&&decide (c.toNat<=57)
def Eg (c:UInt8):Bool:=Ga c || Lz c || decide (c=95)
def Ma (s:List UInt8):List UInt8:=s.takeWhile Eg
def Bd4 (s:List UInt8):Bool:=decide (s∈An4)
def Gk (s:List UInt8):Bool:=(match s with | c::_=>Ga c | []=>false)&&decide (s.length<=32)&&s.all Eg&&!Bd4 s
structure Tok where
 kind:Int
 line:Int
 text:List UInt8
 n:Int
 deriving DecidableEq,Inhabited
def Eh5:Tok:=⟨0,0,[],0⟩
end Go.Dl

-- Chapter 2: tokens: the plain laws, part 2: lines, errors; comments and joined texts.
namespace Go.Dl
open Go
set_option maxRecDepth 10000
theorem Cu2 (s r:List UInt8) (c:UInt8) (hc:Eg c=false):Ma (s++c::r)=Ma s:=by
 unfold Ma;rw[List.takeWhile_append];split
 ·rename_i h
  have:s.takeWhile Eg=s:=(List.takeWhile_prefix Eg).eq_of_length h;rw[this];simp [hc]
 ·rfl
end Go.Dl

-- Chapter 2: tokens: the plain laws, part 3: the text of tokens, and the tokens of that text.
namespace Go.Dl
open Go
set_option maxRecDepth 10000
theorem Bd5 {c:UInt8} (h:Ga c=true):Eg c=true:=by simp [Eg,h]
theorem Bp6 {c:UInt8} (h:Lz c=true):Eg c=true:=by simp [Eg,h]
theorem Ae0: ∀w:List UInt8,w.all Eg=true->Ma w=w
 | [],_=>rfl
 | c::w,h=>by
  rw[List.all_cons,Bool.and_eq_true] at h;show List.takeWhile Eg (c::w)=_;rw[List.takeWhile_cons,h.1];have:=Ae0 w h.2;unfold Ma at this;simp [this]
end Go.Dl

-- Chapter 2: tokens: the plain laws, part 4: the tokens of the text of tokens.
namespace Go.Dl
open Go
set_option maxRecDepth 10000
theorem Ch7 {c:UInt8} (h:Eg c=true):33<=c.toNat/\c.toNat<=126:=by
 have hu:c=95->c.toNat=95:=fun e=>by rw[e];rfl
 unfold Eg Ga Lz at h;simp only[Bool.or_eq_true,Bool.and_eq_true,decide_eq_true_eq] at h;rcases h with((h | h) | h) | h
 ·omega
 ·omega
 ·omega
 ·have:=hu h;omega
end Go.Dl

-- Chapter 2: tokens: the plain laws, part 7: what the library's functions say of symbols, spaces, comments.
namespace Go.Dl
open Go
set_option maxRecDepth 10000
theorem Bd6: ∀a:List UInt8,Go.Op.bytesLess a a=false
 | []=>rfl
 | x::a=>by
  unfold Go.Op.bytesLess;simp [Bd6 a]
theorem An5: ∀a b:List UInt8,Go.Op.bytesLess a b=true->Go.Op.bytesLess b a=false
 | [],[],h=>rfl
 | [],_::_,_=>rfl
 | _::_,[],h=>by cases h
 | x::a,y::b,h=>by
  unfold Go.Op.bytesLess at h⊢
  by_cases e:x=y
  ·subst e;simp only[UInt8.lt_irrefl] at h⊢
   simp at h⊢
   exact An5 a b h
  ·have hn:y≠x:=fun h=>e h.symm;simp [e,hn] at h⊢
   exact UInt8.le_of_lt h
theorem Bd7:An4.Pairwise (fun a b=>Go.Op.bytesLess a b=true):=by decide+kernel
structure halfAt (l:List (List UInt8)) (s:List UInt8) (i j:Nat):Prop where
 le:i<=j
 len:j<=l.length
 lo: ∀k w,k<i->l[k]? =some w->w≠s
 hi: ∀k w,j<k->l[k]? =some w->w≠s
theorem Bp7 (l:List (List UInt8)) (s:List UInt8):halfAt l s 0 l.length:=
 ⟨Nat.zero_le _,Nat.le_refl _,fun _ _ h=>by omega,fun k w h hk=>by rw[List.getElem?_eq_none (by omega)] at hk;cases hk⟩
theorem Bx2 {l:List (List UInt8)} {a:Nat} {b:Nat} {u v:List UInt8} (hl:l.Pairwise fun a b=>Go.Op.bytesLess a b=true) (h:a<b) (ha:l[a]? =some u) (hb:l[b]? =some v):Go.Op.bytesLess u v=true:=by
 obtain⟨h1,rfl⟩:=List.getElem?_eq_some_iff.1 ha;obtain⟨h2,rfl⟩:=List.getElem?_eq_some_iff.1 hb;exact List.pairwise_iff_getElem.1 hl a b h1 h2 h
theorem Dh1 {l:List (List UInt8)} {s w:List UInt8} {i j h:Nat} (hl:l.Pairwise fun a b=>Go.Op.bytesLess a b=true) (hk:halfAt l s i j) (h2:h<j) (hw:l[h]? =some w) (hlt:Go.Op.bytesLess w s=true):halfAt l s (h+1) j:=by
 obtain⟨k1,k2,k3,k4⟩:=hk;refine⟨by omega,k2,fun k u hku hu e=> ?_,k4⟩;subst e;rcases Nat.lt_or_ge k h with hlt' | hge
 ·have:=Bx2 hl hlt' hu hw;rw[An5 _ _ this] at hlt;cases hlt
 ·have:k=h:=by omega
  subst this;rw[hw] at hu;cases hu;rw[Bd6] at hlt;cases hlt
theorem Ch8 {l:List (List UInt8)} {s w:List UInt8} {i j h:Nat} (hl:l.Pairwise fun a b=>Go.Op.bytesLess a b=true) (hk:halfAt l s i j) (h1:i<=h) (h2:h<j) (hw:l[h]? =some w) (hlt:Go.Op.bytesLess w s=false):halfAt l s i h:=by
 obtain⟨k1,k2,k3,k4⟩:=hk;refine⟨h1,by omega,k3,fun k u hku hu e=> ?_⟩;subst e;rw[Bx2 hl hku hw hu] at hlt;cases hlt
theorem Cu3 {l:List (List UInt8)} {s:List UInt8} {i:Nat} (hk:halfAt l s i i):decide (s∈l)=decide (l[i]? =some s):=by
 obtain⟨_,_,k3,k4⟩:=hk;refine decide_eq_decide.2 ⟨fun h=> ?_,fun h=>List.mem_of_getElem? h⟩;obtain⟨k,hk⟩:=List.mem_iff_getElem?.1 h;rcases Nat.lt_trichotomy k i with h1 | h1 | h1
 ·exact absurd rfl (k3 k s h1 hk)
 ·rw[<-h1];exact hk
 ·exact absurd rfl (k4 k s h1 hk)
end Go.Dl

-- Chapter 2: tokens: the plain laws, part 9: numbers by the library's reading; letters.
namespace Go.Dl
open Go
set_option maxRecDepth 10000
theorem Ea0 {s:List UInt8}:(Ma s=s)↔s.all Eg=true:=by
 constructor
 ·intro h;have: ∀l:List UInt8,(l.takeWhile Eg).all Eg=true:=fun l=>by
   induction l with
   | nil=>rfl
   | cons c l ih=>
    rw[List.takeWhile_cons];split
    ·rename_i hc;rw[List.all_cons,hc,ih];rfl
    ·rfl
  rw[<-h];exact this s
 ·exact Ae0 s
theorem Dh2 (s:List UInt8):Gk s=(decide (s≠ [])&&(decide (s.length<=32)&&((match s with | c::_=>Ga c | []=>false)&&(decide (Ma s=s)&&!Bd4 s)))):=by
 have hw:decide (Ma s=s)=s.all Eg:=by
  cases h:s.all Eg with
  | true=>exact decide_eq_true (Ea0.2 h)
  | false=>exact decide_eq_false fun e=>by rw[Ea0.1 e] at h;cases h
 rw[hw]
 unfold Gk
 match s with
 | []=>rfl
 | c::r=>
  simp only[ne_eq,reduceCtorEq,not_false_eq_true,decide_true,Bool.true_and]
  cases Ga c<;>cases decide ((c::r).length<=32)<;>cases (c::r).all Eg<;>cases Bd4 (c::r)<;>rfl
theorem Dh3 {s:List UInt8} {k:Nat} {c:UInt8} (h:(s.take k).all Eg=true) (hc:s[k]? =some c) (hw:Eg c=false):Ma s=s.take k:=by
 obtain⟨hk,rfl⟩:=List.getElem?_eq_some_iff.1 hc;have e:s=s.take k++s[k]::s.drop (k+1):=by rw[<-List.drop_eq_getElem_cons hk,List.take_append_drop]
 rw[show Ma s=Ma (s.take k++s[k]::s.drop (k+1)) from congrArg Ma e,Cu2 _ _ _ hw,Ae0 _ h]
theorem Bp8: ∀n:Fin 256,Ga (UInt8.ofNat n.1)=(decide (97<=n.1 ||| 32)&&decide (n.1 ||| 32<=122)):=by decide+kernel
end Go.Dl
