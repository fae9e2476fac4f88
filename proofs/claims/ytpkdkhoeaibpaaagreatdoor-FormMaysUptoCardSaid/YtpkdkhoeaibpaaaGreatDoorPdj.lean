/- The data level and the contracts of the functions that are reached (part 10). -/
import Derived.Test.YtpkdkhoeaibpaaaGreatDoorPdi
set_option linter.unusedSimpArgs false
set_option linter.unusedVariables false
set_option linter.unusedSectionVars false
-- AN INTERPRETER OF THE DATA LEVEL, PART 1: definitions. What a closed call computes is found by the kernel; blocks have numbers of the interpreter's own.
namespace Go.Dl
open Go
noncomputable section
inductive Tr (α:Type) where
 | leaf
 | node (l:Tr α) (v:Option α) (r:Tr α)
def Ag7:Nat->Nat->List Bool:=
 Nat.rec (motive:=fun _=>Nat->List Bool) (fun _=> []) (fun _ ih k=>Bool.rec (motive:=fun _=>List Bool) (Nat.beq (Nat.mod k 2) 1::ih (Nat.div (Nat.sub k 1) 2)) [] (Nat.beq k 0))
def Rz (k:Nat):List Bool:=Ag7 k k
def Oj {α:Type} (t:Tr α):List Bool->Option α:=
 Tr.rec (motive:=fun _=>List Bool->Option α) (fun _=>none) (fun _ v _ ihl ihr p=>List.rec (motive:=fun _=>Option α) v (fun b p _=>Bool.rec (motive:=fun _=>Option α) (ihr p) (ihl p) b) p) t
def Ec0 {α R:Type} (x:α):List Bool->Tr α->(Tr α->R)->R:=
 List.rec (motive:=fun _=>Tr α->(Tr α->R)->R) (fun t κ=>Tr.rec (motive:=fun _=>R) (κ (.node .leaf (some x) .leaf)) (fun l _ r _ _=>κ (.node l (some x) r)) t)
  (fun b _ ih t κ=>Tr.rec (motive:=fun _=>R) (Bool.rec (motive:=fun _=>R) (ih .leaf fun r=>κ (.node .leaf none r)) (ih .leaf fun l=>κ (.node l none .leaf)) b)
   (fun l v r _ _=>Bool.rec (motive:=fun _=>R) (ih r fun r=>κ (.node l v r)) (ih l fun l=>κ (.node l v r)) b) t)
def Tr.get {α:Type} (t:Tr α) (k:Nat):Option α:=Oj t (Rz k)
def Tr.setK {α R:Type} (_z:R) (x:α) (_n:Nat) (t:Tr α) (k:Nat) (κ:Tr α->R):R:=Ec0 x (Rz k) t κ
structure XH where
 tr:Tr (Option DObj)
 nx:Nat
inductive Out where
 | bad
 | norm (E:Tr DVal) (H:XH)
 | exit (id:Nat) (E:Tr DVal) (H:XH)
 | ret (E:Tr DVal) (H:XH)
 | panic (v:DVal) (E:Tr DVal) (H:XH)
 | panicX (v:DVal) (H:XH)
inductive COut where
 | bad
 | cret (v:DVal) (H:XH)
 | cpanic (v:DVal) (H:XH)
def Jn {R:Type} (n:Nat) (κ:Nat->R):R:=Nat.rec (motive:=fun _=>R) (κ 0) (fun m _=>κ (Nat.succ m)) n
def Dv4 {R:Type} (n:Int) (κ:Int->R):R:=Int.rec (motive:=fun _=>R) (fun m=>Jn m fun m=>κ (.ofNat m)) (fun m=>Jn m fun m=>κ (.negSucc m)) n
def Te {α R:Type} (l:List α):(List α->R)->R:=List.rec (motive:=fun _=>(List α->R)->R) (fun κ=>κ []) (fun x _ ih κ=>ih fun l=>κ (x::l)) l
def Cx2 {R:Type} (b:Bool) (κ:Bool->R):R:=Bool.rec (motive:=fun _=>R) (κ false) (κ true) b
def Qu {α R:Type} (z:R) (κ:α->R) (o:Option α):R:=Option.rec (motive:=fun _=>R) z (fun v=>κ v) o
def Cx3 {R:Type} (vs:List DVal):List DVal->(List DVal->R)->R:=
 List.rec (motive:=fun _=>List DVal->(List DVal->R)->R) (fun cs κ=>κ cs) (fun v vs ih cs κ=>List.rec (motive:=fun _=>R) (κ (v::vs)) (fun _ cs _=>ih cs fun r=>κ (v::r)) cs) vs
def Bs2 {R:Type} (vs:List DVal) (off:Nat):List DVal->(List DVal->R)->R:=
 Nat.rec (motive:=fun _=>List DVal->(List DVal->R)->R) (Cx3 vs) (fun _ ih cs κ=>List.rec (motive:=fun _=>R) (κ vs) (fun c cs _=>ih cs fun r=>κ (c::r)) cs) off
def Ec1 {R:Type} (xs ys:List DVal):(List DVal->R)->R:=
 List.rec (motive:=fun _=>(List DVal->R)->R) (fun κ=>κ ys) (fun x _ ih κ=>ih fun r=>κ (x::r)) xs
def Ao7 {R:Type} (n:Nat):List DVal->(List DVal->R)->R:=
 Nat.rec (motive:=fun _=>List DVal->(List DVal->R)->R) (fun _ κ=>κ []) (fun _ ih cs κ=>List.rec (motive:=fun _=>R) (κ []) (fun c cs _=>ih cs fun r=>κ (c::r)) cs) n
def By0 (n:Nat):List DVal->List DVal:=
 Nat.rec (motive:=fun _=>List DVal->List DVal) (fun cs=>cs) (fun _ ih cs=>List.rec (motive:=fun _=>List DVal) [] (fun _ cs _=>ih cs) cs) n
def Di9 (n:Nat):List DVal->Option DVal:=
 Nat.rec (motive:=fun _=>List DVal->Option DVal) (fun cs=>List.rec (motive:=fun _=>Option DVal) none (fun c _ _=>some c) cs) (fun _ ih cs=>List.rec (motive:=fun _=>Option DVal) none (fun _ cs _=>ih cs) cs) n
def leN (n:Nat):List DVal->Bool:=
 Nat.rec (motive:=fun _=>List DVal->Bool) (fun _=>true) (fun _ ih cs=>List.rec (motive:=fun _=>Bool) false (fun _ cs _=>ih cs) cs) n
def eqN (n:Nat):List DVal->Bool:=
 Nat.rec (motive:=fun _=>List DVal->Bool) (fun cs=>List.rec (motive:=fun _=>Bool) true (fun _ _ _=>false) cs) (fun _ ih cs=>List.rec (motive:=fun _=>Bool) false (fun _ cs _=>ih cs) cs) n
def Ao8 {R:Type} (z:R) (place:Nat->Option (Nat×Nat)) (parts:List (Nat×DVal)):List DVal->(List DVal->R)->R:=
 List.rec (motive:=fun _=>List DVal->(List DVal->R)->R) (fun cs κ=>κ cs)
  (fun p _ ih cs κ=>Qu z (fun os=>Bool.rec (motive:=fun _=>R) z (Bs2 p.2.cells os.1 cs fun cs=>ih cs κ) (eqN os.2 p.2.cells&&leN (os.1+os.2) cs)) (place p.1)) parts
def Ec2 {R:Type} (v:DVal) (κ:DVal->R):R:=
 match v with
 | .int k n=>Dv4 n fun n=>κ (.int k n)
 | .bool b=>Cx2 b fun b=>κ (.bool b)
 | .optr r off=>Jn r fun r=>Jn off fun off=>κ (.optr r off)
 | .oslice sz r off len lo=>Jn r fun r=>Jn off fun off=>Jn len fun len=>Jn lo fun lo=>κ (.oslice sz r off len lo)
 | .vptr cs off=>Jn off fun off=>κ (.vptr cs off)
 | .vslice cs len=>Jn len fun len=>κ (.vslice cs len)
 | .agg cs=>Te cs fun cs=>κ (.agg cs)
 | .str s=>Te s fun s=>κ (.str s)
 | .tuple cs=>Te cs fun cs=>κ (.tuple cs)
 | v=>κ v
def fvK {R:Type} (v:DVal) (κ:DVal->R):R:=
 DVal.casesOn (motive_1:=fun _=>(DVal->R)->R) v (fun v κ=>κ (.raw v)) (fun b κ=>Cx2 b fun b=>κ (.bool b)) (fun k n κ=>Dv4 n fun n=>κ (.int k n)) (fun s κ=>Te s fun s=>κ (.str s)) (fun κ=>κ .nilPtr)
  (fun cs off κ=>Jn off fun off=>κ (.vptr cs off)) (fun r off κ=>Jn r fun r=>Jn off fun off=>κ (.optr r off)) (fun κ=>κ .nilSlice) (fun cs len κ=>Jn len fun len=>κ (.vslice cs len))
  (fun sz r off len lo κ=>Jn r fun r=>Jn off fun off=>Jn len fun len=>Jn lo fun lo=>κ (.oslice sz r off len lo)) (fun κ=>κ .nilMap) (fun r κ=>κ (.omap r)) (fun f a c κ=>κ (.func f a c)) (fun κ=>κ .nilFunc)
  (fun t v κ=>κ (.iface t v)) (fun κ=>κ .nilIface) (fun cs κ=>Te cs fun cs=>κ (.agg cs)) (fun cs κ=>Te cs fun cs=>κ (.tuple cs)) κ
def Dm7 {α:Type} (f:α->α->Option α):Option α->Option α->Option α
 | some x,some y=>f x y
 | _,_=>none
def Tf {α:Type} (f:α->α->Option α):Tr α->Tr α->Tr α
 | .node l v r, .node l' v' r'=> .node (Tf f l l') (Dm7 f v v') (Tf f r r')
 | _,_=> .leaf
def Dm8 {α:Type} (g:α->Bool) (f:α->α->Option α):Option α->Option α->Option α->Option α
 | some z,some x,some y=>Bool.rec (motive:=fun _=>Option α) none (f x y) (g z)
 | _,_,_=>none
def Vr {α:Type} (g:α->Bool) (f:α->α->Option α):Tr α->Tr α->Tr α->Tr α
 | .node l v r, .node l1 v1 r1, .node l2 v2 r2=> .node (Vr g f l l1 l2) (Dm8 g f v v1 v2) (Vr g f r r1 r2)
 | _,_,_=> .leaf
def Pw (E:Tr DVal) (H:XH) (dst:Option Nat) (v:DVal):Out:=
 fvK v fun v=>Qu (.norm E H) (fun d=>Tr.setK .bad v 10 E d fun E=> .norm E H) dst
def Ag8 (E:Tr DVal) (H:XH) (dst:Option Nat) (v:DVal):Out:=Qu (.norm E H) (fun d=>Tr.setK .bad v 10 E d fun E=> .norm E H) dst
def Kj (E:Tr DVal) (H:XH) (dst:Option Nat) (o:Option DVal):Out:=Qu .bad (fun v=>Ag8 E H dst v) o
def Gl (E:Tr DVal) (H:XH) (dst:Option Nat) (o:Option DVal):Out:=Qu .bad (fun v=>Pw E H dst v) o
def Cc (H:XH) (k:Nat):Option DObj:=
 match H.tr.get k with
 | some (some o)=>some o
 | _=>none
def foK {R:Type} (o:DObj) (κ:DObj->R):R:=
 match o with
 | .cells cs e=>Te cs fun cs=>κ (.cells cs e)
 | .map es=>Te es fun es=>κ (.map es)
 | .iter s pos=>Jn pos fun pos=>κ (.iter s pos)
 | o=>κ o
def Ag9 (H:XH) (k:Nat) (o:Option DObj) (κ:XH->Out):Out:=
 match H with
 | ⟨tr,nx⟩=>match o with
  | some o=>foK o fun o=>Tr.setK .bad (some o) 24 tr k fun tr=>κ ⟨tr,nx⟩
  | none=>Tr.setK .bad none 24 tr k fun tr=>κ ⟨tr,nx⟩
def Ah0 (H:XH) (o:DObj) (κ:Nat->XH->Out):Out:=
 match H with
 | ⟨tr,nx⟩=>foK o fun o=>Tr.setK .bad (some o) 24 tr nx fun tr=>Jn (nx+1) fun nx'=>κ nx ⟨tr,nx'⟩
section
variable (P:Program) (gt:Nat->Option DVal)
def evK {R:Type} (z:R) (E:Tr DVal) (o:Operand) (κ:DVal->R):R:=
 match o with
 | .tmp t=>Qu z κ (E.get t)
 | .const v=>κ (De v)
 | .global g=>Qu z κ (gt g)
 | .func f=>κ (.func (.func f) [] [])
def Vs {R:Type} (z:R) (E:Tr DVal) (os:List Operand):(List DVal->R)->R:=
 List.rec (motive:=fun _=>(List DVal->R)->R) (fun κ=>κ []) (fun x _ ih κ=>evK gt z E x fun v=>ih fun vs=>κ (v::vs)) os
def Xg {R:Type} (z:R) (E:Tr DVal) (os:List (Nat×Operand)):(List (Nat×DVal)->R)->R:=
 List.rec (motive:=fun _=>(List (Nat×DVal)->R)->R) (fun κ=>κ []) (fun x _ ih κ=>evK gt z E x.2 fun v=>ih fun vs=>κ ((x.1,v)::vs)) os
def Av4 {R:Type} (z:R) (E:Tr DVal) (o:Option Operand) (κ:Option DVal->R):R:=
 match o with
 | some x=>evK gt z E x fun v=>κ (some v)
 | none=>κ none
def By1:DVal->DVal->DVal->Option DVal
 | .bool true,a,_=>some a
 | .bool false,_,b=>some b
 | _,_,_=>none
def Av5:Bool->Option TypeDesc->Option DVal->List (Nat×DVal)->Option DVal
 | true,some (.struct fields),some z,parts=>Ao8 none (Aq9 P fields) parts z.cells fun l=>some (.agg l)
 | true,some (.array _ e),some z,parts=>Ao8 none (Qw (P.cellsOf e)) parts z.cells fun l=>some (.agg l)
 | _,_,_,_=>none
def Av6 (size:Nat) (cs:List DVal) (off:Nat):Option Bool->Option DVal
 | some true=>Bool.rec (motive:=fun _=>Option DVal) none (Ao7 size (By0 off cs) fun l=>some (.agg l)) (leN (off+size) cs)
 | some false=>Di9 off cs
 | none=>none
def Av7 (size:Nat) (ag:Option Bool) (off:Nat):Option DObj->Option DVal
 | some (.cells cs _)=>Av6 size cs off ag
 | _=>none
def By2 (size:Nat) (ag:Option Bool) (H:XH):DVal->Option DVal
 | .vptr cs off=>Av6 size cs off ag
 | .optr r off=>Av7 size ag off (Cc H r)
 | _=>none
def Dj0:DVal->Option DVal
 | .vptr cs off=>some (.vptr cs off)
 | .optr r off=>some (.optr r off)
 | .func (.func f) a c=>some (.func (.func f) a c)
 | .iface t v=>some (.iface t v)
 | .omap r=>some (.omap r)
 | _=>none
def Bs3:Option Bool->Option Bool->Option DVal
 | some false,some b=>some (.bool b)
 | some true,some b=>some (.bool (!b))
 | _,_=>none
def Dm9 (k:IntKind) (a b:Int):BinOp->Option DVal
 | .add=>some (.int k (k.wrap (a+b)))
 | .sub=>some (.int k (k.wrap (a-b)))
 | .mul=>some (.int k (k.wrap (a*b)))
 | .quo=>if b=0 then none else some (.int k (k.wrap (a.tdiv b)))
 | .rem=>if b=0 then none else some (.int k (a.tmod b))
 | .and=>some (.int k (k.wrap (BitVec.ofInt k.bits a&&&BitVec.ofInt k.bits b).toNat))
 | .or=>some (.int k (k.wrap (BitVec.ofInt k.bits a ||| BitVec.ofInt k.bits b).toNat))
 | .xor=>some (.int k (k.wrap (BitVec.ofInt k.bits a^^^BitVec.ofInt k.bits b).toNat))
 | .andNot=>some (.int k (k.wrap (BitVec.ofInt k.bits a&&& ~~~BitVec.ofInt k.bits b).toNat))
 | .eql=>some (.bool (decide (a=b)))
 | .neq=>some (.bool (!decide (a=b)))
 | .lss=>some (.bool (decide (a<b)))
 | .leq=>some (.bool (decide (a<=b)))
 | .gtr=>some (.bool (decide (b<a)))
 | .geq=>some (.bool (decide (b<=a)))
 | _=>none
def Ec3 (op:BinOp) (k:IntKind) (a b:Int):Option DVal:=
 BinOp.casesOn (motive:=fun _=>IntKind->Int->Int->Option DVal) op
  (fun k a b=>some (.int k (k.wrap (a+b))))
  (fun k a b=>some (.int k (k.wrap (a-b))))
  (fun k a b=>some (.int k (k.wrap (a*b))))
  (fun k a b=>if b=0 then none else some (.int k (k.wrap (a.tdiv b))))
  (fun k a b=>if b=0 then none else some (.int k (a.tmod b)))
  (fun k a b=>some (.int k (k.wrap (BitVec.ofInt k.bits a&&&BitVec.ofInt k.bits b).toNat)))
  (fun k a b=>some (.int k (k.wrap (BitVec.ofInt k.bits a ||| BitVec.ofInt k.bits b).toNat)))
  (fun k a b=>some (.int k (k.wrap (BitVec.ofInt k.bits a^^^BitVec.ofInt k.bits b).toNat)))
  (fun _ _ _=>none)
  (fun _ _ _=>none)
  (fun k a b=>some (.int k (k.wrap (BitVec.ofInt k.bits a&&& ~~~BitVec.ofInt k.bits b).toNat)))
  (fun k a b=>some (.bool (decide (a=b))))
  (fun k a b=>some (.bool (!decide (a=b))))
  (fun k a b=>some (.bool (decide (a<b))))
  (fun k a b=>some (.bool (decide (a<=b))))
  (fun k a b=>some (.bool (decide (b<a))))
  (fun k a b=>some (.bool (decide (b<=a)))) k a b
def Dv5 (k:IntKind) (a b:Int) (op:BinOp):Option DVal:=Ec3 op k a b
def Bs4 (k:IntKind) (a b:Int):BinOp->Option DVal
 | .shl=>if 0<=b then some (.int k (k.wrap (a*2^(min b.toNat k.bits)))) else none
 | .shr=>if 0<=b then some (.int k (a.fdiv (2^(min b.toNat k.bits)))) else none
 | _=>none
def Bs5 (a:List UInt8):List UInt8->Bool:=
 List.rec (motive:=fun _=>List UInt8->Bool) (fun b=>List.rec (motive:=fun _=>Bool) true (fun _ _ _=>false) b)
  (fun x _ ih b=>List.rec (motive:=fun _=>Bool) false (fun y ys _=>Bool.rec (motive:=fun _=>Bool) false (ih ys) (Nat.beq x.toNat y.toNat)) b) a
def Dv6 (a b:List UInt8):BinOp->Option DVal
 | .add=>if a.length+b.length<=9223372036854775807 then some (.str (a++b)) else none
 | .eql=>some (.bool (Bs5 a b))
 | .neq=>some (.bool (!Bs5 a b))
 | .lss=>some (.bool (Go.Op.bytesLess a b))
 | .leq=>some (.bool (Go.Op.bytesLess a b || decide (a=b)))
 | .gtr=>some (.bool (!(Go.Op.bytesLess a b || decide (a=b))))
 | .geq=>some (.bool (!Go.Op.bytesLess a b))
 | _=>none
def Dv7 (t:TypeId) (c:Bool) (op:BinOp):DVal->DVal->Option DVal
 | .int k a, .int k' b=>if Eh op then Bs4 k a b op else if k=k' then Dv5 k a b op else none
 | .str a, .str b=>Dv6 a b op
 | .agg xs, .agg ys=>if Dg P t=some true/\P.eqGuardType P.depth t=false then Bs3 (Kr op) (Qo P 6 t xs ys) else none
 | x,y=>Bs3 (Kr op) (Lg c (P.underlying t) x y)
def By3 (t:TypeId) (c:Bool) (op:BinOp):Bool->DVal->DVal->Option DVal
 | true, .vslice (_::_) _,_=>if Dc0 (P.underlying t) then Bs3 (Kr op) (some false) else none
 | true, .vslice [] _,_=>none
 | _,x,y=>Dv7 P t c op x y
def vUn:UnOp->DVal->Option DVal
 | .not, .bool b=>some (.bool (!b))
 | .neg, .int k n=>some (.int k (k.wrap (0-n)))
 | .xor, .int k n=>some (.int k (k.wrap (BitVec.ofInt k.bits (if k.signed then-1 else k.max)^^^BitVec.ofInt k.bits n).toNat))
 | _,_=>none
def Ah1:Option TypeDesc->Option TypeDesc->DVal->Option DVal
 | some _,some (.int k), .int _ n=>some (.int k (k.wrap n))
 | some _,some .string, .str l=>some (.str l)
 | _,_,_=>none
def Dv8:Option TypeDesc->Bool
 | some (.int .u8)=>true
 | _=>false
def Dv9 (H:XH):DVal->Option (List DVal)
 | .nilSlice=>some []
 | .vslice cs n=>if n<=cs.length then some (cs.take n) else none
 | .oslice _ r off n _=>Oq n off (Cc H r)
 | _=>none
def Av8 (H:XH):Option TypeDesc->Option TypeDesc->DVal->Option DVal
 | some (.slice e),some .string,x=>if Dv8 (P.underlying e) then((Dv9 H x).bind Ld).map .str else none
 | a,b,x=>Ah1 a b x
def Xh (l:List UInt8):Option Int->Option Int->Option DVal
 | some lo,some hi=>if 0<=lo/\lo<=hi/\hi<=l.length then some (.str ((l.drop lo.toNat).take (hi.toNat-lo.toNat))) else none
 | _,_=>none
def Aa1 (size:Nat) (cs:List DVal) (len:Nat):Option Int->Option Int->Option DVal
 | some lo,some hi=>if 0<=lo/\lo<=hi/\hi<=len then some (.vslice ((cs.drop (lo.toNat*size)).take ((hi.toNat-lo.toNat)*size)) (hi.toNat-lo.toNat)) else none
 | _,_=>none
def Vt (size r off cap:Nat):Option Int->Option Int->Option Int->Option DVal
 | some lo,some hi,some mx=>if 0<=lo/\lo<=hi/\hi<=mx/\mx<=cap then some (.oslice size r (off+lo.toNat*size) (hi.toNat-lo.toNat) (mx.toNat-lo.toNat)) else none
 | _,_,_=>none
def Av9:Option Int->Option Int->Option DVal
 | some lo,some hi=>if lo=0/\hi=0 then some .nilSlice else none
 | _,_=>none
def Cx4 (n:Nat):Option DObj->Bool
 | some (.cells cs _)=>decide (n<=cs.length)
 | _=>false
def Aw0 (H:XH) (lo hi:Option DVal):Option TypeDesc->DVal->Option DVal->Option DVal
 | some .string, .str l,none=>Xh l (dLo lo) (dHi l.length hi)
 | some (.slice e), .nilSlice,none=>if(P.info? e).isSome then Av9 (dLo lo) (dHi 0 hi) else none
 | some (.slice e), .vslice cs len,none=>if(P.info? e).isSome then Aa1 (P.cellsOf e) cs len (dLo lo) (dHi len hi) else none
 | some (.slice e), .oslice sz r off len cap,none=>if(P.info? e).isSome&&sz==P.cellsOf e then Vt (P.cellsOf e) r off cap (dLo lo) (dHi len hi) (some cap) else none
 | some (.slice e), .oslice sz r off _ cap,some m=>if(P.info? e).isSome&&sz==P.cellsOf e&&hi.isSome then Vt (P.cellsOf e) r off cap (dLo lo) (dLo hi) (dLo (some m)) else none
 | some (.array n e), .optr r off,none=>if(P.info? e).isSome&&Cx4 (off+n*P.cellsOf e) (Cc H r) then Vt (P.cellsOf e) r off n (dLo lo) (dHi n hi) (some n) else none
 | some (.array n e), .vptr cs off,none=>if(P.info? e).isSome&&decide (off+n*P.cellsOf e<=cs.length) then Aa1 (P.cellsOf e) ((cs.drop off).take (n*P.cellsOf e)) n (dLo lo) (dHi n hi) else none
 | _,_,_=>none
def Yy (x:DVal):Option Field->Option DVal
 | some f=>if 0<P.cellsOf f.type then Lh f.offset x else none
 | none=>none
def Px (f:Nat) (x:DVal):Option TypeDesc->Option DVal
 | some (.struct fields)=>Yy P x fields[f]?
 | _=>none
def By4 (size:Nat) (cs:List DVal) (off:Nat):Option Bool->Option DVal
 | some true=>Ao7 size (By0 off cs) fun l=>some (.agg l)
 | some false=>Di9 off cs
 | none=>none
def By5 (cs:List DVal):Option Field->Option DVal
 | some f=>By4 (P.cellsOf f.type) cs f.offset (Dg P f.type)
 | none=>none
def Aw1 (f:Nat):Option TypeDesc->DVal->Option DVal
 | some (.struct fields), .agg cs=>By5 P cs fields[f]?
 | _,_=>none
def Py:Option TypeDesc->DVal->DVal->Option DVal
 | some (.slice e), .vslice cs len, .int _ i=>if(P.info? e).isSome=true/\0<=i/\i<len/\leN (i.toNat*P.cellsOf e+1) cs=true then some (.vptr cs (i.toNat*P.cellsOf e)) else none
 | some (.slice e), .oslice _ r off len _, .int _ i=>if(P.info? e).isSome=true/\0<=i/\i<len then some (.optr r (off+i.toNat*P.cellsOf e)) else none
 | some (.array n e),x, .int _ i=>if(P.info? e).isSome=true/\0<=i/\i<n then Lh (i.toNat*P.cellsOf e) x else none
 | _,_,_=>none
def Aw2:Option TypeDesc->DVal->DVal->Option DVal
 | some (.array n e), .agg cs, .int _ i=>if 0<=i/\i<n then By4 (P.cellsOf e) cs (i.toNat*P.cellsOf e) (Dg P e) else none
 | some .string, .str l, .int _ i=>if 0<=i then l[i.toNat]?.map fun b=> .int .u8 b.toNat else none
 | _,_,_=>none
def Vu (i:Nat):DVal->Option DVal
 | .tuple vs=>vs[i]?
 | _=>none
def Vv:Option DVal->Option DVal
 | some z=>some (.tuple [z, .bool false])
 | none=>none
def Ao9 (v:DVal) (z:Option DVal):Bool->Bool->Option DVal
 | true,true=>some (.tuple [v, .bool true])
 | true,false=>Vv z
 | false,true=>some v
 | false,false=>none
def Ni (asserted:TypeId) (commaOk:Bool):Bool->DVal->Option DVal
 | true, .iface t v=>Ao9 v (Bz P asserted) commaOk (decide (t=asserted))
 | true, .nilIface=>if commaOk then Vv (Bz P asserted) else none
 | _,_=>none
def Dw0:Option TypeDesc->DVal->Option DVal
 | some .string, .str l=>some (.int .i64 l.length)
 | some (.array n _),_=>some (.int .i64 n)
 | some (.slice _), .nilSlice=>some (.int .i64 0)
 | some (.slice _), .vslice _ n=>some (.int .i64 n)
 | some (.slice _), .oslice _ _ _ n _=>some (.int .i64 n)
 | _,_=>none
def Bs6 (x:DVal):List TypeId->Option DVal
 | [t]=>Dw0 (P.underlying t) x
 | _=>none
def Al1 (env:Nat->DVal) (n:Nat):List (DVal×DVal):=(List.range n).map fun i=>(env (2*i),env (2*i+1))
def Aw3 (ok:Bool) (v:DVal) (b:Bool):DVal:=if ok then .tuple [v, .bool b] else v
def Ug (es:List (DVal×DVal)) (ok:Bool):Option DVal->Option (Option Nat)->Option DVal
 | _,some (some i)=>es[i]?.map fun p=>Aw3 ok p.2 true
 | some z,some none=>some (Aw3 ok z false)
 | _,_=>none
def Cx5 (z:Option DVal) (k:DVal) (ok:Bool):Option DObj->Option DVal
 | some (.map es)=>Ug es ok z (Ek k es 0)
 | some (.loop env n _)=>Ug (Al1 env n) ok z (Ek k (Al1 env n) 0)
 | _=>none
def Aa2 (H:XH) (ok:Bool):Option TypeDesc->DVal->DVal->Option DVal
 | some (.map kt e), .omap r,k=>if Il P (P.underlying kt) k then Cx5 (Bz P e) k ok (Cc H r) else none
 | some (.map kt e), .nilMap,k=>if Il P (P.underlying kt) k then Ug [] ok (Bz P e) (some none) else none
 | _,_,_=>none
def Pz (t:TypeId) (x:DVal):Bool->Option DVal
 | true=>some (.iface t x)
 | false=>none
def Bh2 (E:Tr DVal) (H:XH) (dst:Option Nat) (cs:List DVal) (e:TypeId):Out:=
 Ah0 H (.cells cs e) fun k H=>Pw E H dst (.optr k 0)
def Bh3 (E:Tr DVal) (H:XH) (dst:Option Nat) (cs:List DVal) (e:TypeId) (sz len cap:Nat):Out:=
 Ah0 H (.cells cs e) fun k H=>Pw E H dst (.oslice sz k 0 len cap)
def Cx6 (E:Tr DVal) (H:XH) (dst:Option Nat):Out:=Ah0 H (.map []) fun k H=>Pw E H dst (.omap k)
def Nj (E:Tr DVal) (H:XH) (dst:Option Nat) (len:Nat):Option TypeDesc->List (Nat×DVal)->Out
 | some (.slice e),parts=>Qu .bad (fun z=>Bool.rec (motive:=fun _=>Out) .bad (Ao8 .bad (Qw (P.cellsOf e)) parts (repl len z.cells) fun cs=>Bh3 E H dst cs e (P.cellsOf e) len len) (decide (len*P.cellsOf e<=16777216)&&z.cells.length==P.cellsOf e)) (Bz P e)
 | _,_=> .bad
def Qa (E:Tr DVal) (H:XH) (dst:Option Nat):Option TypeDesc->DVal->DVal->Out
 | some (.slice e), .int _ l, .int _ c=>Qu .bad (fun z=>Bool.rec (motive:=fun _=>Out) .bad (Jn l.toNat fun l=>Jn c.toNat fun c=>Bh3 E H dst (repl c z.cells) e (P.cellsOf e) l c)
   (decide (0<=l)&&decide (l<=c)&&decide (c*(P.bytesOf e:Int)<=35184372088832)&&decide (c<9223372036854775808)&&z.cells.length==P.cellsOf e&&decide (0<P.cellsOf e))) (Bz P e)
 | _,_,_=> .bad
def By6 (E:Tr DVal) (H:XH) (size r off:Nat) (v:DVal):Option DObj->Out
 | some (.cells cs e)=>Bool.rec (motive:=fun _=>Out) .bad (Bs2 v.cells off cs fun cs=>Ag9 H r (some (.cells cs e)) fun H=> .norm E H) (eqN size v.cells&&v.cells.all (·.one)&&leN (off+size) cs)
 | _=> .bad
def Aw4 (E:Tr DVal) (H:XH) (size:Nat):Option Nat->DVal->DVal->Out
 | none, .optr r off,v=>By6 E H size r off v (Cc H r)
 | _,_,_=> .bad
def Bs7 (size:Nat) (H:XH):DVal->Option (Nat×List DVal)
 | .nilSlice=>some (0,[])
 | .vslice cs n=>Ao7 (n*size) cs fun l=>some (n,l)
 | .oslice _ r off n _=>Nu size n off (Cc H r)
 | .str l=>some (l.length,l.map fun b=> .int .u8 b.toNat)
 | _=>none
def Ah2 (E:Tr DVal) (H:XH) (dst:Option Nat) (e:TypeId) (size bytes r off len lo n:Nat) (news:List DVal):Option DObj->Out
 | some (.cells cs e')=>Bool.rec (motive:=fun _=>Out) .bad
   (Bool.rec (motive:=fun _=>Out)
    (Bool.rec (motive:=fun _=>Out) .bad
     (Ag9 H r none fun H=>Ao7 (len*size) (By0 off cs) fun old=>Ec1 old news fun cs=>Ah0 H (.cells cs e) fun k H=>Pw E H dst (.oslice size k 0 (len+n) (len+n)))
     (leN (off+len*size) cs&&decide ((len+n)*bytes<=35184372088832)&&Nat.ble len lo&&Nat.beq off 0))
    (Bool.rec (motive:=fun _=>Out) .bad
     (Bs2 news (off+len*size) cs fun cs=>Ag9 H r (some (.cells cs e)) fun H=>Pw E H dst (.oslice size r off (len+n) lo))
     (leN (off+(len+n)*size) cs))
    (Nat.ble (len+n) lo))
   (Nat.beq e' e)
 | _=> .bad
def Ap0 (E:Tr DVal) (H:XH) (dst:Option Nat) (e:TypeId) (size bytes n:Nat) (news:List DVal):DVal->Out
 | .nilSlice=>Bool.rec (motive:=fun _=>Out) (Bool.rec (motive:=fun _=>Out) .bad (Bh3 E H dst news e size n n) (decide (n*bytes<=35184372088832))) (Pw E H dst .nilSlice) (Nat.beq n 0)
 | .oslice sz r off len lo=>Bool.rec (motive:=fun _=>Out) .bad (Ah2 E H dst e size bytes r off len lo n news (Cc H r)) (Nat.beq sz size)
 | _=> .bad
def Bh4 (E:Tr DVal) (H:XH) (dst:Option Nat) (e:TypeId) (size bytes:Nat) (x:DVal):Option (Nat×List DVal)->Out
 | some (n,news)=>Bool.rec (motive:=fun _=>Out) .bad (Ap0 E H dst e size bytes n news x) (eqN (n*size) news&&news.all (·.one))
 | none=> .bad
def By7 (E:Tr DVal) (H:XH) (dst:Option Nat) (x y:DVal):Option TypeDesc->Out
 | some (.slice e)=>Bool.rec (motive:=fun _=>Out) .bad (Bh4 E H dst e (P.cellsOf e) (P.bytesOf e) x (Bs7 (P.cellsOf e) H y))
   ((Bz P e).isSome&&(Bz P e).all (fun z=>z.cells.length=P.cellsOf e)&&decide (0<P.cellsOf e)&&decide (0<P.bytesOf e))
 | _=> .bad
def Xi (E:Tr DVal) (H:XH) (dst:Option Nat) (x y:DVal):List TypeId->Out
 | [t,t']=>Bool.rec (motive:=fun _=>Out) .bad (By7 P E H dst x y (P.underlying t)) (!Jd (P.underlying t')&&To (P.underlying t'))
 | _=> .bad
def Su (E:Tr DVal) (H:XH) (dst:Option Nat):Option TypeDesc->DVal->DVal->DVal->Out
 | some (.map kt _), .omap r,k,v=>match dst,Il P (P.underlying kt) k&&v.one,Cc H r with
  | none,true,some (.map es)=>Qu .bad (fun i=>Ag9 H r (some (.map (Ar5 es k v i))) fun H=> .norm E H) (Ek k es 0)
  | _,_,_=> .bad
 | _,_,_,_=> .bad
def Vw (E:Tr DVal) (H:XH) (dst:Option Nat):Option TypeDesc->Option DVal->Out
 | some (.map _ _),none=>Cx6 E H dst
 | some (.map _ _),some (.int _ _)=>Cx6 E H dst
 | _,_=> .bad
def Aw5 (E:Tr DVal) (H:XH) (dst:Option Nat):Option TypeDesc->DVal->Out
 | some .string, .str l=>Ah0 H (.iter l 0) fun k H=>Pw E H dst (.optr k 0)
 | _,_=> .bad
def Cx7 (E:Tr DVal) (H:XH) (dst:Option Nat) (r:Nat):Option DObj->Out
 | some (.iter l pos)=>Bool.rec (motive:=fun _=>Out) (Pw E H dst (.tuple [.bool false]))
   (Jn (Jb l pos).1 fun c=>Jn (Jb l pos).2 fun n=>Ag9 H r (some (.iter l (pos+n))) fun H=>Pw E H dst (.tuple [.bool true, .int .i64 pos, .int .i32 c])) (decide (pos<l.length))
 | _=> .bad
def By8 (E:Tr DVal) (H:XH) (dst:Option Nat):Bool->DVal->Out
 | true, .optr r 0=>Cx7 E H dst r (Cc H r)
 | _,_=> .bad
def Cx8 (E:Tr DVal) (dst:Option Nat):COut->Out
 | .bad=> .bad
 | .cret v H=>Pw E H dst v
 | .cpanic v H=> .panic v E H
def Bs8 (call:Nat->List DVal->XH->COut) (E:Tr DVal) (H:XH) (dst:Option Nat) (args:List DVal):DVal->Out
 | .func (.func k) first captured=>Cx8 E dst (call k (first++args++captured) H)
 | _=> .bad
def Ah3 (E:Tr DVal) (H:XH) (dst:Option Nat) (ts:List TypeId):Builtin->List DVal->Out
 | .len,[x]=>Gl E H dst (Bs6 P x ts)
 | .append,[x,y]=>Xi P E H dst x y ts
 | .min,xs=>Gl E H dst (Ia false xs)
 | .max,xs=>Gl E H dst (Ia true xs)
 | .panic,[.iface t v]=> .panic (.iface t v) E H
 | _,_=> .bad
def Aw6 (call:Nat->List DVal->XH->COut) (E:Tr DVal) (H:XH) (dst:Option Nat) (c:Call):Callee->Out
 | .value f=>evK gt .bad E f fun f=>Vs gt .bad E c.args.toList fun args=>Bs8 call E H dst args f
 | .builtin b=>Vs gt .bad E c.args.toList fun args=>Ah3 P E H dst c.argTypes.toList b args
 | .invoke _ _=> .bad
def Aw7 (E:Tr DVal) (H:XH):DVal->Out
 | .iface t v=> .panic (.iface t v) E H
 | _=> .bad
def Ec4 (call:Nat->List DVal->XH->COut) (E:Tr DVal) (H:XH) (dst:Option Nat):Op->Out
 | .move x=>evK gt .bad E x fun v=>Ag8 E H dst v
 | .assign x=>evK gt .bad E x fun v=>Ag8 E H dst v
 | .pick c a b=>evK gt .bad E c fun c=>evK gt .bad E a fun a=>evK gt .bad E b fun b=>Kj E H dst (By1 c a b)
 | .alloc e=>Qu .bad (fun z=>Bh2 E H dst (DVal.cells z) e) (Bz P e)
 | .box e x=>evK gt .bad E x fun x=>Bh2 E H dst x.cells e
 | .build t ps=>Xg gt .bad E ps.toList fun ps=>Gl E H dst (Av5 P (Mo P t) (P.underlying t) (Bz P t) ps)
 | .buildSlice t n ps=>Xg gt .bad E ps.toList fun ps=>Nj P E H dst n (P.underlying t) ps
 | .load t a=>evK gt .bad E a fun a=>Kj E H dst (By2 (P.cellsOf t) (Dg P t) H a)
 | .store t a x=>evK gt .bad E a fun a=>evK gt .bad E x fun x=>Bool.rec (motive:=fun _=>Out) .bad (Aw4 E H (P.cellsOf t) dst a x) (P.info? t).isSome
 | .nilCheck x=>evK gt .bad E x fun x=>Kj E H dst (Dj0 x)
 | .binOp op t x y _=>evK gt .bad E x fun vx=>evK gt .bad E y fun vy=>Gl E H dst (By3 P t (Ed x || Ed y) op (Fm y) vx vy)
 | .unOp op _ x=>evK gt .bad E x fun x=>Gl E H dst (vUn op x)
 | .convert src t x=>evK gt .bad E x fun x=>Gl E H dst (Av8 P H (P.underlying src) (P.underlying t) x)
 | .makeInterface t x=>evK gt .bad E x fun x=>Gl E H dst (Pz t x (Dc (P.underlying t)))
 | .makeFunc fn fs cs=>Vs gt .bad E fs.toList fun fs=>Vs gt .bad E cs.toList fun cs=>Pw E H dst (.func fn fs cs)
 | .makeMap t r=>Av4 gt .bad E r fun r=>Vw E H dst (P.underlying t) r
 | .lookup t x k ok=>evK gt .bad E x fun x=>evK gt .bad E k fun k=>Gl E H dst (Aa2 P H ok (P.underlying t) x k)
 | .mapUpdate t m k x=>evK gt .bad E m fun m=>evK gt .bad E k fun k=>evK gt .bad E x fun x=>Su P E H dst (P.underlying t) m k x
 | .insert t m k x=>evK gt .bad E m fun m=>evK gt .bad E k fun k=>evK gt .bad E x fun x=>Su P E H dst (P.underlying t) m k x
 | .makeSlice t l c=>evK gt .bad E l fun l=>evK gt .bad E c fun c=>Qa P E H dst (P.underlying t) l c
 | .slice t x lo hi mx=>evK gt .bad E x fun x=>Av4 gt .bad E lo fun lo=>Av4 gt .bad E hi fun hi=>Av4 gt .bad E mx fun mx=>Gl E H dst (Aw0 P H lo hi (P.underlying t) x mx)
 | .fieldAddr t x f=>evK gt .bad E x fun x=>Gl E H dst (Px P f x (P.underlying t))
 | .field t x f=>evK gt .bad E x fun x=>Kj E H dst (Aw1 P f (P.underlying t) x)
 | .indexAddr t x i=>evK gt .bad E x fun x=>evK gt .bad E i fun i=>Gl E H dst (Py P (P.underlying t) x i)
 | .index t x i=>evK gt .bad E x fun x=>evK gt .bad E i fun i=>Gl E H dst (Aw2 P (P.underlying t) x i)
 | .typeAssert x _ t ok=>evK gt .bad E x fun x=>Kj E H dst (Ni P t ok (Dc (P.underlying t)) x)
 | .extract x i=>evK gt .bad E x fun x=>Kj E H dst (Vu i x)
 | .panic x=>evK gt .bad E x fun x=>Aw7 E H x
 | .range t x=>evK gt .bad E x fun x=>Aw5 E H dst (P.underlying t) x
 | .next x b=>evK gt .bad E x fun x=>By8 E H dst b x
 | .call c=>Aw6 P gt call E H dst c c.callee
 | _=> .bad
def xop (call:Nat->List DVal->XH->COut) (E:Tr DVal) (H:XH) (dst:Option Nat) (op:Op):Out:=
 Op.casesOn (motive:=fun _=>Program->(Nat->Option DVal)->(Nat->List DVal->XH->COut)->Tr DVal->XH->Option Nat->Out) op
  (fun x P gt call E H dst=>evK gt .bad E x fun v=>Ag8 E H dst v)
  (fun x P gt call E H dst=>evK gt .bad E x fun v=>Ag8 E H dst v)
  (fun c a b P gt call E H dst=>evK gt .bad E c fun c=>evK gt .bad E a fun a=>evK gt .bad E b fun b=>Kj E H dst (By1 c a b))
  (fun e P gt call E H dst=>Qu .bad (fun z=>Bh2 E H dst (DVal.cells z) e) (Bz P e))
  (fun e x P gt call E H dst=>evK gt .bad E x fun x=>Bh2 E H dst x.cells e)
  (fun t ps P gt call E H dst=>Xg gt .bad E ps.toList fun ps=>Gl E H dst (Av5 P (Mo P t) (P.underlying t) (Bz P t) ps))
  (fun t n ps P gt call E H dst=>Xg gt .bad E ps.toList fun ps=>Nj P E H dst n (P.underlying t) ps)
  (fun t m k x P gt call E H dst=>evK gt .bad E m fun m=>evK gt .bad E k fun k=>evK gt .bad E x fun x=>Su P E H dst (P.underlying t) m k x)
  (fun t a P gt call E H dst=>evK gt .bad E a fun a=>Kj E H dst (By2 (P.cellsOf t) (Dg P t) H a))
  (fun t a x P gt call E H dst=>evK gt .bad E a fun a=>evK gt .bad E x fun x=>Bool.rec (motive:=fun _=>Out) .bad (Aw4 E H (P.cellsOf t) dst a x) (P.info? t).isSome)
  (fun _ _ _ _ _ _ _=> .bad)
  (fun _ _ _ _ _ _ _=> .bad)
  (fun x P gt call E H dst=>evK gt .bad E x fun x=>Kj E H dst (Dj0 x))
  (fun op t x y _ P gt call E H dst=>evK gt .bad E x fun vx=>evK gt .bad E y fun vy=>Gl E H dst (By3 P t (Ed x || Ed y) op (Fm y) vx vy))
  (fun op _ x P gt call E H dst=>evK gt .bad E x fun x=>Gl E H dst (vUn op x))
  (fun src t x P gt call E H dst=>evK gt .bad E x fun x=>Gl E H dst (Av8 P H (P.underlying src) (P.underlying t) x))
  (fun _ _ _ _ _ _ _ _=> .bad)
  (fun t x P gt call E H dst=>evK gt .bad E x fun x=>Gl E H dst (Pz t x (Dc (P.underlying t))))
  (fun fn fs cs P gt call E H dst=>Vs gt .bad E fs.toList fun fs=>Vs gt .bad E cs.toList fun cs=>Pw E H dst (.func fn fs cs))
  (fun t r P gt call E H dst=>Av4 gt .bad E r fun r=>Vw E H dst (P.underlying t) r)
  (fun _ _ _ _ _ _ _ _=> .bad)
  (fun t l c P gt call E H dst=>evK gt .bad E l fun l=>evK gt .bad E c fun c=>Qa P E H dst (P.underlying t) l c)
  (fun t x lo hi mx P gt call E H dst=>evK gt .bad E x fun x=>Av4 gt .bad E lo fun lo=>Av4 gt .bad E hi fun hi=>Av4 gt .bad E mx fun mx=>Gl E H dst (Aw0 P H lo hi (P.underlying t) x mx))
  (fun t x f P gt call E H dst=>evK gt .bad E x fun x=>Gl E H dst (Px P f x (P.underlying t)))
  (fun t x f P gt call E H dst=>evK gt .bad E x fun x=>Kj E H dst (Aw1 P f (P.underlying t) x))
  (fun t x i P gt call E H dst=>evK gt .bad E x fun x=>evK gt .bad E i fun i=>Gl E H dst (Py P (P.underlying t) x i))
  (fun t x i P gt call E H dst=>evK gt .bad E x fun x=>evK gt .bad E i fun i=>Gl E H dst (Aw2 P (P.underlying t) x i))
  (fun t x k ok P gt call E H dst=>evK gt .bad E x fun x=>evK gt .bad E k fun k=>Gl E H dst (Aa2 P H ok (P.underlying t) x k))
  (fun t m k x P gt call E H dst=>evK gt .bad E m fun m=>evK gt .bad E k fun k=>evK gt .bad E x fun x=>Su P E H dst (P.underlying t) m k x)
  (fun _ _ _ _ _ _ _ _ _=> .bad)
  (fun _ _ _ _ _ _ _ _ _ _=> .bad)
  (fun t x P gt call E H dst=>evK gt .bad E x fun x=>Aw5 E H dst (P.underlying t) x)
  (fun x b P gt call E H dst=>evK gt .bad E x fun x=>By8 E H dst b x)
  (fun _ _ _ _ _ _ _=> .bad)
  (fun x _ t ok P gt call E H dst=>evK gt .bad E x fun x=>Kj E H dst (Ni P t ok (Dc (P.underlying t)) x))
  (fun x i P gt call E H dst=>evK gt .bad E x fun x=>Kj E H dst (Vu i x))
  (fun c P gt call E H dst=>Aw6 P gt call E H dst c c.callee)
  (fun _ _ _ _ _ _ _=> .bad)
  (fun _ _ _ _ _ _ _=> .bad)
  (fun x P gt call E H dst=>evK gt .bad E x fun x=>Aw7 E H x)
  (fun _ _ _ _ _ _ _ _=> .bad)
  (fun _ _ _ _ _ _ _ _ _=> .bad)
  (fun _ _ _ _ _ _ _ _=> .bad) P gt call E H dst
def Sa (o:Out) (κ:Tr DVal->XH->Out):Out:=
 match o with
 | .norm E H=>κ E H
 | o=>o
def Cx9 (all:List Oper) (E:Tr DVal):Option (Nat×Bool)->Option Bool
 | none=>some true
 | some (j,b)=>match Le all j with
  | some g=>match E.get g,b with
   | some (.bool true),true=>some true
   | some (.bool false),false=>some true
   | some (.bool _),_=>some false
   | some (.tuple []),_=>some false
   | _,_=>none
  | none=>none
def Cy0 (call:Nat->List DVal->XH->COut) (all:List Oper) (E:Tr DVal) (H:XH) (o:Oper):Out:=
 match Cx9 all E o.guard with
 | some true=>xop P gt call E H o.dst o.op
 | some false=>Pw E H o.dst Di
 | none=> .bad
def Dw1 (call:Nat->List DVal->XH->COut) (all:List Oper) (ops:List Oper):Tr DVal->XH->Out:=
 List.rec (motive:=fun _=>Tr DVal->XH->Out) (fun E H=> .norm E H) (fun o _ ih E H=>Sa (Cy0 P gt call all E H o) ih) ops
mutual
def Bs9:DVal->DVal->Bool
 | .bool a, .bool b=>a==b
 | .int k a, .int k' b=>decide (k=k')&&decide (a=b)
 | .str a, .str b=>decide (a=b)
 | .nilPtr, .nilPtr=>true
 | .optr r o, .optr r' o'=>Nat.beq r r'&&Nat.beq o o'
 | .oslice a b c d e, .oslice a' b' c' d' e'=>Nat.beq a a'&&Nat.beq b b'&&Nat.beq c c'&&Nat.beq d d'&&Nat.beq e e'
 | .vptr cs o, .vptr cs' o'=>Nat.beq o o'&&Iv cs cs'
 | .nilSlice, .nilSlice=>true
 | .vslice cs n, .vslice cs' n'=>Nat.beq n n'&&Iv cs cs'
 | .nilMap, .nilMap=>true
 | .nilFunc, .nilFunc=>true
 | .nilIface, .nilIface=>true
 | .iface t v, .iface t' v'=>Nat.beq t t'&&Bs9 v v'
 | .agg cs, .agg cs'=>Iv cs cs'
 | .tuple cs, .tuple cs'=>Iv cs cs'
 | .func (.func f) a c, .func (.func f') a' c'=>Nat.beq f f'&&Iv a a'&&Iv c c'
 | _,_=>false
def Iv:List DVal->List DVal->Bool
 | [],[]=>true
 | a::al,b::bl=>Bs9 a b&&Iv al bl
 | _,_=>false
end
def Bt0:Option DObj->Option DObj->Bool
 | some (.cells cs e),some (.cells cs' e')=>Nat.beq e e'&&Iv cs cs'
 | some (.iter s p),some (.iter s' p')=>decide (s=s')&&Nat.beq p p'
 | _,_=>false
def Bt1 (H H':XH):DVal->Bool
 | .optr r _=>Bt0 (Cc H r) (Cc H' r)
 | .oslice _ r _ _ _=>Bt0 (Cc H r) (Cc H' r)
 | _=>true
def Cy1 (E:Tr DVal) (H H':XH):Option Operand->Bool
 | some a=>evK gt false E a fun v=>Bt1 H H' v
 | none=>true
def Ah4 (all:List Oper) (E:Tr DVal) (H H':XH):List Nat->Bool
 | []=>true
 | l::ls=>Cy1 gt E H H' (Pd (Dy all l))&&Ah4 all E H H' ls
def xat (call:Nat->List DVal->XH->COut) (all:List Oper) (E:Tr DVal) (H:XH) (i:Nat):Out:=
 match Dy all i with
 | some o=>Cy0 P gt call all E H o
 | none=> .bad
def Bh5:Out->Out
 | .norm E H=> .norm E H
 | .panic v _ H=> .panicX v H
 | _=> .bad
mutual
def Gq:DVal->Bool
 | .raw _ | .bool _ | .int _ _ | .str _ | .nilPtr | .nilSlice | .nilMap | .nilFunc | .nilIface=>true
 | .vptr cs _=>Gz cs
 | .vslice cs _=>Gz cs
 | .agg cs=>Gz cs
 | .tuple cs=>Gz cs
 | .iface _ v=>Gq v
 | .func _ a c=>Gz a&&Gz c
 | _=>false
def Gz:List DVal->Bool
 | []=>true
 | v::vs=>Gq v&&Gz vs
end
def Nq (π:List (Nat×Nat)) (k:Nat):Option Nat:=
 List.rec (motive:=fun _=>Option Nat) none (fun x _ ih=>Bool.rec (motive:=fun _=>Option Nat) ih (some x.2) (Nat.beq x.1 k)) π
def Zq (π:List (Nat×Nat)) (nx k k':Nat):Bool:=
 Bool.rec (motive:=fun _=>Bool) (match Nq π k with | some j=>Nat.beq j k' | none=>false) (Nat.beq k k') (Nat.blt k nx)
mutual
def eqP (π:List (Nat×Nat)) (nx:Nat):DVal->DVal->Bool
 | .bool a, .bool b=>a==b
 | .int k a, .int k' b=>decide (k=k')&&decide (a=b)
 | .str a, .str b=>Bs5 a b
 | .nilPtr, .nilPtr=>true
 | .optr r o, .optr r' o'=>Zq π nx r r'&&Nat.beq o o'
 | .oslice a b c d e, .oslice a' b' c' d' e'=>Nat.beq a a'&&Zq π nx b b'&&Nat.beq c c'&&Nat.beq d d'&&Nat.beq e e'
 | .omap r, .omap r'=>Zq π nx r r'
 | .vptr cs o, .vptr cs' o'=>Nat.beq o o'&&Sy π nx cs cs'
 | .nilSlice, .nilSlice=>true
 | .vslice cs n, .vslice cs' n'=>Nat.beq n n'&&Sy π nx cs cs'
 | .nilMap, .nilMap=>true
 | .nilFunc, .nilFunc=>true
 | .nilIface, .nilIface=>true
 | .iface t v, .iface t' v'=>Nat.beq t t'&&eqP π nx v v'
 | .agg cs, .agg cs'=>Sy π nx cs cs'
 | .tuple cs, .tuple cs'=>Sy π nx cs cs'
 | .func (.func f) a c, .func (.func f') a' c'=>Nat.beq f f'&&Sy π nx a a'&&Sy π nx c c'
 | _,_=>false
def Sy (π:List (Nat×Nat)) (nx:Nat):List DVal->List DVal->Bool
 | [],[]=>true
 | a::al,b::bl=>eqP π nx a b&&Sy π nx al bl
 | _,_=>false
end
mutual
def Dw2 (nx:Nat):DVal->DVal->List (Nat×Nat)->List (Nat×Nat)
 | .optr r _, .optr r' _,π=>Dw3 nx r r' π
 | .oslice _ r _ _ _, .oslice _ r' _ _ _,π=>Dw3 nx r r' π
 | .omap r, .omap r',π=>Dw3 nx r r' π
 | .iface _ v, .iface _ v',π=>Dw2 nx v v' π
 | .agg cs, .agg cs',π=>Ah5 nx cs cs' π
 | .tuple cs, .tuple cs',π=>Ah5 nx cs cs' π
 | .func _ a c, .func _ a' c',π=>Ah5 nx c c' (Ah5 nx a a' π)
 | _,_,π=>π
def Ah5 (nx:Nat):List DVal->List DVal->List (Nat×Nat)->List (Nat×Nat)
 | a::al,b::bl,π=>Ah5 nx al bl (Dw2 nx a b π)
 | _,_,π=>π
def Dw3 (nx r r':Nat) (π:List (Nat×Nat)):List (Nat×Nat):=
 match Nat.blt r nx,Nq π r with
 | false,none=>(r,r')::π
 | _,_=>π
end
def Cj8 (nx:Nat):Tr DVal->Tr DVal->List (Nat×Nat)->List (Nat×Nat)
 | .node l v r, .node l' v' r',π=>Cj8 nx r r' (Cj8 nx l l' (match v,v' with | some x,some y=>Dw2 nx x y π | _,_=>π))
 | _,_,π=>π
def Dj1 (nx:Nat) (A A':XH) (π0:List (Nat×Nat)) (π:List (Nat×Nat)):List (Nat×Nat):=
 π0.foldl (fun π x=>match Cc A x.1,Cc A' x.2 with
  | some (.cells cs _),some (.cells cs' _)=>Ah5 nx cs cs' π
  | _,_=>π) π
def Cj9 (nx:Nat) (t:Tr (Option DObj)) (t1 t2:Tr (Option DObj)) (π:List (Nat×Nat)):List (Nat×Nat):=
 match t,t1,t2 with
 | .node l v r, .node l1 v1 r1, .node l2 v2 r2=>Cj9 nx r r1 r2 (Cj9 nx l l1 l2 (match v,v1,v2 with
  | some (some _),some (some (.cells cs _)),some (some (.cells cs' _))=>Ah5 nx cs cs' π
  | _,_,_=>π))
 | _,_,_=>π
def Aw8 (es:List (DVal×DVal)):Bool:=es.all fun p=>Gq p.1&&Gq p.2
def Dn0:List (DVal×DVal)->Bool
 | (.agg [.bool _, .bool _],_)::_=>true
 | _=>false
def lkB (es es':List (DVal×DVal)) (k:DVal):Bool:=
 match Ek k es 0,Ek k es' 0 with
 | some none,some none=>true
 | some (some i),some (some j)=>match es[i]?,es'[j]? with
  | some p,some p'=>Bs9 p.2 p'.2&&Gq p.2
  | _,_=>false
 | _,_=>false
def lkA (es es':List (DVal×DVal)):Bool:=
 Dn0 es&&Aw8 es'&&lkB es es' (.agg [.bool true, .bool true])&&lkB es es' (.agg [.bool true, .bool false])&&lkB es es' (.agg [.bool false, .bool true])&&lkB es es' (.agg [.bool false, .bool false])
def Dw4 (es:List (DVal×DVal)) (i:Nat):DVal:=
 match es[i/2]? with
 | some p=>Bool.rec (motive:=fun _=>DVal) p.2 p.1 (Nat.beq (i%2) 0)
 | none=> .nilPtr
def By9:Loop:= { state:= .ready,pending:=none,fn:=0,tmps:= #[],params:= #[],assign:= .skip,body:= .skip,defers:=0 }
def Vx (π:List (Nat×Nat)) (nx:Nat):Option DObj->Option DObj->Option (Option DObj)
 | some (.cells cs e),some (.cells cs' e')=>Bool.rec (motive:=fun _=>Option (Option DObj)) none (some (some (.cells cs e))) (Nat.beq e e'&&Sy π nx cs cs')
 | some (.iter l p),some (.iter l' p')=>Bool.rec (motive:=fun _=>Option (Option DObj)) none (some (some (.iter l p))) (Bs5 l l'&&Nat.beq p p')
 | some (.map es),some (.map es')=>Bool.rec (motive:=fun _=>Option (Option DObj)) none (some (some (.loop (Dw4 es) es.length By9))) (lkA (Al1 (Dw4 es) es.length) es&&lkA (Al1 (Dw4 es) es.length) es')
 | some (.loop env n _),some (.map es')=>Bool.rec (motive:=fun _=>Option (Option DObj)) none (some (some (.loop env n By9))) (lkA (Al1 env n) es')
 | some (.map es),some (.loop env n _)=>Bool.rec (motive:=fun _=>Option (Option DObj)) none (some (some (.loop env n By9))) (lkA (Al1 env n) es)
 | some (.loop env n _),some (.loop env' n' _)=>Bool.rec (motive:=fun _=>Option (Option DObj)) none (some (some (.loop env n By9))) (lkA (Al1 env n) (Al1 env' n'))
 | _,_=>none
def Aw9 {α:Type}:Option α->Bool
 | some _=>true
 | none=>false
def Qb (π:List (Nat×Nat)) (nx:Nat) (A A':XH) (ks:List (Nat×Nat)):Tr (Option DObj)->(Tr (Option DObj)->Out)->Out:=
 List.rec (motive:=fun _=>Tr (Option DObj)->(Tr (Option DObj)->Out)->Out) (fun t κ=>κ t)
  (fun x _ ih t κ=>match Nq π x.1 with
   | some j=>match Vx π nx (Cc A x.1) (Cc A' j) with
    | some (some o)=>Tr.setK .bad (some o) 24 t x.1 fun t=>ih t κ
    | _=>ih t κ
   | none=>ih t κ) ks
def Ax0:List (Nat×Nat)->Bool
 | []=>true
 | x::l=>(l.all fun y=>!Nat.beq x.2 y.2)&&Ax0 l
def Dj2 (π:List (Nat×Nat)) (nx mx:Nat):Bool:=(π.all fun x=>Nat.ble nx x.1&&Nat.ble nx x.2&&Nat.blt x.1 mx)&&Ax0 π
def Cy2 (E0:Tr DVal) (A0:XH):Out->Out->Out
 | .norm E A, .norm E' A'=>
  Te (Dj1 A0.nx A A' (Dj1 A0.nx A A' (Cj9 A0.nx A0.tr A.tr A'.tr (Cj8 A0.nx E E' [])) (Cj9 A0.nx A0.tr A.tr A'.tr (Cj8 A0.nx E E' []))) (Dj1 A0.nx A A' (Cj9 A0.nx A0.tr A.tr A'.tr (Cj8 A0.nx E E' [])) (Cj9 A0.nx A0.tr A.tr A'.tr (Cj8 A0.nx E E' [])))) fun π=>
  Jn (max A0.nx (max A.nx A'.nx)) fun mx=>Bool.rec (motive:=fun _=>Out) .bad
   (Qb π A0.nx A A' π (Vr Aw9 (Vx π A0.nx) A0.tr A.tr A'.tr) fun t=> .norm (Tf (fun v w=>Bool.rec (motive:=fun _=>Option DVal) none (some v) (eqP π A0.nx v w)) E E') ⟨t,mx⟩)
   (Dj2 π A0.nx mx)
 | _,_=> .bad
def Vy (call:Nat->List DVal->XH->COut) (all:List Oper):Plan->Tr DVal->XH->Out
 | .done,E,H=> .norm E H
 | .take i p,E,H=>Sa (xat P gt call all E H i) fun E H=>Vy call all p E H
 | .go i ls p,E,H=>Sa (xat P gt call all E H i) fun E' H'=>Bool.rec (motive:=fun _=>Out) .bad (Vy call all p E' H') (Ah4 gt all E H H' ls)
 | .alt p q,E,H=>Cy2 E H (Vy call all p E H) (Vy call all q E H)
inductive LOut where
 | more (E:Tr DVal) (H:XH)
 | stop (o:Out)
def Bh6 (body:Tr DVal->XH->Out) (E:Tr DVal) (H:XH):LOut:=
 match body E H with
 | .norm E H=> .more E H
 | o=> .stop o
def Ah6 (f:Tr DVal->XH->LOut) (E:Tr DVal) (H:XH):LOut:=
 match f E H with
 | .more E H=>f E H
 | .stop o=> .stop o
def Ah7 (body:Tr DVal->XH->Out) (n:Nat):Tr DVal->XH->LOut:=
 Nat.rec (motive:=fun _=>Tr DVal->XH->LOut) (Bh6 body) (fun _ ih=>Ah6 ih) n
def Dn1:LOut->Out
 | .stop o=>o
 | .more _ _=> .bad
def Ax1 (id:Nat):Out->Out
 | .exit id' E H=>Bool.rec (motive:=fun _=>Out) (.exit id' E H) (.norm E H) (Nat.beq id' id)
 | o=>o
def Dn2 (x y:Out):DVal->Out
 | .bool true=>x
 | .bool false=>y
 | _=> .bad
def Vz (args:List DVal):Nat->Tr DVal->(Tr DVal->COut)->COut:=
 List.rec (motive:=fun _=>Nat->Tr DVal->(Tr DVal->COut)->COut) (fun _ E κ=>κ E) (fun x _ ih k E κ=>Tr.setK .bad x 10 E k fun E=>Jn (k+1) fun k=>ih k E κ) args
def Bz0 (E:Tr DVal) (H:XH):ResultVar->Option DVal
 | .tmp t=>E.get t
 | .cell x t=>match E.get x with
  | some (.optr r off)=>Av7 (P.cellsOf t) (Dg P t) off (Cc H r)
  | _=>none
def Yz (E:Tr DVal) (H:XH):List ResultVar->Option (List DVal)
 | []=>some []
 | r::rs=>Bb7 (Bz0 P E H r) (Yz E H rs)
def Ck0 (rs:List ResultVar) (E:Tr DVal) (H:XH):COut:=Qu .bad (fun v=>fvK v fun v=> .cret v H) (Fw (Yz P E H rs))
def Ec5 (rs:List ResultVar):Out->COut
 | .norm E H=>Ck0 P rs E H
 | .ret E H=>Ck0 P rs E H
 | .panic v _ H=> .cpanic v H
 | .panicX v H=> .cpanic v H
 | _=> .bad
structure Late where
 A1:Code
 A2:Code
 d:Nat
 g:FuncId
 caps:List Operand
 C:Code
def Ah8:Code->Option Late
 | .seq A1 (.seq A2 (.seq (.region _ ⟨[⟨some d, .makeFunc (.func g) ⟨[]⟩ ⟨caps⟩,_,_,_,none⟩,⟨none, .defer ⟨.value (.tmp d'),⟨[]⟩,⟨[]⟩⟩,_,_,_,none⟩]⟩ false) C))=>if d'=d then some ⟨A1,A2,d,g,caps,C⟩ else none
 | _=>none
def Ap1:Code->Option (Nat×Nat×Code)
 | .seq (.region _ ⟨[⟨some t1, .call ⟨.builtin .recover,⟨[]⟩,⟨[]⟩⟩,_,_,_,none⟩,⟨some t2, .assign (.tmp t1'),_,_,_,none⟩]⟩ false) cc=>if t1'=t1 then some (t1,t2,cc) else none
 | _=>none
end
end
end Go.Dl

-- AN INTERPRETER OF THE DATA LEVEL, PART 2: how its values stand for those of the data level.
namespace Go.Dl
open Go
theorem Kq {R:Type} (n:Nat) (κ:Nat->R):Jn n κ=κ n:=by cases n<;>rfl
theorem Dj3 {R:Type} (n:Int) (κ:Int->R):Dv4 n κ=κ n:=by
 cases n with
 | ofNat m=>exact Kq m fun m=>κ (.ofNat m)
 | negSucc m=>exact Kq m fun m=>κ (.negSucc m)
theorem Wa {α R:Type}: ∀(l:List α) (κ:List α->R),Te l κ=κ l
 | [],_=>rfl
 | x::l,κ=>Wa l (fun l=>κ (x::l))
theorem Cy3 {R:Type} (b:Bool) (κ:Bool->R):Cx2 b κ=κ b:=by cases b<;>rfl
theorem Bh7 {R:Type}: ∀(vs cs:List DVal) (κ:List DVal->R),Cx3 vs cs κ=κ (splice cs 0 vs)
 | [],cs,κ=>by show κ cs=_;simp [splice]
 | v::vs,[],κ=>by show κ (v::vs)=_;simp [splice]
 | v::vs,c::cs,κ=>by
  show Cx3 vs cs (fun r=>κ (v::r))=_;rw[Bh7 vs cs];simp [splice]
theorem Aa3 {R:Type} (vs:List DVal): ∀(off:Nat) (cs:List DVal) (κ:List DVal->R),Bs2 vs off cs κ=κ (splice cs off vs)
 | 0,cs,κ=>Bh7 vs cs κ
 | off+1,[],κ=>by show κ vs=_;simp [splice]
 | off+1,c::cs,κ=>by
  show Bs2 vs off cs (fun r=>κ (c::r))=_;rw[Aa3 vs off cs];simp [splice,Nat.add_right_comm]
theorem Bz1 {R:Type}: ∀(xs ys:List DVal) (κ:List DVal->R),Ec1 xs ys κ=κ (xs++ys)
 | [],_,_=>rfl
 | x::xs,ys,κ=>Bz1 xs ys fun r=>κ (x::r)
theorem Sb {R:Type}: ∀(n:Nat) (cs:List DVal) (κ:List DVal->R),Ao7 n cs κ=κ (cs.take n)
 | 0,cs,κ=>by show κ []=_;simp
 | n+1,[],κ=>by show κ []=_;simp
 | n+1,c::cs,κ=>by
  show Ao7 n cs (fun r=>κ (c::r))=_;rw[Sb n cs];simp
theorem Wb: ∀(n:Nat) (cs:List DVal),By0 n cs=cs.drop n
 | 0,cs=>rfl
 | n+1,[]=>rfl
 | n+1,c::cs=>Wb n cs
theorem Ax2: ∀(n:Nat) (cs:List DVal),Di9 n cs=cs[n]?
 | 0,[]=>rfl
 | 0,c::cs=>rfl
 | n+1,[]=>rfl
 | n+1,c::cs=>by
  show Di9 n cs=_;rw[Ax2 n cs];simp
theorem Sc: ∀(n:Nat) (cs:List DVal),leN n cs=decide (n<=cs.length)
 | 0,cs=>by show true=_;simp
 | n+1,[]=>by show false=_;simp
 | n+1,c::cs=>by
  show leN n cs=_;rw[Sc n cs];simp
theorem Ah9: ∀(n:Nat) (cs:List DVal),eqN n cs=decide (cs.length=n)
 | 0,[]=>rfl
 | 0,c::cs=>by show false=_;simp
 | n+1,[]=>by show false=_;simp
 | n+1,c::cs=>by
  show eqN n cs=_;rw[Ah9 n cs];simp
theorem Wc {R:Type} (z:R) (place:Nat->Option (Nat×Nat)): ∀(parts:List (Nat×DVal)) (cs:List DVal) (κ:List DVal->R),Ao8 z place parts cs κ=match Iz place cs parts with | some l=>κ l | none=>z
 | [],cs,κ=>rfl
 | (i,v)::parts,cs,κ=>by
  show Qu z (fun os=>Bool.rec (motive:=fun _=>R) z (Bs2 v.cells os.1 cs fun cs=>Ao8 z place parts cs κ) (eqN os.2 v.cells&&leN (os.1+os.2) cs)) (place i)=_
  simp only[Iz]
  cases place i with
  | none=>rfl
  | some os=>
   obtain⟨off,size⟩:=os
   simp only[Qu]
   by_cases hc:v.cells.length=size/\off+v.cells.length<=cs.length
   ·rw[if_pos hc]
    have:(eqN size v.cells&&leN (off+size) cs)=true:=by
     rw[Ah9,Sc]
     simp only[Bool.and_eq_true,decide_eq_true_eq]
     exact⟨hc.1,by rw[<-hc.1];exact hc.2⟩
    rw[this]
    show Bs2 v.cells off cs (fun cs=>Ao8 z place parts cs κ)=_
    rw[Aa3,Wc z place parts]
    rfl
   ·rw[if_neg hc]
    have:(eqN size v.cells&&leN (off+size) cs)=false:=by
     rw[Ah9,Sc]
     cases hb:(decide (v.cells.length=size)&&decide (off+size<=cs.length)) with
     | false=>rfl
     | true=>
      simp only[Bool.and_eq_true,decide_eq_true_eq] at hb
      exact(hc ⟨hb.1,by rw[hb.1];exact hb.2⟩).elim
    rw[this]
theorem Xj (size:Nat) (cs:List DVal) (off:Nat) (ag:Option Bool):Av6 size cs off ag=Rl size cs off ag:=by
 unfold Av6 Rl;split
 ·rw[Sb,Wb,Sc];by_cases h:off+size<=cs.length
  ·rw[if_pos h,decide_eq_true h]
  ·rw[if_neg h,decide_eq_false h]
 ·exact Ax2 _ _
 ·rfl
theorem Ax3 {R:Type} (v:DVal) (κ:DVal->R):fvK v κ=κ v:=by
 have e:fvK v κ=Ec2 v κ:=by cases v<;>rfl
 rw[e];unfold Ec2;split<;>simp only[Kq,Dj3,Wa,Cy3]
theorem Cy4 {R:Type} (v:DObj) (κ:DObj->R):foK v κ=κ v:=by
 unfold foK;split<;>simp only[Kq,Wa]
theorem Ap2: ∀(n m k j:Nat),k<=n->j<=m->Ag7 n k=Ag7 m j->k=j
 | 0,0,k,j,h1,h2,_=>by omega
 | 0,m+1,k,j,h1,h2,h=>by
  have hk:k=0:=by omega
  subst hk;by_cases hj:j=0
  ·exact hj.symm
  ·have hb:Nat.beq j 0=false:=by
    cases hb:Nat.beq j 0 with
    | false=>rfl
    | true=>exact(hj (Nat.eq_of_beq_eq_true hb)).elim
   have h:([]:List Bool)=Bool.rec (motive:=fun _=>List Bool) (Nat.beq (Nat.mod j 2) 1::Ag7 m (Nat.div (Nat.sub j 1) 2)) [] (Nat.beq j 0):=h;rw[hb] at h;cases h
 | n+1,0,k,j,h1,h2,h=>by
  have hj:j=0:=by omega
  subst hj;by_cases hk:k=0
  ·exact hk
  ·have hb:Nat.beq k 0=false:=by
    cases hb:Nat.beq k 0 with
    | false=>rfl
    | true=>exact(hk (Nat.eq_of_beq_eq_true hb)).elim
   have h:Bool.rec (motive:=fun _=>List Bool) (Nat.beq (Nat.mod k 2) 1::Ag7 n (Nat.div (Nat.sub k 1) 2)) [] (Nat.beq k 0)=([]:List Bool):=h;rw[hb] at h;cases h
 | n+1,m+1,k,j,h1,h2,h=>by
  have h:Bool.rec (motive:=fun _=>List Bool) (Nat.beq (Nat.mod k 2) 1::Ag7 n (Nat.div (Nat.sub k 1) 2)) [] (Nat.beq k 0)=Bool.rec (motive:=fun _=>List Bool) (Nat.beq (Nat.mod j 2) 1::Ag7 m (Nat.div (Nat.sub j 1) 2)) [] (Nat.beq j 0):=h;cases hb:Nat.beq k 0<;>cases hc:Nat.beq j 0<;>rw[hb,hc] at h
  ·injection h with h3 h4;have e:=Ap2 n m ((k-1)/2) ((j-1)/2) (by omega) (by omega) h4;have hk:k≠0:=fun e=>by rw[e] at hb;cases hb
   have hj:j≠0:=fun e=>by rw[e] at hc;cases hc
   have h5:(k%2=1)↔(j%2=1):=by
    have h6: ∀a:Nat,Nat.beq (Nat.mod a 2) 1=true↔a%2=1:=fun a=>⟨fun h=>Nat.eq_of_beq_eq_true h,fun h=>by
     show Nat.beq (a%2) 1=true;rw[h];rfl⟩
    rw[<-h6,<-h6,h3]
   omega
  ·cases h
  ·cases h
  ·rw[Nat.eq_of_beq_eq_true hb,Nat.eq_of_beq_eq_true hc]
theorem Bt2 {k j:Nat} (h:Rz k=Rz j):k=j:=Ap2 k j k j (Nat.le_refl _) (Nat.le_refl _) h
theorem Ap3 {α:Type} (p:List Bool):Oj (Tr.leaf:Tr α) p=none:=rfl
theorem Bh8 {α:Type} (k:Nat):(Tr.leaf:Tr α).get k=none:=rfl
theorem Ok {α R:Type} (x:α): ∀(p:List Bool) (t:Tr α) (κ:Tr α->R),∃t',(∀q,Oj t' q=if q=p then some x else Oj t q)/\Ec0 x p t κ=κ t'
 | [], .leaf,κ=>⟨.node .leaf (some x) .leaf,fun q=>by
   cases q with
   | nil=>rfl
   | cons b q=>cases b<;>rfl,rfl⟩
 | [], .node l v r,κ=>⟨.node l (some x) r,fun q=>by
   cases q with
   | nil=>rfl
   | cons b q=>cases b<;>rfl,rfl⟩
 | true::p, .leaf,κ=>by
  obtain⟨t',h1,h2⟩:=Ok (R:=R) x p .leaf (fun l=>κ (.node l none .leaf));refine⟨.node t' none .leaf,fun q=> ?_,h2⟩;cases q with
  | nil=>rfl
  | cons b q=>cases b with
   | false=>rfl
   | true=>
    show Oj t' q=_;rw[h1];by_cases e:q=p<;>simp [e,Ap3]
 | false::p, .leaf,κ=>by
  obtain⟨t',h1,h2⟩:=Ok (R:=R) x p .leaf (fun r=>κ (.node .leaf none r));refine⟨.node .leaf none t',fun q=> ?_,h2⟩;cases q with
  | nil=>rfl
  | cons b q=>cases b with
   | true=>rfl
   | false=>
    show Oj t' q=_;rw[h1];by_cases e:q=p<;>simp [e,Ap3]
 | true::p, .node l v r,κ=>by
  obtain⟨t',h1,h2⟩:=Ok (R:=R) x p l (fun l=>κ (.node l v r));refine⟨.node t' v r,fun q=> ?_,h2⟩;cases q with
  | nil=>rfl
  | cons b q=>cases b with
   | false=>rfl
   | true=>
    show Oj t' q=if(true::q)=(true::p) then some x else Oj l q
    rw[h1];by_cases e:q=p<;>simp [e]
 | false::p, .node l v r,κ=>by
  obtain⟨t',h1,h2⟩:=Ok (R:=R) x p r (fun r=>κ (.node l v r));refine⟨.node l v t',fun q=> ?_,h2⟩;cases q with
  | nil=>rfl
  | cons b q=>cases b with
   | true=>rfl
   | false=>
    show Oj t' q=if(false::q)=(false::p) then some x else Oj r q
    rw[h1];by_cases e:q=p<;>simp [e]
theorem Kk {α R:Type} {z:R} {x:α} (n:Nat) (t:Tr α) (k:Nat) (κ:Tr α->R):Tr.setK z x n t k κ=z\/ ∃t',(∀j,t'.get j=if j=k then some x else t.get j)/\Tr.setK z x n t k κ=κ t':=by
 obtain⟨t',h1,h2⟩:=Ok x (Rz k) t κ;refine .inr ⟨t',fun j=> ?_,h2⟩;show Oj t' (Rz j)=_;rw[h1];by_cases e:j=k
 ·rw[if_pos e,if_pos (by rw[e])]
 ·rw[if_neg e,if_neg fun h=>e (Bt2 h)];rfl
theorem Xk {α:Type} (f:α->α->Option α): ∀(t t':Tr α) (p:List Bool) (x:α),Oj (Tf f t t') p=some x-> ∃a b,Oj t p=some a/\Oj t' p=some b/\f a b=some x
 | .leaf,t',p,x,h=>by
  have:Tf f .leaf t'= .leaf:=by cases t'<;>rfl
  rw[this] at h;cases h
 | .node l v r, .leaf,p,x,h=>by
  have h:Oj (.leaf:Tr α) p=some x:=h;cases h
 | .node l v r, .node l' v' r',[],x,h=>by
  have h:Dm7 f v v'=some x:=h;show∃a b,v=some a/\v'=some b/\f a b=some x;cases v with
  | none=>cases v'<;>cases h
  | some a=>cases v' with
   | none=>cases h
   | some b=>exact⟨a,b,rfl,rfl,h⟩
 | .node l v r, .node l' v' r',true::p,x,h=>Xk f l l' p x h
 | .node l v r, .node l' v' r',false::p,x,h=>Xk f r r' p x h
theorem Cy5 {α:Type} {f:α->α->Option α} {t t':Tr α} {k:Nat} {x:α} (h:(Tf f t t').get k=some x): ∃a b,t.get k=some a/\t'.get k=some b/\f a b=some x:=Xk f t t' (Rz k) x h
theorem Uh {α:Type} (g:α->Bool) (f:α->α->Option α): ∀(t t1 t2:Tr α) (p:List Bool) (x:α),Oj (Vr g f t t1 t2) p=some x-> ∃z a b,Oj t p=some z/\g z=true/\Oj t1 p=some a/\Oj t2 p=some b/\f a b=some x
 | .leaf,t1,t2,p,x,h=>by
  have:Vr g f .leaf t1 t2= .leaf:=by cases t1<;>cases t2<;>rfl
  rw[this] at h;cases h
 | .node l v r, .leaf,t2,p,x,h=>by
  have:Vr g f (.node l v r) .leaf t2= .leaf:=by cases t2<;>rfl
  rw[this] at h;cases h
 | .node l v r, .node l1 v1 r1, .leaf,p,x,h=>by
  have h:Oj (.leaf:Tr α) p=some x:=h;cases h
 | .node l v r, .node l1 v1 r1, .node l2 v2 r2,[],x,h=>by
  have h:Dm8 g f v v1 v2=some x:=h;show∃z a b,v=some z/\g z=true/\v1=some a/\v2=some b/\f a b=some x;cases v with
  | none=>cases v1<;>cases v2<;>cases h
  | some z=>cases v1 with
   | none=>cases v2<;>cases h
   | some a=>cases v2 with
    | none=>cases h
    | some b=>
     have h:Bool.rec (motive:=fun _=>Option α) none (f a b) (g z)=some x:=h;cases hg:g z with
     | false=>rw[hg] at h;cases h
     | true=>rw[hg] at h;exact⟨z,a,b,rfl,hg,rfl,rfl,h⟩
 | .node l v r, .node l1 v1 r1, .node l2 v2 r2,true::p,x,h=>Uh g f l l1 l2 p x h
 | .node l v r, .node l1 v1 r1, .node l2 v2 r2,false::p,x,h=>Uh g f r r1 r2 p x h
theorem Ck1 {α:Type} {g:α->Bool} {f:α->α->Option α} {t t1 t2:Tr α} {k:Nat} {x:α} (h:(Vr g f t t1 t2).get k=some x): ∃z a b,t.get k=some z/\g z=true/\t1.get k=some a/\t2.get k=some b/\f a b=some x:=Uh g f t t1 t2 (Rz k) x h
mutual
/-- The interpreter's value stands for that of the data level. -/
def RV (ρ:Nat->Option Nat):DVal->DVal->Prop
 | .raw x,d=>d= .raw x
 | .bool b,d=>d= .bool b
 | .int k n,d=>d= .int k n
 | .str s,d=>d= .str s
 | .nilPtr,d=>d= .nilPtr
 | .vptr cs off,d=> ∃cs',d= .vptr cs' off/\RVL ρ cs cs'
 | .optr k off,d=> ∃r,d= .optr r off/\ρ k=some r
 | .nilSlice,d=>d= .nilSlice
 | .vslice cs n,d=> ∃cs',d= .vslice cs' n/\RVL ρ cs cs'
 | .oslice sz k off len lo,d=> ∃r,d= .oslice sz r off len lo/\ρ k=some r
 | .nilMap,d=>d= .nilMap
 | .omap k,d=> ∃r,d= .omap r/\ρ k=some r
 | .func fn a c,d=> ∃a' c',d= .func fn a' c'/\RVL ρ a a'/\RVL ρ c c'
 | .nilFunc,d=>d= .nilFunc
 | .iface t v,d=> ∃v',d= .iface t v'/\RV ρ v v'
 | .nilIface,d=>d= .nilIface
 | .agg cs,d=> ∃cs',d= .agg cs'/\RVL ρ cs cs'
 | .tuple cs,d=> ∃cs',d= .tuple cs'/\RVL ρ cs cs'
def RVL (ρ:Nat->Option Nat):List DVal->List DVal->Prop
 | [],ds=>ds= []
 | x::xs,ds=> ∃y ys,ds=y::ys/\RV ρ x y/\RVL ρ xs ys
end
def RVM (ρ:Nat->Option Nat):List (DVal×DVal)->List (DVal×DVal)->Prop
 | [],es=>es= []
 | p::ps,es=> ∃q qs,es=q::qs/\RV ρ p.1 q.1/\RV ρ p.2 q.2/\RVM ρ ps qs
def RVP (ρ:Nat->Option Nat):List (Nat×DVal)->List (Nat×DVal)->Prop
 | [],es=>es= []
 | p::ps,es=> ∃v qs,es=(p.1,v)::qs/\RV ρ p.2 v/\RVP ρ ps qs
def LK (es es':List (DVal×DVal)):Prop:= ∀k r,Ek k es 0=some r-> ∃r',Ek k es' 0=some r'/\
 ((r=none/\r'=none)\/ ∃i j p p',r=some i/\r'=some j/\es[i]? =some p/\es'[j]? =some p'/\p.2=p'.2/\Gq p.2=true)
theorem LK.trans {a b c:List (DVal×DVal)} (h:LK a b) (k:LK b c):LK a c:=fun q r hr=>by
 obtain⟨r1,h1,h2⟩:=h q r hr;obtain⟨r2,k1,k2⟩:=k q r1 h1;refine⟨r2,k1, ?_⟩;rcases h2 with⟨rfl,rfl⟩ | ⟨i,j,p,p',rfl,rfl,e1,e2,e3,e4⟩
 ·rcases k2 with⟨_,rfl⟩ | ⟨i,j,p,p',e,_⟩
  ·exact .inl ⟨rfl,rfl⟩
  ·cases e
 ·rcases k2 with⟨e,_⟩ | ⟨i',j',q1,q2,e,rfl,f1,f2,f3,f4⟩
  ·cases e
  ·cases e;rw[e2] at f1;cases f1;exact .inr ⟨i,j',p,q2,rfl,rfl,e1,f2,e3.trans f3,e4⟩
def RO (ρ:Nat->Option Nat):DObj->DObj->Prop
 | .cells cs e,o=> ∃cs',o= .cells cs' e/\RVL ρ cs cs'
 | .map es,o=> ∃es',o= .map es'/\RVM ρ es es'
 | .iter s p,o=>o= .iter s p
 | .loop env n _,o=> ∃es',o= .map es'/\LK (Al1 env n) es'
def Ble (ρ ρ':Nat->Option Nat):Prop:= ∀k r,ρ k=some r->ρ' k=some r
theorem Ble.refl (ρ:Nat->Option Nat):Ble ρ ρ:=fun _ _ h=>h
theorem Ble.trans {ρ ρ' ρ'':Nat->Option Nat} (h:Ble ρ ρ') (k:Ble ρ' ρ''):Ble ρ ρ'':=fun a r e=>k a r (h a r e)
section
variable {ρ ρ':Nat->Option Nat}
mutual
theorem RV.mono (h:Ble ρ ρ'): ∀ {v d:DVal},RV ρ v d->RV ρ' v d
 | .raw _,_,hr=>by simpa only[RV] using hr
 | .bool _,_,hr=>by simpa only[RV] using hr
 | .int _ _,_,hr=>by simpa only[RV] using hr
 | .str _,_,hr=>by simpa only[RV] using hr
 | .nilPtr,_,hr=>by simpa only[RV] using hr
 | .vptr cs off,d,hr=>by
  simp only[RV] at hr⊢
  obtain⟨cs',e,hl⟩:=hr
  exact⟨cs',e,RVL.mono h hl⟩
 | .optr k off,d,hr=>by
  simp only[RV] at hr⊢
  obtain⟨r,e,hk⟩:=hr
  exact⟨r,e,h k r hk⟩
 | .nilSlice,_,hr=>by simpa only[RV] using hr
 | .vslice cs n,d,hr=>by
  simp only[RV] at hr⊢
  obtain⟨cs',e,hl⟩:=hr
  exact⟨cs',e,RVL.mono h hl⟩
 | .oslice sz k off len lo,d,hr=>by
  simp only[RV] at hr⊢
  obtain⟨r,e,hk⟩:=hr
  exact⟨r,e,h k r hk⟩
 | .nilMap,_,hr=>by simpa only[RV] using hr
 | .omap k,d,hr=>by
  simp only[RV] at hr⊢
  obtain⟨r,e,hk⟩:=hr
  exact⟨r,e,h k r hk⟩
 | .func fn a c,d,hr=>by
  simp only[RV] at hr⊢
  obtain⟨a',c',e,h1,h2⟩:=hr
  exact⟨a',c',e,RVL.mono h h1,RVL.mono h h2⟩
 | .nilFunc,_,hr=>by simpa only[RV] using hr
 | .iface t v,d,hr=>by
  simp only[RV] at hr⊢
  obtain⟨v',e,hv⟩:=hr
  exact⟨v',e,RV.mono h hv⟩
 | .nilIface,_,hr=>by simpa only[RV] using hr
 | .agg cs,d,hr=>by
  simp only[RV] at hr⊢
  obtain⟨cs',e,hl⟩:=hr
  exact⟨cs',e,RVL.mono h hl⟩
 | .tuple cs,d,hr=>by
  simp only[RV] at hr⊢
  obtain⟨cs',e,hl⟩:=hr
  exact⟨cs',e,RVL.mono h hl⟩
theorem RVL.mono (h:Ble ρ ρ'): ∀ {vs ds:List DVal},RVL ρ vs ds->RVL ρ' vs ds
 | [],_,hr=>by simpa only[RVL] using hr
 | x::xs,ds,hr=>by
  simp only[RVL] at hr⊢
  obtain⟨y,ys,e,h1,h2⟩:=hr
  exact⟨y,ys,e,RV.mono h h1,RVL.mono h h2⟩
end
theorem RVM.mono (h:Ble ρ ρ'): ∀ {vs ds:List (DVal×DVal)},RVM ρ vs ds->RVM ρ' vs ds
 | [],_,hr=>hr
 | x::xs,ds,hr=>by
  obtain⟨y,ys,e,h1,h2,h3⟩:=hr;exact⟨y,ys,e,RV.mono h h1,RV.mono h h2,RVM.mono h h3⟩
theorem RO.mono (h:Ble ρ ρ') {o o':DObj} (hr:RO ρ o o'):RO ρ' o o':=by
 cases o with
 | cells cs e=>
  obtain⟨cs',e,hl⟩:=hr;exact⟨cs',e,hl.mono h⟩
 | map es=>
  obtain⟨cs',e,hl⟩:=hr;exact⟨cs',e,hl.mono h⟩
 | iter s p=>exact hr
 | loop=>exact hr
mutual
/-- What it stands for is one value alone. -/
theorem RV.fn: ∀ {v d d':DVal},RV ρ v d->RV ρ v d'->d=d'
 | .raw _,_,_,h,h'=>by simp only[RV] at h h';rw[h,h']
 | .bool _,_,_,h,h'=>by simp only[RV] at h h';rw[h,h']
 | .int _ _,_,_,h,h'=>by simp only[RV] at h h';rw[h,h']
 | .str _,_,_,h,h'=>by simp only[RV] at h h';rw[h,h']
 | .nilPtr,_,_,h,h'=>by simp only[RV] at h h';rw[h,h']
 | .nilSlice,_,_,h,h'=>by simp only[RV] at h h';rw[h,h']
 | .nilMap,_,_,h,h'=>by simp only[RV] at h h';rw[h,h']
 | .nilFunc,_,_,h,h'=>by simp only[RV] at h h';rw[h,h']
 | .nilIface,_,_,h,h'=>by simp only[RV] at h h';rw[h,h']
 | .vptr cs off,_,_,h,h'=>by
  simp only[RV] at h h'
  obtain⟨a,rfl,h1⟩:=h;obtain⟨b,rfl,h2⟩:=h'
  rw[RVL.fn h1 h2]
 | .vslice cs off,_,_,h,h'=>by
  simp only[RV] at h h'
  obtain⟨a,rfl,h1⟩:=h;obtain⟨b,rfl,h2⟩:=h'
  rw[RVL.fn h1 h2]
 | .agg cs,_,_,h,h'=>by
  simp only[RV] at h h'
  obtain⟨a,rfl,h1⟩:=h;obtain⟨b,rfl,h2⟩:=h'
  rw[RVL.fn h1 h2]
 | .tuple cs,_,_,h,h'=>by
  simp only[RV] at h h'
  obtain⟨a,rfl,h1⟩:=h;obtain⟨b,rfl,h2⟩:=h'
  rw[RVL.fn h1 h2]
 | .func fn a c,_,_,h,h'=>by
  simp only[RV] at h h'
  obtain⟨a,b,rfl,h1,h3⟩:=h;obtain⟨a',b',rfl,h2,h4⟩:=h'
  rw[RVL.fn h1 h2,RVL.fn h3 h4]
 | .iface t v,_,_,h,h'=>by
  simp only[RV] at h h'
  obtain⟨a,rfl,h1⟩:=h;obtain⟨b,rfl,h2⟩:=h'
  rw[RV.fn h1 h2]
 | .optr k off,_,_,h,h'=>by
  simp only[RV] at h h'
  obtain⟨a,rfl,h1⟩:=h;obtain⟨b,rfl,h2⟩:=h'
  rw[h1] at h2;cases h2;rfl
 | .oslice _ k _ _ _,_,_,h,h'=>by
  simp only[RV] at h h'
  obtain⟨a,rfl,h1⟩:=h;obtain⟨b,rfl,h2⟩:=h'
  rw[h1] at h2;cases h2;rfl
 | .omap k,_,_,h,h'=>by
  simp only[RV] at h h'
  obtain⟨a,rfl,h1⟩:=h;obtain⟨b,rfl,h2⟩:=h'
  rw[h1] at h2;cases h2;rfl
theorem RVL.fn: ∀ {v d d':List DVal},RVL ρ v d->RVL ρ v d'->d=d'
 | [],_,_,h,h'=>by simp only[RVL] at h h';rw[h,h']
 | x::xs,_,_,h,h'=>by
  simp only[RVL] at h h'
  obtain⟨a,b,rfl,h1,h3⟩:=h;obtain⟨a',b',rfl,h2,h4⟩:=h'
  rw[RV.fn h1 h2,RVL.fn h3 h4]
end
theorem RVL.length: ∀ {xs ys:List DVal},RVL ρ xs ys->ys.length=xs.length
 | [],_,h=>by simp only[RVL] at h;subst h;rfl
 | x::xs,_,h=>by
  simp only[RVL] at h;obtain⟨a,b,rfl,h1,h2⟩:=h;simp [h2.length]
theorem RVL.append: ∀ {xs ys xs' ys':List DVal},RVL ρ xs xs'->RVL ρ ys ys'->RVL ρ (xs++ys) (xs'++ys')
 | [],_,_,_,h,k=>by simp only[RVL] at h;subst h;exact k
 | x::xs,_,_,_,h,k=>by
  simp only[RVL] at h;obtain⟨a,b,rfl,h1,h2⟩:=h;simp only[List.cons_append,RVL];exact⟨a,_,rfl,h1,h2.append k⟩
theorem RVL.take: ∀ {xs xs':List DVal} (n:Nat),RVL ρ xs xs'->RVL ρ (xs.take n) (xs'.take n)
 | [],_,n,h=>by simp only[RVL] at h;subst h;simp [RVL]
 | x::xs,_,0,h=>by simp [RVL]
 | x::xs,_,n+1,h=>by
  simp only[RVL] at h;obtain⟨a,b,rfl,h1,h2⟩:=h;simp only[List.take_succ_cons,RVL];exact⟨a,_,rfl,h1,h2.take n⟩
theorem RVL.drop: ∀ {xs xs':List DVal} (n:Nat),RVL ρ xs xs'->RVL ρ (xs.drop n) (xs'.drop n)
 | [],_,n,h=>by simp only[RVL] at h;subst h;simp [RVL]
 | x::xs,_,0,h=>by simpa using h
 | x::xs,_,n+1,h=>by
  simp only[RVL] at h;obtain⟨a,b,rfl,h1,h2⟩:=h;simpa only[List.drop_succ_cons] using h2.drop n
theorem RVL.get: ∀ {xs xs':List DVal} {n:Nat} {x:DVal},RVL ρ xs xs'->xs[n]? =some x-> ∃x',xs'[n]? =some x'/\RV ρ x x'
 | [],_,n,x,_,e=>by simp at e
 | y::xs,_,0,x,h,e=>by
  simp only[RVL] at h;obtain⟨a,b,rfl,h1,h2⟩:=h;simp only[List.getElem?_cons_zero,Option.some.injEq] at e;subst e;exact⟨a,rfl,h1⟩
 | y::xs,_,n+1,x,h,e=>by
  simp only[RVL] at h;obtain⟨a,b,rfl,h1,h2⟩:=h;simp only[List.getElem?_cons_succ] at e⊢
  exact h2.get e
theorem RVL.nil:RVL ρ [] []:=rfl
theorem RVL.cons {x y:DVal} {xs ys:List DVal} (h:RV ρ x y) (k:RVL ρ xs ys):RVL ρ (x::xs) (y::ys):=by
 simp only[RVL];exact⟨y,ys,rfl,h,k⟩
theorem RVL.inv {x:DVal} {xs ds:List DVal} (h:RVL ρ (x::xs) ds): ∃y ys,ds=y::ys/\RV ρ x y/\RVL ρ xs ys:=by simpa only[RVL] using h
theorem RVL.splice {xs xs' vs vs':List DVal} (off:Nat) (h:RVL ρ xs xs') (k:RVL ρ vs vs'):RVL ρ (splice xs off vs) (splice xs' off vs'):=by
 unfold Dl.splice;rw[k.length];exact((h.take off).append k).append (h.drop _)
theorem RVL.repl {zs zs':List DVal} (h:RVL ρ zs zs'): ∀n,RVL ρ (repl n zs) (repl n zs')
 | 0=>by simp [Dl.repl,RVL]
 | n+1=>by
  have:=RVL.repl h n;simp only[Dl.repl,List.replicate_succ,List.flatten_cons] at this⊢
  exact h.append this
theorem RVL.bytes (l:List UInt8):RVL ρ (l.map fun b=> .int .u8 b.toNat) (l.map fun b=> .int .u8 b.toNat):=by
 induction l with
 | nil=>exact rfl
 | cons x l ih=>exact .cons (by simp only[RV]) ih
theorem RV.one {v v':DVal} (h:RV ρ v v'):v'.one=v.one:=by
 cases v<;>simp only[RV] at h;all_goals first | (subst h;rfl) | (obtain⟨_,rfl,_⟩:=h;rfl) | (obtain⟨_,_,rfl,_⟩:=h;rfl)
theorem RVL.allOne: ∀ {xs ys:List DVal},RVL ρ xs ys->ys.all (·.one)=xs.all (·.one)
 | [],_,h=>by simp only[RVL] at h;subst h;rfl
 | x::xs,_,h=>by
  obtain⟨a,b,rfl,h1,h2⟩:=h.inv;simp only[List.all_cons,h1.one,h2.allOne]
theorem RV.cells {v v':DVal} (h:RV ρ v v'):RVL ρ v.cells v'.cells:=by
 have keep:=h;cases v<;>simp only[RV] at h;all_goals first
  | (subst h;exact .cons keep .nil)
  | (obtain⟨_,rfl,hl⟩:=h;first | exact hl | exact .cons keep .nil)
  | (obtain⟨_,_,rfl,_⟩:=h;exact .cons keep .nil)
theorem RV.int (k:IntKind) (n:Int):RV ρ (.int k n) (.int k n):=by simp only[RV]
theorem RV.bool (b:Bool):RV ρ (.bool b) (.bool b):=by simp only[RV]
theorem RV.str (b:List UInt8):RV ρ (.str b) (.str b):=by simp only[RV]
theorem RV.nilS:RV ρ .nilSlice .nilSlice:=by simp only[RV]
theorem RV.agg {cs cs':List DVal} (h:RVL ρ cs cs'):RV ρ (.agg cs) (.agg cs'):=by simp only[RV];exact⟨_,rfl,h⟩
theorem RV.tuple {cs cs':List DVal} (h:RVL ρ cs cs'):RV ρ (.tuple cs) (.tuple cs'):=by simp only[RV];exact⟨_,rfl,h⟩
theorem RV.undef:RV ρ Di Di:= .tuple .nil
theorem RV.vptr {cs cs':List DVal} (o:Nat) (h:RVL ρ cs cs'):RV ρ (.vptr cs o) (.vptr cs' o):=by simp only[RV];exact⟨_,rfl,h⟩
theorem RV.vslice {cs cs':List DVal} (o:Nat) (h:RVL ρ cs cs'):RV ρ (.vslice cs o) (.vslice cs' o):=by simp only[RV];exact⟨_,rfl,h⟩
theorem RV.optr {k r:Nat} (o:Nat) (h:ρ k=some r):RV ρ (.optr k o) (.optr r o):=by simp only[RV];exact⟨_,rfl,h⟩
theorem RV.oslice {k r:Nat} (a b c d:Nat) (h:ρ k=some r):RV ρ (.oslice a k b c d) (.oslice a r b c d):=by simp only[RV];exact⟨_,rfl,h⟩
theorem RV.omap {k r:Nat} (h:ρ k=some r):RV ρ (.omap k) (.omap r):=by simp only[RV];exact⟨_,rfl,h⟩
theorem RV.iface {v v':DVal} (t:TypeId) (h:RV ρ v v'):RV ρ (.iface t v) (.iface t v'):=by simp only[RV];exact⟨_,rfl,h⟩
theorem RV.func {a a' c c':List DVal} (f:Fn) (h:RVL ρ a a') (k:RVL ρ c c'):RV ρ (.func f a c) (.func f a' c'):=by simp only[RV];exact⟨_,_,rfl,h,k⟩
theorem Bh9: ∀v,RV ρ (De v) (De v):=by
 intro v;refine De.induct (motive_1:=fun v=>RV ρ (De v) (De v)) (motive_2:=fun vs=>RVL ρ (Fc vs) (Fc vs)) ?_ ?_ ?_ ?_ ?_ ?_ ?_ ?_ ?_ ?_ ?_ ?_ ?_ ?_ v;all_goals (intros;simp only[De,Fc];try first
  | (simp only[RV];done)
  | exact .agg (by assumption)
  | exact .tuple (by assumption)
  | exact .func _ (by assumption) (by assumption)
  | exact .cons (by assumption) (by assumption)
  | exact .nil)
 all_goals (unfold De;split<;>first | (simp only[RV];done) | (exfalso;simp_all;done))
theorem Ll {P:Program} {t:TypeId} {z:DVal} (h:Bz P t=some z):RV ρ z z:=by
 unfold Bz at h;cases hz:(P.info? t).bind (·.zero) with
 | none=>rw[hz] at h;cases h
 | some v=>rw[hz] at h;cases h;exact Bh9 v
end
mutual
theorem Ol {ρ:Nat->Option Nat}: ∀ {v:DVal},Gq v=true->RV ρ v v
 | .raw _,_=>by simp only[RV]
 | .bool _,_=>by simp only[RV]
 | .int _ _,_=>by simp only[RV]
 | .str _,_=>by simp only[RV]
 | .nilPtr,_=>by simp only[RV]
 | .nilSlice,_=>by simp only[RV]
 | .nilMap,_=>by simp only[RV]
 | .nilFunc,_=>by simp only[RV]
 | .nilIface,_=>by simp only[RV]
 | .vptr cs o,h=> .vptr o (Gt (by simpa only[Gq] using h))
 | .vslice cs o,h=> .vslice o (Gt (by simpa only[Gq] using h))
 | .agg cs,h=> .agg (Gt (by simpa only[Gq] using h))
 | .tuple cs,h=> .tuple (Gt (by simpa only[Gq] using h))
 | .iface t v,h=> .iface t (Ol (by simpa only[Gq] using h))
 | .func f a c,h=>by
  simp only[Gq,Bool.and_eq_true] at h
  exact .func f (Gt h.1) (Gt h.2)
 | .optr _ _,h=>by simp only[Gq] at h;cases h
 | .oslice _ _ _ _ _,h=>by simp only[Gq] at h;cases h
 | .omap _,h=>by simp only[Gq] at h;cases h
theorem Gt {ρ:Nat->Option Nat}: ∀ {vs:List DVal},Gz vs=true->RVL ρ vs vs
 | [],_=> .nil
 | v::vs,h=>by
  simp only[Gz,Bool.and_eq_true] at h
  exact .cons (Ol h.1) (Gt h.2)
end
structure RH (B:Bb) (ρ:Nat->Option Nat) (A:XH) (H:Bb):Prop where
 obj: ∀k o,Cc A k=some o-> ∃r o',ρ k=some r/\H r=some o'/\RO ρ o o'
 inj: ∀k k' r o o',Cc A k=some o->Cc A k'=some o'->ρ k=some r->ρ k'=some r->k=k'
 nx: ∀k,A.nx<=k->ρ k=none
 base: ∀r o,B r=some o->H r=some o
 low: ∀k r,ρ k=some r->B r=none
structure RS (B:Bb) (ρ:Nat->Option Nat) (E:Tr DVal) (A:XH) (s:DS):Prop where
 env: ∀i v,E.get i=some v->RV ρ v (s.env i)
 heap:RH B ρ A s.heap
def Ca (B:Bb) (ρ:Nat->Option Nat) (Q:DExit->DS->Prop):Out->Prop
 | .bad=>False
 | .norm E A=> ∀ρ' s',Ble ρ ρ'->RS B ρ' E A s'->Q .normal s'
 | .exit id E A=> ∀ρ' s',Ble ρ ρ'->RS B ρ' E A s'->Q (.exit id) s'
 | .ret E A=> ∀ρ' s',Ble ρ ρ'->RS B ρ' E A s'->Q .ret s'
 | .panic v E A=> ∀ρ' s' v',Ble ρ ρ'->RS B ρ' E A s'->RV ρ' v v'->Q (.panic v') s'
 | .panicX v A=> ∀ρ' s' v',Ble ρ ρ'->RH B ρ' A s'.heap->RV ρ' v v'->Q (.panic v') s'
def Ii (B:Bb) (ρ:Nat->Option Nat) (R:DEnd->Bb->Prop):COut->Prop
 | .bad=>False
 | .cret v A=> ∀ρ' H' v',Ble ρ ρ'->RH B ρ' A H'->RV ρ' v v'->R (.ret v') H'
 | .cpanic v A=> ∀ρ' H' v',Ble ρ ρ'->RH B ρ' A H'->RV ρ' v v'->R (.panic v') H'
section
variable {B:Bb} {ρ ρ':Nat->Option Nat} {E:Tr DVal} {A:XH} {s:DS} {K:DK} {Q Q':DExit->DS->Prop}
theorem Ca.le (h:Ble ρ ρ') {o:Out} (hr:Ca B ρ Q o):Ca B ρ' Q o:=by
 cases o with
 | bad=>exact hr
 | norm E A=>exact fun σ s' hl=>hr σ s' (h.trans hl)
 | exit id E A=>exact fun σ s' hl=>hr σ s' (h.trans hl)
 | ret E A=>exact fun σ s' hl=>hr σ s' (h.trans hl)
 | panic v E A=>exact fun σ s' v' hl=>hr σ s' v' (h.trans hl)
 | panicX v A=>exact fun σ s' v' hl=>hr σ s' v' (h.trans hl)
theorem Ii.le (h:Ble ρ ρ') {R:DEnd->Bb->Prop} {o:COut} (hr:Ii B ρ R o):Ii B ρ' R o:=by
 cases o with
 | bad=>exact hr
 | cret v A=>exact fun σ s' v' hl=>hr σ s' v' (h.trans hl)
 | cpanic v A=>exact fun σ s' v' hl=>hr σ s' v' (h.trans hl)
theorem RH.live {H:Bb} (h:RH B ρ A H) {k:Nat} {o:DObj} (hk:Cc A k=some o):k<A.nx:=by
 obtain⟨r,o',h1,_⟩:=h.obj k o hk;rcases Nat.lt_or_ge k A.nx with hl | hl
 ·exact hl
 ·rw[h.nx k hl] at h1;cases h1
theorem RS.put (hS:RS B ρ E A s) {E':Tr DVal} {d:Nat} {v v':DVal} (h: ∀j,E'.get j=if j=d then some v else E.get j) (hv:RV ρ v v'):RS B ρ E' A ⟨upd s.env d v',s.heap⟩:=by
 refine⟨fun i x hx=> ?_,hS.heap⟩;show RV ρ x (upd s.env d v' i);rw[h] at hx;unfold upd;by_cases e:i=d
 ·rw[if_pos e] at hx⊢;cases hx;exact hv
 ·rw[if_neg e] at hx⊢;exact hS.env i x hx
theorem Gb (hS:RS B ρ E A s) {dst:Option Nat} {v v':DVal} (hv:RV ρ v v') (h:Ca B ρ (Ff K Q) (Pw E A dst v)):Cb dst v' K s:=by
 unfold Pw at h;rw[Ax3] at h;cases dst with
 | none=>exact h ρ s (Ble.refl _) hS
 | some d=>
  simp only[Qu] at h;rcases Kk (z:=Out.bad) (x:=v) 10 E d (fun E=> .norm E A) with e | ⟨t',h1,e⟩
  ·rw[e] at h;exact h.elim
  ·rw[e] at h;exact h ρ _ (Ble.refl _) (hS.put h1 hv)
theorem Bi0 (hS:RS B ρ E A s) {dst:Option Nat} {v v':DVal} (hv:RV ρ v v') (h:Ca B ρ (Ff K Q) (Ag8 E A dst v)):Cb dst v' K s:=
 Gb hS hv (by unfold Pw;rw[Ax3];exact h)
theorem Ck2 (E:Tr DVal) (A:XH) (dst:Option Nat) (o:Option DVal):Kj E A dst o=Gl E A dst o:=by
 cases o with
 | none=>rfl
 | some v=>show Ag8 E A dst v=Pw E A dst v;unfold Pw;rw[Ax3];rfl
theorem Cy6 (hS:RS B ρ E A s) {dst:Option Nat} {o:Option DVal} (h:Ca B ρ (Ff K Q) (Gl E A dst o)): ∃v,o=some v/\ ∀v',RV ρ v v'->Cb dst v' K s:=by
 cases o with
 | none=>exact h.elim
 | some v=>exact⟨v,rfl,fun v' hv=>Gb hS hv h⟩
theorem Bi1 {A:XH} {tr':Tr (Option DObj)} {k:Nat} {o:Option DObj} {n:Nat} (h: ∀j,tr'.get j=if j=k then some o else A.tr.get j) (i:Nat):Cc ⟨tr',n⟩ i=if i=k then o else Cc A i:=by
 unfold Cc
 show(match tr'.get i with | some (some o)=>some o | _=>none)=_
 rw[h]
 by_cases e:i=k
 ·rw[if_pos e,if_pos e];cases o<;>rfl
 ·rw[if_neg e,if_neg e];try rfl
theorem Sd {k:Nat} {o:Option DObj} {κ:XH->Out} {r:Nat} {ob ob':DObj} {Q:DExit->DS->Prop} (hS:RS B ρ E A s) (hk:Cc A k=some ob) (hr:ρ k=some r) (ho: ∀o1,o=some o1->RO ρ o1 ob')
  (h:Ca B ρ Q (Ag9 A k o κ)): ∃A',Ca B ρ Q (κ A')/\RS B ρ E A' ⟨s.env,upd s.heap r (o.map fun _=>ob')⟩/\A'.nx=A.nx/\(∀i,Cc A' i=if i=k then o else Cc A i):=by
 have key: ∃tr',(∀j,tr'.get j=if j=k then some o else A.tr.get j)/\Ca B ρ Q (κ ⟨tr',A.nx⟩):=by
  unfold Ag9 at h;obtain⟨tr,nx⟩:=A;cases o with
  | some o1=>
   simp only[Cy4] at h;rcases Kk (z:=Out.bad) (x:=some o1) 24 tr k (fun tr=>κ ⟨tr,nx⟩) with e | ⟨t',h1,e⟩
   ·rw[e] at h;exact h.elim
   ·rw[e] at h;exact⟨t',h1,h⟩
  | none=>
   simp only at h;rcases Kk (z:=Out.bad) (x:=(none:Option DObj)) 24 tr k (fun tr=>κ ⟨tr,nx⟩) with e | ⟨t',h1,e⟩
   ·rw[e] at h;exact h.elim
   ·rw[e] at h;exact⟨t',h1,h⟩
 obtain⟨tr',h1,h2⟩:=key;have hg:=fun i=>Bi1 (A:=A) (n:=A.nx) h1 i;refine⟨⟨tr',A.nx⟩,h2,⟨hS.env, ?_⟩,rfl,hg⟩;have hkeep:=hS.heap;refine⟨fun k' o' hk'=> ?_,fun k1 k2 r' o1 o2 g1 g2 e1 e2=> ?_,hkeep.nx,fun r' o' hb=> ?_,hkeep.low⟩
 ·rw[hg] at hk';by_cases e:k'=k
  ·rw[if_pos e] at hk';subst e;subst hk';exact⟨r,ob',hr,by simp [upd],ho _ rfl⟩
  ·rw[if_neg e] at hk';obtain⟨r1,o1,h3,h4,h5⟩:=hkeep.obj k' o' hk';refine⟨r1,o1,h3, ?_,h5⟩;have:r1≠r:=fun er=>e (hkeep.inj k' k r _ _ hk' hk (er▸h3) hr);simp [upd,this,h4]
 ·rw[hg] at g1 g2;by_cases c1:k1=k<;>by_cases c2:k2=k
  ·rw[c1,c2]
  ·rw[if_neg c2] at g2;subst c1;exact hkeep.inj k1 k2 r' _ _ hk g2 e1 e2
  ·rw[if_neg c1] at g1;subst c2;exact hkeep.inj k1 k2 r' _ _ g1 hk e1 e2
  ·rw[if_neg c1] at g1;rw[if_neg c2] at g2;exact hkeep.inj k1 k2 r' _ _ g1 g2 e1 e2
 ·have h3:=hkeep.base r' o' hb;have:r'≠r:=fun e=>by
   have:=hkeep.low k r hr;rw[e,this] at hb;cases hb
  simp [upd,this,h3]
theorem Se {o o':DObj} {κ:Nat->XH->Out} {r:Nat} {Q:DExit->DS->Prop} (hS:RS B ρ E A s) (hr:s.heap r=none) (ho:RO ρ o o') (h:Ca B ρ Q (Ah0 A o κ)):
  ∃A' ρ',Ble ρ ρ'/\ρ' A.nx=some r/\Ca B ρ' Q (κ A.nx A')/\RS B ρ' E A' ⟨s.env,upd s.heap r (some o')⟩:=by
 have key: ∃tr',(∀j,tr'.get j=if j=A.nx then some (some o) else A.tr.get j)/\Ca B ρ Q (κ A.nx ⟨tr',A.nx+1⟩):=by
  unfold Ah0 at h;obtain⟨tr,nx⟩:=A;simp only[Cy4,Kq] at h;rcases Kk (z:=Out.bad) (x:=some o) 24 tr nx (fun tr=>κ nx ⟨tr,nx+1⟩) with e | ⟨t',h1,e⟩
  ·rw[e] at h;exact h.elim
  ·rw[e] at h;exact⟨t',h1,h⟩
 obtain⟨tr',h1,h2⟩:=key;have hg:=fun i=>Bi1 (A:=A) (n:=A.nx+1) h1 i;have hkeep:=hS.heap;have hnone:ρ A.nx=none:=hkeep.nx _ (Nat.le_refl _);have hle:Ble ρ (fun k=>if k=A.nx then some r else ρ k):=fun k r1 e=>by
  have:k≠A.nx:=fun c=>by rw[c,hnone] at e;cases e
  simp [this,e]
 have hBr:B r=none:=by
  cases e:B r with
  | none=>rfl
  | some x=>rw[hkeep.base r x e] at hr;cases hr
 refine⟨⟨tr',A.nx+1⟩,fun k=>if k=A.nx then some r else ρ k,hle,by simp,h2.le hle,⟨fun i v hi=>(hS.env i v hi).mono hle, ?_⟩⟩;refine⟨fun k' o1 hk'=> ?_,fun k1 k2 r' o1 o2 g1 g2 e1 e2=> ?_,fun k hk=> ?_,fun r' o1 hb=> ?_,fun k r1 e=> ?_⟩
 ·rw[hg] at hk';by_cases e:k'=A.nx
  ·rw[if_pos e] at hk';cases hk';exact⟨r,o',by simp [e],by simp [upd],ho.mono hle⟩
  ·rw[if_neg e] at hk';obtain⟨r1,o2,h3,h4,h5⟩:=hkeep.obj k' o1 hk';refine⟨r1,o2,by simp [e,h3], ?_,h5.mono hle⟩;have:r1≠r:=fun er=>by rw[er,hr] at h4;cases h4
   simp [upd,this,h4]
 ·rw[hg] at g1 g2;by_cases c1:k1=A.nx<;>by_cases c2:k2=A.nx
  ·rw[c1,c2]
  ·rw[if_neg c2] at g2;simp only[c1,if_true,c2,if_false] at e1 e2;cases e1;obtain⟨r3,o3,x1,x2,x3⟩:=hkeep.obj k2 o2 g2;rw[x1] at e2;cases e2;rw[hr] at x2;cases x2
  ·rw[if_neg c1] at g1;simp only[c1,if_true,c2,if_false] at e1 e2;cases e2;obtain⟨r3,o3,x1,x2,x3⟩:=hkeep.obj k1 o1 g1;rw[x1] at e1;cases e1;rw[hr] at x2;cases x2
  ·rw[if_neg c1] at g1;rw[if_neg c2] at g2;simp only[c1,c2,if_false] at e1 e2;exact hkeep.inj k1 k2 r' _ _ g1 g2 e1 e2
 ·have hk':A.nx+1<=k:=hk;have:k≠A.nx:=by omega
  simp only[this,if_false];exact hkeep.nx k (by omega)
 ·have h3:=hkeep.base r' o1 hb;have:r'≠r:=fun e=>by rw[e,hBr] at hb;cases hb
  simp [upd,this,h3]
 ·by_cases c:k=A.nx
  ·simp only[c,if_true] at e;cases e;exact hBr
  ·simp only[c,if_false] at e;exact hkeep.low k r1 e
end
end Go.Dl

-- AN INTERPRETER OF THE DATA LEVEL, PART 3: the values that operations give are those of the data level.
namespace Go.Dl
open Go
section
variable {P:Program} {gt:Nat->Option DVal} {G:Nat->DVal}
variable {B:Bb} {ρ:Nat->Option Nat} {E:Tr DVal} {A:XH} {s:DS} {Q:DExit->DS->Prop}
theorem Bt3 {R:Type} {z:R} (hgt: ∀g d,gt g=some d-> ∀ρ,RV ρ d (G g)) (hS:RS B ρ E A s) (o:Operand) (κ:DVal->R):evK gt z E o κ=z\/ ∃v,RV ρ v (dev G s.env o)/\evK gt z E o κ=κ v:=by
 cases o with
 | tmp t=>
  simp only[evK,dev];cases h:E.get t with
  | none=>exact .inl rfl
  | some v=>exact .inr ⟨v,hS.env t v h,rfl⟩
 | const v=>exact .inr ⟨_,Bh9 v,rfl⟩
 | global g=>
  simp only[evK,dev];cases h:gt g with
  | none=>exact .inl rfl
  | some d=>exact .inr ⟨d,hgt g d h ρ,rfl⟩
 | func f=>exact .inr ⟨_, .func _ .nil .nil,rfl⟩
theorem Dq (hgt: ∀g d,gt g=some d-> ∀ρ,RV ρ d (G g)) (hS:RS B ρ E A s) {o:Operand} {κ:DVal->Out} (h:Ca B ρ Q (evK gt .bad E o κ)): ∃v,RV ρ v (dev G s.env o)/\Ca B ρ Q (κ v):=by
 rcases Bt3 hgt hS o κ with e | ⟨v,h1,e⟩
 ·rw[e] at h;exact h.elim
 ·rw[e] at h;exact⟨v,h1,h⟩
theorem Ai0 (hgt: ∀g d,gt g=some d-> ∀ρ,RV ρ d (G g)) (hS:RS B ρ E A s): ∀ {os:List Operand} {κ:List DVal->Out},Ca B ρ Q (Vs gt .bad E os κ)-> ∃vs,RVL ρ vs (Ei G s.env os)/\Ca B ρ Q (κ vs)
 | [],κ,h=>⟨[],rfl,h⟩
 | o::os,κ,h=>by
  obtain⟨v,h1,h2⟩:=Dq hgt hS (o:=o) (κ:=fun v=>Vs gt .bad E os fun vs=>κ (v::vs)) h;obtain⟨vs,h3,h4⟩:=Ai0 hgt hS h2;exact⟨v::vs, .cons h1 h3,h4⟩
theorem Ai1 (hgt: ∀g d,gt g=some d-> ∀ρ,RV ρ d (G g)) (hS:RS B ρ E A s): ∀ {os:List (Nat×Operand)} {κ:List (Nat×DVal)->Out},Ca B ρ Q (Xg gt .bad E os κ)-> ∃vs,RVP ρ vs (Hb G s.env os)/\Ca B ρ Q (κ vs)
 | [],κ,h=>⟨[],rfl,h⟩
 | (i,o)::os,κ,h=>by
  obtain⟨v,h1,h2⟩:=Dq hgt hS (o:=o) (κ:=fun v=>Xg gt .bad E os fun vs=>κ ((i,v)::vs)) h;obtain⟨vs,h3,h4⟩:=Ai1 hgt hS h2;exact⟨(i,v)::vs,⟨_,_,rfl,h1,h3⟩,h4⟩
def RVo (ρ:Nat->Option Nat):Option DVal->Option DVal->Prop
 | some v,some d=>RV ρ v d
 | none,none=>True
 | _,_=>False
theorem Ax4 (hgt: ∀g d,gt g=some d-> ∀ρ,RV ρ d (G g)) (hS:RS B ρ E A s) {o:Option Operand} {κ:Option DVal->Out} (h:Ca B ρ Q (Av4 gt .bad E o κ)): ∃v,RVo ρ v (Ks G s.env o)/\Ca B ρ Q (κ v):=by
 cases o with
 | none=>exact⟨none,trivial,h⟩
 | some x=>
  obtain⟨v,h1,h2⟩:=Dq hgt hS (o:=x) (κ:=fun v=>κ (some v)) h;exact⟨some v,h1,h2⟩
def Ep (ρ:Nat->Option Nat) (v:DVal) (F:Option Nat->DK->DS->Prop) (s:DS):Prop:= ∃v',RV ρ v v'/\ ∀dst K,Cb dst v' K s->F dst K s
theorem Cy7 {c a b c' a' b' v:DVal} (hv:By1 c a b=some v) (hc:RV ρ c c') (ha:RV ρ a a') (hb:RV ρ b b'):Ep ρ v (fun dst=>Al9 dst c' a' b') s:=by
 unfold By1 at hv;split at hv<;>cases hv<;>simp only[RV] at hc<;>subst hc
 ·exact⟨a',ha,fun _ _ h=>h⟩
 ·exact⟨b',hb,fun _ _ h=>h⟩
theorem Wd {place:Nat->Option (Nat×Nat)}: ∀ {parts parts':List (Nat×DVal)} {cs cs' out:List DVal},RVP ρ parts parts'->RVL ρ cs cs'->Iz place cs parts=some out-> ∃out',Iz place cs' parts'=some out'/\RVL ρ out out'
 | [],_,cs,cs',out,hp,hc,h=>by
  simp only[RVP] at hp;subst hp;simp only[Iz] at h;cases h;exact⟨cs',rfl,hc⟩
 | (i,v)::parts,_,cs,cs',out,hp,hc,h=>by
  obtain⟨v',qs,rfl,hv,hq⟩:=hp;simp only[Iz] at h⊢
  cases hpl:place i with
  | none=>rw[hpl] at h;cases h
  | some os=>
   obtain⟨off,size⟩:=os;rw[hpl] at h;simp only at h⊢
   rw[hv.cells.length,hc.length];split at h
   ·rename_i hcond
    rw[if_pos hcond];exact Wd hq (((hc.take off).append hv.cells).append (hc.drop _)) h
   ·cases h
theorem Ck3 {b:Bool} {t:Option TypeDesc} {z:Option DVal} {ps ps':List (Nat×DVal)} {v:DVal} (hz: ∀x,z=some x->RV ρ x x) (hv:Av5 P b t z ps=some v) (hp:RVP ρ ps ps'):Ep ρ v (fun dst=>Tk P dst b t z ps') s:=by
 unfold Av5 at hv;split at hv<;>try (cases hv;done)
 ·rename_i fields x
  rw[Wc] at hv;split at hv<;>cases hv
  rename_i out h1
  obtain⟨out',h2,h3⟩:=Wd hp (hz x rfl).cells h1;exact⟨_, .agg h3,fun dst K h=>by simp only[Tk,h2,Option.map_some,Hv];exact h⟩
 ·rename_i n e x
  rw[Wc] at hv;split at hv<;>cases hv
  rename_i out h1
  obtain⟨out',h2,h3⟩:=Wd hp (hz x rfl).cells h1;exact⟨_, .agg h3,fun dst K h=>by simp only[Tk,h2,Option.map_some,Hv];exact h⟩
theorem Bi2 {size off:Nat} {ag:Option Bool} {cs cs':List DVal} {v:DVal} (hc:RVL ρ cs cs') (hv:Rl size cs off ag=some v):Ep ρ v (fun dst=>Tl size dst ag cs' off) s:=by
 unfold Rl at hv;split at hv
 ·split at hv<;>cases hv
  rename_i hle
  exact⟨_, .agg ((hc.drop off).take size),fun dst K h=>⟨by rw[hc.length];exact hle,h⟩⟩
 ·obtain⟨x',h1,h2⟩:=hc.get hv;exact⟨x',h2,fun dst K h=>by simp only[Tl,h1,Hv];exact h⟩
 ·cases hv
theorem Kl {cs:List DVal} {e:TypeId} {k:Nat} (hS:RH B ρ A s.heap) (h:Cc A k=some (.cells cs e)): ∃r cs',ρ k=some r/\s.heap r=some (.cells cs' e)/\RVL ρ cs cs':=by
 obtain⟨r,o',h1,h2,cs',rfl,h3⟩:=hS.obj k _ h;exact⟨r,cs',h1,h2,h3⟩
theorem Cy8 {size:Nat} {ag:Option Bool} {a a' v:DVal} (hS:RH B ρ A s.heap) (ha:RV ρ a a') (hv:By2 size ag A a=some v):Ep ρ v (fun dst=>Xt size ag dst a') s:=by
 unfold By2 at hv;split at hv
 ·simp only[RV] at ha;obtain⟨cs',rfl,hl⟩:=ha;rw[Xj] at hv;exact Bi2 hl hv
 ·simp only[RV] at ha;obtain⟨r,rfl,hr⟩:=ha;unfold Av7 at hv;split at hv
  ·rename_i cs e heq
   obtain⟨r',cs',h1,h2,h3⟩:=Kl hS heq;rw[hr] at h1;cases h1;rw[Xj] at hv;obtain⟨v',h4,h5⟩:=Bi2 (s:=s) h3 hv;exact⟨v',h4,fun dst K h=>by simp only[Xt,h2,Ab1];exact h5 dst K h⟩
  ·cases hv
 ·cases hv
theorem Dj4 {x x' v:DVal} (hx:RV ρ x x') (hv:Dj0 x=some v):Ep ρ v (fun dst=>Ns dst x') s:=by
 have keep:=hx;unfold Dj0 at hv;split at hv<;>cases hv<;>simp only[RV] at hx;all_goals first
  | (obtain⟨_,rfl,_⟩:=hx;exact⟨_,keep,fun _ _ h=>h⟩)
  | (obtain⟨_,_,rfl,_⟩:=hx;exact⟨_,keep,fun _ _ h=>h⟩)
theorem Ax5 {o b:Option Bool} {v:DVal} (hv:Bs3 o b=some v):Ep ρ v (fun dst=>Kz dst o b) s:=by
 unfold Bs3 at hv;split at hv<;>cases hv<;>exact⟨_, .bool _,fun _ _ h=>h⟩
theorem Dj5 {k:IntKind} {a b:Int} {op:BinOp} {v:DVal} (hv:Dv5 k a b op=some v):Ep ρ v (fun dst K s=>Um k a b dst K s op) s:=by
 have e:Dv5 k a b op=Dm9 k a b op:=by cases op<;>rfl
 rw[e] at hv;unfold Dm9 at hv;split at hv<;>(try split at hv)<;>cases hv<;>first
  | exact⟨_, .int _ _,fun _ _ h=>h⟩
  | exact⟨_, .bool _,fun _ _ h=>h⟩
  | exact⟨_, .int _ _,fun _ _ h=>⟨by assumption,h⟩⟩
theorem Ck4 {k:IntKind} {a b:Int} {op:BinOp} {v:DVal} (hv:Bs4 k a b op=some v):Ep ρ v (fun dst K s=>Ab3 k a b dst K s op) s:=by
 unfold Bs4 at hv;split at hv<;>(try split at hv)<;>cases hv;all_goals exact⟨_, .int _ _,fun _ _ h=>⟨by assumption,h⟩⟩
theorem Aa4: ∀a b:List UInt8,Bs5 a b=decide (a=b)
 | [],[]=>rfl
 | [],_::_=>rfl
 | _::_,[]=>rfl
 | x::a,y::b=>by
  show Bool.rec (motive:=fun _=>Bool) false (Bs5 a b) (Nat.beq x.toNat y.toNat)=_;by_cases h:x=y
  ·subst h;have:Nat.beq x.toNat x.toNat=true:=Nat.beq_refl _;rw[this,Aa4 a b];simp
  ·have:Nat.beq x.toNat y.toNat=false:=by
    cases hb:Nat.beq x.toNat y.toNat with
    | false=>rfl
    | true=>exact(h (UInt8.toNat_inj.1 (Nat.eq_of_beq_eq_true hb))).elim
   rw[this];simp [h]
theorem Dj6 {a b:List UInt8} {op:BinOp} {v:DVal} (hv:Dv6 a b op=some v):Ep ρ v (fun dst K s=>Si a b dst K s op) s:=by
 unfold Dv6 at hv;split at hv<;>(try split at hv)<;>cases hv<;>(try rw[Aa4])<;>first
  | exact⟨_, .bool _,fun _ _ h=>h⟩
  | exact⟨_, .str _,fun _ _ h=>⟨by assumption,h⟩⟩
theorem Aa5 {size off:Nat} {ag:Option Bool} {xs xs':List DVal} (h:RVL ρ xs xs'):RVL ρ (Er size off xs ag) (Er size off xs' ag):=by
 unfold Er;split
 ·exact(h.drop off).take size
 ·exact(h.drop off).take 1
 ·exact .nil
theorem Bt4 {a b:Option Bool} {c:Bool} (h:Bk7 a b=some c):(a=some true/\b=some c)\/(a=some false/\c=false/\ ∃d,b=some d):=by
 unfold Bk7 at h;split at h
 ·exact .inl ⟨rfl,h⟩
 ·cases h;exact .inr ⟨rfl,rfl,_,rfl⟩
 ·cases h
theorem Ap4 {a b a' b':Option Bool} {c:Bool} (h:Bk7 a b=some c) (ha: ∀x,a=some x->a'=some x) (hb: ∀x,b=some x->b'=some x):Bk7 a' b'=some c:=by
 rcases Bt4 h with⟨h1,h2⟩ | ⟨h1,rfl,d,h2⟩
 ·rw[ha _ h1,hb _ h2];rfl
 ·rw[ha _ h1,hb _ h2];rfl
theorem Ap5 {f f':TypeId->Nat->Option Bool} (hf: ∀t o b,f t o=some b->f' t o=some b): ∀ {fs:List Field} {b:Bool},Ab2 f fs=some b->Ab2 f' fs=some b
 | [],b,h=>h
 | x::fs,b,h=>by
  simp only[Ab2] at h⊢
  split at h
  ·rename_i hn
   rw[if_pos hn];exact Ap4 h (hf _ _) fun _ h=>Ap5 hf h
  ·cases h
theorem Ap6 {f f':Nat->Option Bool} (hf: ∀o b,f o=some b->f' o=some b): ∀ {is:List Nat} {b:Bool},Xu f is=some b->Xu f' is=some b
 | [],b,h=>h
 | x::is,b,h=>by
  simp only[Xu] at h⊢
  exact Ap4 h (hf _) fun _ h=>Ap6 hf h
theorem Hq {x:DVal} {ds:List DVal} (h:RVL ρ [x] ds): ∃y,ds= [y]/\RV ρ x y:=by
 obtain⟨y,ys,rfl,h1,h2⟩:=h.inv;simp only[RVL] at h2;subst h2;exact⟨y,rfl,h1⟩
theorem Bt5: ∀(n:Nat) {t:TypeId} {xs xs' ys ys':List DVal} {b:Bool},RVL ρ xs xs'->RVL ρ ys ys'->Qo P n t xs ys=some b->Qo P n t xs' ys'=some b
 | 0,_,_,_,_,_,_,_,_,h=>by cases h
 | n+1,t,xs,xs',ys,ys',b,hx,hy,h=>by
  simp only[Qo] at h⊢
  unfold Qy at h⊢
  split at h
  ·unfold Am0 at h;split at h<;>cases h;obtain⟨a,rfl,h1⟩:=Hq hx;obtain⟨c,rfl,h2⟩:=Hq hy;simp only[RV] at h1 h2;subst h1;subst h2;rfl
  ·unfold Az0 at h;split at h<;>try cases h
   obtain⟨a,rfl,h1⟩:=Hq hx;obtain⟨c,rfl,h2⟩:=Hq hy;simp only[RV] at h1 h2;subst h1;subst h2;exact h
  ·unfold Az1 at h;split at h<;>cases h;obtain⟨a,rfl,h1⟩:=Hq hx;obtain⟨c,rfl,h2⟩:=Hq hy;simp only[RV] at h1 h2;subst h1;subst h2;rfl
  ·unfold Cm8 at h⊢
   split at h
   ·cases h
   ·exact Ap5 (fun u o b h=>Bt5 n (Aa5 hx) (Aa5 hy) h) h
  ·split at h
   ·rename_i hi
    rw[if_pos hi];exact Ap6 (fun o b h=>Bt5 n (Aa5 hx) (Aa5 hy) h) h
   ·cases h
  ·cases h
theorem Dw5 {c b:Bool} {td:Option TypeDesc} {x y x' y':DVal} (hx:RV ρ x x') (hy:RV ρ y y') (h:Lg c td x y=some b):
  Lg c td x' y'=some b/\ ∀(P:Program) t op dst K s,Ix P t c op dst x' y' K s=Kz dst (Kr op) (Lg c (P.underlying t) x' y') K s:=by
 have h0:=h;unfold Lg at h;split at h<;>(try (cases h;done))<;>simp only[RV] at hx hy;all_goals first
  | (subst hx;subst hy;exact⟨h0,fun _ _ _ _ _ _=>rfl⟩)
  | (subst hx;obtain⟨_,rfl,_⟩:=hy;exact⟨h0,fun _ _ _ _ _ _=>rfl⟩)
  | (subst hy;obtain⟨_,rfl,_⟩:=hx;exact⟨h0,fun _ _ _ _ _ _=>rfl⟩)
  | (subst hx;obtain⟨_,_,rfl,_⟩:=hy;exact⟨h0,fun _ _ _ _ _ _=>rfl⟩)
  | (subst hy;obtain⟨_,_,rfl,_⟩:=hx;exact⟨h0,fun _ _ _ _ _ _=>rfl⟩)
theorem Dj7 {t:TypeId} {c:Bool} {op:BinOp} {x y x' y' v:DVal} (hx:RV ρ x x') (hy:RV ρ y y') (hv:Dv7 P t c op x y=some v):Ep ρ v (fun dst=>Ix P t c op dst x' y') s:=by
 unfold Dv7 at hv;split at hv
 ·rename_i k a k' b
  simp only[RV] at hx hy;subst hx;subst hy;split at hv
  ·rename_i hs
   obtain⟨v',h1,h2⟩:=Ck4 (ρ:=ρ) (s:=s) hv;exact⟨v',h1,fun dst K h=>by simp only[Ix,hs,Am1];exact h2 dst K h⟩
  ·rename_i hs
   split at hv
   ·rename_i hk
    obtain⟨v',h1,h2⟩:=Dj5 (ρ:=ρ) (s:=s) hv;exact⟨v',h1,fun dst K h=>by simp only[Ix,hs,Am1];exact⟨hk,h2 dst K h⟩⟩
   ·cases hv
 ·simp only[RV] at hx hy;subst hx;subst hy;exact Dj6 hv
 ·simp only[RV] at hx hy;obtain⟨xs',rfl,hx⟩:=hx;obtain⟨ys',rfl,hy⟩:=hy;split at hv
  ·rename_i hc
   rename_i xs ys
   cases he:Qo P 6 t xs ys with
   | none=>rw[he] at hv;unfold Bs3 at hv;split at hv<;>simp_all
   | some b=>
    rw[he] at hv;obtain⟨v',h1,h2⟩:=Ax5 (ρ:=ρ) (s:=s) hv;exact⟨v',h1,fun dst K h=>⟨hc.1,hc.2,by rw[Bt5 6 hx hy he];exact h2 dst K h⟩⟩
  ·cases hv
 ·cases he:Lg c (P.underlying t) x y with
  | none=>rw[he] at hv;unfold Bs3 at hv;split at hv<;>simp_all
  | some b=>
   rw[he] at hv;obtain⟨v',h1,h2⟩:=Ax5 (ρ:=ρ) (s:=s) hv;refine⟨v',h1,fun dst K h=> ?_⟩;obtain⟨h3,h4⟩:=Dw5 hx hy he;show Ix P t c op dst x' y' K s;rw[h4,h3];exact h2 dst K h
end
end Go.Dl

-- AN INTERPRETER OF THE DATA LEVEL, PART 4: the values that operations give, continued.
namespace Go.Dl
open Go
section
variable {P:Program} {G:Nat->DVal}
variable {B:Bb} {ρ:Nat->Option Nat} {E:Tr DVal} {A:XH} {s:DS}
theorem Cy9 {t:TypeId} {c n:Bool} {op:BinOp} {x y x' y' v:DVal} (hx:RV ρ x x') (hy:RV ρ y y') (hv:By3 P t c op n x y=some v):Ep ρ v (fun dst=>Sz P t c op dst n x' y') s:=by
 unfold By3 at hv;split at hv
 ·split at hv
  ·rename_i hs
   simp only[RV] at hx;obtain⟨cs',rfl,hl⟩:=hx;obtain⟨a,b,rfl,_,_⟩:=hl.inv;obtain⟨v',h1,h2⟩:=Ax5 (ρ:=ρ) (s:=s) hv;refine⟨v',h1,fun dst K h=>⟨hs,fun b hb=> ?_⟩⟩;rw[hb (by simp)];exact h2 dst K h
  ·cases hv
 ·cases hv
 ·rename_i hne1 hne2
  obtain⟨v',h1,h2⟩:=Dj7 (s:=s) hx hy hv;refine⟨v',h1,fun dst K h=> ?_⟩;have h3:=h2 dst K h;cases n with
  | false=>show Sz P t c op dst false x' y' K s;rw[Kt];exact h3
  | true=>
   cases x<;>simp only[RV] at hx
   case vslice cs m=>cases cs with
    | nil=>exact(hne2 m rfl rfl).elim
    | cons a cs=>exact(hne1 a cs m rfl rfl).elim
   all_goals first
    | (subst hx;exact h3)
    | (obtain⟨_,rfl,_⟩:=hx;exact h3)
    | (obtain⟨_,_,rfl,_⟩:=hx;exact h3)
theorem Dw6 {op:UnOp} {x x' v:DVal} (hx:RV ρ x x') (hv:vUn op x=some v):Ep ρ v (fun dst=>dUn dst op x') s:=by
 unfold vUn at hv;split at hv<;>cases hv<;>simp only[RV] at hx<;>subst hx
 ·exact⟨_, .bool _,fun _ _ h=>h⟩
 ·exact⟨_, .int _ _,fun _ _ h=>h⟩
 ·exact⟨_, .int _ _,fun _ _ h=>h⟩
theorem Dj8 {t:Option TypeDesc} (h:Dv8 t=true):t=some (.int .u8):=by
 unfold Dv8 at h;split at h
 ·rfl
 ·cases h
theorem Bt6 {n off:Nat} {k r:Nat} {l:List DVal} (hS:RH B ρ A s.heap) (hr:ρ k=some r) (hv:Oq n off (Cc A k)=some l): ∃l',Oq n off (s.heap r)=some l'/\RVL ρ l l':=by
 unfold Oq at hv;split at hv
 ·rename_i cs e heq
  obtain⟨r',cs',h1,h2,h3⟩:=Kl hS heq;rw[hr] at h1;cases h1;split at hv<;>cases hv
  rename_i hle
  refine⟨_, ?_,(h3.drop off).take n⟩;rw[h2];simp only[Oq,h3.length];rw[if_pos hle]
 ·cases hv
theorem Dj9 {x x':DVal} {l:List DVal} (hS:RH B ρ A s.heap) (hx:RV ρ x x') (hv:Dv9 A x=some l): ∃l',Ot s.heap x'=some l'/\RVL ρ l l':=by
 unfold Dv9 at hv;split at hv
 ·cases hv;simp only[RV] at hx;subst hx;exact⟨[],rfl, .nil⟩
 ·simp only[RV] at hx;obtain⟨cs',rfl,hl⟩:=hx;split at hv<;>cases hv
  rename_i hle
  exact⟨_,by simp only[Ot,hl.length];rw[if_pos hle],hl.take _⟩
 ·simp only[RV] at hx;obtain⟨r,rfl,hr⟩:=hx;exact Bt6 hS hr hv
 ·cases hv
theorem Bi3: ∀ {ds ds':List DVal} {l:List UInt8},RVL ρ ds ds'->Ld ds=some l->Ld ds'=some l
 | [],_,l,h,hv=>by simp only[RVL] at h;subst h;exact hv
 | d::ds,_,l,h,hv=>by
  obtain⟨y,ys,rfl,h1,h2⟩:=h.inv;unfold Ld at hv;split at hv
  ·rename_i hd;cases hd
  ·rename_i n ds0 hd
   cases hd;simp only[RV] at h1;subst h1;cases hm:Ld ds with
   | none=>rw[hm] at hv;cases hv
   | some m=>
    rw[hm] at hv;simp only[Ld,Bi3 h2 hm];exact hv
  ·cases hv
theorem Bi4 {a b:Option TypeDesc} {x x' v:DVal} (hx:RV ρ x x') (hv:Ah1 a b x=some v):Ep ρ v (fun dst=>Lr dst a b x') s/\ ∀(P:Program) dst K s,(∀e,a=some (.slice e)->b≠some .string)->Ja P dst a b x' K s=Lr dst a b x' K s:=by
 have key: ∀(P:Program) dst K s,(∀e,a=some (.slice e)->b≠some .string)->Ja P dst a b x' K s=Lr dst a b x' K s:=by
  intro P dst K s hne;unfold Ja;split
  ·exact(hne _ rfl rfl).elim
  ·rfl
 refine⟨?_,key⟩;unfold Ah1 at hv;split at hv<;>cases hv<;>simp only[RV] at hx<;>subst hx
 ·exact⟨_, .int _ _,fun _ _ h=>h⟩
 ·exact⟨_, .str _,fun _ _ h=>h⟩
theorem Ck5 {a b:Option TypeDesc} {x x' v:DVal} (hS:RH B ρ A s.heap) (hx:RV ρ x x') (hv:Av8 P A a b x=some v):Ep ρ v (fun dst=>Ja P dst a b x') s:=by
 unfold Av8 at hv;split at hv
 ·split at hv
  ·rename_i hu
   obtain⟨l,h1,rfl⟩:=Option.map_eq_some_iff.1 hv;obtain⟨m,h2,h3⟩:=Option.bind_eq_some_iff.1 h1;obtain⟨m',h4,h5⟩:=Dj9 hS hx h2;refine⟨_, .str l,fun dst K h=> ?_⟩;simp only[Ja,Cm9];refine⟨Dj8 hu, ?_⟩;rw[h4];simp only[Option.bind_some,Bi3 h5 h3,Dl2];exact h
  ·cases hv
 ·rename_i hne
  obtain⟨⟨v',h1,h2⟩,h3⟩:=Bi4 (s:=s) hx hv;refine⟨v',h1,fun dst K h=> ?_⟩;show Ja P dst a b x' K s;rw[h3 P dst K s fun e h4 h5=>hne e h4 h5];exact h2 dst K h
theorem Qc {o o':Option DVal} (h:RVo ρ o o'):dLo o'=dLo o:=by
 cases o with
 | none=>cases o' with
  | none=>rfl
  | some _=>exact h.elim
 | some v=>cases o' with
  | none=>exact h.elim
  | some d=>
   have h:RV ρ v d:=h;cases v<;>simp only[RV] at h;all_goals first
    | (subst h;rfl)
    | (obtain⟨_,rfl,_⟩:=h;rfl)
    | (obtain⟨_,_,rfl,_⟩:=h;rfl)
theorem Xl {o o':Option DVal} (n:Nat) (h:RVo ρ o o'):dHi n o'=dHi n o:=by
 cases o with
 | none=>cases o' with
  | none=>rfl
  | some _=>exact h.elim
 | some v=>cases o' with
  | none=>exact h.elim
  | some d=>
   have h:RV ρ v d:=h;cases v<;>simp only[RV] at h;all_goals first
    | (subst h;rfl)
    | (obtain⟨_,rfl,_⟩:=h;rfl)
    | (obtain⟨_,_,rfl,_⟩:=h;rfl)
theorem Ax6 {l:List UInt8} {a b:Option Int} {v:DVal} (hv:Xh l a b=some v):Ep ρ v (fun dst K s=>Sj l dst K s a b) s:=by
 unfold Xh at hv;split at hv
 ·split at hv<;>cases hv
  rename_i hc
  exact⟨_, .str _,fun _ _ h=>⟨hc.1,hc.2.1,hc.2.2,h⟩⟩
 ·cases hv
theorem Ai2 {size len:Nat} {cs cs':List DVal} {a b:Option Int} {v:DVal} (hc:RVL ρ cs cs') (hv:Aa1 size cs len a b=some v):Ep ρ v (fun dst K s=>Sk size cs' len dst K s a b) s:=by
 unfold Aa1 at hv;split at hv
 ·split at hv<;>cases hv
  rename_i h
  exact⟨_, .vslice _ ((hc.drop _).take _),fun _ _ k=>⟨h.1,h.2.1,h.2.2,k⟩⟩
 ·cases hv
theorem Ui {size k r off cap:Nat} {a b c:Option Int} {v:DVal} (hr:ρ k=some r) (hv:Vt size k off cap a b c=some v):Ep ρ v (fun dst K s=>Mp size r off cap dst K s a b c) s:=by
 unfold Vt at hv;split at hv
 ·split at hv<;>cases hv
  rename_i h
  exact⟨_, .oslice _ _ _ _ hr,fun _ _ k=>⟨h.1,h.2.1,h.2.2.1,h.2.2.2,k⟩⟩
 ·cases hv
theorem Bt7 {a b:Option Int} {v:DVal} (hv:Av9 a b=some v):Ep ρ v (fun dst K s=>Zs dst K s a b) s:=by
 unfold Av9 at hv;split at hv
 ·split at hv<;>cases hv
  rename_i h
  exact⟨_, .nilS,fun _ _ k=>⟨h.1,h.2,k⟩⟩
 ·cases hv
theorem Mh {o:Option DVal} (h:RVo ρ none o):o=none:=by
 cases o with
 | none=>rfl
 | some _=>exact h.elim
theorem Bi5 {v:DVal} {o:Option DVal} (h:RVo ρ (some v) o): ∃d,o=some d/\RV ρ v d:=by
 cases o with
 | none=>exact h.elim
 | some d=>exact⟨d,rfl,h⟩
theorem Dw7 {o o':Option DVal} (h:RVo ρ o o'):o'.isSome=o.isSome:=by
 cases o<;>cases o'<;>first | rfl | exact h.elim
theorem Dk0 {n k r:Nat} (hS:RH B ρ A s.heap) (hr:ρ k=some r) (h:Cx4 n (Cc A k)=true):Bv4 n (s.heap r):=by
 unfold Cx4 at h;split at h
 ·rename_i cs e heq
  obtain⟨r',cs',h1,h2,h3⟩:=Kl hS heq;rw[hr] at h1;cases h1;rw[h2];simp only[Bv4,h3.length];exact of_decide_eq_true h
 ·cases h
theorem Ck6 {lo lo' hi hi' mx mx':Option DVal} {t:Option TypeDesc} {x x' v:DVal} (hS:RH B ρ A s.heap) (hl:RVo ρ lo lo') (hh:RVo ρ hi hi') (hm:RVo ρ mx mx') (hx:RV ρ x x')
  (hv:Aw0 P A lo hi t x mx=some v):Ep ρ v (fun dst=>Tm P lo' hi' dst t x' mx') s:=by
 unfold Aw0 at hv;split at hv
 ·obtain rfl:=Mh hm;simp only[RV] at hx;subst hx;rw[<-Qc hl,<-Xl _ hh] at hv;exact Ax6 hv
 ·obtain rfl:=Mh hm;simp only[RV] at hx;subst hx;split at hv<;>try (cases hv;done)
  rename_i hi0
  rw[<-Qc hl,<-Xl _ hh] at hv;obtain⟨v',h1,h2⟩:=Bt7 (ρ:=ρ) (s:=s) hv;exact⟨v',h1,fun dst K h=>⟨hi0,h2 dst K h⟩⟩
 ·obtain rfl:=Mh hm;simp only[RV] at hx;obtain⟨cs',rfl,hc⟩:=hx;split at hv<;>try (cases hv;done)
  rename_i hi0
  rw[<-Qc hl,<-Xl _ hh] at hv;obtain⟨v',h1,h2⟩:=Ai2 (s:=s) hc hv;exact⟨v',h1,fun dst K h=>⟨hi0,h2 dst K h⟩⟩
 ·obtain rfl:=Mh hm;simp only[RV] at hx;obtain⟨r,rfl,hr⟩:=hx;split at hv<;>try (cases hv;done)
  rename_i hi0
  simp only[Bool.and_eq_true,beq_iff_eq] at hi0;rw[<-Qc hl,<-Xl _ hh] at hv;obtain⟨v',h1,h2⟩:=Ui (s:=s) hr hv;exact⟨v',h1,fun dst K h=>⟨hi0.1,hi0.2,h2 dst K h⟩⟩
 ·obtain⟨m',rfl,hm'⟩:=Bi5 hm;simp only[RV] at hx;obtain⟨r,rfl,hr⟩:=hx;split at hv<;>try (cases hv;done)
  rename_i hi0
  simp only[Bool.and_eq_true,beq_iff_eq] at hi0;rw[<-Qc hl,<-Qc hh,<-Qc hm] at hv;obtain⟨v',h1,h2⟩:=Ui (s:=s) hr hv;exact⟨v',h1,fun dst K h=>⟨hi0.1.1,hi0.1.2,by rw[Dw7 hh];exact hi0.2,h2 dst K h⟩⟩
 ·obtain rfl:=Mh hm;simp only[RV] at hx;obtain⟨r,rfl,hr⟩:=hx;split at hv<;>try (cases hv;done)
  rename_i hi0
  simp only[Bool.and_eq_true] at hi0;rw[<-Qc hl,<-Xl _ hh] at hv;obtain⟨v',h1,h2⟩:=Ui (s:=s) hr hv;exact⟨v',h1,fun dst K h=>⟨hi0.1,Dk0 hS hr hi0.2,h2 dst K h⟩⟩
 ·obtain rfl:=Mh hm;simp only[RV] at hx;obtain⟨cs',rfl,hc⟩:=hx;split at hv<;>try (cases hv;done)
  rename_i hi0
  simp only[Bool.and_eq_true,decide_eq_true_eq] at hi0;rw[<-Qc hl,<-Xl _ hh] at hv;obtain⟨v',h1,h2⟩:=Ai2 (s:=s) ((hc.drop _).take _) hv;exact⟨v',h1,fun dst K h=>⟨hi0.1,by rw[hc.length];exact hi0.2,h2 dst K h⟩⟩
 ·cases hv
theorem Ap7 {n:Nat} {x x' v:DVal} (hx:RV ρ x x') (hv:Lh n x=some v): ∃v',RV ρ v v'/\Lh n x'=some v':=by
 unfold Lh at hv;split at hv<;>cases hv<;>simp only[RV] at hx<;>obtain⟨_,rfl,h⟩:=hx
 ·exact⟨_, .vptr _ h,rfl⟩
 ·exact⟨_, .optr _ h,rfl⟩
theorem Al2 {f:Nat} {t:Option TypeDesc} {x x' v:DVal} (hx:RV ρ x x') (hv:Px P f x t=some v):Ep ρ v (fun dst=>Ic P f x' dst t) s:=by
 unfold Px at hv;split at hv
 ·unfold Yy at hv;split at hv
  ·rename_i fd heq
   split at hv<;>try (cases hv;done)
   rename_i hlt
   obtain⟨v',h1,h2⟩:=Ap7 hx hv;exact⟨v',h1,fun dst K h=>by simp only[Ic,heq,Ra,h2,Hv];exact⟨hlt,h⟩⟩
  ·cases hv
 ·cases hv
theorem Bi6 {size off:Nat} {ag:Option Bool} {cs cs':List DVal} {v:DVal} (hc:RVL ρ cs cs') (hv:By4 size cs off ag=some v):Ep ρ v (fun dst=>Ab5 size cs' off dst ag) s:=by
 unfold By4 at hv;split at hv
 ·rw[Sb,Wb] at hv;cases hv;exact⟨_, .agg ((hc.drop off).take size),fun _ _ h=>h⟩
 ·rw[Ax2] at hv;obtain⟨x',h1,h2⟩:=hc.get hv;exact⟨x',h2,fun dst K h=>by simp only[Ab5,h1,Hv];exact h⟩
 ·cases hv
theorem Ck7 {f:Nat} {t:Option TypeDesc} {x x' v:DVal} (hx:RV ρ x x') (hv:Aw1 P f t x=some v):Ep ρ v (fun dst=>Tn P f dst t x') s:=by
 unfold Aw1 at hv;split at hv
 ·simp only[RV] at hx;obtain⟨cs',rfl,hc⟩:=hx;unfold By5 at hv;split at hv
  ·rename_i fd heq
   obtain⟨v',h1,h2⟩:=Bi6 (s:=s) hc hv;exact⟨v',h1,fun dst K h=>by simp only[Tn,heq,Ar2];exact h2 dst K h⟩
  ·cases hv
 ·cases hv
theorem Al3 {t:Option TypeDesc} {x x' i i' v:DVal} (hx:RV ρ x x') (hi:RV ρ i i') (hv:Py P t x i=some v):Ep ρ v (fun dst=>Ie P dst t x' i') s:=by
 unfold Py at hv;split at hv
 ·split at hv<;>cases hv
  rename_i hc
  simp only[RV] at hx hi;subst hi;obtain⟨cs',rfl,hl⟩:=hx;have h4:=hc.2.2.2;rw[Sc,decide_eq_true_eq] at h4;exact⟨_, .vptr _ hl,fun dst K h=>⟨hc.1,hc.2.1,hc.2.2.1,by rw[hl.length];omega,h⟩⟩
 ·split at hv<;>cases hv
  rename_i hc
  simp only[RV] at hx hi;subst hi;obtain⟨r,rfl,hr⟩:=hx;exact⟨_, .optr _ hr,fun dst K h=>⟨hc.1,hc.2.1,hc.2.2,h⟩⟩
 ·split at hv<;>try (cases hv;done)
  rename_i hc
  simp only[RV] at hi;subst hi;obtain⟨v',h1,h2⟩:=Ap7 hx hv;exact⟨v',h1,fun dst K h=>by simp only[Ie];exact⟨hc.1,hc.2.1,hc.2.2,by rw[h2];exact h⟩⟩
 ·cases hv
theorem Ck8 {t:Option TypeDesc} {x x' i i' v:DVal} (hx:RV ρ x x') (hi:RV ρ i i') (hv:Aw2 P t x i=some v):Ep ρ v (fun dst=>Wl P dst t x' i') s:=by
 unfold Aw2 at hv;split at hv
 ·split at hv<;>try (cases hv;done)
  rename_i hc
  simp only[RV] at hx hi;subst hi;obtain⟨cs',rfl,hl⟩:=hx;obtain⟨v',h1,h2⟩:=Bi6 (s:=s) hl hv;exact⟨v',h1,fun dst K h=>⟨hc.1,hc.2,h2 dst K h⟩⟩
 ·split at hv<;>try (cases hv;done)
  rename_i hc
  simp only[RV] at hx hi;subst hi;subst hx;obtain⟨b,h1,rfl⟩:=Option.map_eq_some_iff.1 hv;exact⟨_, .int _ _,fun dst K h=>⟨hc,by rw[h1];exact h⟩⟩
 ·cases hv
theorem Bi7 {i:Nat} {x x' v:DVal} (hx:RV ρ x x') (hv:Vu i x=some v):Ep ρ v (fun dst=>Nt i dst x') s:=by
 unfold Vu at hv;split at hv
 ·simp only[RV] at hx;obtain⟨cs',rfl,hl⟩:=hx;obtain⟨x',h1,h2⟩:=hl.get hv;exact⟨x',h2,fun dst K h=>by simp only[Nt,h1,Hv];exact h⟩
 ·cases hv
theorem Za {z:Option DVal} {v:DVal} (hz: ∀x,z=some x->RV ρ x x) (hv:Vv z=some v):Ep ρ v (fun dst=>Un dst z) s:=by
 unfold Vv at hv;split at hv<;>cases hv;exact⟨_, .tuple (.cons (hz _ rfl) (.cons (.bool _) .nil)),fun _ _ h=>h⟩
theorem Ai3 {t:TypeId} {ok b:Bool} {x x' v:DVal} (hx:RV ρ x x') (hv:Ni P t ok b x=some v):Ep ρ v (fun dst=>Ej P t ok dst b x') s:=by
 unfold Ni at hv;split at hv
 ·simp only[RV] at hx;obtain⟨v1,rfl,h1⟩:=hx;unfold Ao9 at hv;split at hv
  ·cases hv;exact⟨_, .tuple (.cons h1 (.cons (.bool _) .nil)),fun dst K h=>by
    show Ej P t _ dst _ _ K s;simp only[Ej, *,Lp]⟩
  ·rename_i hd
   obtain⟨v',h2,h3⟩:=Za (s:=s) (fun x hx=>Ll hx) hv;exact⟨v',h2,fun dst K h=>by simp only[Ej,hd,Lp];exact h3 dst K h⟩
  ·cases hv;exact⟨_,h1,fun dst K h=>by
    show Ej P t _ dst _ _ K s;simp only[Ej, *,Lp]⟩
  ·cases hv
 ·simp only[RV] at hx;subst hx;split at hv<;>try (cases hv;done)
  rename_i hc
  obtain⟨v',h2,h3⟩:=Za (s:=s) (fun x hx=>Ll hx) hv;exact⟨v',h2,fun dst K h=>⟨hc,h3 dst K h⟩⟩
 ·cases hv
theorem Dk1 {t:Option TypeDesc} {x x' v:DVal} (hx:RV ρ x x') (hv:Dw0 t x=some v):Ep ρ v (fun dst=>Cb2 dst t x') s:=by
 unfold Dw0 at hv;split at hv<;>cases hv
 ·simp only[RV] at hx;subst hx;exact⟨_, .int _ _,fun _ _ h=>h⟩
 ·exact⟨_, .int _ _,fun _ _ h=>h⟩
 all_goals simp only[RV] at hx
 ·subst hx;exact⟨_, .int _ _,fun _ _ h=>h⟩
 ·obtain⟨_,rfl,_⟩:=hx;exact⟨_, .int _ _,fun _ _ h=>h⟩
 ·obtain⟨_,rfl,_⟩:=hx;exact⟨_, .int _ _,fun _ _ h=>h⟩
theorem Ck9 {ts:List TypeId} {x x' v:DVal} (hx:RV ρ x x') (hv:Bs6 P x ts=some v):Ep ρ v (fun dst=>Ar3 P x' dst ts) s:=by
 unfold Bs6 at hv;split at hv
 ·exact Dk1 hx hv
 ·cases hv
theorem Cz0 {k k' p p':DVal} {b:Bool} (hk:RV ρ k k') (hp:RV ρ p p') (h:Mj k p=some b):Mj k' p'=some b:=by
 have h0:=h;unfold Mj at h;split at h<;>(try (cases h;done))<;>simp only[RV] at hk hp
 ·subst hk;subst hp;exact h0
 ·subst hk;subst hp;exact h0
 ·subst hk;subst hp;exact h0
 ·obtain⟨cs,rfl,h1⟩:=hk;obtain⟨cs2,rfl,h2⟩:=hp;obtain⟨x,xs,rfl,a1,h1⟩:=h1.inv;obtain⟨y,rfl,a2⟩:=Hq h1;obtain⟨x',xs',rfl,b1,h2⟩:=h2.inv;obtain⟨y',rfl,b2⟩:=Hq h2;simp only[RV] at a1 a2 b1 b2;subst a1;subst a2;subst b1;subst b2;exact h0
theorem Ax7 {k k':DVal} (hk:RV ρ k k'): ∀ {es es':List (DVal×DVal)} {i:Nat} {r:Option Nat},RVM ρ es es'->Ek k es i=some r->Ek k' es' i=some r
 | [],_,i,r,he,h=>by simp only[RVM] at he;subst he;exact h
 | p::es,_,i,r,he,h=>by
  obtain⟨q,qs,rfl,h1,h2,h3⟩:=he;simp only[Ek] at h⊢
  unfold Ou at h;split at h
  ·rename_i hb;rw[Cz0 hk h1 hb];exact h
  ·rename_i hb;rw[Cz0 hk h1 hb];exact Ax7 hk h3 h
  ·cases h
theorem RVM.get: ∀ {es es':List (DVal×DVal)} {i:Nat} {p:DVal×DVal},RVM ρ es es'->es[i]? =some p-> ∃p',es'[i]? =some p'/\RV ρ p.1 p'.1/\RV ρ p.2 p'.2
 | [],_,i,p,_,h=>by simp at h
 | x::es,_,0,p,he,h=>by
  obtain⟨q,qs,rfl,h1,h2,h3⟩:=he;simp only[List.getElem?_cons_zero,Option.some.injEq] at h;subst h;exact⟨q,rfl,h1,h2⟩
 | x::es,_,i+1,p,he,h=>by
  obtain⟨q,qs,rfl,h1,h2,h3⟩:=he;simp only[List.getElem?_cons_succ] at h⊢
  exact h3.get h
theorem Dk2 {t:Option TypeDesc} {k k':DVal} (hk:RV ρ k k') (h:Je t k=true):Je t k'=true:=by
 have h0:=h;unfold Je at h;split at h<;>(try (cases h;done))<;>simp only[RV] at hk<;>(subst hk;exact h0)
theorem Ax8 {t:Option TypeDesc} {k k':DVal} (hk:RV ρ k k') (h:Il P t k=true):Il P t k'=true:=by
 unfold Il at h;split at h
 ·simp only[RV] at hk;obtain⟨cs',rfl,hl⟩:=hk;obtain⟨x,xs,rfl,h1,hl⟩:=hl.inv;obtain⟨y,rfl,h2⟩:=Hq hl;simp only[RV] at h1 h2;subst h1;subst h2;exact h
 ·have h0:=Dk2 hk h;unfold Il;split
  ·unfold Je at h0;split at h0<;>first | (rename_i e;cases e;done) | cases h0
  ·exact h0
theorem We {ok b:Bool} {v v':DVal} (h:RV ρ v v'):RV ρ (Aw3 ok v b) (if ok then .tuple [v', .bool b] else v'):=by
 unfold Aw3;split
 ·exact .tuple (.cons h (.cons (.bool _) .nil))
 ·exact h
theorem Ap8 {es es':List (DVal×DVal)} {ok:Bool} {z:Option DVal} {r r':Option (Option Nat)} {v:DVal} (hz: ∀x,z=some x->RV ρ x x) (he:RVM ρ es es') (hr: ∀x,r=some x->r'=some x) (hv:Ug es ok z r=some v):
  Ep ρ v (fun dst=>Tp es' ok dst z r') s:=by
 unfold Ug at hv;split at hv
 ·rename_i i
  obtain⟨p,h1,rfl⟩:=Option.map_eq_some_iff.1 hv;obtain⟨p',h2,h3,h4⟩:=he.get h1;rw[hr _ rfl];exact⟨_,We h4,fun dst K h=>⟨p',h2,h⟩⟩
 ·cases hv;rw[hr _ rfl];exact⟨_,We (hz _ rfl),fun dst K h=>h⟩
 ·cases hv
theorem Dk3 {t:Option TypeDesc} {k k':DVal} (hk:RV ρ k k') (h:Il P t k=true):k'=k:=by
 unfold Il at h;split at h
 ·simp only[RV] at hk;obtain⟨cs',rfl,hl⟩:=hk;obtain⟨x,xs,rfl,h1,hl⟩:=hl.inv;obtain⟨y,rfl,h2⟩:=Hq hl;simp only[RV] at h1 h2;subst h1;subst h2;rfl
 ·unfold Je at h;split at h<;>(try (cases h;done))<;>simp only[RV] at hk<;>exact hk
theorem Cl0 {es es':List (DVal×DVal)} {ok:Bool} {z:Option DVal} {k v:DVal} (hz: ∀x,z=some x->RV ρ x x) (he:LK es es') (hv:Ug es ok z (Ek k es 0)=some v):Ep ρ v (fun dst=>Tp es' ok dst z (Ek k es' 0)) s:=by
 unfold Ug at hv;split at hv
 ·rename_i i hf
  obtain⟨p,h1,rfl⟩:=Option.map_eq_some_iff.1 hv;obtain⟨r',h2,h3⟩:=he k _ hf;rcases h3 with⟨e,_⟩ | ⟨i',j,q,q',e,rfl,e1,e2,e3,e4⟩
  ·cases e
  ·cases e;rw[h1] at e1;cases e1;rw[h2];exact⟨_,We (Ol e4),fun dst K h=>⟨q',e2,by rw[<-e3];exact h⟩⟩
 ·rename_i x hf
  cases hv;obtain⟨r',h2,h3⟩:=he k _ hf;rcases h3 with⟨_,rfl⟩ | ⟨i',j,q,q',e,_⟩
  ·rw[h2];exact⟨_,We (hz _ rfl),fun dst K h=>h⟩
  ·cases e
 ·cases hv
theorem Bt8 {ok:Bool} {t:Option TypeDesc} {x x' k k' v:DVal} (hS:RH B ρ A s.heap) (hx:RV ρ x x') (hk:RV ρ k k') (hv:Aa2 P A ok t x k=some v):Ep ρ v (fun dst=>Us P ok dst t x' k') s:=by
 unfold Aa2 at hv;split at hv
 ·split at hv<;>try (cases hv;done)
  rename_i hkt
  simp only[RV] at hx;obtain⟨r,rfl,hr⟩:=hx;unfold Cx5 at hv;split at hv
  ·rename_i es heq
   obtain⟨r',o',h1,h2,es',rfl,h3⟩:=hS.obj _ _ heq;rw[hr] at h1;cases h1;obtain⟨v',h4,h5⟩:=Ap8 (s:=s) (r':=Ek k' es' 0) (fun x hx=>Ll hx) h3 (fun x hx=>Ax7 hk h3 hx) hv;exact⟨v',h4,fun dst K h=>⟨Ax8 hk hkt,by rw[h2];exact h5 dst K h⟩⟩
  ·rename_i env n l heq
   obtain⟨r',o',h1,h2,es',rfl,h3⟩:=hS.obj _ _ heq;rw[hr] at h1;cases h1;obtain rfl:=Dk3 hk hkt;obtain⟨v',h4,h5⟩:=Cl0 (s:=s) (fun x hx=>Ll hx) h3 hv;exact⟨v',h4,fun dst K h=>⟨hkt,by rw[h2];exact h5 dst K h⟩⟩
  ·cases hv
 ·split at hv<;>try (cases hv;done)
  rename_i hkt
  simp only[RV] at hx;subst hx;obtain⟨v',h4,h5⟩:=Ap8 (s:=s) (es:= []) (es':= []) (r':=some none) (fun x hx=>Ll hx) (by simp only[RVM]) (fun x hx=>hx) hv;exact⟨v',h4,fun dst K h=>⟨Ax8 hk hkt,h5 dst K h⟩⟩
 ·cases hv
theorem Al4 {t:TypeId} {b:Bool} {x x' v:DVal} (hx:RV ρ x x') (hv:Pz t x b=some v):Ep ρ v (fun dst=>Ls t x' dst b) s:=by
 unfold Pz at hv;split at hv<;>cases hv;exact⟨_, .iface t hx,fun _ _ h=>h⟩
theorem Ec6 {b:Bool} {x x' y y' v:DVal} (hx:RV ρ x x') (hy:RV ρ y y') (h:dMM b x y=some v):dMM b x' y'=some v/\ ∃k n,v= .int k n:=by
 have h0:=h;unfold dMM at h;split at h
 ·simp only[RV] at hx hy;subst hx;subst hy;cases h;exact⟨h0,_,_,rfl⟩
 ·cases h
theorem Ai4 {b:Bool}: ∀ {ys ys':List DVal} {x x' v:DVal},RV ρ x x'->RVL ρ ys ys'->Jf b (some x) ys=some v-> ∃v',RV ρ v v'/\Jf b (some x') ys'=some v'
 | [],_,x,x',v,hx,hy,h=>by
  simp only[RVL] at hy;subst hy;simp only[Jf] at h;cases h;exact⟨x',hx,rfl⟩
 | y::ys,_,x,x',v,hx,hy,h=>by
  obtain⟨a,b',rfl,h1,h2⟩:=hy.inv;simp only[Jf] at h⊢
  cases hm:dMM b x y with
  | none=>rw[hm] at h;cases ys<;>cases h
  | some w=>
   rw[hm] at h;obtain⟨h3,k,n,rfl⟩:=Ec6 hx h1 hm;rw[h3];exact Ai4 (.int k n) h2 h
theorem Ap9 {b:Bool} {ys ys':List DVal} {v:DVal} (hy:RVL ρ ys ys') (h:Ia b ys=some v):Ep ρ v (fun dst=>Hv dst (Ia b ys')) s:=by
 cases ys with
 | nil=>cases h
 | cons y ys=>
  obtain⟨a,b',rfl,h1,h2⟩:=hy.inv;simp only[Ia] at h;obtain⟨v',h3,h4⟩:=Ai4 h1 h2 h;exact⟨v',h3,fun dst K h=>by simp only[Ia,h4,Hv];exact h⟩
end
end Go.Dl

-- AN INTERPRETER OF THE DATA LEVEL, PART 5: operations.
namespace Go.Dl
open Go
def Xm (P:Program) (G:Nat->DVal) (call:Nat->List DVal->XH->COut):Prop:=
 ∀(B:Bb) (ρ:Nat->Option Nat) (k:Nat) (args args':List DVal) (A:XH) (H:Bb) (R:DEnd->Bb->Prop),RVL ρ args args'->RH B ρ A H->Ii B ρ R (call k args A)->Bh P G k args' H R
section
variable {P:Program} {gt:Nat->Option DVal} {G:Nat->DVal} {call:Nat->List DVal->XH->COut}
variable {B:Bb} {ρ:Nat->Option Nat} {E:Tr DVal} {A:XH} {s:DS} {K:DK} {Q:DExit->DS->Prop} {dst:Option Nat}
theorem Ey {b:Bool} {x:Out} {Q:DExit->DS->Prop} (h:Ca B ρ Q (Bool.rec (motive:=fun _=>Out) .bad x b)):b=true/\Ca B ρ Q x:=by
 cases b with
 | false=>exact h.elim
 | true=>exact⟨rfl,h⟩
theorem Sv {α:Type} {o:Option α} {f:α->Out} {Q:DExit->DS->Prop} (h:Ca B ρ Q (Qu .bad f o)): ∃v,o=some v/\Ca B ρ Q (f v):=by
 cases o with
 | none=>exact h.elim
 | some v=>exact⟨v,rfl,h⟩
theorem Jo (hS:RS B ρ E A s) {o:Option DVal} {F:Option Nat->DK->DS->Prop} (h:Ca B ρ (Ff K Q) (Gl E A dst o)) (hg: ∀v,o=some v->Ep ρ v F s):F dst K s:=by
 obtain⟨v,hv,hk⟩:=Cy6 hS h;obtain⟨v',h1,h2⟩:=hg v hv;exact h2 dst K (hk v' h1)
theorem Bi8 (hS:RS B ρ E A s) {cs cs':List DVal} {e:TypeId} (hc:RVL ρ cs cs') (h:Ca B ρ (Ff K Q) (Bh2 E A dst cs e)):Ab0 cs' e dst K s:=by
 intro r hr;obtain⟨A',ρ',hle,hk,h1,hS'⟩:=Se hS hr (o:= .cells cs e) (o':= .cells cs' e) ⟨cs',rfl,hc⟩ h;exact Gb hS' (.optr 0 hk) h1
theorem Ai5 (hS:RS B ρ E A s) {cs cs':List DVal} {e:TypeId} {sz len cap:Nat} (hc:RVL ρ cs cs') (h:Ca B ρ (Ff K Q) (Bh3 E A dst cs e sz len cap)):Xs cs' e sz len cap dst K s:=by
 intro r hr;obtain⟨A',ρ',hle,hk,h1,hS'⟩:=Se hS hr (o:= .cells cs e) (o':= .cells cs' e) ⟨cs',rfl,hc⟩ h;exact Gb hS' (.oslice _ _ _ _ hk) h1
theorem Bi9 (hS:RS B ρ E A s) (h:Ca B ρ (Ff K Q) (Cx6 E A dst)):Cn2 dst K s:=by
 intro r hr;obtain⟨A',ρ',hle,hk,h1,hS'⟩:=Se hS hr (o:= .map []) (o':= .map []) ⟨[],rfl,by simp only[RVM]⟩ h;exact Gb hS' (.omap hk) h1
theorem Ai6 (hS:RS B ρ E A s) {n:Nat} {t:Option TypeDesc} {ps ps':List (Nat×DVal)} (hp:RVP ρ ps ps') (h:Ca B ρ (Ff K Q) (Nj P E A dst n t ps)):Ik P n dst t ps' K s:=by
 unfold Nj at h;split at h
 ·rename_i e
  obtain⟨z,hz,h⟩:=Sv h;obtain⟨hb,h⟩:=Ey h;rw[Wc] at h;simp only[Bool.and_eq_true,decide_eq_true_eq,beq_iff_eq] at hb;obtain⟨cs,hcs,h⟩: ∃cs,Iz (Qw (P.cellsOf e)) (repl n z.cells) ps=some cs/\Ca B ρ (Ff K Q) (Bh3 E A dst cs e (P.cellsOf e) n n):=by
   split at h
   ·rename_i cs hcs;exact⟨cs,hcs,h⟩
   ·exact h.elim
  have rz:RV ρ z z:=Ll hz;obtain⟨cs',h1,h2⟩:=Wd hp (rz.cells.repl n) hcs;simp only[Ik,hz,Oo,h1,Bk6];exact⟨hb.1,hb.2,Ai5 hS h2 h⟩
 ·exact h.elim
theorem Al5 (hS:RS B ρ E A s) {t:Option TypeDesc} {l l' c c':DVal} (hl:RV ρ l l') (hc:RV ρ c c') (h:Ca B ρ (Ff K Q) (Qa P E A dst t l c)):Ju P dst t l' c' K s:=by
 unfold Qa at h;split at h
 ·simp only[RV] at hl hc;subst hl;subst hc;obtain⟨z,hz,h⟩:=Sv h;obtain⟨hb,h⟩:=Ey h;rw[Kq,Kq] at h;simp only[Bool.and_eq_true,decide_eq_true_eq,beq_iff_eq] at hb;have rz:RV ρ z z:=Ll hz;simp only[Ju,hz,Qz];exact⟨hb.1.1.1.1.1,hb.1.1.1.1.2,hb.1.1.1.2,hb.1.1.2,hb.1.2,hb.2,Ai5 hS (rz.cells.repl _) h⟩
 ·exact h.elim
theorem Cl1 (hS:RS B ρ E A s) {size:Nat} {a a' x x':DVal} (ha:RV ρ a a') (hx:RV ρ x x') (h:Ca B ρ (Ff K Q) (Aw4 E A size dst a x)):Wk size dst a' x' K s:=by
 unfold Aw4 at h;split at h
 ·simp only[RV] at ha;obtain⟨r,rfl,hr⟩:=ha;unfold By6 at h;split at h
  ·rename_i cs e heq
   obtain⟨r',cs',h1,h2,h3⟩:=Kl hS.heap heq;rw[hr] at h1;cases h1;obtain⟨hb,h⟩:=Ey h;rw[Aa3] at h;simp only[Bool.and_eq_true,Ah9,Sc,decide_eq_true_eq] at hb;have hcl:=hx.cells;obtain⟨A',h4,h5,_,_⟩:=Sd (ob':= .cells (splice cs' _ x'.cells) e) hS heq hr (fun o1 e1=>by cases e1;exact⟨_,rfl,h3.splice _ hcl⟩) h;simp only[Wk,h2,Ar0];exact⟨by rw[hcl.length];exact hb.1.1,by rw[hcl.allOne];exact hb.1.2,by rw[h3.length];exact hb.2,h4 ρ _ (Ble.refl _) h5⟩
  ·exact h.elim
 ·exact h.elim
theorem Cl2 (hS:RH B ρ A s.heap) {size:Nat} {y y':DVal} {n:Nat} {news:List DVal} (hy:RV ρ y y') (h:Bs7 size A y=some (n,news)): ∃news',Lt size s.heap y'=some (n,news')/\RVL ρ news news':=by
 unfold Bs7 at h;split at h
 ·cases h;simp only[RV] at hy;subst hy;exact⟨[],rfl, .nil⟩
 ·rw[Sb] at h;cases h;simp only[RV] at hy;obtain⟨cs',rfl,hl⟩:=hy;exact⟨_,rfl,hl.take _⟩
 ·simp only[RV] at hy;obtain⟨r,rfl,hr⟩:=hy;unfold Nu at h;split at h
  ·rename_i cs e heq
   cases h;obtain⟨r',cs',h1,h2,h3⟩:=Kl hS heq;rw[hr] at h1;cases h1;exact⟨_,by simp only[Lt,h2,Nu],(h3.drop _).take _⟩
  ·cases h
 ·cases h;simp only[RV] at hy;subst hy;exact⟨_,rfl, .bytes _⟩
 ·cases h
theorem Bj0 (hS:RS B ρ E A s) {e:TypeId} {size bytes k r off len lo n:Nat} {news news':List DVal} (hr:ρ k=some r) (hn:RVL ρ news news')
  (h:Ca B ρ (Ff K Q) (Ah2 E A dst e size bytes k off len lo n news (Cc A k))):Jc e size bytes r off len lo n news' dst K s (s.heap r):=by
 unfold Ah2 at h;split at h
 ·rename_i cs e' heq
  obtain⟨r',cs',h1,h2,h3⟩:=Kl hS.heap heq;rw[hr] at h1;cases h1;obtain⟨he,h⟩:=Ey h;have he:=Nat.eq_of_beq_eq_true he;subst he;rw[h2];simp only[Jc];refine⟨trivial,fun hle=> ?_,fun hle=> ?_⟩
  ·rw[Nat.ble_eq_true_of_le hle] at h;obtain⟨hb,h⟩:=Ey h;rw[Aa3] at h;rw[Sc] at hb;obtain⟨A',h4,h5,_,_⟩:=Sd (ob':= .cells (splice cs' (off+len*size) news') e') hS heq hr (fun o1 e1=>by cases e1;exact⟨_,rfl,h3.splice _ hn⟩) h;exact⟨by rw[h3.length];exact of_decide_eq_true hb,Gb h5 (.oslice _ _ _ _ hr) h4⟩
  ·have:Nat.ble (len+n) lo=false:=by
    cases hb:Nat.ble (len+n) lo with
    | false=>rfl
    | true=>exact(hle (Nat.le_of_ble_eq_true hb)).elim
   rw[this] at h;obtain⟨hb,h⟩:=Ey h;simp only[Bool.and_eq_true,Sc,decide_eq_true_eq] at hb;obtain⟨⟨⟨hb1,hb2⟩,hb3⟩,hb4⟩:=hb;have hb3:=Nat.le_of_ble_eq_true hb3;have hb4:=Nat.eq_of_beq_eq_true hb4;subst hb4;refine⟨by rw[h3.length];exact hb1,hb2,fun r2 pre hr2 hpre=> ?_⟩;obtain rfl:=hpre rfl;obtain⟨A',h4,h5,_,_⟩:=Sd (ob':= .cells [] e') hS heq hr (fun o1 e1=>by cases e1) h;have hif:(if len<=lo\/r2=r then upd s.heap r none else s.heap)=upd s.heap r none:=if_pos (.inl hb3);rw[hif];rw[Sb,Wb,Bz1] at h4;obtain⟨A2,ρ2,hle2,hk2,h6,h7⟩:=Se h5 hr2 (o:= .cells ((cs.drop 0).take (len*size)++news) e') (o':= .cells ((cs'.drop 0).take (len*size)++news') e') ⟨_,rfl,((h3.drop 0).take _).append hn⟩ h4;exact Gb h7 (.oslice _ _ _ _ hk2) h6
 ·exact h.elim
theorem Bt9 (hS:RS B ρ E A s) {x x' y y':DVal} {ts:List TypeId} (hx:RV ρ x x') (hy:RV ρ y y') (h:Ca B ρ (Ff K Q) (Xi P E A dst x y ts)):Nv P x' y' dst ts K s:=by
 unfold Xi at h;split at h
 ·obtain⟨hb,h⟩:=Ey h;simp only[Bool.and_eq_true,Bool.not_eq_true'] at hb;simp only[Nv,hb.1,Rb];unfold By7 at h;split at h
  ·rename_i e heq
   rw[heq];obtain⟨hb2,h⟩:=Ey h;simp only[Bool.and_eq_true,decide_eq_true_eq] at hb2;simp only[Uo];refine⟨hb.2,hb2.1.1.1,hb2.1.1.2,hb2.1.2,hb2.2, ?_⟩;unfold Bh4 at h;split at h
   ·rename_i n news hc
    obtain⟨hb3,h⟩:=Ey h;simp only[Bool.and_eq_true,Ah9,decide_eq_true_eq] at hb3;obtain⟨news',h1,h2⟩:=Cl2 hS.heap hy hc;rw[h1];simp only[Ab6];refine⟨by rw[h2.length];exact hb3.1,by rw[h2.allOne];exact hb3.2, ?_⟩;unfold Ap0 at h;split at h
    ·simp only[RV] at hx;subst hx;simp only[Hh];refine⟨fun h0=> ?_,fun h0=> ?_⟩
     ·subst h0;exact Gb hS .nilS h
     ·have:Nat.beq n 0=false:=by
       cases hb:Nat.beq n 0 with
       | false=>rfl
       | true=>exact(h0 (Nat.eq_of_beq_eq_true hb)).elim
      rw[this] at h;obtain⟨hb4,h⟩:=Ey h;exact⟨of_decide_eq_true hb4,Ai5 hS h2 h⟩
    ·simp only[RV] at hx;obtain⟨r,rfl,hr⟩:=hx;obtain⟨hb4,h⟩:=Ey h;simp only[Hh];exact⟨Nat.eq_of_beq_eq_true hb4,Bj0 hS hr h2 h⟩
    ·exact h.elim
   ·exact h.elim
  ·exact h.elim
 ·exact h.elim
theorem RVM.set: ∀ {es es':List (DVal×DVal)} {i:Nat} {p p':DVal×DVal},RVM ρ es es'->RV ρ p.1 p'.1->RV ρ p.2 p'.2->RVM ρ (es.set i p) (es'.set i p')
 | [],_,i,p,p',he,_,_=>by simp only[RVM] at he;subst he;simp [RVM]
 | x::es,_,0,p,p',he,h1,h2=>by
  obtain⟨q,qs,rfl,_,_,h5⟩:=he;exact⟨p',qs,rfl,h1,h2,h5⟩
 | x::es,_,i+1,p,p',he,h1,h2=>by
  obtain⟨q,qs,rfl,h3,h4,h5⟩:=he;exact⟨q,_,rfl,h3,h4,h5.set h1 h2⟩
theorem RVM.push: ∀ {es es':List (DVal×DVal)} {p p':DVal×DVal},RVM ρ es es'->RV ρ p.1 p'.1->RV ρ p.2 p'.2->RVM ρ (es++ [p]) (es'++ [p'])
 | [],_,p,p',he,h1,h2=>by simp only[RVM] at he;subst he;exact⟨p',[],rfl,h1,h2,rfl⟩
 | x::es,_,p,p',he,h1,h2=>by
  obtain⟨q,qs,rfl,h3,h4,h5⟩:=he;exact⟨q,_,rfl,h3,h4,h5.push h1 h2⟩
theorem Ai7 (hS:RS B ρ E A s) {t:Option TypeDesc} {m m' k k' x x':DVal} (hm:RV ρ m m') (hk:RV ρ k k') (hx:RV ρ x x') (h:Ca B ρ (Ff K Q) (Su P E A dst t m k x)):Mq P dst t m' k' x' K s:=by
 unfold Su at h;split at h
 ·simp only[RV] at hm;obtain⟨r,rfl,hr⟩:=hm;split at h
  ·rename_i hb heq
   rename_i es
   simp only[Bool.and_eq_true] at hb;obtain⟨i,hi,h⟩:=Sv h;obtain⟨r',o',h1,h2,es',rfl,h3⟩:=hS.heap.obj _ _ heq;rw[hr] at h1;cases h1;obtain⟨A',h4,h5,_,_⟩:=Sd (ob':= .map (Ar5 es' k' x' i)) hS heq hr (fun o1 e1=>by
    cases e1;refine⟨_,rfl, ?_⟩;cases i with
    | none=>exact h3.push (p:=(k,x)) (p':=(k',x')) hk hx
    | some j=>exact h3.set (p:=(k,x)) (p':=(k',x')) hk hx) h
   simp only[Mq];refine⟨trivial,Ax8 hk hb.1, ?_⟩;rw[h2];simp only[Ur];refine⟨by rw[hx.one];exact hb.2, ?_⟩;rw[Ax7 hk h3 hi];exact h4 ρ _ (Ble.refl _) h5
  ·exact h.elim
 ·exact h.elim
theorem Bj1 (hS:RS B ρ E A s) {t:Option TypeDesc} {r r':Option DVal} (hr:RVo ρ r r') (h:Ca B ρ (Ff K Q) (Vw E A dst t r)):Nw dst t r' K s:=by
 unfold Vw at h;split at h
 ·obtain rfl:=Mh hr;exact Bi9 hS h
 ·obtain⟨d,rfl,hd⟩:=Bi5 hr;simp only[RV] at hd;subst hd;exact Bi9 hS h
 ·exact h.elim
theorem Cl3 (hS:RS B ρ E A s) {t:Option TypeDesc} {x x':DVal} (hx:RV ρ x x') (h:Ca B ρ (Ff K Q) (Aw5 E A dst t x)):Ab4 dst t x' K s:=by
 unfold Aw5 at h;split at h
 ·rename_i l
  simp only[RV] at hx;subst hx;intro r hr;obtain⟨A',ρ',hle,hk,h1,hS'⟩:=Se hS hr (o:= .iter l 0) (o':= .iter l 0) (by simp only[RO]) h;exact Gb hS' (.optr 0 hk) h1
 ·exact h.elim
theorem Cz1 (hS:RS B ρ E A s) {b:Bool} {x x':DVal} (hx:RV ρ x x') (h:Ca B ρ (Ff K Q) (By8 E A dst b x)):Am2 dst b x' K s:=by
 unfold By8 at h;split at h
 ·simp only[RV] at hx;obtain⟨r,rfl,hr⟩:=hx;unfold Cx7 at h;split at h
  ·rename_i l pos heq
   obtain⟨r',o',h1,h2,h3⟩:=hS.heap.obj _ _ heq;rw[hr] at h1;cases h1;simp only[RO] at h3;subst h3;simp only[Am2,h2,Ar1];refine⟨fun hlt=> ?_,fun hlt=> ?_⟩
   ·rw[decide_eq_true hlt] at h;simp only[Kq] at h;obtain⟨A',h4,h5,_,_⟩:=Sd (ob':= .iter l (pos+(Jb l pos).2)) hS heq hr (fun o1 e1=>by cases e1;rfl) h;exact Gb h5 (.tuple (.cons (.bool _) (.cons (.int _ _) (.cons (.int _ _) .nil)))) h4
   ·rw[decide_eq_false hlt] at h;exact Gb hS (.tuple (.cons (.bool _) .nil)) h
  ·exact h.elim
 ·exact h.elim
theorem Cl4 (hS:RS B ρ E A s) {c:COut} (h:Ca B ρ (Ff K Q) (Cx8 E dst c)):Ii B ρ (Ar6 dst K Q s.env) c:=by
 cases c with
 | bad=>exact h.elim
 | cret v A1=>
  intro ρ' H' v' hle hH hv;have hS':RS B ρ' E A1 ⟨s.env,H'⟩:=⟨fun i v hi=>(hS.env i v hi).mono hle,hH⟩;exact Gb hS' hv (Ca.le hle h)
 | cpanic v A1=>
  intro ρ' H' v' hle hH hv;exact h ρ' ⟨s.env,H'⟩ v' hle ⟨fun i v hi=>(hS.env i v hi).mono hle,hH⟩ hv
theorem Cl5 (hc:Xm P G call) (hS:RS B ρ E A s) {args args':List DVal} {f f':DVal} (ha:RVL ρ args args') (hf:RV ρ f f') (h:Ca B ρ (Ff K Q) (Bs8 call E A dst args f)):Wm P G args' dst Q f' K s:=by
 unfold Bs8 at h;split at h
 ·simp only[RV] at hf;obtain⟨a',c',rfl,h1,h2⟩:=hf;exact hc B ρ _ _ _ A s.heap _ ((h1.append ha).append h2) hS.heap (Cl4 hS h)
 ·exact h.elim
theorem Cl6 (hS:RS B ρ E A s) {x x':DVal} (hx:RV ρ x x') (h:Ca B ρ (Ff K Q) (Aw7 E A x)):Rc Q s x':=by
 have keep:=hx;unfold Aw7 at h;split at h
 ·simp only[RV] at hx;obtain⟨v',rfl,_⟩:=hx;exact h ρ s _ (Ble.refl _) hS keep
 ·exact h.elim
theorem Bj2 (hS:RS B ρ E A s) {ts:List TypeId} {b:Builtin} {args args':List DVal} (ha:RVL ρ args args') (h:Ca B ρ (Ff K Q) (Ah3 P E A dst ts b args)):Ha P ts dst Q b args' K s:=by
 unfold Ah3 at h;split at h
 ·obtain⟨x',rfl,hx⟩:=Hq ha;exact Jo hS h fun v hv=>Ck9 hx hv
 ·obtain⟨x',ys,rfl,hx,hy⟩:=ha.inv;obtain⟨y',rfl,hy'⟩:=Hq hy;exact Bt9 hS hx hy' h
 ·exact Jo hS h fun v hv=>Ap9 ha hv
 ·exact Jo hS h fun v hv=>Ap9 ha hv
 ·obtain⟨x',rfl,hx⟩:=Hq ha;have keep:=hx;simp only[RV] at hx;obtain⟨v',rfl,_⟩:=hx;exact h ρ s _ (Ble.refl _) hS keep
 ·exact h.elim
theorem Dw8 (call:Nat->List DVal->XH->COut) (E:Tr DVal) (A:XH) (dst:Option Nat) (op:Op):xop P gt call E A dst op=Ec4 P gt call E A dst op:=by cases op<;>rfl
theorem Ax9 (hgt: ∀g d,gt g=some d-> ∀ρ,RV ρ d (G g)) (hc:Xm P G call) (hS:RS B ρ E A s) (op:Op) (h:Ca B ρ (Ff K Q) (xop P gt call E A dst op)):dop P G dst K Q s op:=by
 rw[Dw8] at h;cases op<;>simp only[Ec4,Ck2] at h<;>try (exact h.elim)
 case move x=>obtain⟨v,h1,h⟩:=Dq hgt hS h;exact Bi0 hS h1 h
 case assign x=>obtain⟨v,h1,h⟩:=Dq hgt hS h;exact Bi0 hS h1 h
 case pick c a b=>
  obtain⟨v,h1,h⟩:=Dq hgt hS h;obtain⟨w,h2,h⟩:=Dq hgt hS h;obtain⟨x,h3,h⟩:=Dq hgt hS h;exact Jo hS h fun v hv=>Cy7 hv h1 h2 h3
 case alloc e=>
  obtain⟨z,hz,h⟩:=Sv h;simp only[dop,hz,Bk5];exact Bi8 hS (Ll hz).cells h
 case box e x=>
  obtain⟨v,h1,h⟩:=Dq hgt hS h;exact Bi8 hS h1.cells h
 case build t ps=>
  obtain⟨v,h1,h⟩:=Ai1 hgt hS h;exact Jo hS h fun v hv=>Ck3 (fun x hx=>Ll hx) hv h1
 case buildSlice t n ps=>
  obtain⟨v,h1,h⟩:=Ai1 hgt hS h;exact Ai6 hS h1 h
 case load t a=>
  obtain⟨v,h1,h⟩:=Dq hgt hS h;exact Jo hS h fun v hv=>Cy8 hS.heap h1 hv
 case store t a x=>
  obtain⟨v,h1,h⟩:=Dq hgt hS h;obtain⟨w,h2,h⟩:=Dq hgt hS h;obtain⟨hb,h⟩:=Ey h;exact⟨hb,Cl1 hS h1 h2 h⟩
 case nilCheck x=>
  obtain⟨v,h1,h⟩:=Dq hgt hS h;exact Jo hS h fun v hv=>Dj4 h1 hv
 case binOp op t x y t'=>
  obtain⟨v,h1,h⟩:=Dq hgt hS h;obtain⟨w,h2,h⟩:=Dq hgt hS h;exact Jo hS h fun v hv=>Cy9 h1 h2 hv
 case unOp op t x=>
  obtain⟨v,h1,h⟩:=Dq hgt hS h;exact Jo hS h fun v hv=>Dw6 h1 hv
 case convert src t x=>
  obtain⟨v,h1,h⟩:=Dq hgt hS h;exact Jo hS h fun v hv=>Ck5 hS.heap h1 hv
 case makeInterface t x=>
  obtain⟨v,h1,h⟩:=Dq hgt hS h;exact Jo hS h fun v hv=>Al4 h1 hv
 case makeFunc fn fs cs=>
  obtain⟨v,h1,h⟩:=Ai0 hgt hS h;obtain⟨w,h2,h⟩:=Ai0 hgt hS h;exact Gb hS (.func fn h1 h2) h
 case makeMap t r=>
  obtain⟨v,h1,h⟩:=Ax4 hgt hS h;exact Bj1 hS h1 h
 case lookup t x k ok=>
  obtain⟨v,h1,h⟩:=Dq hgt hS h;obtain⟨w,h2,h⟩:=Dq hgt hS h;exact Jo hS h fun v hv=>Bt8 hS.heap h1 h2 hv
 case mapUpdate t m k x=>
  obtain⟨v,h1,h⟩:=Dq hgt hS h;obtain⟨w,h2,h⟩:=Dq hgt hS h;obtain⟨y,h3,h⟩:=Dq hgt hS h;exact Ai7 hS h1 h2 h3 h
 case insert t m k x=>
  obtain⟨v,h1,h⟩:=Dq hgt hS h;obtain⟨w,h2,h⟩:=Dq hgt hS h;obtain⟨y,h3,h⟩:=Dq hgt hS h;exact Ai7 hS h1 h2 h3 h
 case makeSlice t l c=>
  obtain⟨v,h1,h⟩:=Dq hgt hS h;obtain⟨w,h2,h⟩:=Dq hgt hS h;exact Al5 hS h1 h2 h
 case slice t x lo hi mx=>
  obtain⟨v,h1,h⟩:=Dq hgt hS h;obtain⟨a,h2,h⟩:=Ax4 hgt hS h;obtain⟨b,h3,h⟩:=Ax4 hgt hS h;obtain⟨c,h4,h⟩:=Ax4 hgt hS h;exact Jo hS h fun v hv=>Ck6 hS.heap h2 h3 h4 h1 hv
 case fieldAddr t x f=>
  obtain⟨v,h1,h⟩:=Dq hgt hS h;exact Jo hS h fun v hv=>Al2 h1 hv
 case field t x f=>
  obtain⟨v,h1,h⟩:=Dq hgt hS h;exact Jo hS h fun v hv=>Ck7 h1 hv
 case indexAddr t x i=>
  obtain⟨v,h1,h⟩:=Dq hgt hS h;obtain⟨w,h2,h⟩:=Dq hgt hS h;exact Jo hS h fun v hv=>Al3 h1 h2 hv
 case index t x i=>
  obtain⟨v,h1,h⟩:=Dq hgt hS h;obtain⟨w,h2,h⟩:=Dq hgt hS h;exact Jo hS h fun v hv=>Ck8 h1 h2 hv
 case typeAssert x t u ok=>
  obtain⟨v,h1,h⟩:=Dq hgt hS h;exact Jo hS h fun v hv=>Ai3 h1 hv
 case extract x i=>
  obtain⟨v,h1,h⟩:=Dq hgt hS h;exact Jo hS h fun v hv=>Bi7 h1 hv
 case panic x=>
  obtain⟨v,h1,h⟩:=Dq hgt hS h;exact Cl6 hS h1 h
 case range t x=>
  obtain⟨v,h1,h⟩:=Dq hgt hS h;exact Cl3 hS h1 h
 case next x b=>
  obtain⟨v,h1,h⟩:=Dq hgt hS h;exact Cz1 hS h1 h
 case call c=>
  unfold Aw6 at h;simp only[dop,Mr];split at h
  ·rename_i f heq
   rw[heq];obtain⟨v,h1,h⟩:=Dq hgt hS h;obtain⟨w,h2,h⟩:=Ai0 hgt hS h;exact Cl5 hc hS h2 h1 h
  ·rename_i b heq
   rw[heq];obtain⟨w,h2,h⟩:=Ai0 hgt hS h;exact Bj2 hS h2 h
  ·exact h.elim
end
end Go.Dl

-- AN INTERPRETER OF THE DATA LEVEL, PART 6: code.
namespace Go.Dl
open Go
noncomputable section
structure XP where
 P:Program
 gt:Nat->Option DVal
 plans:List (FuncId×Nat×Plan)
 memo:List (FuncId×List DVal×DVal)
 good:List (FuncId×Nat)
def Bu0 (l:List (FuncId×Nat×Plan)) (f id:Nat):Option Plan:=
 List.rec (motive:=fun _=>Option Plan) none (fun x _ ih=>Bool.rec (motive:=fun _=>Option Plan) ih (some x.2.2) (Nat.beq x.1 f&&Nat.beq x.2.1 id)) l
def Bu1 (l:List (FuncId×List DVal×DVal)) (k:Nat) (args:List DVal):Option DVal:=
 List.rec (motive:=fun _=>Option DVal) none (fun x _ ih=>Bool.rec (motive:=fun _=>Option DVal) ih (some x.2.2) (Nat.beq x.1 k&&Iv args x.2.1)) l
def Ay0 (l:List (FuncId×Nat)) (k n:Nat):Bool:=
 List.rec (motive:=fun _=>Bool) false (fun x _ ih=>Bool.rec (motive:=fun _=>Bool) ih true (Nat.beq x.1 k&&Nat.beq x.2 n)) l
section
variable (X:XP)
def Sf (ih:FuncId->Code->Tr DVal->XH->Out) (rs:List ResultVar) (g:FuncId) (caps:List DVal) (x:DVal) (E:Tr DVal) (H:XH):COut:=
 match X.P.funcs[g]? with
 | some fg=>match fg.body with
  | some c=>match Ap1 c with
   | some (t1,t2,cc)=>Vz caps 0 .leaf fun F=>Tr.setK .bad x 10 F t1 fun F=>Tr.setK .bad x 10 F t2 fun F=>
    match ih g cc F H with
    | .norm _ H'=>Ck0 X.P rs E H'
    | .ret _ H'=>Ck0 X.P rs E H'
    | _=> .bad
   | none=> .bad
  | none=> .bad
 | none=> .bad
def Ai8 (ih:FuncId->Code->Tr DVal->XH->Out) (rs:List ResultVar) (g:FuncId) (caps:List DVal):Out->COut
 | .norm E H=>Sf X ih rs g caps .nilIface E H
 | .ret E H=>Sf X ih rs g caps .nilIface E H
 | .panic v E H=>Sf X ih rs g caps v E H
 | _=> .bad
def Dn3 (ih:FuncId->Code->Tr DVal->XH->Out) (k:FuncId) (rs:List ResultVar) (l:Late) (args:List DVal) (H:XH):COut:=
 Vz args 0 .leaf fun E=>
 match ih k l.A1 E H with
 | .norm E H=>match ih k l.A2 E H with
  | .norm E H=>Vs X.gt .bad E l.caps fun caps=>Tr.setK .bad (.func (.func l.g) [] caps) 10 E l.d fun E2=>Ai8 X ih rs l.g caps (ih k l.C E2 H)
  | _=> .bad
 | _=> .bad
def Bu2 (ih:FuncId->Code->Tr DVal->XH->Out) (k:FuncId) (args:List DVal) (H:XH):COut:=
 match X.P.funcs[k]? with
 | some fn=>match fn.body with
  | some c=>match Ah8 c with
   | some l=>Dn3 X ih k fn.results.toList l args H
   | none=>Vz args 0 .leaf fun E=>Ec5 X.P fn.results.toList (ih k c E H)
  | none=> .bad
 | none=> .bad
def Bj3 (ih:FuncId->Code->Tr DVal->XH->Out) (k:FuncId) (args:List DVal) (H:XH):COut:=
 match Bu1 X.memo k args with
 | some v=> .cret v H
 | none=>Bool.rec (motive:=fun _=>COut) .bad (Bu2 X ih k args H) (Ay0 X.good k args.length)
def Cz2 (ih:FuncId->Code->Tr DVal->XH->Out) (f:FuncId) (c:Code) (E:Tr DVal) (H:XH):Out:=
 match c with
 | .skip=> .norm E H
 | .label _=> .norm E H
 | .region _ ops false=>Dw1 X.P X.gt (Bj3 X ih) ops.toList ops.toList E H
 | .region id ops true=>match Bu0 X.plans f id with
  | some p=>Bh5 (Vy X.P X.gt (Bj3 X ih) ops.toList p E H)
  | none=> .bad
 | .seq a b=>Sa (ih f a E H) fun E H=>ih f b E H
 | .cond c a b=>evK X.gt .bad E c fun v=>Dn2 (ih f a E H) (ih f b E H) v
 | .block id c=>Ax1 id (ih f c E H)
 | .loop c=>Dn1 (Ah7 (fun E H=>ih f c E H) 20 E H)
 | .exit id=> .exit id E H
 | .ret=> .ret E H
 | .scope c=>ih f c E H
 | _=> .bad
def Al6 (n:Nat):FuncId->Code->Tr DVal->XH->Out:=
 Nat.rec (motive:=fun _=>FuncId->Code->Tr DVal->XH->Out) (fun _ _ _ _=> .bad) (fun _ ih f c E H=>Cz2 X ih f c E H) n
def Et (plans:List (FuncId×Nat×Plan)) (f N:Nat):Code->Bool
 | .region id ops true=>match Bu0 plans f id with
  | some p=>ops.toList.all (Gm N)&&Ya ops.toList [] p&&Fx ops.toList p []
  | none=>true
 | .seq a b=>Et plans f N a&&Et plans f N b
 | .cond _ a b=>Et plans f N a&&Et plans f N b
 | .block _ c=>Et plans f N c
 | .loop c=>Et plans f N c
 | .scope c=>Et plans f N c
 | _=>true
def Bz2 (P:Program) (plans:List (FuncId×Nat×Plan)) (k n:Nat) (fn:Func) (l:Late):Bool:=
 match P.funcs[l.g]? with
 | some fg=>match fg.body with
  | some c=>match Ap1 c with
   | some (t1,t2,cc)=>!(fg.name== "runtime.NumGoroutine")&&fg.results.toList.isEmpty&&Et plans l.g fg.ntmps cc&&
    (decide (l.caps.length<=fg.ntmps)&&El fg.ntmps cc&&Mk cc&&decide (t1<fg.ntmps)&&decide (t2<fg.ntmps))&&
    (Et plans k fn.ntmps l.A1&&Et plans k fn.ntmps l.A2&&Et plans k fn.ntmps l.C)&&
    (decide (n<=fn.ntmps)&&(El fn.ntmps l.A1&&Mk l.A1)&&(El fn.ntmps l.A2&&Mk l.A2)&&(El fn.ntmps l.C&&Mk l.C)&&decide (l.d<fn.ntmps)&&l.caps.all (Cd fn.ntmps)&&fn.results.toList.all (Xy fn.ntmps))
   | none=>false
  | none=>false
 | none=>false
def Bz3 (P:Program) (plans:List (FuncId×Nat×Plan)) (k n:Nat):Bool:=
 match P.funcs[k]? with
 | some fn=>!(fn.name== "runtime.NumGoroutine")&&match fn.body with
  | some c=>match Ah8 c with
   | some l=>Bz2 P plans k n fn l
   | none=>Dq3 fn n&&Et plans k fn.ntmps c
  | none=>false
 | none=>false
structure XOk (G:Nat->DVal):Prop where
 mixed:X.P.follows .mixedOrders=true
 gt: ∀g d,X.gt g=some d-> ∀ρ,RV ρ d (G g)
 good:X.good.all (fun x=>Bz3 X.P X.plans x.1 x.2)=true
 plain:X.memo.all (fun x=>Gz x.2.1&&Gq x.2.2)=true
 memo: ∀x∈X.memo,∀H,Bh X.P G x.1 x.2.1 H (Bt x.2.2 H)
end
end
theorem Zb {k:Nat} {args:List DVal} {v:DVal}: ∀ {l:List (FuncId×List DVal×DVal)},Bu1 l k args=some v-> ∃x∈l,x.1=k/\Iv args x.2.1=true/\x.2.2=v
 | [],h=>by cases h
 | x::l,h=>by
  have h:Bool.rec (motive:=fun _=>Option DVal) (Bu1 l k args) (some x.2.2) (Nat.beq x.1 k&&Iv args x.2.1)=some v:=h;cases hb:(Nat.beq x.1 k&&Iv args x.2.1) with
  | false=>
   rw[hb] at h;obtain⟨y,h1,h2⟩:=Zb h;exact⟨y,List.mem_cons_of_mem _ h1,h2⟩
  | true=>
   rw[hb] at h;cases h;simp only[Bool.and_eq_true] at hb;exact⟨x,List.mem_cons_self,Nat.eq_of_beq_eq_true hb.1,hb.2,rfl⟩
theorem Zc {k n:Nat}: ∀ {l:List (FuncId×Nat)},Ay0 l k n=true->(k,n)∈l
 | [],h=>by cases h
 | x::l,h=>by
  have h:Bool.rec (motive:=fun _=>Bool) (Ay0 l k n) true (Nat.beq x.1 k&&Nat.beq x.2 n)=true:=h;cases hb:(Nat.beq x.1 k&&Nat.beq x.2 n) with
  | false=>rw[hb] at h;exact List.mem_cons_of_mem _ (Zc h)
  | true=>
   simp only[Bool.and_eq_true] at hb;obtain⟨a,b⟩:=x;have h1:=Nat.eq_of_beq_eq_true hb.1;have h2:=Nat.eq_of_beq_eq_true hb.2;dsimp only at h1 h2;rw[h1,h2];exact List.mem_cons_self
theorem Dj {a b:Nat} (h:Nat.beq a b=true):a=b:=Nat.eq_of_beq_eq_true h
mutual
theorem Aa6: ∀ {a b:DVal},Bs9 a b=true->a=b
 | .raw _,b,h=>by
  cases b<;>first | (cases (show false=true from h);done) | skip
 | .bool a,b,h=>by
  cases b<;>first | (cases (show false=true from h);done) | skip
  rename_i c;have h:(a==c)=true:=h;rw[eq_of_beq h]
 | .int k n,b,h=>by
  cases b<;>first | (cases (show false=true from h);done) | skip
  rename_i k' n';have h:(decide (k=k')&&decide (n=n'))=true:=h;simp only[Bool.and_eq_true,decide_eq_true_eq] at h;rw[h.1,h.2]
 | .str l,b,h=>by
  cases b<;>first | (cases (show false=true from h);done) | skip
  rename_i c;have h:decide (l=c)=true:=h;rw[of_decide_eq_true h]
 | .nilPtr,b,h=>by
  cases b<;>first | (cases (show false=true from h);done) | skip
  rfl
 | .nilSlice,b,h=>by
  cases b<;>first | (cases (show false=true from h);done) | skip
  rfl
 | .nilMap,b,h=>by
  cases b<;>first | (cases (show false=true from h);done) | skip
  rfl
 | .nilFunc,b,h=>by
  cases b<;>first | (cases (show false=true from h);done) | skip
  rfl
 | .nilIface,b,h=>by
  cases b<;>first | (cases (show false=true from h);done) | skip
  rfl
 | .optr r o,b,h=>by
  cases b<;>first | (cases (show false=true from h);done) | skip
  rename_i r' o';have h:(Nat.beq r r'&&Nat.beq o o')=true:=h;simp only[Bool.and_eq_true] at h;rw[Dj h.1,Dj h.2]
 | .oslice x y z u v,b,h=>by
  cases b<;>first | (cases (show false=true from h);done) | skip
  rename_i x' y' z' u' v';have h:(Nat.beq x x'&&Nat.beq y y'&&Nat.beq z z'&&Nat.beq u u'&&Nat.beq v v')=true:=h;simp only[Bool.and_eq_true] at h;rw[Dj h.1.1.1.1,Dj h.1.1.1.2,Dj h.1.1.2,Dj h.1.2,Dj h.2]
 | .vptr cs o,b,h=>by
  cases b<;>first | (cases (show false=true from h);done) | skip
  rename_i cs' o';have h:(Nat.beq o o'&&Iv cs cs')=true:=h;simp only[Bool.and_eq_true] at h;rw[Dj h.1,Jp h.2]
 | .vslice cs o,b,h=>by
  cases b<;>first | (cases (show false=true from h);done) | skip
  rename_i cs' o';have h:(Nat.beq o o'&&Iv cs cs')=true:=h;simp only[Bool.and_eq_true] at h;rw[Dj h.1,Jp h.2]
 | .iface t v,b,h=>by
  cases b<;>first | (cases (show false=true from h);done) | skip
  rename_i t' v';have h:(Nat.beq t t'&&Bs9 v v')=true:=h;simp only[Bool.and_eq_true] at h;rw[Dj h.1,Aa6 h.2]
 | .agg cs,b,h=>by
  cases b<;>first | (cases (show false=true from h);done) | skip
  rename_i cs';have h:Iv cs cs'=true:=h;rw[Jp h]
 | .tuple cs,b,h=>by
  cases b<;>first | (cases (show false=true from h);done) | skip
  rename_i cs';have h:Iv cs cs'=true:=h;rw[Jp h]
 | .omap r,b,h=>by
  cases b<;>first | (cases (show false=true from h);done) | skip
 | .func f x y,b,h=>by
  cases f<;>cases b<;>first | (cases (show false=true from h);done) | skip
  rename_i f g x' y'
  cases g<;>first | (cases (show false=true from h);done) | skip
  rename_i g
  have h:(Nat.beq f g&&Iv x x'&&Iv y y')=true:=h
  simp only[Bool.and_eq_true] at h
  rw[Dj h.1.1,Jp h.1.2,Jp h.2]
theorem Jp: ∀ {a b:List DVal},Iv a b=true->a=b
 | [],[],_=>rfl
 | [],_::_,h=>by cases (show false=true from h)
 | _::_,[],h=>by cases (show false=true from h)
 | a::al,b::bl,h=>by
  have h:(Bs9 a b&&Iv al bl)=true:=h
  simp only[Bool.and_eq_true] at h
  rw[Aa6 h.1,Jp h.2]
end
theorem Dk4 {a b:Option DObj} (h:Bt0 a b=true):a=b/\ ∃o,a=some o:=by
 unfold Bt0 at h;split at h
 ·simp only[Bool.and_eq_true] at h;rw[Nat.eq_of_beq_eq_true h.1,Jp h.2];exact⟨rfl,_,rfl⟩
 ·simp only[Bool.and_eq_true,decide_eq_true_eq] at h;rw[h.1,Nat.eq_of_beq_eq_true h.2];exact⟨rfl,_,rfl⟩
 ·cases h
end Go.Dl
