/- The data level and the contracts of the functions that are reached (part 5). -/
import Derived.Test.YtpkdkhoeaibpaaaGreatDoorPsd
set_option linter.unusedSimpArgs false
set_option linter.unusedVariables false
set_option linter.unusedSectionVars false
-- AN INTERPRETER OF THE DATA LEVEL, PART 1: definitions. What a closed call computes is found by the kernel; blocks have numbers of the interpreter's own.
namespace Go.Dl
open Go
noncomputable section
inductive Tr (α:Type) where
 | leaf
 | node (l:Tr α) (v:Option α) (r:Tr α)
def Xb:Nat->Nat->List Bool:=
 Nat.rec (motive:=fun _=>Nat->List Bool) (fun _=> []) (fun _ ih k=>Bool.rec (motive:=fun _=>List Bool) (Nat.beq (Nat.mod k 2) 1::ih (Nat.div (Nat.sub k 1) 2)) [] (Nat.beq k 0))
def Nu (k:Nat):List Bool:=Xb k k
def Ld {α:Type} (t:Tr α):List Bool->Option α:=
 Tr.rec (motive:=fun _=>List Bool->Option α) (fun _=>none) (fun _ v _ ihl ihr p=>List.rec (motive:=fun _=>Option α) v (fun b p _=>Bool.rec (motive:=fun _=>Option α) (ihr p) (ihl p) b) p) t
def Db0 {α R:Type} (x:α):List Bool->Tr α->(Tr α->R)->R:=
 List.rec (motive:=fun _=>Tr α->(Tr α->R)->R) (fun t κ=>Tr.rec (motive:=fun _=>R) (κ (.node .leaf (some x) .leaf)) (fun l _ r _ _=>κ (.node l (some x) r)) t)
  (fun b _ ih t κ=>Tr.rec (motive:=fun _=>R) (Bool.rec (motive:=fun _=>R) (ih .leaf fun r=>κ (.node .leaf none r)) (ih .leaf fun l=>κ (.node l none .leaf)) b)
   (fun l v r _ _=>Bool.rec (motive:=fun _=>R) (ih r fun r=>κ (.node l v r)) (ih l fun l=>κ (.node l v r)) b) t)
def Tr.get {α:Type} (t:Tr α) (k:Nat):Option α:=Ld t (Nu k)
def Tr.setK {α R:Type} (_z:R) (x:α) (_n:Nat) (t:Tr α) (k:Nat) (κ:Tr α->R):R:=Db0 x (Nu k) t κ
structure XH where
 tr:Tr (Option DObj)
 nx:Nat
inductive Out where
 | bad
 | norm (E:Tr DVal) (H:XH)
 | exit (id:Nat) (E:Tr DVal) (H:XH)
 | ret (E:Tr DVal) (H:XH)
 | panic (v:DVal) (E:Tr DVal) (H:XH)
 | panicX (v:DVal) (H:XH)
inductive COut where
 | bad
 | cret (v:DVal) (H:XH)
 | cpanic (v:DVal) (H:XH)
def Gs {R:Type} (n:Nat) (κ:Nat->R):R:=Nat.rec (motive:=fun _=>R) (κ 0) (fun m _=>κ (Nat.succ m)) n
def Cu9 {R:Type} (n:Int) (κ:Int->R):R:=Int.rec (motive:=fun _=>R) (fun m=>Gs m fun m=>κ (.ofNat m)) (fun m=>Gs m fun m=>κ (.negSucc m)) n
def Oz {α R:Type} (l:List α):(List α->R)->R:=List.rec (motive:=fun _=>(List α->R)->R) (fun κ=>κ []) (fun x _ ih κ=>ih fun l=>κ (x::l)) l
def Bz8 {R:Type} (b:Bool) (κ:Bool->R):R:=Bool.rec (motive:=fun _=>R) (κ false) (κ true) b
def Mr {α R:Type} (z:R) (κ:α->R) (o:Option α):R:=Option.rec (motive:=fun _=>R) z (fun v=>κ v) o
def Bz9 {R:Type} (vs:List DVal):List DVal->(List DVal->R)->R:=
 List.rec (motive:=fun _=>List DVal->(List DVal->R)->R) (fun cs κ=>κ cs) (fun v vs ih cs κ=>List.rec (motive:=fun _=>R) (κ (v::vs)) (fun _ cs _=>ih cs fun r=>κ (v::r)) cs) vs
def Ay3 {R:Type} (vs:List DVal) (off:Nat):List DVal->(List DVal->R)->R:=
 Nat.rec (motive:=fun _=>List DVal->(List DVal->R)->R) (Bz9 vs) (fun _ ih cs κ=>List.rec (motive:=fun _=>R) (κ vs) (fun c cs _=>ih cs fun r=>κ (c::r)) cs) off
def Db1 {R:Type} (xs ys:List DVal):(List DVal->R)->R:=
 List.rec (motive:=fun _=>(List DVal->R)->R) (fun κ=>κ ys) (fun x _ ih κ=>ih fun r=>κ (x::r)) xs
def Zr {R:Type} (n:Nat):List DVal->(List DVal->R)->R:=
 Nat.rec (motive:=fun _=>List DVal->(List DVal->R)->R) (fun _ κ=>κ []) (fun _ ih cs κ=>List.rec (motive:=fun _=>R) (κ []) (fun c cs _=>ih cs fun r=>κ (c::r)) cs) n
def Bd4 (n:Nat):List DVal->List DVal:=
 Nat.rec (motive:=fun _=>List DVal->List DVal) (fun cs=>cs) (fun _ ih cs=>List.rec (motive:=fun _=>List DVal) [] (fun _ cs _=>ih cs) cs) n
def Cj8 (n:Nat):List DVal->Option DVal:=
 Nat.rec (motive:=fun _=>List DVal->Option DVal) (fun cs=>List.rec (motive:=fun _=>Option DVal) none (fun c _ _=>some c) cs) (fun _ ih cs=>List.rec (motive:=fun _=>Option DVal) none (fun _ cs _=>ih cs) cs) n
def leN (n:Nat):List DVal->Bool:=
 Nat.rec (motive:=fun _=>List DVal->Bool) (fun _=>true) (fun _ ih cs=>List.rec (motive:=fun _=>Bool) false (fun _ cs _=>ih cs) cs) n
def eqN (n:Nat):List DVal->Bool:=
 Nat.rec (motive:=fun _=>List DVal->Bool) (fun cs=>List.rec (motive:=fun _=>Bool) true (fun _ _ _=>false) cs) (fun _ ih cs=>List.rec (motive:=fun _=>Bool) false (fun _ cs _=>ih cs) cs) n
def Zs {R:Type} (z:R) (place:Nat->Option (Nat×Nat)) (Bu:List (Nat×DVal)):List DVal->(List DVal->R)->R:=
 List.rec (motive:=fun _=>List DVal->(List DVal->R)->R) (fun cs κ=>κ cs)
  (fun p _ ih cs κ=>Mr z (fun os=>Bool.rec (motive:=fun _=>R) z (Ay3 p.2.cells os.1 cs fun cs=>ih cs κ) (eqN os.2 p.2.cells&&leN (os.1+os.2) cs)) (place p.1)) Bu
def Db2 {R:Type} (v:DVal) (κ:DVal->R):R:=
 match v with
 | .int k n=>Cu9 n fun n=>κ (.int k n)
 | .bool b=>Bz8 b fun b=>κ (.bool b)
 | .optr r off=>Gs r fun r=>Gs off fun off=>κ (.optr r off)
 | .oslice sz r off len lo=>Gs r fun r=>Gs off fun off=>Gs len fun len=>Gs lo fun lo=>κ (.oslice sz r off len lo)
 | .vptr cs off=>Gs off fun off=>κ (.vptr cs off)
 | .vslice cs len=>Gs len fun len=>κ (.vslice cs len)
 | .agg cs=>Oz cs fun cs=>κ (.agg cs)
 | .str s=>Oz s fun s=>κ (.str s)
 | .tuple cs=>Oz cs fun cs=>κ (.tuple cs)
 | v=>κ v
def fvK {R:Type} (v:DVal) (κ:DVal->R):R:=
 DVal.casesOn (motive_1:=fun _=>(DVal->R)->R) v (fun v κ=>κ (.raw v)) (fun b κ=>Bz8 b fun b=>κ (.bool b)) (fun k n κ=>Cu9 n fun n=>κ (.int k n)) (fun s κ=>Oz s fun s=>κ (.str s)) (fun κ=>κ .nilPtr)
  (fun cs off κ=>Gs off fun off=>κ (.vptr cs off)) (fun r off κ=>Gs r fun r=>Gs off fun off=>κ (.optr r off)) (fun κ=>κ .nilSlice) (fun cs len κ=>Gs len fun len=>κ (.vslice cs len))
  (fun sz r off len lo κ=>Gs r fun r=>Gs off fun off=>Gs len fun len=>Gs lo fun lo=>κ (.oslice sz r off len lo)) (fun κ=>κ .nilMap) (fun r κ=>κ (.omap r)) (fun f a c κ=>κ (.func f a c)) (fun κ=>κ .nilFunc)
  (fun t v κ=>κ (.iface t v)) (fun κ=>κ .nilIface) (fun cs κ=>Oz cs fun cs=>κ (.agg cs)) (fun cs κ=>Oz cs fun cs=>κ (.tuple cs)) κ
def Cn5 {α:Type} (f:α->α->Option α):Option α->Option α->Option α
 | some x,some y=>f x y
 | _,_=>none
def Pa {α:Type} (f:α->α->Option α):Tr α->Tr α->Tr α
 | .node l v r, .node l' v' r'=> .node (Pa f l l') (Cn5 f v v') (Pa f r r')
 | _,_=> .leaf
def Cn6 {α:Type} (g:α->Bool) (f:α->α->Option α):Option α->Option α->Option α->Option α
 | some z,some x,some y=>Bool.rec (motive:=fun _=>Option α) none (f x y) (g z)
 | _,_,_=>none
def Rm {α:Type} (g:α->Bool) (f:α->α->Option α):Tr α->Tr α->Tr α->Tr α
 | .node l v r, .node l1 v1 r1, .node l2 v2 r2=> .node (Rm g f l l1 l2) (Cn6 g f v v1 v2) (Rm g f r r1 r2)
 | _,_,_=> .leaf
def Ma (E:Tr DVal) (H:XH) (dst:Option Nat) (v:DVal):Out:=
 fvK v fun v=>Mr (.norm E H) (fun d=>Tr.setK .bad v 10 E d fun E=> .norm E H) dst
def Xc (E:Tr DVal) (H:XH) (dst:Option Nat) (v:DVal):Out:=Mr (.norm E H) (fun d=>Tr.setK .bad v 10 E d fun E=> .norm E H) dst
def Hh (E:Tr DVal) (H:XH) (dst:Option Nat) (o:Option DVal):Out:=Mr .bad (fun v=>Xc E H dst v) o
def Ee (E:Tr DVal) (H:XH) (dst:Option Nat) (o:Option DVal):Out:=Mr .bad (fun v=>Ma E H dst v) o
def Bc (H:XH) (k:Nat):Option DObj:=
 match H.tr.get k with
 | some (some o)=>some o
 | _=>none
def foK {R:Type} (o:DObj) (κ:DObj->R):R:=
 match o with
 | .cells cs e=>Oz cs fun cs=>κ (.cells cs e)
 | .map es=>Oz es fun es=>κ (.map es)
 | .iter s pos=>Gs pos fun pos=>κ (.iter s pos)
 | o=>κ o
def Xd (H:XH) (k:Nat) (o:Option DObj) (κ:XH->Out):Out:=
 match H with
 | ⟨tr,nx⟩=>match o with
  | some o=>foK o fun o=>Tr.setK .bad (some o) 24 tr k fun tr=>κ ⟨tr,nx⟩
  | none=>Tr.setK .bad none 24 tr k fun tr=>κ ⟨tr,nx⟩
def Xe (H:XH) (o:DObj) (κ:Nat->XH->Out):Out:=
 match H with
 | ⟨tr,nx⟩=>foK o fun o=>Tr.setK .bad (some o) 24 tr nx fun tr=>Gs (nx+1) fun nx'=>κ nx ⟨tr,nx'⟩
section
variable (P:Program) (gt:Nat->Option DVal)
def evK {R:Type} (z:R) (E:Tr DVal) (o:Operand) (κ:DVal->R):R:=
 match o with
 | .tmp t=>Mr z κ (E.get t)
 | .const v=>κ (Bn v)
 | .global g=>Mr z κ (gt g)
 | .func f=>κ (.func (.func f) [] [])
def Rn {R:Type} (z:R) (E:Tr DVal) (os:List Operand):(List DVal->R)->R:=
 List.rec (motive:=fun _=>(List DVal->R)->R) (fun κ=>κ []) (fun x _ ih κ=>evK gt z E x fun v=>ih fun vs=>κ (v::vs)) os
def Tg {R:Type} (z:R) (E:Tr DVal) (os:List (Nat×Operand)):(List (Nat×DVal)->R)->R:=
 List.rec (motive:=fun _=>(List (Nat×DVal)->R)->R) (fun κ=>κ []) (fun x _ ih κ=>evK gt z E x.2 fun v=>ih fun vs=>κ ((x.1,v)::vs)) os
def Af7 {R:Type} (z:R) (E:Tr DVal) (o:Option Operand) (κ:Option DVal->R):R:=
 match o with
 | some x=>evK gt z E x fun v=>κ (some v)
 | none=>κ none
def Bd5:DVal->DVal->DVal->Option DVal
 | .bool true,a,_=>some a
 | .bool false,_,b=>some b
 | _,_,_=>none
def Af8:Bool->Option TypeDesc->Option DVal->List (Nat×DVal)->Option DVal
 | true,some (.struct fields),some z,Bu=>Zs none (Ab4 P fields) Bu z.cells fun l=>some (.agg l)
 | true,some (.array _ e),some z,Bu=>Zs none (Mt (P.cellsOf e)) Bu z.cells fun l=>some (.agg l)
 | _,_,_,_=>none
def Af9 (size:Nat) (cs:List DVal) (off:Nat):Option Bool->Option DVal
 | some true=>Bool.rec (motive:=fun _=>Option DVal) none (Zr size (Bd4 off cs) fun l=>some (.agg l)) (leN (off+size) cs)
 | some false=>Cj8 off cs
 | none=>none
def Ag0 (size:Nat) (ag:Option Bool) (off:Nat):Option DObj->Option DVal
 | some (.cells cs _)=>Af9 size cs off ag
 | _=>none
def Bd6 (size:Nat) (ag:Option Bool) (H:XH):DVal->Option DVal
 | .vptr cs off=>Af9 size cs off ag
 | .optr r off=>Ag0 size ag off (Bc H r)
 | _=>none
def Cj9:DVal->Option DVal
 | .vptr cs off=>some (.vptr cs off)
 | .optr r off=>some (.optr r off)
 | .func (.func f) a c=>some (.func (.func f) a c)
 | .iface t v=>some (.iface t v)
 | .omap r=>some (.omap r)
 | _=>none
def Ay4:Option Bool->Option Bool->Option DVal
 | some false,some b=>some (.bool b)
 | some true,some b=>some (.bool (!b))
 | _,_=>none
def Cn7 (k:IntKind) (a b:Int):BinOp->Option DVal
 | .add=>some (.int k (k.wrap (a+b)))
 | .sub=>some (.int k (k.wrap (a-b)))
 | .mul=>some (.int k (k.wrap (a*b)))
 | .quo=>if b=0 then none else some (.int k (k.wrap (a.tdiv b)))
 | .rem=>if b=0 then none else some (.int k (a.tmod b))
 | .and=>some (.int k (k.wrap (BitVec.ofInt k.bits a&&&BitVec.ofInt k.bits b).toNat))
 | .or=>some (.int k (k.wrap (BitVec.ofInt k.bits a ||| BitVec.ofInt k.bits b).toNat))
 | .xor=>some (.int k (k.wrap (BitVec.ofInt k.bits a^^^BitVec.ofInt k.bits b).toNat))
 | .andNot=>some (.int k (k.wrap (BitVec.ofInt k.bits a&&& ~~~BitVec.ofInt k.bits b).toNat))
 | .eql=>some (.bool (decide (a=b)))
 | .neq=>some (.bool (!decide (a=b)))
 | .lss=>some (.bool (decide (a<b)))
 | .leq=>some (.bool (decide (a<=b)))
 | .gtr=>some (.bool (decide (b<a)))
 | .geq=>some (.bool (decide (b<=a)))
 | _=>none
def Db3 (op:BinOp) (k:IntKind) (a b:Int):Option DVal:=
 BinOp.casesOn (motive:=fun _=>IntKind->Int->Int->Option DVal) op
  (fun k a b=>some (.int k (k.wrap (a+b))))
  (fun k a b=>some (.int k (k.wrap (a-b))))
  (fun k a b=>some (.int k (k.wrap (a*b))))
  (fun k a b=>if b=0 then none else some (.int k (k.wrap (a.tdiv b))))
  (fun k a b=>if b=0 then none else some (.int k (a.tmod b)))
  (fun k a b=>some (.int k (k.wrap (BitVec.ofInt k.bits a&&&BitVec.ofInt k.bits b).toNat)))
  (fun k a b=>some (.int k (k.wrap (BitVec.ofInt k.bits a ||| BitVec.ofInt k.bits b).toNat)))
  (fun k a b=>some (.int k (k.wrap (BitVec.ofInt k.bits a^^^BitVec.ofInt k.bits b).toNat)))
  (fun _ _ _=>none)
  (fun _ _ _=>none)
  (fun k a b=>some (.int k (k.wrap (BitVec.ofInt k.bits a&&& ~~~BitVec.ofInt k.bits b).toNat)))
  (fun k a b=>some (.bool (decide (a=b))))
  (fun k a b=>some (.bool (!decide (a=b))))
  (fun k a b=>some (.bool (decide (a<b))))
  (fun k a b=>some (.bool (decide (a<=b))))
  (fun k a b=>some (.bool (decide (b<a))))
  (fun k a b=>some (.bool (decide (b<=a)))) k a b
def Cv0 (k:IntKind) (a b:Int) (op:BinOp):Option DVal:=Db3 op k a b
def Ay5 (k:IntKind) (a b:Int):BinOp->Option DVal
 | .shl=>if 0<=b then some (.int k (k.wrap (a*2^(min b.toNat k.bits)))) else none
 | .shr=>if 0<=b then some (.int k (a.fdiv (2^(min b.toNat k.bits)))) else none
 | _=>none
def Ay6 (a:List UInt8):List UInt8->Bool:=
 List.rec (motive:=fun _=>List UInt8->Bool) (fun b=>List.rec (motive:=fun _=>Bool) true (fun _ _ _=>false) b)
  (fun x _ ih b=>List.rec (motive:=fun _=>Bool) false (fun y ys _=>Bool.rec (motive:=fun _=>Bool) false (ih ys) (Nat.beq x.toNat y.toNat)) b) a
def Cv1 (a b:List UInt8):BinOp->Option DVal
 | .add=>if a.length+b.length<=9223372036854775807 then some (.str (a++b)) else none
 | .eql=>some (.bool (Ay6 a b))
 | .neq=>some (.bool (!Ay6 a b))
 | .lss=>some (.bool (Go.Op.bytesLess a b))
 | .leq=>some (.bool (Go.Op.bytesLess a b || decide (a=b)))
 | .gtr=>some (.bool (!(Go.Op.bytesLess a b || decide (a=b))))
 | .geq=>some (.bool (!Go.Op.bytesLess a b))
 | _=>none
def Cv2 (t:TypeId) (c:Bool) (op:BinOp):DVal->DVal->Option DVal
 | .int k a, .int k' b=>if Cg op then Ay5 k a b op else if k=k' then Cv0 k a b op else none
 | .str a, .str b=>Cv1 a b op
 | .agg xs, .agg ys=>if Br P t=some true/\P.eqGuardType P.depth t=false then Ay4 (Ht op) (Mo P 6 t xs ys) else none
 | x,y=>Ay4 (Ht op) (Ik c (P.underlying t) x y)
def Bd7 (t:TypeId) (c:Bool) (op:BinOp):Bool->DVal->DVal->Option DVal
 | true, .vslice (_::_) _,_=>if Ce7 (P.underlying t) then Ay4 (Ht op) (some false) else none
 | true, .vslice [] _,_=>none
 | _,x,y=>Cv2 P t c op x y
def vUn:UnOp->DVal->Option DVal
 | .not, .bool b=>some (.bool (!b))
 | .neg, .int k n=>some (.int k (k.wrap (0-n)))
 | .xor, .int k n=>some (.int k (k.wrap (BitVec.ofInt k.bits (if k.signed then-1 else k.max)^^^BitVec.ofInt k.bits n).toNat))
 | _,_=>none
def Xf:Option TypeDesc->Option TypeDesc->DVal->Option DVal
 | some _,some (.int k), .int _ n=>some (.int k (k.wrap n))
 | some _,some .string, .str l=>some (.str l)
 | _,_,_=>none
def Cv3:Option TypeDesc->Bool
 | some (.int .u8)=>true
 | _=>false
def Cv4 (H:XH):DVal->Option (List DVal)
 | .nilSlice=>some []
 | .vslice cs n=>if n<=cs.length then some (cs.take n) else none
 | .oslice _ r off n _=>Lj n off (Bc H r)
 | _=>none
def Ag1 (H:XH):Option TypeDesc->Option TypeDesc->DVal->Option DVal
 | some (.slice e),some .string,x=>if Cv3 (P.underlying e) then((Cv4 H x).bind Ig).map .str else none
 | a,b,x=>Xf a b x
def Th (l:List UInt8):Option Int->Option Int->Option DVal
 | some lo,some hi=>if 0<=lo/\lo<=hi/\hi<=l.length then some (.str ((l.drop lo.toNat).take (hi.toNat-lo.toNat))) else none
 | _,_=>none
def Uy (size:Nat) (cs:List DVal) (len:Nat):Option Int->Option Int->Option DVal
 | some lo,some hi=>if 0<=lo/\lo<=hi/\hi<=len then some (.vslice ((cs.drop (lo.toNat*size)).take ((hi.toNat-lo.toNat)*size)) (hi.toNat-lo.toNat)) else none
 | _,_=>none
def Ro (size r off cap:Nat):Option Int->Option Int->Option Int->Option DVal
 | some lo,some hi,some mx=>if 0<=lo/\lo<=hi/\hi<=mx/\mx<=cap then some (.oslice size r (off+lo.toNat*size) (hi.toNat-lo.toNat) (mx.toNat-lo.toNat)) else none
 | _,_,_=>none
def Ag2:Option Int->Option Int->Option DVal
 | some lo,some hi=>if lo=0/\hi=0 then some .nilSlice else none
 | _,_=>none
def Ca0 (n:Nat):Option DObj->Bool
 | some (.cells cs _)=>decide (n<=cs.length)
 | _=>false
def Ag3 (H:XH) (lo hi:Option DVal):Option TypeDesc->DVal->Option DVal->Option DVal
 | some .string, .str l,none=>Th l (dLo lo) (dHi l.length hi)
 | some (.slice e), .nilSlice,none=>if(P.info? e).isSome then Ag2 (dLo lo) (dHi 0 hi) else none
 | some (.slice e), .vslice cs len,none=>if(P.info? e).isSome then Uy (P.cellsOf e) cs len (dLo lo) (dHi len hi) else none
 | some (.slice e), .oslice sz r off len cap,none=>if(P.info? e).isSome&&sz==P.cellsOf e then Ro (P.cellsOf e) r off cap (dLo lo) (dHi len hi) (some cap) else none
 | some (.slice e), .oslice sz r off _ cap,some m=>if(P.info? e).isSome&&sz==P.cellsOf e&&hi.isSome then Ro (P.cellsOf e) r off cap (dLo lo) (dLo hi) (dLo (some m)) else none
 | some (.array n e), .optr r off,none=>if(P.info? e).isSome&&Ca0 (off+n*P.cellsOf e) (Bc H r) then Ro (P.cellsOf e) r off n (dLo lo) (dHi n hi) (some n) else none
 | some (.array n e), .vptr cs off,none=>if(P.info? e).isSome&&decide (off+n*P.cellsOf e<=cs.length) then Uy (P.cellsOf e) ((cs.drop off).take (n*P.cellsOf e)) n (dLo lo) (dHi n hi) else none
 | _,_,_=>none
def Uh (x:DVal):Option Field->Option DVal
 | some f=>if 0<P.cellsOf f.type then Il f.offset x else none
 | none=>none
def Mb (f:Nat) (x:DVal):Option TypeDesc->Option DVal
 | some (.struct fields)=>Uh P x fields[f]?
 | _=>none
def Bd8 (size:Nat) (cs:List DVal) (off:Nat):Option Bool->Option DVal
 | some true=>Zr size (Bd4 off cs) fun l=>some (.agg l)
 | some false=>Cj8 off cs
 | none=>none
def Bd9 (cs:List DVal):Option Field->Option DVal
 | some f=>Bd8 (P.cellsOf f.type) cs f.offset (Br P f.type)
 | none=>none
def Ag4 (f:Nat):Option TypeDesc->DVal->Option DVal
 | some (.struct fields), .agg cs=>Bd9 P cs fields[f]?
 | _,_=>none
def Mc:Option TypeDesc->DVal->DVal->Option DVal
 | some (.slice e), .vslice cs len, .int _ i=>if(P.info? e).isSome=true/\0<=i/\i<len/\leN (i.toNat*P.cellsOf e+1) cs=true then some (.vptr cs (i.toNat*P.cellsOf e)) else none
 | some (.slice e), .oslice _ r off len _, .int _ i=>if(P.info? e).isSome=true/\0<=i/\i<len then some (.optr r (off+i.toNat*P.cellsOf e)) else none
 | some (.array n e),x, .int _ i=>if(P.info? e).isSome=true/\0<=i/\i<n then Il (i.toNat*P.cellsOf e) x else none
 | _,_,_=>none
def Ag5:Option TypeDesc->DVal->DVal->Option DVal
 | some (.array n e), .agg cs, .int _ i=>if 0<=i/\i<n then Bd8 (P.cellsOf e) cs (i.toNat*P.cellsOf e) (Br P e) else none
 | some .string, .str l, .int _ i=>if 0<=i then l[i.toNat]?.map fun b=> .int .u8 b.toNat else none
 | _,_,_=>none
def Rp (i:Nat):DVal->Option DVal
 | .tuple vs=>vs[i]?
 | _=>none
def Rq:Option DVal->Option DVal
 | some z=>some (.tuple [z, .bool false])
 | none=>none
def Zt (v:DVal) (z:Option DVal):Bool->Bool->Option DVal
 | true,true=>some (.tuple [v, .bool true])
 | true,false=>Rq z
 | false,true=>some v
 | false,false=>none
def Kg (asserted:TypeId) (commaOk:Bool):Bool->DVal->Option DVal
 | true, .iface t v=>Zt v (Ax P asserted) commaOk (decide (t=asserted))
 | true, .nilIface=>if commaOk then Rq (Ax P asserted) else none
 | _,_=>none
def Cv5:Option TypeDesc->DVal->Option DVal
 | some .string, .str l=>some (.int .i64 l.length)
 | some (.array n _),_=>some (.int .i64 n)
 | some (.slice _), .nilSlice=>some (.int .i64 0)
 | some (.slice _), .vslice _ n=>some (.int .i64 n)
 | some (.slice _), .oslice _ _ _ n _=>some (.int .i64 n)
 | _,_=>none
def Ay7 (x:DVal):List TypeId->Option DVal
 | [t]=>Cv5 (P.underlying t) x
 | _=>none
def Yq (env:Nat->DVal) (n:Nat):List (DVal×DVal):=(List.range n).map fun i=>(env (2*i),env (2*i+1))
def Ag6 (ok:Bool) (v:DVal) (b:Bool):DVal:=if ok then .tuple [v, .bool b] else v
def Py (es:List (DVal×DVal)) (ok:Bool):Option DVal->Option (Option Nat)->Option DVal
 | _,some (some i)=>es[i]?.map fun p=>Ag6 ok p.2 true
 | some z,some none=>some (Ag6 ok z false)
 | _,_=>none
def Ca1 (z:Option DVal) (k:DVal) (ok:Bool):Option DObj->Option DVal
 | some (.map es)=>Py es ok z (Cl k es 0)
 | some (.loop env n _)=>Py (Yq env n) ok z (Cl k (Yq env n) 0)
 | _=>none
def Uz (H:XH) (ok:Bool):Option TypeDesc->DVal->DVal->Option DVal
 | some (.map kt e), .omap r,k=>if Fy P (P.underlying kt) k then Ca1 (Ax P e) k ok (Bc H r) else none
 | some (.map kt e), .nilMap,k=>if Fy P (P.underlying kt) k then Py [] ok (Ax P e) (some none) else none
 | _,_,_=>none
def Md (t:TypeId) (x:DVal):Bool->Option DVal
 | true=>some (.iface t x)
 | false=>none
def Ap7 (E:Tr DVal) (H:XH) (dst:Option Nat) (cs:List DVal) (e:TypeId):Out:=
 Xe H (.cells cs e) fun k H=>Ma E H dst (.optr k 0)
def Ap8 (E:Tr DVal) (H:XH) (dst:Option Nat) (cs:List DVal) (e:TypeId) (sz len cap:Nat):Out:=
 Xe H (.cells cs e) fun k H=>Ma E H dst (.oslice sz k 0 len cap)
def Ca2 (E:Tr DVal) (H:XH) (dst:Option Nat):Out:=Xe H (.map []) fun k H=>Ma E H dst (.omap k)
def Kh (E:Tr DVal) (H:XH) (dst:Option Nat) (len:Nat):Option TypeDesc->List (Nat×DVal)->Out
 | some (.slice e),Bu=>Mr .bad (fun z=>Bool.rec (motive:=fun _=>Out) .bad (Zs .bad (Mt (P.cellsOf e)) Bu (repl len z.cells) fun cs=>Ap8 E H dst cs e (P.cellsOf e) len len) (decide (len*P.cellsOf e<=16777216)&&z.cells.length==P.cellsOf e)) (Ax P e)
 | _,_=> .bad
def Me (E:Tr DVal) (H:XH) (dst:Option Nat):Option TypeDesc->DVal->DVal->Out
 | some (.slice e), .int _ l, .int _ c=>Mr .bad (fun z=>Bool.rec (motive:=fun _=>Out) .bad (Gs l.toNat fun l=>Gs c.toNat fun c=>Ap8 E H dst (repl c z.cells) e (P.cellsOf e) l c)
   (decide (0<=l)&&decide (l<=c)&&decide (c*(P.bytesOf e:Int)<=35184372088832)&&decide (c<9223372036854775808)&&z.cells.length==P.cellsOf e&&decide (0<P.cellsOf e))) (Ax P e)
 | _,_,_=> .bad
def Be0 (E:Tr DVal) (H:XH) (size r off:Nat) (v:DVal):Option DObj->Out
 | some (.cells cs e)=>Bool.rec (motive:=fun _=>Out) .bad (Ay3 v.cells off cs fun cs=>Xd H r (some (.cells cs e)) fun H=> .norm E H) (eqN size v.cells&&v.cells.all (·.one)&&leN (off+size) cs)
 | _=> .bad
def Ag7 (E:Tr DVal) (H:XH) (size:Nat):Option Nat->DVal->DVal->Out
 | none, .optr r off,v=>Be0 E H size r off v (Bc H r)
 | _,_,_=> .bad
def Ay8 (size:Nat) (H:XH):DVal->Option (Nat×List DVal)
 | .nilSlice=>some (0,[])
 | .vslice cs n=>Zr (n*size) cs fun l=>some (n,l)
 | .oslice _ r off n _=>Kp size n off (Bc H r)
 | .str l=>some (l.length,l.map fun b=> .int .u8 b.toNat)
 | _=>none
def Xg (E:Tr DVal) (H:XH) (dst:Option Nat) (e:TypeId) (size bytes r off len lo n:Nat) (news:List DVal):Option DObj->Out
 | some (.cells cs e')=>Bool.rec (motive:=fun _=>Out) .bad
   (Bool.rec (motive:=fun _=>Out)
    (Bool.rec (motive:=fun _=>Out) .bad
     (Xd H r none fun H=>Zr (len*size) (Bd4 off cs) fun old=>Db1 old news fun cs=>Xe H (.cells cs e) fun k H=>Ma E H dst (.oslice size k 0 (len+n) (len+n)))
     (leN (off+len*size) cs&&decide ((len+n)*bytes<=35184372088832)&&Nat.ble len lo&&Nat.beq off 0))
    (Bool.rec (motive:=fun _=>Out) .bad
     (Ay3 news (off+len*size) cs fun cs=>Xd H r (some (.cells cs e)) fun H=>Ma E H dst (.oslice size r off (len+n) lo))
     (leN (off+(len+n)*size) cs))
    (Nat.ble (len+n) lo))
   (Nat.beq e' e)
 | _=> .bad
def Zu (E:Tr DVal) (H:XH) (dst:Option Nat) (e:TypeId) (size bytes n:Nat) (news:List DVal):DVal->Out
 | .nilSlice=>Bool.rec (motive:=fun _=>Out) (Bool.rec (motive:=fun _=>Out) .bad (Ap8 E H dst news e size n n) (decide (n*bytes<=35184372088832))) (Ma E H dst .nilSlice) (Nat.beq n 0)
 | .oslice sz r off len lo=>Bool.rec (motive:=fun _=>Out) .bad (Xg E H dst e size bytes r off len lo n news (Bc H r)) (Nat.beq sz size)
 | _=> .bad
def Ap9 (E:Tr DVal) (H:XH) (dst:Option Nat) (e:TypeId) (size bytes:Nat) (x:DVal):Option (Nat×List DVal)->Out
 | some (n,news)=>Bool.rec (motive:=fun _=>Out) .bad (Zu E H dst e size bytes n news x) (eqN (n*size) news&&news.all (·.one))
 | none=> .bad
def Be1 (E:Tr DVal) (H:XH) (dst:Option Nat) (x y:DVal):Option TypeDesc->Out
 | some (.slice e)=>Bool.rec (motive:=fun _=>Out) .bad (Ap9 E H dst e (P.cellsOf e) (P.bytesOf e) x (Ay8 (P.cellsOf e) H y))
   ((Ax P e).isSome&&(Ax P e).all (fun z=>z.cells.length=P.cellsOf e)&&decide (0<P.cellsOf e)&&decide (0<P.bytesOf e))
 | _=> .bad
def Ti (E:Tr DVal) (H:XH) (dst:Option Nat) (x y:DVal):List TypeId->Out
 | [t,t']=>Bool.rec (motive:=fun _=>Out) .bad (Be1 P E H dst x y (P.underlying t)) (!Gm (P.underlying t')&&Pk (P.underlying t'))
 | _=> .bad
def Ol (E:Tr DVal) (H:XH) (dst:Option Nat):Option TypeDesc->DVal->DVal->DVal->Out
 | some (.map kt _), .omap r,k,v=>match dst,Fy P (P.underlying kt) k&&v.one,Bc H r with
  | none,true,some (.map es)=>Mr .bad (fun i=>Xd H r (some (.map (Ac0 es k v i))) fun H=> .norm E H) (Cl k es 0)
  | _,_,_=> .bad
 | _,_,_,_=> .bad
def Rr (E:Tr DVal) (H:XH) (dst:Option Nat):Option TypeDesc->Option DVal->Out
 | some (.map _ _),none=>Ca2 E H dst
 | some (.map _ _),some (.int _ _)=>Ca2 E H dst
 | _,_=> .bad
def Ag8 (E:Tr DVal) (H:XH) (dst:Option Nat):Option TypeDesc->DVal->Out
 | some .string, .str l=>Xe H (.iter l 0) fun k H=>Ma E H dst (.optr k 0)
 | _,_=> .bad
def Ca3 (E:Tr DVal) (H:XH) (dst:Option Nat) (r:Nat):Option DObj->Out
 | some (.iter l pos)=>Bool.rec (motive:=fun _=>Out) (Ma E H dst (.tuple [.bool false]))
   (Gs (Iy l pos).1 fun c=>Gs (Iy l pos).2 fun n=>Xd H r (some (.iter l (pos+n))) fun H=>Ma E H dst (.tuple [.bool true, .int .i64 pos, .int .i32 c])) (decide (pos<l.length))
 | _=> .bad
def Be2 (E:Tr DVal) (H:XH) (dst:Option Nat):Bool->DVal->Out
 | true, .optr r 0=>Ca3 E H dst r (Bc H r)
 | _,_=> .bad
def Ca4 (E:Tr DVal) (dst:Option Nat):COut->Out
 | .bad=> .bad
 | .cret v H=>Ma E H dst v
 | .cpanic v H=> .panic v E H
def Ay9 (call:Nat->List DVal->XH->COut) (E:Tr DVal) (H:XH) (dst:Option Nat) (args:List DVal):DVal->Out
 | .func (.func k) first captured=>Ca4 E dst (call k (first++args++captured) H)
 | _=> .bad
def Xh (E:Tr DVal) (H:XH) (dst:Option Nat) (ts:List TypeId):Builtin->List DVal->Out
 | .len,[x]=>Ee E H dst (Ay7 P x ts)
 | .append,[x,y]=>Ti P E H dst x y ts
 | .min,xs=>Ee E H dst (Fm false xs)
 | .max,xs=>Ee E H dst (Fm true xs)
 | .panic,[.iface t v]=> .panic (.iface t v) E H
 | _,_=> .bad
def Ag9 (call:Nat->List DVal->XH->COut) (E:Tr DVal) (H:XH) (dst:Option Nat) (c:Call):Callee->Out
 | .value f=>evK gt .bad E f fun f=>Rn gt .bad E c.args.toList fun args=>Ay9 call E H dst args f
 | .builtin b=>Rn gt .bad E c.args.toList fun args=>Xh P E H dst c.argTypes.toList b args
 | .invoke _ _=> .bad
def Ah0 (E:Tr DVal) (H:XH):DVal->Out
 | .iface t v=> .panic (.iface t v) E H
 | _=> .bad
def Db4 (call:Nat->List DVal->XH->COut) (E:Tr DVal) (H:XH) (dst:Option Nat):Op->Out
 | .move x=>evK gt .bad E x fun v=>Xc E H dst v
 | .assign x=>evK gt .bad E x fun v=>Xc E H dst v
 | .pick c a b=>evK gt .bad E c fun c=>evK gt .bad E a fun a=>evK gt .bad E b fun b=>Hh E H dst (Bd5 c a b)
 | .alloc e=>Mr .bad (fun z=>Ap7 E H dst (DVal.cells z) e) (Ax P e)
 | .box e x=>evK gt .bad E x fun x=>Ap7 E H dst x.cells e
 | .build t ps=>Tg gt .bad E ps.toList fun ps=>Ee E H dst (Af8 P (Od P t) (P.underlying t) (Ax P t) ps)
 | .buildSlice t n ps=>Tg gt .bad E ps.toList fun ps=>Kh P E H dst n (P.underlying t) ps
 | .load t a=>evK gt .bad E a fun a=>Hh E H dst (Bd6 (P.cellsOf t) (Br P t) H a)
 | .store t a x=>evK gt .bad E a fun a=>evK gt .bad E x fun x=>Bool.rec (motive:=fun _=>Out) .bad (Ag7 E H (P.cellsOf t) dst a x) (P.info? t).isSome
 | .nilCheck x=>evK gt .bad E x fun x=>Hh E H dst (Cj9 x)
 | .binOp op t x y _=>evK gt .bad E x fun vx=>evK gt .bad E y fun vy=>Ee E H dst (Bd7 P t (Cd x || Cd y) op (Dh y) vx vy)
 | .unOp op _ x=>evK gt .bad E x fun x=>Ee E H dst (vUn op x)
 | .convert src t x=>evK gt .bad E x fun x=>Ee E H dst (Ag1 P H (P.underlying src) (P.underlying t) x)
 | .makeInterface t x=>evK gt .bad E x fun x=>Ee E H dst (Md t x (Bl (P.underlying t)))
 | .makeFunc fn fs cs=>Rn gt .bad E fs.toList fun fs=>Rn gt .bad E cs.toList fun cs=>Ma E H dst (.func fn fs cs)
 | .makeMap t r=>Af7 gt .bad E r fun r=>Rr E H dst (P.underlying t) r
 | .lookup t x k ok=>evK gt .bad E x fun x=>evK gt .bad E k fun k=>Ee E H dst (Uz P H ok (P.underlying t) x k)
 | .mapUpdate t m k x=>evK gt .bad E m fun m=>evK gt .bad E k fun k=>evK gt .bad E x fun x=>Ol P E H dst (P.underlying t) m k x
 | .insert t m k x=>evK gt .bad E m fun m=>evK gt .bad E k fun k=>evK gt .bad E x fun x=>Ol P E H dst (P.underlying t) m k x
 | .makeSlice t l c=>evK gt .bad E l fun l=>evK gt .bad E c fun c=>Me P E H dst (P.underlying t) l c
 | .slice t x lo hi mx=>evK gt .bad E x fun x=>Af7 gt .bad E lo fun lo=>Af7 gt .bad E hi fun hi=>Af7 gt .bad E mx fun mx=>Ee E H dst (Ag3 P H lo hi (P.underlying t) x mx)
 | .fieldAddr t x f=>evK gt .bad E x fun x=>Ee E H dst (Mb P f x (P.underlying t))
 | .field t x f=>evK gt .bad E x fun x=>Hh E H dst (Ag4 P f (P.underlying t) x)
 | .indexAddr t x i=>evK gt .bad E x fun x=>evK gt .bad E i fun i=>Ee E H dst (Mc P (P.underlying t) x i)
 | .index t x i=>evK gt .bad E x fun x=>evK gt .bad E i fun i=>Ee E H dst (Ag5 P (P.underlying t) x i)
 | .typeAssert x _ t ok=>evK gt .bad E x fun x=>Hh E H dst (Kg P t ok (Bl (P.underlying t)) x)
 | .extract x i=>evK gt .bad E x fun x=>Hh E H dst (Rp i x)
 | .panic x=>evK gt .bad E x fun x=>Ah0 E H x
 | .range t x=>evK gt .bad E x fun x=>Ag8 E H dst (P.underlying t) x
 | .next x b=>evK gt .bad E x fun x=>Be2 E H dst b x
 | .call c=>Ag9 P gt call E H dst c c.callee
 | _=> .bad
def xop (call:Nat->List DVal->XH->COut) (E:Tr DVal) (H:XH) (dst:Option Nat) (op:Op):Out:=
 Op.casesOn (motive:=fun _=>Program->(Nat->Option DVal)->(Nat->List DVal->XH->COut)->Tr DVal->XH->Option Nat->Out) op
  (fun x P gt call E H dst=>evK gt .bad E x fun v=>Xc E H dst v)
  (fun x P gt call E H dst=>evK gt .bad E x fun v=>Xc E H dst v)
  (fun c a b P gt call E H dst=>evK gt .bad E c fun c=>evK gt .bad E a fun a=>evK gt .bad E b fun b=>Hh E H dst (Bd5 c a b))
  (fun e P gt call E H dst=>Mr .bad (fun z=>Ap7 E H dst (DVal.cells z) e) (Ax P e))
  (fun e x P gt call E H dst=>evK gt .bad E x fun x=>Ap7 E H dst x.cells e)
  (fun t ps P gt call E H dst=>Tg gt .bad E ps.toList fun ps=>Ee E H dst (Af8 P (Od P t) (P.underlying t) (Ax P t) ps))
  (fun t n ps P gt call E H dst=>Tg gt .bad E ps.toList fun ps=>Kh P E H dst n (P.underlying t) ps)
  (fun t m k x P gt call E H dst=>evK gt .bad E m fun m=>evK gt .bad E k fun k=>evK gt .bad E x fun x=>Ol P E H dst (P.underlying t) m k x)
  (fun t a P gt call E H dst=>evK gt .bad E a fun a=>Hh E H dst (Bd6 (P.cellsOf t) (Br P t) H a))
  (fun t a x P gt call E H dst=>evK gt .bad E a fun a=>evK gt .bad E x fun x=>Bool.rec (motive:=fun _=>Out) .bad (Ag7 E H (P.cellsOf t) dst a x) (P.info? t).isSome)
  (fun _ _ _ _ _ _ _=> .bad)
  (fun _ _ _ _ _ _ _=> .bad)
  (fun x P gt call E H dst=>evK gt .bad E x fun x=>Hh E H dst (Cj9 x))
  (fun op t x y _ P gt call E H dst=>evK gt .bad E x fun vx=>evK gt .bad E y fun vy=>Ee E H dst (Bd7 P t (Cd x || Cd y) op (Dh y) vx vy))
  (fun op _ x P gt call E H dst=>evK gt .bad E x fun x=>Ee E H dst (vUn op x))
  (fun src t x P gt call E H dst=>evK gt .bad E x fun x=>Ee E H dst (Ag1 P H (P.underlying src) (P.underlying t) x))
  (fun _ _ _ _ _ _ _ _=> .bad)
  (fun t x P gt call E H dst=>evK gt .bad E x fun x=>Ee E H dst (Md t x (Bl (P.underlying t))))
  (fun fn fs cs P gt call E H dst=>Rn gt .bad E fs.toList fun fs=>Rn gt .bad E cs.toList fun cs=>Ma E H dst (.func fn fs cs))
  (fun t r P gt call E H dst=>Af7 gt .bad E r fun r=>Rr E H dst (P.underlying t) r)
  (fun _ _ _ _ _ _ _ _=> .bad)
  (fun t l c P gt call E H dst=>evK gt .bad E l fun l=>evK gt .bad E c fun c=>Me P E H dst (P.underlying t) l c)
  (fun t x lo hi mx P gt call E H dst=>evK gt .bad E x fun x=>Af7 gt .bad E lo fun lo=>Af7 gt .bad E hi fun hi=>Af7 gt .bad E mx fun mx=>Ee E H dst (Ag3 P H lo hi (P.underlying t) x mx))
  (fun t x f P gt call E H dst=>evK gt .bad E x fun x=>Ee E H dst (Mb P f x (P.underlying t)))
  (fun t x f P gt call E H dst=>evK gt .bad E x fun x=>Hh E H dst (Ag4 P f (P.underlying t) x))
  (fun t x i P gt call E H dst=>evK gt .bad E x fun x=>evK gt .bad E i fun i=>Ee E H dst (Mc P (P.underlying t) x i))
  (fun t x i P gt call E H dst=>evK gt .bad E x fun x=>evK gt .bad E i fun i=>Ee E H dst (Ag5 P (P.underlying t) x i))
  (fun t x k ok P gt call E H dst=>evK gt .bad E x fun x=>evK gt .bad E k fun k=>Ee E H dst (Uz P H ok (P.underlying t) x k))
  (fun t m k x P gt call E H dst=>evK gt .bad E m fun m=>evK gt .bad E k fun k=>evK gt .bad E x fun x=>Ol P E H dst (P.underlying t) m k x)
  (fun _ _ _ _ _ _ _ _ _=> .bad)
  (fun _ _ _ _ _ _ _ _ _ _=> .bad)
  (fun t x P gt call E H dst=>evK gt .bad E x fun x=>Ag8 E H dst (P.underlying t) x)
  (fun x b P gt call E H dst=>evK gt .bad E x fun x=>Be2 E H dst b x)
  (fun _ _ _ _ _ _ _=> .bad)
  (fun x _ t ok P gt call E H dst=>evK gt .bad E x fun x=>Hh E H dst (Kg P t ok (Bl (P.underlying t)) x))
  (fun x i P gt call E H dst=>evK gt .bad E x fun x=>Hh E H dst (Rp i x))
  (fun c P gt call E H dst=>Ag9 P gt call E H dst c c.callee)
  (fun _ _ _ _ _ _ _=> .bad)
  (fun _ _ _ _ _ _ _=> .bad)
  (fun x P gt call E H dst=>evK gt .bad E x fun x=>Ah0 E H x)
  (fun _ _ _ _ _ _ _ _=> .bad)
  (fun _ _ _ _ _ _ _ _ _=> .bad)
  (fun _ _ _ _ _ _ _ _=> .bad) P gt call E H dst
def Nv (o:Out) (κ:Tr DVal->XH->Out):Out:=
 match o with
 | .norm E H=>κ E H
 | o=>o
def Ca5 (all:List Oper) (E:Tr DVal):Option (Nat×Bool)->Option Bool
 | none=>some true
 | some (j,b)=>match Ih all j with
  | some g=>match E.get g,b with
   | some (.bool true),true=>some true
   | some (.bool false),false=>some true
   | some (.bool _),_=>some false
   | some (.tuple []),_=>some false
   | _,_=>none
  | none=>none
def Ca6 (call:Nat->List DVal->XH->COut) (all:List Oper) (E:Tr DVal) (H:XH) (o:Oper):Out:=
 match Ca5 all E o.guard with
 | some true=>xop P gt call E H o.dst o.op
 | some false=>Ma E H o.dst Bp
 | none=> .bad
def Cv6 (call:Nat->List DVal->XH->COut) (all:List Oper) (ops:List Oper):Tr DVal->XH->Out:=
 List.rec (motive:=fun _=>Tr DVal->XH->Out) (fun E H=> .norm E H) (fun o _ ih E H=>Nv (Ca6 P gt call all E H o) ih) ops
mutual
def Az0:DVal->DVal->Bool
 | .bool a, .bool b=>a==b
 | .int k a, .int k' b=>decide (k=k')&&decide (a=b)
 | .str a, .str b=>decide (a=b)
 | .nilPtr, .nilPtr=>true
 | .optr r o, .optr r' o'=>Nat.beq r r'&&Nat.beq o o'
 | .oslice a b c d e, .oslice a' b' c' d' e'=>Nat.beq a a'&&Nat.beq b b'&&Nat.beq c c'&&Nat.beq d d'&&Nat.beq e e'
 | .vptr cs o, .vptr cs' o'=>Nat.beq o o'&&Gg cs cs'
 | .nilSlice, .nilSlice=>true
 | .vslice cs n, .vslice cs' n'=>Nat.beq n n'&&Gg cs cs'
 | .nilMap, .nilMap=>true
 | .nilFunc, .nilFunc=>true
 | .nilIface, .nilIface=>true
 | .iface t v, .iface t' v'=>Nat.beq t t'&&Az0 v v'
 | .agg cs, .agg cs'=>Gg cs cs'
 | .tuple cs, .tuple cs'=>Gg cs cs'
 | .func (.func f) a c, .func (.func f') a' c'=>Nat.beq f f'&&Gg a a'&&Gg c c'
 | _,_=>false
def Gg:List DVal->List DVal->Bool
 | [],[]=>true
 | a::al,b::bl=>Az0 a b&&Gg al bl
 | _,_=>false
end
def Az1:Option DObj->Option DObj->Bool
 | some (.cells cs e),some (.cells cs' e')=>Nat.beq e e'&&Gg cs cs'
 | some (.iter s p),some (.iter s' p')=>decide (s=s')&&Nat.beq p p'
 | _,_=>false
def Az2 (H H':XH):DVal->Bool
 | .optr r _=>Az1 (Bc H r) (Bc H' r)
 | .oslice _ r _ _ _=>Az1 (Bc H r) (Bc H' r)
 | _=>true
def Ca7 (E:Tr DVal) (H H':XH):Option Operand->Bool
 | some a=>evK gt false E a fun v=>Az2 H H' v
 | none=>true
def Xi (all:List Oper) (E:Tr DVal) (H H':XH):List Nat->Bool
 | []=>true
 | l::ls=>Ca7 gt E H H' (Lu (Bz all l))&&Xi all E H H' ls
def xat (call:Nat->List DVal->XH->COut) (all:List Oper) (E:Tr DVal) (H:XH) (i:Nat):Out:=
 match Bz all i with
 | some o=>Ca6 P gt call all E H o
 | none=> .bad
def Aq0:Out->Out
 | .norm E H=> .norm E H
 | .panic v _ H=> .panicX v H
 | _=> .bad
mutual
def Ej:DVal->Bool
 | .raw _ | .bool _ | .int _ _ | .str _ | .nilPtr | .nilSlice | .nilMap | .nilFunc | .nilIface=>true
 | .vptr cs _=>Es cs
 | .vslice cs _=>Es cs
 | .agg cs=>Es cs
 | .tuple cs=>Es cs
 | .iface _ v=>Ej v
 | .func _ a c=>Es a&&Es c
 | _=>false
def Es:List DVal->Bool
 | []=>true
 | v::vs=>Ej v&&Es vs
end
def Kl (π:List (Nat×Nat)) (k:Nat):Option Nat:=
 List.rec (motive:=fun _=>Option Nat) none (fun x _ ih=>Bool.rec (motive:=fun _=>Option Nat) ih (some x.2) (Nat.beq x.1 k)) π
def Ur (π:List (Nat×Nat)) (nx k k':Nat):Bool:=
 Bool.rec (motive:=fun _=>Bool) (match Kl π k with | some j=>Nat.beq j k' | none=>false) (Nat.beq k k') (Nat.blt k nx)
mutual
def eqP (π:List (Nat×Nat)) (nx:Nat):DVal->DVal->Bool
 | .bool a, .bool b=>a==b
 | .int k a, .int k' b=>decide (k=k')&&decide (a=b)
 | .str a, .str b=>Ay6 a b
 | .nilPtr, .nilPtr=>true
 | .optr r o, .optr r' o'=>Ur π nx r r'&&Nat.beq o o'
 | .oslice a b c d e, .oslice a' b' c' d' e'=>Nat.beq a a'&&Ur π nx b b'&&Nat.beq c c'&&Nat.beq d d'&&Nat.beq e e'
 | .omap r, .omap r'=>Ur π nx r r'
 | .vptr cs o, .vptr cs' o'=>Nat.beq o o'&&Oq π nx cs cs'
 | .nilSlice, .nilSlice=>true
 | .vslice cs n, .vslice cs' n'=>Nat.beq n n'&&Oq π nx cs cs'
 | .nilMap, .nilMap=>true
 | .nilFunc, .nilFunc=>true
 | .nilIface, .nilIface=>true
 | .iface t v, .iface t' v'=>Nat.beq t t'&&eqP π nx v v'
 | .agg cs, .agg cs'=>Oq π nx cs cs'
 | .tuple cs, .tuple cs'=>Oq π nx cs cs'
 | .func (.func f) a c, .func (.func f') a' c'=>Nat.beq f f'&&Oq π nx a a'&&Oq π nx c c'
 | _,_=>false
def Oq (π:List (Nat×Nat)) (nx:Nat):List DVal->List DVal->Bool
 | [],[]=>true
 | a::al,b::bl=>eqP π nx a b&&Oq π nx al bl
 | _,_=>false
end
mutual
def Cv7 (nx:Nat):DVal->DVal->List (Nat×Nat)->List (Nat×Nat)
 | .optr r _, .optr r' _,π=>Cv8 nx r r' π
 | .oslice _ r _ _ _, .oslice _ r' _ _ _,π=>Cv8 nx r r' π
 | .omap r, .omap r',π=>Cv8 nx r r' π
 | .iface _ v, .iface _ v',π=>Cv7 nx v v' π
 | .agg cs, .agg cs',π=>Xj nx cs cs' π
 | .tuple cs, .tuple cs',π=>Xj nx cs cs' π
 | .func _ a c, .func _ a' c',π=>Xj nx c c' (Xj nx a a' π)
 | _,_,π=>π
def Xj (nx:Nat):List DVal->List DVal->List (Nat×Nat)->List (Nat×Nat)
 | a::al,b::bl,π=>Xj nx al bl (Cv7 nx a b π)
 | _,_,π=>π
def Cv8 (nx r r':Nat) (π:List (Nat×Nat)):List (Nat×Nat):=
 match Nat.blt r nx,Kl π r with
 | false,none=>(r,r')::π
 | _,_=>π
end
def Bn3 (nx:Nat):Tr DVal->Tr DVal->List (Nat×Nat)->List (Nat×Nat)
 | .node l v r, .node l' v' r',π=>Bn3 nx r r' (Bn3 nx l l' (match v,v' with | some x,some y=>Cv7 nx x y π | _,_=>π))
 | _,_,π=>π
def Ck0 (nx:Nat) (A A':XH) (π0:List (Nat×Nat)) (π:List (Nat×Nat)):List (Nat×Nat):=
 π0.foldl (fun π x=>match Bc A x.1,Bc A' x.2 with
  | some (.cells cs _),some (.cells cs' _)=>Xj nx cs cs' π
  | _,_=>π) π
def Bn4 (nx:Nat) (t:Tr (Option DObj)) (t1 t2:Tr (Option DObj)) (π:List (Nat×Nat)):List (Nat×Nat):=
 match t,t1,t2 with
 | .node l v r, .node l1 v1 r1, .node l2 v2 r2=>Bn4 nx r r1 r2 (Bn4 nx l l1 l2 (match v,v1,v2 with
  | some (some _),some (some (.cells cs _)),some (some (.cells cs' _))=>Xj nx cs cs' π
  | _,_,_=>π))
 | _,_,_=>π
def Ah1 (es:List (DVal×DVal)):Bool:=es.all fun p=>Ej p.1&&Ej p.2
def Cn8:List (DVal×DVal)->Bool
 | (.agg [.bool _, .bool _],_)::_=>true
 | _=>false
def lkB (es es':List (DVal×DVal)) (k:DVal):Bool:=
 match Cl k es 0,Cl k es' 0 with
 | some none,some none=>true
 | some (some i),some (some j)=>match es[i]?,es'[j]? with
  | some p,some p'=>Az0 p.2 p'.2&&Ej p.2
  | _,_=>false
 | _,_=>false
def lkA (es es':List (DVal×DVal)):Bool:=
 Cn8 es&&Ah1 es'&&lkB es es' (.agg [.bool true, .bool true])&&lkB es es' (.agg [.bool true, .bool false])&&lkB es es' (.agg [.bool false, .bool true])&&lkB es es' (.agg [.bool false, .bool false])
def Cv9 (es:List (DVal×DVal)) (i:Nat):DVal:=
 match es[i/2]? with
 | some p=>Bool.rec (motive:=fun _=>DVal) p.2 p.1 (Nat.beq (i%2) 0)
 | none=> .nilPtr
def Be3:Loop:= { state:= .ready,pending:=none,fn:=0,tmps:= #[],params:= #[],assign:= .skip,body:= .skip,defers:=0 }
def Rs (π:List (Nat×Nat)) (nx:Nat):Option DObj->Option DObj->Option (Option DObj)
 | some (.cells cs e),some (.cells cs' e')=>Bool.rec (motive:=fun _=>Option (Option DObj)) none (some (some (.cells cs e))) (Nat.beq e e'&&Oq π nx cs cs')
 | some (.iter l p),some (.iter l' p')=>Bool.rec (motive:=fun _=>Option (Option DObj)) none (some (some (.iter l p))) (Ay6 l l'&&Nat.beq p p')
 | some (.map es),some (.map es')=>Bool.rec (motive:=fun _=>Option (Option DObj)) none (some (some (.loop (Cv9 es) es.length Be3))) (lkA (Yq (Cv9 es) es.length) es&&lkA (Yq (Cv9 es) es.length) es')
 | some (.loop env n _),some (.map es')=>Bool.rec (motive:=fun _=>Option (Option DObj)) none (some (some (.loop env n Be3))) (lkA (Yq env n) es')
 | some (.map es),some (.loop env n _)=>Bool.rec (motive:=fun _=>Option (Option DObj)) none (some (some (.loop env n Be3))) (lkA (Yq env n) es)
 | some (.loop env n _),some (.loop env' n' _)=>Bool.rec (motive:=fun _=>Option (Option DObj)) none (some (some (.loop env n Be3))) (lkA (Yq env n) (Yq env' n'))
 | _,_=>none
def Ah2 {α:Type}:Option α->Bool
 | some _=>true
 | none=>false
def Mf (π:List (Nat×Nat)) (nx:Nat) (A A':XH) (ks:List (Nat×Nat)):Tr (Option DObj)->(Tr (Option DObj)->Out)->Out:=
 List.rec (motive:=fun _=>Tr (Option DObj)->(Tr (Option DObj)->Out)->Out) (fun t κ=>κ t)
  (fun x _ ih t κ=>match Kl π x.1 with
   | some j=>match Rs π nx (Bc A x.1) (Bc A' j) with
    | some (some o)=>Tr.setK .bad (some o) 24 t x.1 fun t=>ih t κ
    | _=>ih t κ
   | none=>ih t κ) ks
def Ah3:List (Nat×Nat)->Bool
 | []=>true
 | x::l=>(l.all fun y=>!Nat.beq x.2 y.2)&&Ah3 l
def Ck1 (π:List (Nat×Nat)) (nx mx:Nat):Bool:=(π.all fun x=>Nat.ble nx x.1&&Nat.ble nx x.2&&Nat.blt x.1 mx)&&Ah3 π
def Ca8 (E0:Tr DVal) (A0:XH):Out->Out->Out
 | .norm E A, .norm E' A'=>
  Oz (Ck0 A0.nx A A' (Ck0 A0.nx A A' (Bn4 A0.nx A0.tr A.tr A'.tr (Bn3 A0.nx E E' [])) (Bn4 A0.nx A0.tr A.tr A'.tr (Bn3 A0.nx E E' []))) (Ck0 A0.nx A A' (Bn4 A0.nx A0.tr A.tr A'.tr (Bn3 A0.nx E E' [])) (Bn4 A0.nx A0.tr A.tr A'.tr (Bn3 A0.nx E E' [])))) fun π=>
  Gs (max A0.nx (max A.nx A'.nx)) fun mx=>Bool.rec (motive:=fun _=>Out) .bad
   (Mf π A0.nx A A' π (Rm Ah2 (Rs π A0.nx) A0.tr A.tr A'.tr) fun t=> .norm (Pa (fun v w=>Bool.rec (motive:=fun _=>Option DVal) none (some v) (eqP π A0.nx v w)) E E') ⟨t,mx⟩)
   (Ck1 π A0.nx mx)
 | _,_=> .bad
def Rt (call:Nat->List DVal->XH->COut) (all:List Oper):Plan->Tr DVal->XH->Out
 | .done,E,H=> .norm E H
 | .take i p,E,H=>Nv (xat P gt call all E H i) fun E H=>Rt call all p E H
 | .go i ls p,E,H=>Nv (xat P gt call all E H i) fun E' H'=>Bool.rec (motive:=fun _=>Out) .bad (Rt call all p E' H') (Xi gt all E H H' ls)
 | .alt p q,E,H=>Ca8 E H (Rt call all p E H) (Rt call all q E H)
inductive LOut where
 | more (E:Tr DVal) (H:XH)
 | stop (o:Out)
def Aq1 (body:Tr DVal->XH->Out) (E:Tr DVal) (H:XH):LOut:=
 match body E H with
 | .norm E H=> .more E H
 | o=> .stop o
def Xk (f:Tr DVal->XH->LOut) (E:Tr DVal) (H:XH):LOut:=
 match f E H with
 | .more E H=>f E H
 | .stop o=> .stop o
def Xl (body:Tr DVal->XH->Out) (n:Nat):Tr DVal->XH->LOut:=
 Nat.rec (motive:=fun _=>Tr DVal->XH->LOut) (Aq1 body) (fun _ ih=>Xk ih) n
def Cn9:LOut->Out
 | .stop o=>o
 | .more _ _=> .bad
def Ah4 (id:Nat):Out->Out
 | .exit id' E H=>Bool.rec (motive:=fun _=>Out) (.exit id' E H) (.norm E H) (Nat.beq id' id)
 | o=>o
def Co0 (x y:Out):DVal->Out
 | .bool true=>x
 | .bool false=>y
 | _=> .bad
def Ru (args:List DVal):Nat->Tr DVal->(Tr DVal->COut)->COut:=
 List.rec (motive:=fun _=>Nat->Tr DVal->(Tr DVal->COut)->COut) (fun _ E κ=>κ E) (fun x _ ih k E κ=>Tr.setK .bad x 10 E k fun E=>Gs (k+1) fun k=>ih k E κ) args
def Be4 (E:Tr DVal) (H:XH):ResultVar->Option DVal
 | .tmp t=>E.get t
 | .cell x t=>match E.get x with
  | some (.optr r off)=>Ag0 (P.cellsOf t) (Br P t) off (Bc H r)
  | _=>none
def Ui (E:Tr DVal) (H:XH):List ResultVar->Option (List DVal)
 | []=>some []
 | r::rs=>Am4 (Be4 P E H r) (Ui E H rs)
def Bn5 (rs:List ResultVar) (E:Tr DVal) (H:XH):COut:=Mr .bad (fun v=>fvK v fun v=> .cret v H) (Dw (Ui P E H rs))
def Db5 (rs:List ResultVar):Out->COut
 | .norm E H=>Bn5 P rs E H
 | .ret E H=>Bn5 P rs E H
 | .panic v _ H=> .cpanic v H
 | .panicX v H=> .cpanic v H
 | _=> .bad
structure Late where
 A1:Code
 A2:Code
 d:Nat
 g:FuncId
 caps:List Operand
 C:Code
def Xm:Code->Option Late
 | .seq A1 (.seq A2 (.seq (.region _ ⟨[⟨some d, .makeFunc (.func g) ⟨[]⟩ ⟨caps⟩,_,_,_,none⟩,⟨none, .defer ⟨.value (.tmp d'),⟨[]⟩,⟨[]⟩⟩,_,_,_,none⟩]⟩ false) C))=>if d'=d then some ⟨A1,A2,d,g,caps,C⟩ else none
 | _=>none
def Zv:Code->Option (Nat×Nat×Code)
 | .seq (.region _ ⟨[⟨some t1, .call ⟨.builtin .recover,⟨[]⟩,⟨[]⟩⟩,_,_,_,none⟩,⟨some t2, .assign (.tmp t1'),_,_,_,none⟩]⟩ false) cc=>if t1'=t1 then some (t1,t2,cc) else none
 | _=>none
end
end
end Go.Dl

-- AN INTERPRETER OF THE DATA LEVEL, PART 2: how its values stand for those of the data level.
namespace Go.Dl
open Go
theorem Hr {R:Type} (n:Nat) (κ:Nat->R):Gs n κ=κ n:=by cases n<;>rfl
theorem Ck2 {R:Type} (n:Int) (κ:Int->R):Cu9 n κ=κ n:=by
 cases n with
 | ofNat m=>exact Hr m fun m=>κ (.ofNat m)
 | negSucc m=>exact Hr m fun m=>κ (.negSucc m)
theorem Rv {α R:Type}: ∀(l:List α) (κ:List α->R),Oz l κ=κ l
 | [],_=>rfl
 | x::l,κ=>Rv l (fun l=>κ (x::l))
theorem Ca9 {R:Type} (b:Bool) (κ:Bool->R):Bz8 b κ=κ b:=by cases b<;>rfl
theorem Aq2 {R:Type}: ∀(vs cs:List DVal) (κ:List DVal->R),Bz9 vs cs κ=κ (splice cs 0 vs)
 | [],cs,κ=>by show κ cs=_;simp [splice]
 | v::vs,[],κ=>by show κ (v::vs)=_;simp [splice]
 | v::vs,c::cs,κ=>by
  show Bz9 vs cs (fun r=>κ (v::r))=_;rw[Aq2 vs cs];simp [splice]
theorem Va {R:Type} (vs:List DVal): ∀(off:Nat) (cs:List DVal) (κ:List DVal->R),Ay3 vs off cs κ=κ (splice cs off vs)
 | 0,cs,κ=>Aq2 vs cs κ
 | off+1,[],κ=>by show κ vs=_;simp [splice]
 | off+1,c::cs,κ=>by
  show Ay3 vs off cs (fun r=>κ (c::r))=_;rw[Va vs off cs];simp [splice,Nat.add_right_comm]
theorem Be5 {R:Type}: ∀(xs ys:List DVal) (κ:List DVal->R),Db1 xs ys κ=κ (xs++ys)
 | [],_,_=>rfl
 | x::xs,ys,κ=>Be5 xs ys fun r=>κ (x::r)
theorem Nw {R:Type}: ∀(n:Nat) (cs:List DVal) (κ:List DVal->R),Zr n cs κ=κ (cs.take n)
 | 0,cs,κ=>by show κ []=_;simp
 | n+1,[],κ=>by show κ []=_;simp
 | n+1,c::cs,κ=>by
  show Zr n cs (fun r=>κ (c::r))=_;rw[Nw n cs];simp
theorem Rw: ∀(n:Nat) (cs:List DVal),Bd4 n cs=cs.drop n
 | 0,cs=>rfl
 | n+1,[]=>rfl
 | n+1,c::cs=>Rw n cs
theorem Ah5: ∀(n:Nat) (cs:List DVal),Cj8 n cs=cs[n]?
 | 0,[]=>rfl
 | 0,c::cs=>rfl
 | n+1,[]=>rfl
 | n+1,c::cs=>by
  show Cj8 n cs=_;rw[Ah5 n cs];simp
theorem Nx: ∀(n:Nat) (cs:List DVal),leN n cs=decide (n<=cs.length)
 | 0,cs=>by show true=_;simp
 | n+1,[]=>by show false=_;simp
 | n+1,c::cs=>by
  show leN n cs=_;rw[Nx n cs];simp
theorem Xn: ∀(n:Nat) (cs:List DVal),eqN n cs=decide (cs.length=n)
 | 0,[]=>rfl
 | 0,c::cs=>by show false=_;simp
 | n+1,[]=>by show false=_;simp
 | n+1,c::cs=>by
  show eqN n cs=_;rw[Xn n cs];simp
theorem Rx {R:Type} (z:R) (place:Nat->Option (Nat×Nat)): ∀(Bu:List (Nat×DVal)) (cs:List DVal) (κ:List DVal->R),Zs z place Bu cs κ=match Gk place cs Bu with | some l=>κ l | none=>z
 | [],cs,κ=>rfl
 | (i,v)::Bu,cs,κ=>by
  show Mr z (fun os=>Bool.rec (motive:=fun _=>R) z (Ay3 v.cells os.1 cs fun cs=>Zs z place Bu cs κ) (eqN os.2 v.cells&&leN (os.1+os.2) cs)) (place i)=_
  simp only[Gk]
  cases place i with
  | none=>rfl
  | some os=>
   obtain⟨off,size⟩:=os
   simp only[Mr]
   by_cases hc:v.cells.length=size/\off+v.cells.length<=cs.length
   ·rw[if_pos hc]
    have:(eqN size v.cells&&leN (off+size) cs)=true:=by
     rw[Xn,Nx]
     simp only[Bool.and_eq_true,decide_eq_true_eq]
     exact⟨hc.1,by rw[<-hc.1];exact hc.2⟩
    rw[this]
    show Ay3 v.cells off cs (fun cs=>Zs z place Bu cs κ)=_
    rw[Va,Rx z place Bu]
    rfl
   ·rw[if_neg hc]
    have:(eqN size v.cells&&leN (off+size) cs)=false:=by
     rw[Xn,Nx]
     cases hb:(decide (v.cells.length=size)&&decide (off+size<=cs.length)) with
     | false=>rfl
     | true=>
      simp only[Bool.and_eq_true,decide_eq_true_eq] at hb
      exact(hc ⟨hb.1,by rw[hb.1];exact hb.2⟩).elim
    rw[this]
theorem Tj (size:Nat) (cs:List DVal) (off:Nat) (ag:Option Bool):Af9 size cs off ag=Nh size cs off ag:=by
 unfold Af9 Nh;split
 ·rw[Nw,Rw,Nx];by_cases h:off+size<=cs.length
  ·rw[if_pos h,decide_eq_true h]
  ·rw[if_neg h,decide_eq_false h]
 ·exact Ah5 _ _
 ·rfl
theorem Ah6 {R:Type} (v:DVal) (κ:DVal->R):fvK v κ=κ v:=by
 have e:fvK v κ=Db2 v κ:=by cases v<;>rfl
 rw[e];unfold Db2;split<;>simp only[Hr,Ck2,Rv,Ca9]
theorem Cb0 {R:Type} (v:DObj) (κ:DObj->R):foK v κ=κ v:=by
 unfold foK;split<;>simp only[Hr,Rv]
theorem Zw: ∀(n m k j:Nat),k<=n->j<=m->Xb n k=Xb m j->k=j
 | 0,0,k,j,h1,h2,_=>by omega
 | 0,m+1,k,j,h1,h2,h=>by
  have hk:k=0:=by omega
  subst hk;by_cases hj:j=0
  ·exact hj.symm
  ·have hb:Nat.beq j 0=false:=by
    cases hb:Nat.beq j 0 with
    | false=>rfl
    | true=>exact(hj (Nat.eq_of_beq_eq_true hb)).elim
   have h:([]:List Bool)=Bool.rec (motive:=fun _=>List Bool) (Nat.beq (Nat.mod j 2) 1::Xb m (Nat.div (Nat.sub j 1) 2)) [] (Nat.beq j 0):=h;rw[hb] at h;cases h
 | n+1,0,k,j,h1,h2,h=>by
  have hj:j=0:=by omega
  subst hj;by_cases hk:k=0
  ·exact hk
  ·have hb:Nat.beq k 0=false:=by
    cases hb:Nat.beq k 0 with
    | false=>rfl
    | true=>exact(hk (Nat.eq_of_beq_eq_true hb)).elim
   have h:Bool.rec (motive:=fun _=>List Bool) (Nat.beq (Nat.mod k 2) 1::Xb n (Nat.div (Nat.sub k 1) 2)) [] (Nat.beq k 0)=([]:List Bool):=h;rw[hb] at h;cases h
 | n+1,m+1,k,j,h1,h2,h=>by
  have h:Bool.rec (motive:=fun _=>List Bool) (Nat.beq (Nat.mod k 2) 1::Xb n (Nat.div (Nat.sub k 1) 2)) [] (Nat.beq k 0)=Bool.rec (motive:=fun _=>List Bool) (Nat.beq (Nat.mod j 2) 1::Xb m (Nat.div (Nat.sub j 1) 2)) [] (Nat.beq j 0):=h;cases hb:Nat.beq k 0<;>cases hc:Nat.beq j 0<;>rw[hb,hc] at h
  ·injection h with h3 h4;have e:=Zw n m ((k-1)/2) ((j-1)/2) (by omega) (by omega) h4;have hk:k≠0:=fun e=>by rw[e] at hb;cases hb
   have hj:j≠0:=fun e=>by rw[e] at hc;cases hc
   have h5:(k%2=1)↔(j%2=1):=by
    have h6: ∀a:Nat,Nat.beq (Nat.mod a 2) 1=true↔a%2=1:=fun a=>⟨fun h=>Nat.eq_of_beq_eq_true h,fun h=>by
     show Nat.beq (a%2) 1=true;rw[h];rfl⟩
    rw[<-h6,<-h6,h3]
   omega
  ·cases h
  ·cases h
  ·rw[Nat.eq_of_beq_eq_true hb,Nat.eq_of_beq_eq_true hc]
theorem Az3 {k j:Nat} (h:Nu k=Nu j):k=j:=Zw k j k j (Nat.le_refl _) (Nat.le_refl _) h
theorem Zx {α:Type} (p:List Bool):Ld (Tr.leaf:Tr α) p=none:=rfl
theorem Aq3 {α:Type} (k:Nat):(Tr.leaf:Tr α).get k=none:=rfl
theorem Le {α R:Type} (x:α): ∀(p:List Bool) (t:Tr α) (κ:Tr α->R),∃t',(∀q,Ld t' q=if q=p then some x else Ld t q)/\Db0 x p t κ=κ t'
 | [], .leaf,κ=>⟨.node .leaf (some x) .leaf,fun q=>by
   cases q with
   | nil=>rfl
   | cons b q=>cases b<;>rfl,rfl⟩
 | [], .node l v r,κ=>⟨.node l (some x) r,fun q=>by
   cases q with
   | nil=>rfl
   | cons b q=>cases b<;>rfl,rfl⟩
 | true::p, .leaf,κ=>by
  obtain⟨t',h1,h2⟩:=Le (R:=R) x p .leaf (fun l=>κ (.node l none .leaf));refine⟨.node t' none .leaf,fun q=> ?_,h2⟩;cases q with
  | nil=>rfl
  | cons b q=>cases b with
   | false=>rfl
   | true=>
    show Ld t' q=_;rw[h1];by_cases e:q=p<;>simp [e,Zx]
 | false::p, .leaf,κ=>by
  obtain⟨t',h1,h2⟩:=Le (R:=R) x p .leaf (fun r=>κ (.node .leaf none r));refine⟨.node .leaf none t',fun q=> ?_,h2⟩;cases q with
  | nil=>rfl
  | cons b q=>cases b with
   | true=>rfl
   | false=>
    show Ld t' q=_;rw[h1];by_cases e:q=p<;>simp [e,Zx]
 | true::p, .node l v r,κ=>by
  obtain⟨t',h1,h2⟩:=Le (R:=R) x p l (fun l=>κ (.node l v r));refine⟨.node t' v r,fun q=> ?_,h2⟩;cases q with
  | nil=>rfl
  | cons b q=>cases b with
   | false=>rfl
   | true=>
    show Ld t' q=if(true::q)=(true::p) then some x else Ld l q
    rw[h1];by_cases e:q=p<;>simp [e]
 | false::p, .node l v r,κ=>by
  obtain⟨t',h1,h2⟩:=Le (R:=R) x p r (fun r=>κ (.node l v r));refine⟨.node l v t',fun q=> ?_,h2⟩;cases q with
  | nil=>rfl
  | cons b q=>cases b with
   | true=>rfl
   | false=>
    show Ld t' q=if(false::q)=(false::p) then some x else Ld r q
    rw[h1];by_cases e:q=p<;>simp [e]
theorem Hj {α R:Type} {z:R} {x:α} (n:Nat) (t:Tr α) (k:Nat) (κ:Tr α->R):Tr.setK z x n t k κ=z\/ ∃t',(∀j,t'.get j=if j=k then some x else t.get j)/\Tr.setK z x n t k κ=κ t':=by
 obtain⟨t',h1,h2⟩:=Le x (Nu k) t κ;refine .inr ⟨t',fun j=> ?_,h2⟩;show Ld t' (Nu j)=_;rw[h1];by_cases e:j=k
 ·rw[if_pos e,if_pos (by rw[e])]
 ·rw[if_neg e,if_neg fun h=>e (Az3 h)];rfl
theorem Tk {α:Type} (f:α->α->Option α): ∀(t t':Tr α) (p:List Bool) (x:α),Ld (Pa f t t') p=some x-> ∃a b,Ld t p=some a/\Ld t' p=some b/\f a b=some x
 | .leaf,t',p,x,h=>by
  have:Pa f .leaf t'= .leaf:=by cases t'<;>rfl
  rw[this] at h;cases h
 | .node l v r, .leaf,p,x,h=>by
  have h:Ld (.leaf:Tr α) p=some x:=h;cases h
 | .node l v r, .node l' v' r',[],x,h=>by
  have h:Cn5 f v v'=some x:=h;show∃a b,v=some a/\v'=some b/\f a b=some x;cases v with
  | none=>cases v'<;>cases h
  | some a=>cases v' with
   | none=>cases h
   | some b=>exact⟨a,b,rfl,rfl,h⟩
 | .node l v r, .node l' v' r',true::p,x,h=>Tk f l l' p x h
 | .node l v r, .node l' v' r',false::p,x,h=>Tk f r r' p x h
theorem Cb1 {α:Type} {f:α->α->Option α} {t t':Tr α} {k:Nat} {x:α} (h:(Pa f t t').get k=some x): ∃a b,t.get k=some a/\t'.get k=some b/\f a b=some x:=Tk f t t' (Nu k) x h
theorem Pz {α:Type} (g:α->Bool) (f:α->α->Option α): ∀(t t1 t2:Tr α) (p:List Bool) (x:α),Ld (Rm g f t t1 t2) p=some x-> ∃z a b,Ld t p=some z/\g z=true/\Ld t1 p=some a/\Ld t2 p=some b/\f a b=some x
 | .leaf,t1,t2,p,x,h=>by
  have:Rm g f .leaf t1 t2= .leaf:=by cases t1<;>cases t2<;>rfl
  rw[this] at h;cases h
 | .node l v r, .leaf,t2,p,x,h=>by
  have:Rm g f (.node l v r) .leaf t2= .leaf:=by cases t2<;>rfl
  rw[this] at h;cases h
 | .node l v r, .node l1 v1 r1, .leaf,p,x,h=>by
  have h:Ld (.leaf:Tr α) p=some x:=h;cases h
 | .node l v r, .node l1 v1 r1, .node l2 v2 r2,[],x,h=>by
  have h:Cn6 g f v v1 v2=some x:=h;show∃z a b,v=some z/\g z=true/\v1=some a/\v2=some b/\f a b=some x;cases v with
  | none=>cases v1<;>cases v2<;>cases h
  | some z=>cases v1 with
   | none=>cases v2<;>cases h
   | some a=>cases v2 with
    | none=>cases h
    | some b=>
     have h:Bool.rec (motive:=fun _=>Option α) none (f a b) (g z)=some x:=h;cases hg:g z with
     | false=>rw[hg] at h;cases h
     | true=>rw[hg] at h;exact⟨z,a,b,rfl,hg,rfl,rfl,h⟩
 | .node l v r, .node l1 v1 r1, .node l2 v2 r2,true::p,x,h=>Pz g f l l1 l2 p x h
 | .node l v r, .node l1 v1 r1, .node l2 v2 r2,false::p,x,h=>Pz g f r r1 r2 p x h
theorem Bn6 {α:Type} {g:α->Bool} {f:α->α->Option α} {t t1 t2:Tr α} {k:Nat} {x:α} (h:(Rm g f t t1 t2).get k=some x): ∃z a b,t.get k=some z/\g z=true/\t1.get k=some a/\t2.get k=some b/\f a b=some x:=Pz g f t t1 t2 (Nu k) x h
mutual
/-- The interpreter's value stands for that of the data level. -/
def RV (ρ:Nat->Option Nat):DVal->DVal->Prop
 | .raw x,d=>d= .raw x
 | .bool b,d=>d= .bool b
 | .int k n,d=>d= .int k n
 | .str s,d=>d= .str s
 | .nilPtr,d=>d= .nilPtr
 | .vptr cs off,d=> ∃cs',d= .vptr cs' off/\RVL ρ cs cs'
 | .optr k off,d=> ∃r,d= .optr r off/\ρ k=some r
 | .nilSlice,d=>d= .nilSlice
 | .vslice cs n,d=> ∃cs',d= .vslice cs' n/\RVL ρ cs cs'
 | .oslice sz k off len lo,d=> ∃r,d= .oslice sz r off len lo/\ρ k=some r
 | .nilMap,d=>d= .nilMap
 | .omap k,d=> ∃r,d= .omap r/\ρ k=some r
 | .func fn a c,d=> ∃a' c',d= .func fn a' c'/\RVL ρ a a'/\RVL ρ c c'
 | .nilFunc,d=>d= .nilFunc
 | .iface t v,d=> ∃v',d= .iface t v'/\RV ρ v v'
 | .nilIface,d=>d= .nilIface
 | .agg cs,d=> ∃cs',d= .agg cs'/\RVL ρ cs cs'
 | .tuple cs,d=> ∃cs',d= .tuple cs'/\RVL ρ cs cs'
def RVL (ρ:Nat->Option Nat):List DVal->List DVal->Prop
 | [],ds=>ds= []
 | x::xs,ds=> ∃y ys,ds=y::ys/\RV ρ x y/\RVL ρ xs ys
end
def RVM (ρ:Nat->Option Nat):List (DVal×DVal)->List (DVal×DVal)->Prop
 | [],es=>es= []
 | p::ps,es=> ∃q qs,es=q::qs/\RV ρ p.1 q.1/\RV ρ p.2 q.2/\RVM ρ ps qs
def RVP (ρ:Nat->Option Nat):List (Nat×DVal)->List (Nat×DVal)->Prop
 | [],es=>es= []
 | p::ps,es=> ∃v qs,es=(p.1,v)::qs/\RV ρ p.2 v/\RVP ρ ps qs
def LK (es es':List (DVal×DVal)):Prop:= ∀k r,Cl k es 0=some r-> ∃r',Cl k es' 0=some r'/\
 ((r=none/\r'=none)\/ ∃i j p p',r=some i/\r'=some j/\es[i]? =some p/\es'[j]? =some p'/\p.2=p'.2/\Ej p.2=true)
theorem LK.trans {a b c:List (DVal×DVal)} (h:LK a b) (k:LK b c):LK a c:=fun q r hr=>by
 obtain⟨r1,h1,h2⟩:=h q r hr;obtain⟨r2,k1,k2⟩:=k q r1 h1;refine⟨r2,k1, ?_⟩;rcases h2 with⟨rfl,rfl⟩ | ⟨i,j,p,p',rfl,rfl,e1,e2,e3,e4⟩
 ·rcases k2 with⟨_,rfl⟩ | ⟨i,j,p,p',e,_⟩
  ·exact .inl ⟨rfl,rfl⟩
  ·cases e
 ·rcases k2 with⟨e,_⟩ | ⟨i',j',q1,q2,e,rfl,f1,f2,f3,f4⟩
  ·cases e
  ·cases e;rw[e2] at f1;cases f1;exact .inr ⟨i,j',p,q2,rfl,rfl,e1,f2,e3.trans f3,e4⟩
def RO (ρ:Nat->Option Nat):DObj->DObj->Prop
 | .cells cs e,o=> ∃cs',o= .cells cs' e/\RVL ρ cs cs'
 | .map es,o=> ∃es',o= .map es'/\RVM ρ es es'
 | .iter s p,o=>o= .iter s p
 | .loop env n _,o=> ∃es',o= .map es'/\LK (Yq env n) es'
def Ble (ρ ρ':Nat->Option Nat):Prop:= ∀k r,ρ k=some r->ρ' k=some r
theorem Ble.refl (ρ:Nat->Option Nat):Ble ρ ρ:=fun _ _ h=>h
theorem Ble.trans {ρ ρ' ρ'':Nat->Option Nat} (h:Ble ρ ρ') (k:Ble ρ' ρ''):Ble ρ ρ'':=fun a r e=>k a r (h a r e)
section
variable {ρ ρ':Nat->Option Nat}
mutual
theorem RV.mono (h:Ble ρ ρ'): ∀ {v d:DVal},RV ρ v d->RV ρ' v d
 | .raw _,_,hr=>by simpa only[RV] using hr
 | .bool _,_,hr=>by simpa only[RV] using hr
 | .int _ _,_,hr=>by simpa only[RV] using hr
 | .str _,_,hr=>by simpa only[RV] using hr
 | .nilPtr,_,hr=>by simpa only[RV] using hr
 | .vptr cs off,d,hr=>by
  simp only[RV] at hr⊢
  obtain⟨cs',e,hl⟩:=hr
  exact⟨cs',e,RVL.mono h hl⟩
 | .optr k off,d,hr=>by
  simp only[RV] at hr⊢
  obtain⟨r,e,hk⟩:=hr
  exact⟨r,e,h k r hk⟩
 | .nilSlice,_,hr=>by simpa only[RV] using hr
 | .vslice cs n,d,hr=>by
  simp only[RV] at hr⊢
  obtain⟨cs',e,hl⟩:=hr
  exact⟨cs',e,RVL.mono h hl⟩
 | .oslice sz k off len lo,d,hr=>by
  simp only[RV] at hr⊢
  obtain⟨r,e,hk⟩:=hr
  exact⟨r,e,h k r hk⟩
 | .nilMap,_,hr=>by simpa only[RV] using hr
 | .omap k,d,hr=>by
  simp only[RV] at hr⊢
  obtain⟨r,e,hk⟩:=hr
  exact⟨r,e,h k r hk⟩
 | .func fn a c,d,hr=>by
  simp only[RV] at hr⊢
  obtain⟨a',c',e,h1,h2⟩:=hr
  exact⟨a',c',e,RVL.mono h h1,RVL.mono h h2⟩
 | .nilFunc,_,hr=>by simpa only[RV] using hr
 | .iface t v,d,hr=>by
  simp only[RV] at hr⊢
  obtain⟨v',e,hv⟩:=hr
  exact⟨v',e,RV.mono h hv⟩
 | .nilIface,_,hr=>by simpa only[RV] using hr
 | .agg cs,d,hr=>by
  simp only[RV] at hr⊢
  obtain⟨cs',e,hl⟩:=hr
  exact⟨cs',e,RVL.mono h hl⟩
 | .tuple cs,d,hr=>by
  simp only[RV] at hr⊢
  obtain⟨cs',e,hl⟩:=hr
  exact⟨cs',e,RVL.mono h hl⟩
theorem RVL.mono (h:Ble ρ ρ'): ∀ {vs ds:List DVal},RVL ρ vs ds->RVL ρ' vs ds
 | [],_,hr=>by simpa only[RVL] using hr
 | x::xs,ds,hr=>by
  simp only[RVL] at hr⊢
  obtain⟨y,ys,e,h1,h2⟩:=hr
  exact⟨y,ys,e,RV.mono h h1,RVL.mono h h2⟩
end
theorem RVM.mono (h:Ble ρ ρ'): ∀ {vs ds:List (DVal×DVal)},RVM ρ vs ds->RVM ρ' vs ds
 | [],_,hr=>hr
 | x::xs,ds,hr=>by
  obtain⟨y,ys,e,h1,h2,h3⟩:=hr;exact⟨y,ys,e,RV.mono h h1,RV.mono h h2,RVM.mono h h3⟩
theorem RO.mono (h:Ble ρ ρ') {o o':DObj} (hr:RO ρ o o'):RO ρ' o o':=by
 cases o with
 | cells cs e=>
  obtain⟨cs',e,hl⟩:=hr;exact⟨cs',e,hl.mono h⟩
 | map es=>
  obtain⟨cs',e,hl⟩:=hr;exact⟨cs',e,hl.mono h⟩
 | iter s p=>exact hr
 | loop=>exact hr
mutual
/-- What it stands for is one value alone. -/
theorem RV.fn: ∀ {v d d':DVal},RV ρ v d->RV ρ v d'->d=d'
 | .raw _,_,_,h,h'=>by simp only[RV] at h h';rw[h,h']
 | .bool _,_,_,h,h'=>by simp only[RV] at h h';rw[h,h']
 | .int _ _,_,_,h,h'=>by simp only[RV] at h h';rw[h,h']
 | .str _,_,_,h,h'=>by simp only[RV] at h h';rw[h,h']
 | .nilPtr,_,_,h,h'=>by simp only[RV] at h h';rw[h,h']
 | .nilSlice,_,_,h,h'=>by simp only[RV] at h h';rw[h,h']
 | .nilMap,_,_,h,h'=>by simp only[RV] at h h';rw[h,h']
 | .nilFunc,_,_,h,h'=>by simp only[RV] at h h';rw[h,h']
 | .nilIface,_,_,h,h'=>by simp only[RV] at h h';rw[h,h']
 | .vptr cs off,_,_,h,h'=>by
  simp only[RV] at h h'
  obtain⟨a,rfl,h1⟩:=h;obtain⟨b,rfl,h2⟩:=h'
  rw[RVL.fn h1 h2]
 | .vslice cs off,_,_,h,h'=>by
  simp only[RV] at h h'
  obtain⟨a,rfl,h1⟩:=h;obtain⟨b,rfl,h2⟩:=h'
  rw[RVL.fn h1 h2]
 | .agg cs,_,_,h,h'=>by
  simp only[RV] at h h'
  obtain⟨a,rfl,h1⟩:=h;obtain⟨b,rfl,h2⟩:=h'
  rw[RVL.fn h1 h2]
 | .tuple cs,_,_,h,h'=>by
  simp only[RV] at h h'
  obtain⟨a,rfl,h1⟩:=h;obtain⟨b,rfl,h2⟩:=h'
  rw[RVL.fn h1 h2]
 | .func fn a c,_,_,h,h'=>by
  simp only[RV] at h h'
  obtain⟨a,b,rfl,h1,h3⟩:=h;obtain⟨a',b',rfl,h2,h4⟩:=h'
  rw[RVL.fn h1 h2,RVL.fn h3 h4]
 | .iface t v,_,_,h,h'=>by
  simp only[RV] at h h'
  obtain⟨a,rfl,h1⟩:=h;obtain⟨b,rfl,h2⟩:=h'
  rw[RV.fn h1 h2]
 | .optr k off,_,_,h,h'=>by
  simp only[RV] at h h'
  obtain⟨a,rfl,h1⟩:=h;obtain⟨b,rfl,h2⟩:=h'
  rw[h1] at h2;cases h2;rfl
 | .oslice _ k _ _ _,_,_,h,h'=>by
  simp only[RV] at h h'
  obtain⟨a,rfl,h1⟩:=h;obtain⟨b,rfl,h2⟩:=h'
  rw[h1] at h2;cases h2;rfl
 | .omap k,_,_,h,h'=>by
  simp only[RV] at h h'
  obtain⟨a,rfl,h1⟩:=h;obtain⟨b,rfl,h2⟩:=h'
  rw[h1] at h2;cases h2;rfl
theorem RVL.fn: ∀ {v d d':List DVal},RVL ρ v d->RVL ρ v d'->d=d'
 | [],_,_,h,h'=>by simp only[RVL] at h h';rw[h,h']
 | x::xs,_,_,h,h'=>by
  simp only[RVL] at h h'
  obtain⟨a,b,rfl,h1,h3⟩:=h;obtain⟨a',b',rfl,h2,h4⟩:=h'
  rw[RV.fn h1 h2,RVL.fn h3 h4]
end
theorem RVL.length: ∀ {xs ys:List DVal},RVL ρ xs ys->ys.length=xs.length
 | [],_,h=>by simp only[RVL] at h;subst h;rfl
 | x::xs,_,h=>by
  simp only[RVL] at h;obtain⟨a,b,rfl,h1,h2⟩:=h;simp [h2.length]
theorem RVL.append: ∀ {xs ys xs' ys':List DVal},RVL ρ xs xs'->RVL ρ ys ys'->RVL ρ (xs++ys) (xs'++ys')
 | [],_,_,_,h,k=>by simp only[RVL] at h;subst h;exact k
 | x::xs,_,_,_,h,k=>by
  simp only[RVL] at h;obtain⟨a,b,rfl,h1,h2⟩:=h;simp only[List.cons_append,RVL];exact⟨a,_,rfl,h1,h2.append k⟩
theorem RVL.take: ∀ {xs xs':List DVal} (n:Nat),RVL ρ xs xs'->RVL ρ (xs.take n) (xs'.take n)
 | [],_,n,h=>by simp only[RVL] at h;subst h;simp [RVL]
 | x::xs,_,0,h=>by simp [RVL]
 | x::xs,_,n+1,h=>by
  simp only[RVL] at h;obtain⟨a,b,rfl,h1,h2⟩:=h;simp only[List.take_succ_cons,RVL];exact⟨a,_,rfl,h1,h2.take n⟩
theorem RVL.drop: ∀ {xs xs':List DVal} (n:Nat),RVL ρ xs xs'->RVL ρ (xs.drop n) (xs'.drop n)
 | [],_,n,h=>by simp only[RVL] at h;subst h;simp [RVL]
 | x::xs,_,0,h=>by simpa using h
 | x::xs,_,n+1,h=>by
  simp only[RVL] at h;obtain⟨a,b,rfl,h1,h2⟩:=h;simpa only[List.drop_succ_cons] using h2.drop n
theorem RVL.get: ∀ {xs xs':List DVal} {n:Nat} {x:DVal},RVL ρ xs xs'->xs[n]? =some x-> ∃x',xs'[n]? =some x'/\RV ρ x x'
 | [],_,n,x,_,e=>by simp at e
 | y::xs,_,0,x,h,e=>by
  simp only[RVL] at h;obtain⟨a,b,rfl,h1,h2⟩:=h;simp only[List.getElem?_cons_zero,Option.some.injEq] at e;subst e;exact⟨a,rfl,h1⟩
 | y::xs,_,n+1,x,h,e=>by
  simp only[RVL] at h;obtain⟨a,b,rfl,h1,h2⟩:=h;simp only[List.getElem?_cons_succ] at e⊢
  exact h2.get e
theorem RVL.nil:RVL ρ [] []:=rfl
theorem RVL.cons {x y:DVal} {xs ys:List DVal} (h:RV ρ x y) (k:RVL ρ xs ys):RVL ρ (x::xs) (y::ys):=by
 simp only[RVL];exact⟨y,ys,rfl,h,k⟩
theorem RVL.inv {x:DVal} {xs ds:List DVal} (h:RVL ρ (x::xs) ds): ∃y ys,ds=y::ys/\RV ρ x y/\RVL ρ xs ys:=by simpa only[RVL] using h
theorem RVL.splice {xs xs' vs vs':List DVal} (off:Nat) (h:RVL ρ xs xs') (k:RVL ρ vs vs'):RVL ρ (splice xs off vs) (splice xs' off vs'):=by
 unfold Dl.splice;rw[k.length];exact((h.take off).append k).append (h.drop _)
theorem RVL.repl {zs zs':List DVal} (h:RVL ρ zs zs'): ∀n,RVL ρ (repl n zs) (repl n zs')
 | 0=>by simp [Dl.repl,RVL]
 | n+1=>by
  have:=RVL.repl h n;simp only[Dl.repl,List.replicate_succ,List.flatten_cons] at this⊢
  exact h.append this
theorem RVL.bytes (l:List UInt8):RVL ρ (l.map fun b=> .int .u8 b.toNat) (l.map fun b=> .int .u8 b.toNat):=by
 induction l with
 | nil=>exact rfl
 | cons x l ih=>exact .cons (by simp only[RV]) ih
theorem RV.one {v v':DVal} (h:RV ρ v v'):v'.one=v.one:=by
 cases v<;>simp only[RV] at h;all_goals first | (subst h;rfl) | (obtain⟨_,rfl,_⟩:=h;rfl) | (obtain⟨_,_,rfl,_⟩:=h;rfl)
theorem RVL.allOne: ∀ {xs ys:List DVal},RVL ρ xs ys->ys.all (·.one)=xs.all (·.one)
 | [],_,h=>by simp only[RVL] at h;subst h;rfl
 | x::xs,_,h=>by
  obtain⟨a,b,rfl,h1,h2⟩:=h.inv;simp only[List.all_cons,h1.one,h2.allOne]
theorem RV.cells {v v':DVal} (h:RV ρ v v'):RVL ρ v.cells v'.cells:=by
 have keep:=h;cases v<;>simp only[RV] at h;all_goals first
  | (subst h;exact .cons keep .nil)
  | (obtain⟨_,rfl,hl⟩:=h;first | exact hl | exact .cons keep .nil)
  | (obtain⟨_,_,rfl,_⟩:=h;exact .cons keep .nil)
theorem RV.int (k:IntKind) (n:Int):RV ρ (.int k n) (.int k n):=by simp only[RV]
theorem RV.bool (b:Bool):RV ρ (.bool b) (.bool b):=by simp only[RV]
theorem RV.str (b:List UInt8):RV ρ (.str b) (.str b):=by simp only[RV]
theorem RV.nilS:RV ρ .nilSlice .nilSlice:=by simp only[RV]
theorem RV.agg {cs cs':List DVal} (h:RVL ρ cs cs'):RV ρ (.agg cs) (.agg cs'):=by simp only[RV];exact⟨_,rfl,h⟩
theorem RV.tuple {cs cs':List DVal} (h:RVL ρ cs cs'):RV ρ (.tuple cs) (.tuple cs'):=by simp only[RV];exact⟨_,rfl,h⟩
theorem RV.undef:RV ρ Bp Bp:= .tuple .nil
theorem RV.vptr {cs cs':List DVal} (o:Nat) (h:RVL ρ cs cs'):RV ρ (.vptr cs o) (.vptr cs' o):=by simp only[RV];exact⟨_,rfl,h⟩
theorem RV.vslice {cs cs':List DVal} (o:Nat) (h:RVL ρ cs cs'):RV ρ (.vslice cs o) (.vslice cs' o):=by simp only[RV];exact⟨_,rfl,h⟩
theorem RV.optr {k r:Nat} (o:Nat) (h:ρ k=some r):RV ρ (.optr k o) (.optr r o):=by simp only[RV];exact⟨_,rfl,h⟩
theorem RV.oslice {k r:Nat} (a b c d:Nat) (h:ρ k=some r):RV ρ (.oslice a k b c d) (.oslice a r b c d):=by simp only[RV];exact⟨_,rfl,h⟩
theorem RV.omap {k r:Nat} (h:ρ k=some r):RV ρ (.omap k) (.omap r):=by simp only[RV];exact⟨_,rfl,h⟩
theorem RV.iface {v v':DVal} (t:TypeId) (h:RV ρ v v'):RV ρ (.iface t v) (.iface t v'):=by simp only[RV];exact⟨_,rfl,h⟩
theorem RV.func {a a' c c':List DVal} (f:Fn) (h:RVL ρ a a') (k:RVL ρ c c'):RV ρ (.func f a c) (.func f a' c'):=by simp only[RV];exact⟨_,_,rfl,h,k⟩
theorem Aq4: ∀v,RV ρ (Bn v) (Bn v):=by
 intro v;refine Bn.induct (motive_1:=fun v=>RV ρ (Bn v) (Bn v)) (motive_2:=fun vs=>RVL ρ (Cz vs) (Cz vs)) ?_ ?_ ?_ ?_ ?_ ?_ ?_ ?_ ?_ ?_ ?_ ?_ ?_ ?_ v;all_goals (intros;simp only[Bn,Cz];try first
  | (simp only[RV];done)
  | exact .agg (by assumption)
  | exact .tuple (by assumption)
  | exact .func _ (by assumption) (by assumption)
  | exact .cons (by assumption) (by assumption)
  | exact .nil)
 all_goals (unfold Bn;split<;>first | (simp only[RV];done) | (exfalso;simp_all;done))
theorem Iq {P:Program} {t:TypeId} {z:DVal} (h:Ax P t=some z):RV ρ z z:=by
 unfold Ax at h;cases hz:(P.info? t).bind (·.zero) with
 | none=>rw[hz] at h;cases h
 | some v=>rw[hz] at h;cases h;exact Aq4 v
end
mutual
theorem Lf {ρ:Nat->Option Nat}: ∀ {v:DVal},Ej v=true->RV ρ v v
 | .raw _,_=>by simp only[RV]
 | .bool _,_=>by simp only[RV]
 | .int _ _,_=>by simp only[RV]
 | .str _,_=>by simp only[RV]
 | .nilPtr,_=>by simp only[RV]
 | .nilSlice,_=>by simp only[RV]
 | .nilMap,_=>by simp only[RV]
 | .nilFunc,_=>by simp only[RV]
 | .nilIface,_=>by simp only[RV]
 | .vptr cs o,h=> .vptr o (Eo (by simpa only[Ej] using h))
 | .vslice cs o,h=> .vslice o (Eo (by simpa only[Ej] using h))
 | .agg cs,h=> .agg (Eo (by simpa only[Ej] using h))
 | .tuple cs,h=> .tuple (Eo (by simpa only[Ej] using h))
 | .iface t v,h=> .iface t (Lf (by simpa only[Ej] using h))
 | .func f a c,h=>by
  simp only[Ej,Bool.and_eq_true] at h
  exact .func f (Eo h.1) (Eo h.2)
 | .optr _ _,h=>by simp only[Ej] at h;cases h
 | .oslice _ _ _ _ _,h=>by simp only[Ej] at h;cases h
 | .omap _,h=>by simp only[Ej] at h;cases h
theorem Eo {ρ:Nat->Option Nat}: ∀ {vs:List DVal},Es vs=true->RVL ρ vs vs
 | [],_=> .nil
 | v::vs,h=>by
  simp only[Es,Bool.and_eq_true] at h
  exact .cons (Lf h.1) (Eo h.2)
end
structure RH (B:Aa) (ρ:Nat->Option Nat) (A:XH) (H:Aa):Prop where
 obj: ∀k o,Bc A k=some o-> ∃r o',ρ k=some r/\H r=some o'/\RO ρ o o'
 inj: ∀k k' r o o',Bc A k=some o->Bc A k'=some o'->ρ k=some r->ρ k'=some r->k=k'
 nx: ∀k,A.nx<=k->ρ k=none
 base: ∀r o,B r=some o->H r=some o
 low: ∀k r,ρ k=some r->B r=none
structure RS (B:Aa) (ρ:Nat->Option Nat) (E:Tr DVal) (A:XH) (s:DS):Prop where
 env: ∀i v,E.get i=some v->RV ρ v (s.env i)
 heap:RH B ρ A s.heap
def Au (B:Aa) (ρ:Nat->Option Nat) (Q:DExit->DS->Prop):Out->Prop
 | .bad=>False
 | .norm E A=> ∀ρ' s',Ble ρ ρ'->RS B ρ' E A s'->Q .normal s'
 | .exit id E A=> ∀ρ' s',Ble ρ ρ'->RS B ρ' E A s'->Q (.exit id) s'
 | .ret E A=> ∀ρ' s',Ble ρ ρ'->RS B ρ' E A s'->Q .ret s'
 | .panic v E A=> ∀ρ' s' v',Ble ρ ρ'->RS B ρ' E A s'->RV ρ' v v'->Q (.panic v') s'
 | .panicX v A=> ∀ρ' s' v',Ble ρ ρ'->RH B ρ' A s'.heap->RV ρ' v v'->Q (.panic v') s'
def Fu (B:Aa) (ρ:Nat->Option Nat) (R:DEnd->Aa->Prop):COut->Prop
 | .bad=>False
 | .cret v A=> ∀ρ' H' v',Ble ρ ρ'->RH B ρ' A H'->RV ρ' v v'->R (.ret v') H'
 | .cpanic v A=> ∀ρ' H' v',Ble ρ ρ'->RH B ρ' A H'->RV ρ' v v'->R (.panic v') H'
section
variable {B:Aa} {ρ ρ':Nat->Option Nat} {E:Tr DVal} {A:XH} {s:DS} {K:DK} {Q Q':DExit->DS->Prop}
theorem Au.le (h:Ble ρ ρ') {o:Out} (hr:Au B ρ Q o):Au B ρ' Q o:=by
 cases o with
 | bad=>exact hr
 | norm E A=>exact fun σ s' hl=>hr σ s' (h.trans hl)
 | exit id E A=>exact fun σ s' hl=>hr σ s' (h.trans hl)
 | ret E A=>exact fun σ s' hl=>hr σ s' (h.trans hl)
 | panic v E A=>exact fun σ s' v' hl=>hr σ s' v' (h.trans hl)
 | panicX v A=>exact fun σ s' v' hl=>hr σ s' v' (h.trans hl)
theorem Fu.le (h:Ble ρ ρ') {R:DEnd->Aa->Prop} {o:COut} (hr:Fu B ρ R o):Fu B ρ' R o:=by
 cases o with
 | bad=>exact hr
 | cret v A=>exact fun σ s' v' hl=>hr σ s' v' (h.trans hl)
 | cpanic v A=>exact fun σ s' v' hl=>hr σ s' v' (h.trans hl)
theorem RH.live {H:Aa} (h:RH B ρ A H) {k:Nat} {o:DObj} (hk:Bc A k=some o):k<A.nx:=by
 obtain⟨r,o',h1,_⟩:=h.obj k o hk;rcases Nat.lt_or_ge k A.nx with hl | hl
 ·exact hl
 ·rw[h.nx k hl] at h1;cases h1
theorem RS.put (hS:RS B ρ E A s) {E':Tr DVal} {d:Nat} {v v':DVal} (h: ∀j,E'.get j=if j=d then some v else E.get j) (hv:RV ρ v v'):RS B ρ E' A ⟨upd s.env d v',s.heap⟩:=by
 refine⟨fun i x hx=> ?_,hS.heap⟩;show RV ρ x (upd s.env d v' i);rw[h] at hx;unfold upd;by_cases e:i=d
 ·rw[if_pos e] at hx⊢;cases hx;exact hv
 ·rw[if_neg e] at hx⊢;exact hS.env i x hx
theorem Dz (hS:RS B ρ E A s) {dst:Option Nat} {v v':DVal} (hv:RV ρ v v') (h:Au B ρ (Db K Q) (Ma E A dst v)):Av dst v' K s:=by
 unfold Ma at h;rw[Ah6] at h;cases dst with
 | none=>exact h ρ s (Ble.refl _) hS
 | some d=>
  simp only[Mr] at h;rcases Hj (z:=Out.bad) (x:=v) 10 E d (fun E=> .norm E A) with e | ⟨t',h1,e⟩
  ·rw[e] at h;exact h.elim
  ·rw[e] at h;exact h ρ _ (Ble.refl _) (hS.put h1 hv)
theorem Aq5 (hS:RS B ρ E A s) {dst:Option Nat} {v v':DVal} (hv:RV ρ v v') (h:Au B ρ (Db K Q) (Xc E A dst v)):Av dst v' K s:=
 Dz hS hv (by unfold Ma;rw[Ah6];exact h)
theorem Bn7 (E:Tr DVal) (A:XH) (dst:Option Nat) (o:Option DVal):Hh E A dst o=Ee E A dst o:=by
 cases o with
 | none=>rfl
 | some v=>show Xc E A dst v=Ma E A dst v;unfold Ma;rw[Ah6];rfl
theorem Cb2 (hS:RS B ρ E A s) {dst:Option Nat} {o:Option DVal} (h:Au B ρ (Db K Q) (Ee E A dst o)): ∃v,o=some v/\ ∀v',RV ρ v v'->Av dst v' K s:=by
 cases o with
 | none=>exact h.elim
 | some v=>exact⟨v,rfl,fun v' hv=>Dz hS hv h⟩
theorem Aq6 {A:XH} {tr':Tr (Option DObj)} {k:Nat} {o:Option DObj} {n:Nat} (h: ∀j,tr'.get j=if j=k then some o else A.tr.get j) (i:Nat):Bc ⟨tr',n⟩ i=if i=k then o else Bc A i:=by
 unfold Bc
 show(match tr'.get i with | some (some o)=>some o | _=>none)=_
 rw[h]
 by_cases e:i=k
 ·rw[if_pos e,if_pos e];cases o<;>rfl
 ·rw[if_neg e,if_neg e];try rfl
theorem Ny {k:Nat} {o:Option DObj} {κ:XH->Out} {r:Nat} {ob ob':DObj} {Q:DExit->DS->Prop} (hS:RS B ρ E A s) (hk:Bc A k=some ob) (hr:ρ k=some r) (ho: ∀o1,o=some o1->RO ρ o1 ob')
  (h:Au B ρ Q (Xd A k o κ)): ∃A',Au B ρ Q (κ A')/\RS B ρ E A' ⟨s.env,upd s.heap r (o.map fun _=>ob')⟩/\A'.nx=A.nx/\(∀i,Bc A' i=if i=k then o else Bc A i):=by
 have key: ∃tr',(∀j,tr'.get j=if j=k then some o else A.tr.get j)/\Au B ρ Q (κ ⟨tr',A.nx⟩):=by
  unfold Xd at h;obtain⟨tr,nx⟩:=A;cases o with
  | some o1=>
   simp only[Cb0] at h;rcases Hj (z:=Out.bad) (x:=some o1) 24 tr k (fun tr=>κ ⟨tr,nx⟩) with e | ⟨t',h1,e⟩
   ·rw[e] at h;exact h.elim
   ·rw[e] at h;exact⟨t',h1,h⟩
  | none=>
   simp only at h;rcases Hj (z:=Out.bad) (x:=(none:Option DObj)) 24 tr k (fun tr=>κ ⟨tr,nx⟩) with e | ⟨t',h1,e⟩
   ·rw[e] at h;exact h.elim
   ·rw[e] at h;exact⟨t',h1,h⟩
 obtain⟨tr',h1,h2⟩:=key;have hg:=fun i=>Aq6 (A:=A) (n:=A.nx) h1 i;refine⟨⟨tr',A.nx⟩,h2,⟨hS.env, ?_⟩,rfl,hg⟩;have hkeep:=hS.heap;refine⟨fun k' o' hk'=> ?_,fun k1 k2 r' o1 o2 g1 g2 e1 e2=> ?_,hkeep.nx,fun r' o' hb=> ?_,hkeep.low⟩
 ·rw[hg] at hk';by_cases e:k'=k
  ·rw[if_pos e] at hk';subst e;subst hk';exact⟨r,ob',hr,by simp [upd],ho _ rfl⟩
  ·rw[if_neg e] at hk';obtain⟨r1,o1,h3,h4,h5⟩:=hkeep.obj k' o' hk';refine⟨r1,o1,h3, ?_,h5⟩;have:r1≠r:=fun er=>e (hkeep.inj k' k r _ _ hk' hk (er▸h3) hr);simp [upd,this,h4]
 ·rw[hg] at g1 g2;by_cases c1:k1=k<;>by_cases c2:k2=k
  ·rw[c1,c2]
  ·rw[if_neg c2] at g2;subst c1;exact hkeep.inj k1 k2 r' _ _ hk g2 e1 e2
  ·rw[if_neg c1] at g1;subst c2;exact hkeep.inj k1 k2 r' _ _ g1 hk e1 e2
  ·rw[if_neg c1] at g1;rw[if_neg c2] at g2;exact hkeep.inj k1 k2 r' _ _ g1 g2 e1 e2
 ·have h3:=hkeep.base r' o' hb;have:r'≠r:=fun e=>by
   have:=hkeep.low k r hr;rw[e,this] at hb;cases hb
  simp [upd,this,h3]
theorem Nz {o o':DObj} {κ:Nat->XH->Out} {r:Nat} {Q:DExit->DS->Prop} (hS:RS B ρ E A s) (hr:s.heap r=none) (ho:RO ρ o o') (h:Au B ρ Q (Xe A o κ)):
  ∃A' ρ',Ble ρ ρ'/\ρ' A.nx=some r/\Au B ρ' Q (κ A.nx A')/\RS B ρ' E A' ⟨s.env,upd s.heap r (some o')⟩:=by
 have key: ∃tr',(∀j,tr'.get j=if j=A.nx then some (some o) else A.tr.get j)/\Au B ρ Q (κ A.nx ⟨tr',A.nx+1⟩):=by
  unfold Xe at h;obtain⟨tr,nx⟩:=A;simp only[Cb0,Hr] at h;rcases Hj (z:=Out.bad) (x:=some o) 24 tr nx (fun tr=>κ nx ⟨tr,nx+1⟩) with e | ⟨t',h1,e⟩
  ·rw[e] at h;exact h.elim
  ·rw[e] at h;exact⟨t',h1,h⟩
 obtain⟨tr',h1,h2⟩:=key;have hg:=fun i=>Aq6 (A:=A) (n:=A.nx+1) h1 i;have hkeep:=hS.heap;have hnone:ρ A.nx=none:=hkeep.nx _ (Nat.le_refl _);have hle:Ble ρ (fun k=>if k=A.nx then some r else ρ k):=fun k r1 e=>by
  have:k≠A.nx:=fun c=>by rw[c,hnone] at e;cases e
  simp [this,e]
 have hBr:B r=none:=by
  cases e:B r with
  | none=>rfl
  | some x=>rw[hkeep.base r x e] at hr;cases hr
 refine⟨⟨tr',A.nx+1⟩,fun k=>if k=A.nx then some r else ρ k,hle,by simp,h2.le hle,⟨fun i v hi=>(hS.env i v hi).mono hle, ?_⟩⟩;refine⟨fun k' o1 hk'=> ?_,fun k1 k2 r' o1 o2 g1 g2 e1 e2=> ?_,fun k hk=> ?_,fun r' o1 hb=> ?_,fun k r1 e=> ?_⟩
 ·rw[hg] at hk';by_cases e:k'=A.nx
  ·rw[if_pos e] at hk';cases hk';exact⟨r,o',by simp [e],by simp [upd],ho.mono hle⟩
  ·rw[if_neg e] at hk';obtain⟨r1,o2,h3,h4,h5⟩:=hkeep.obj k' o1 hk';refine⟨r1,o2,by simp [e,h3], ?_,h5.mono hle⟩;have:r1≠r:=fun er=>by rw[er,hr] at h4;cases h4
   simp [upd,this,h4]
 ·rw[hg] at g1 g2;by_cases c1:k1=A.nx<;>by_cases c2:k2=A.nx
  ·rw[c1,c2]
  ·rw[if_neg c2] at g2;simp only[c1,if_true,c2,if_false] at e1 e2;cases e1;obtain⟨r3,o3,x1,x2,x3⟩:=hkeep.obj k2 o2 g2;rw[x1] at e2;cases e2;rw[hr] at x2;cases x2
  ·rw[if_neg c1] at g1;simp only[c1,if_true,c2,if_false] at e1 e2;cases e2;obtain⟨r3,o3,x1,x2,x3⟩:=hkeep.obj k1 o1 g1;rw[x1] at e1;cases e1;rw[hr] at x2;cases x2
  ·rw[if_neg c1] at g1;rw[if_neg c2] at g2;simp only[c1,c2,if_false] at e1 e2;exact hkeep.inj k1 k2 r' _ _ g1 g2 e1 e2
 ·have hk':A.nx+1<=k:=hk;have:k≠A.nx:=by omega
  simp only[this,if_false];exact hkeep.nx k (by omega)
 ·have h3:=hkeep.base r' o1 hb;have:r'≠r:=fun e=>by rw[e,hBr] at hb;cases hb
  simp [upd,this,h3]
 ·by_cases c:k=A.nx
  ·simp only[c,if_true] at e;cases e;exact hBr
  ·simp only[c,if_false] at e;exact hkeep.low k r1 e
end
end Go.Dl

-- AN INTERPRETER OF THE DATA LEVEL, PART 3: the values that operations give are those of the data level.
namespace Go.Dl
open Go
section
variable {P:Program} {gt:Nat->Option DVal} {G:Nat->DVal}
variable {B:Aa} {ρ:Nat->Option Nat} {E:Tr DVal} {A:XH} {s:DS} {Q:DExit->DS->Prop}
theorem Az4 {R:Type} {z:R} (hgt: ∀g d,gt g=some d-> ∀ρ,RV ρ d (G g)) (hS:RS B ρ E A s) (o:Operand) (κ:DVal->R):evK gt z E o κ=z\/ ∃v,RV ρ v (dev G s.env o)/\evK gt z E o κ=κ v:=by
 cases o with
 | tmp t=>
  simp only[evK,dev];cases h:E.get t with
  | none=>exact .inl rfl
  | some v=>exact .inr ⟨v,hS.env t v h,rfl⟩
 | const v=>exact .inr ⟨_,Aq4 v,rfl⟩
 | global g=>
  simp only[evK,dev];cases h:gt g with
  | none=>exact .inl rfl
  | some d=>exact .inr ⟨d,hgt g d h ρ,rfl⟩
 | func f=>exact .inr ⟨_, .func _ .nil .nil,rfl⟩
theorem Bx (hgt: ∀g d,gt g=some d-> ∀ρ,RV ρ d (G g)) (hS:RS B ρ E A s) {o:Operand} {κ:DVal->Out} (h:Au B ρ Q (evK gt .bad E o κ)): ∃v,RV ρ v (dev G s.env o)/\Au B ρ Q (κ v):=by
 rcases Az4 hgt hS o κ with e | ⟨v,h1,e⟩
 ·rw[e] at h;exact h.elim
 ·rw[e] at h;exact⟨v,h1,h⟩
theorem Xo (hgt: ∀g d,gt g=some d-> ∀ρ,RV ρ d (G g)) (hS:RS B ρ E A s): ∀ {os:List Operand} {κ:List DVal->Out},Au B ρ Q (Rn gt .bad E os κ)-> ∃vs,RVL ρ vs (Cj G s.env os)/\Au B ρ Q (κ vs)
 | [],κ,h=>⟨[],rfl,h⟩
 | o::os,κ,h=>by
  obtain⟨v,h1,h2⟩:=Bx hgt hS (o:=o) (κ:=fun v=>Rn gt .bad E os fun vs=>κ (v::vs)) h;obtain⟨vs,h3,h4⟩:=Xo hgt hS h2;exact⟨v::vs, .cons h1 h3,h4⟩
theorem Xp (hgt: ∀g d,gt g=some d-> ∀ρ,RV ρ d (G g)) (hS:RS B ρ E A s): ∀ {os:List (Nat×Operand)} {κ:List (Nat×DVal)->Out},Au B ρ Q (Tg gt .bad E os κ)-> ∃vs,RVP ρ vs (Eu G s.env os)/\Au B ρ Q (κ vs)
 | [],κ,h=>⟨[],rfl,h⟩
 | (i,o)::os,κ,h=>by
  obtain⟨v,h1,h2⟩:=Bx hgt hS (o:=o) (κ:=fun v=>Tg gt .bad E os fun vs=>κ ((i,v)::vs)) h;obtain⟨vs,h3,h4⟩:=Xp hgt hS h2;exact⟨(i,v)::vs,⟨_,_,rfl,h1,h3⟩,h4⟩
def RVo (ρ:Nat->Option Nat):Option DVal->Option DVal->Prop
 | some v,some d=>RV ρ v d
 | none,none=>True
 | _,_=>False
theorem Ah7 (hgt: ∀g d,gt g=some d-> ∀ρ,RV ρ d (G g)) (hS:RS B ρ E A s) {o:Option Operand} {κ:Option DVal->Out} (h:Au B ρ Q (Af7 gt .bad E o κ)): ∃v,RVo ρ v (Hu G s.env o)/\Au B ρ Q (κ v):=by
 cases o with
 | none=>exact⟨none,trivial,h⟩
 | some x=>
  obtain⟨v,h1,h2⟩:=Bx hgt hS (o:=x) (κ:=fun v=>κ (some v)) h;exact⟨some v,h1,h2⟩
def Cp (ρ:Nat->Option Nat) (v:DVal) (F:Option Nat->DK->DS->Prop) (s:DS):Prop:= ∃v',RV ρ v v'/\ ∀dst K,Av dst v' K s->F dst K s
theorem Cb3 {c a b c' a' b' v:DVal} (hv:Bd5 c a b=some v) (hc:RV ρ c c') (ha:RV ρ a a') (hb:RV ρ b b'):Cp ρ v (fun dst=>Yx dst c' a' b') s:=by
 unfold Bd5 at hv;split at hv<;>cases hv<;>simp only[RV] at hc<;>subst hc
 ·exact⟨a',ha,fun _ _ h=>h⟩
 ·exact⟨b',hb,fun _ _ h=>h⟩
theorem Ry {place:Nat->Option (Nat×Nat)}: ∀ {Bu parts':List (Nat×DVal)} {cs cs' out:List DVal},RVP ρ Bu parts'->RVL ρ cs cs'->Gk place cs Bu=some out-> ∃out',Gk place cs' parts'=some out'/\RVL ρ out out'
 | [],_,cs,cs',out,hp,hc,h=>by
  simp only[RVP] at hp;subst hp;simp only[Gk] at h;cases h;exact⟨cs',rfl,hc⟩
 | (i,v)::Bu,_,cs,cs',out,hp,hc,h=>by
  obtain⟨v',qs,rfl,hv,hq⟩:=hp;simp only[Gk] at h⊢
  cases hpl:place i with
  | none=>rw[hpl] at h;cases h
  | some os=>
   obtain⟨off,size⟩:=os;rw[hpl] at h;simp only at h⊢
   rw[hv.cells.length,hc.length];split at h
   ·rename_i hcond
    rw[if_pos hcond];exact Ry hq (((hc.take off).append hv.cells).append (hc.drop _)) h
   ·cases h
theorem Bn8 {b:Bool} {t:Option TypeDesc} {z:Option DVal} {ps ps':List (Nat×DVal)} {v:DVal} (hz: ∀x,z=some x->RV ρ x x) (hv:Af8 P b t z ps=some v) (hp:RVP ρ ps ps'):Cp ρ v (fun dst=>Pf P dst b t z ps') s:=by
 unfold Af8 at hv;split at hv<;>try (cases hv;done)
 ·rename_i fields x
  rw[Rx] at hv;split at hv<;>cases hv
  rename_i out h1
  obtain⟨out',h2,h3⟩:=Ry hp (hz x rfl).cells h1;exact⟨_, .agg h3,fun dst K h=>by simp only[Pf,h2,Option.map_some,Fh];exact h⟩
 ·rename_i n e x
  rw[Rx] at hv;split at hv<;>cases hv
  rename_i out h1
  obtain⟨out',h2,h3⟩:=Ry hp (hz x rfl).cells h1;exact⟨_, .agg h3,fun dst K h=>by simp only[Pf,h2,Option.map_some,Fh];exact h⟩
theorem Aq7 {size off:Nat} {ag:Option Bool} {cs cs':List DVal} {v:DVal} (hc:RVL ρ cs cs') (hv:Nh size cs off ag=some v):Cp ρ v (fun dst=>Pg size dst ag cs' off) s:=by
 unfold Nh at hv;split at hv
 ·split at hv<;>cases hv
  rename_i hle
  exact⟨_, .agg ((hc.drop off).take size),fun dst K h=>⟨by rw[hc.length];exact hle,h⟩⟩
 ·obtain⟨x',h1,h2⟩:=hc.get hv;exact⟨x',h2,fun dst K h=>by simp only[Pg,h1,Fh];exact h⟩
 ·cases hv
theorem Hk {cs:List DVal} {e:TypeId} {k:Nat} (hS:RH B ρ A s.heap) (h:Bc A k=some (.cells cs e)): ∃r cs',ρ k=some r/\s.heap r=some (.cells cs' e)/\RVL ρ cs cs':=by
 obtain⟨r,o',h1,h2,cs',rfl,h3⟩:=hS.obj k _ h;exact⟨r,cs',h1,h2,h3⟩
theorem Cb4 {size:Nat} {ag:Option Bool} {a a' v:DVal} (hS:RH B ρ A s.heap) (ha:RV ρ a a') (hv:Bd6 size ag A a=some v):Cp ρ v (fun dst=>Tu size ag dst a') s:=by
 unfold Bd6 at hv;split at hv
 ·simp only[RV] at ha;obtain⟨cs',rfl,hl⟩:=ha;rw[Tj] at hv;exact Aq7 hl hv
 ·simp only[RV] at ha;obtain⟨r,rfl,hr⟩:=ha;unfold Ag0 at hv;split at hv
  ·rename_i cs e heq
   obtain⟨r',cs',h1,h2,h3⟩:=Hk hS heq;rw[hr] at h1;cases h1;rw[Tj] at hv;obtain⟨v',h4,h5⟩:=Aq7 (s:=s) h3 hv;exact⟨v',h4,fun dst K h=>by simp only[Tu,h2,Vi];exact h5 dst K h⟩
  ·cases hv
 ·cases hv
theorem Ck3 {x x' v:DVal} (hx:RV ρ x x') (hv:Cj9 x=some v):Cp ρ v (fun dst=>Kn dst x') s:=by
 have keep:=hx;unfold Cj9 at hv;split at hv<;>cases hv<;>simp only[RV] at hx;all_goals first
  | (obtain⟨_,rfl,_⟩:=hx;exact⟨_,keep,fun _ _ h=>h⟩)
  | (obtain⟨_,_,rfl,_⟩:=hx;exact⟨_,keep,fun _ _ h=>h⟩)
theorem Ah8 {o b:Option Bool} {v:DVal} (hv:Ay4 o b=some v):Cp ρ v (fun dst=>Ia dst o b) s:=by
 unfold Ay4 at hv;split at hv<;>cases hv<;>exact⟨_, .bool _,fun _ _ h=>h⟩
theorem Ck4 {k:IntKind} {a b:Int} {op:BinOp} {v:DVal} (hv:Cv0 k a b op=some v):Cp ρ v (fun dst K s=>Qf k a b dst K s op) s:=by
 have e:Cv0 k a b op=Cn7 k a b op:=by cases op<;>rfl
 rw[e] at hv;unfold Cn7 at hv;split at hv<;>(try split at hv)<;>cases hv<;>first
  | exact⟨_, .int _ _,fun _ _ h=>h⟩
  | exact⟨_, .bool _,fun _ _ h=>h⟩
  | exact⟨_, .int _ _,fun _ _ h=>⟨by assumption,h⟩⟩
theorem Bn9 {k:IntKind} {a b:Int} {op:BinOp} {v:DVal} (hv:Ay5 k a b op=some v):Cp ρ v (fun dst K s=>Vk k a b dst K s op) s:=by
 unfold Ay5 at hv;split at hv<;>(try split at hv)<;>cases hv;all_goals exact⟨_, .int _ _,fun _ _ h=>⟨by assumption,h⟩⟩
theorem Vb: ∀a b:List UInt8,Ay6 a b=decide (a=b)
 | [],[]=>rfl
 | [],_::_=>rfl
 | _::_,[]=>rfl
 | x::a,y::b=>by
  show Bool.rec (motive:=fun _=>Bool) false (Ay6 a b) (Nat.beq x.toNat y.toNat)=_;by_cases h:x=y
  ·subst h;have:Nat.beq x.toNat x.toNat=true:=Nat.beq_refl _;rw[this,Vb a b];simp
  ·have:Nat.beq x.toNat y.toNat=false:=by
    cases hb:Nat.beq x.toNat y.toNat with
    | false=>rfl
    | true=>exact(h (UInt8.toNat_inj.1 (Nat.eq_of_beq_eq_true hb))).elim
   rw[this];simp [h]
theorem Ck5 {a b:List UInt8} {op:BinOp} {v:DVal} (hv:Cv1 a b op=some v):Cp ρ v (fun dst K s=>Oe a b dst K s op) s:=by
 unfold Cv1 at hv;split at hv<;>(try split at hv)<;>cases hv<;>(try rw[Vb])<;>first
  | exact⟨_, .bool _,fun _ _ h=>h⟩
  | exact⟨_, .str _,fun _ _ h=>⟨by assumption,h⟩⟩
theorem Vc {size off:Nat} {ag:Option Bool} {xs xs':List DVal} (h:RVL ρ xs xs'):RVL ρ (Cr size off xs ag) (Cr size off xs' ag):=by
 unfold Cr;split
 ·exact(h.drop off).take size
 ·exact(h.drop off).take 1
 ·exact .nil
theorem Az5 {a b:Option Bool} {c:Bool} (h:At2 a b=some c):(a=some true/\b=some c)\/(a=some false/\c=false/\ ∃d,b=some d):=by
 unfold At2 at h;split at h
 ·exact .inl ⟨rfl,h⟩
 ·cases h;exact .inr ⟨rfl,rfl,_,rfl⟩
 ·cases h
theorem Zy {a b a' b':Option Bool} {c:Bool} (h:At2 a b=some c) (ha: ∀x,a=some x->a'=some x) (hb: ∀x,b=some x->b'=some x):At2 a' b'=some c:=by
 rcases Az5 h with⟨h1,h2⟩ | ⟨h1,rfl,d,h2⟩
 ·rw[ha _ h1,hb _ h2];rfl
 ·rw[ha _ h1,hb _ h2];rfl
theorem Zz {f f':TypeId->Nat->Option Bool} (hf: ∀t o b,f t o=some b->f' t o=some b): ∀ {fs:List Field} {b:Bool},Vj f fs=some b->Vj f' fs=some b
 | [],b,h=>h
 | x::fs,b,h=>by
  simp only[Vj] at h⊢
  split at h
  ·rename_i hn
   rw[if_pos hn];exact Zy h (hf _ _) fun _ h=>Zz hf h
  ·cases h
theorem Aa0 {f f':Nat->Option Bool} (hf: ∀o b,f o=some b->f' o=some b): ∀ {is:List Nat} {b:Bool},Tv f is=some b->Tv f' is=some b
 | [],b,h=>h
 | x::is,b,h=>by
  simp only[Tv] at h⊢
  exact Zy h (hf _) fun _ h=>Aa0 hf h
theorem Fc {x:DVal} {ds:List DVal} (h:RVL ρ [x] ds): ∃y,ds= [y]/\RV ρ x y:=by
 obtain⟨y,ys,rfl,h1,h2⟩:=h.inv;simp only[RVL] at h2;subst h2;exact⟨y,rfl,h1⟩
theorem Az6: ∀(n:Nat) {t:TypeId} {xs xs' ys ys':List DVal} {b:Bool},RVL ρ xs xs'->RVL ρ ys ys'->Mo P n t xs ys=some b->Mo P n t xs' ys'=some b
 | 0,_,_,_,_,_,_,_,_,h=>by cases h
 | n+1,t,xs,xs',ys,ys',b,hx,hy,h=>by
  simp only[Mo] at h⊢
  unfold Mu at h⊢
  split at h
  ·unfold Yy at h;split at h<;>cases h;obtain⟨a,rfl,h1⟩:=Fc hx;obtain⟨c,rfl,h2⟩:=Fc hy;simp only[RV] at h1 h2;subst h1;subst h2;rfl
  ·unfold Aj7 at h;split at h<;>try cases h
   obtain⟨a,rfl,h1⟩:=Fc hx;obtain⟨c,rfl,h2⟩:=Fc hy;simp only[RV] at h1 h2;subst h1;subst h2;exact h
  ·unfold Aj8 at h;split at h<;>cases h;obtain⟨a,rfl,h1⟩:=Fc hx;obtain⟨c,rfl,h2⟩:=Fc hy;simp only[RV] at h1 h2;subst h1;subst h2;rfl
  ·unfold Bq3 at h⊢
   split at h
   ·cases h
   ·exact Zz (fun u o b h=>Az6 n (Vc hx) (Vc hy) h) h
  ·split at h
   ·rename_i hi
    rw[if_pos hi];exact Aa0 (fun o b h=>Az6 n (Vc hx) (Vc hy) h) h
   ·cases h
  ·cases h
theorem Cw0 {c b:Bool} {td:Option TypeDesc} {x y x' y':DVal} (hx:RV ρ x x') (hy:RV ρ y y') (h:Ik c td x y=some b):
  Ik c td x' y'=some b/\ ∀(P:Program) t op dst K s,Gi P t c op dst x' y' K s=Ia dst (Ht op) (Ik c (P.underlying t) x' y') K s:=by
 have h0:=h;unfold Ik at h;split at h<;>(try (cases h;done))<;>simp only[RV] at hx hy;all_goals first
  | (subst hx;subst hy;exact⟨h0,fun _ _ _ _ _ _=>rfl⟩)
  | (subst hx;obtain⟨_,rfl,_⟩:=hy;exact⟨h0,fun _ _ _ _ _ _=>rfl⟩)
  | (subst hy;obtain⟨_,rfl,_⟩:=hx;exact⟨h0,fun _ _ _ _ _ _=>rfl⟩)
  | (subst hx;obtain⟨_,_,rfl,_⟩:=hy;exact⟨h0,fun _ _ _ _ _ _=>rfl⟩)
  | (subst hy;obtain⟨_,_,rfl,_⟩:=hx;exact⟨h0,fun _ _ _ _ _ _=>rfl⟩)
theorem Ck6 {t:TypeId} {c:Bool} {op:BinOp} {x y x' y' v:DVal} (hx:RV ρ x x') (hy:RV ρ y y') (hv:Cv2 P t c op x y=some v):Cp ρ v (fun dst=>Gi P t c op dst x' y') s:=by
 unfold Cv2 at hv;split at hv
 ·rename_i k a k' b
  simp only[RV] at hx hy;subst hx;subst hy;split at hv
  ·rename_i hs
   obtain⟨v',h1,h2⟩:=Bn9 (ρ:=ρ) (s:=s) hv;exact⟨v',h1,fun dst K h=>by simp only[Gi,hs,Yz];exact h2 dst K h⟩
  ·rename_i hs
   split at hv
   ·rename_i hk
    obtain⟨v',h1,h2⟩:=Ck4 (ρ:=ρ) (s:=s) hv;exact⟨v',h1,fun dst K h=>by simp only[Gi,hs,Yz];exact⟨hk,h2 dst K h⟩⟩
   ·cases hv
 ·simp only[RV] at hx hy;subst hx;subst hy;exact Ck5 hv
 ·simp only[RV] at hx hy;obtain⟨xs',rfl,hx⟩:=hx;obtain⟨ys',rfl,hy⟩:=hy;split at hv
  ·rename_i hc
   rename_i xs ys
   cases he:Mo P 6 t xs ys with
   | none=>rw[he] at hv;unfold Ay4 at hv;split at hv<;>simp_all
   | some b=>
    rw[he] at hv;obtain⟨v',h1,h2⟩:=Ah8 (ρ:=ρ) (s:=s) hv;exact⟨v',h1,fun dst K h=>⟨hc.1,hc.2,by rw[Az6 6 hx hy he];exact h2 dst K h⟩⟩
  ·cases hv
 ·cases he:Ik c (P.underlying t) x y with
  | none=>rw[he] at hv;unfold Ay4 at hv;split at hv<;>simp_all
  | some b=>
   rw[he] at hv;obtain⟨v',h1,h2⟩:=Ah8 (ρ:=ρ) (s:=s) hv;refine⟨v',h1,fun dst K h=> ?_⟩;obtain⟨h3,h4⟩:=Cw0 hx hy he;show Gi P t c op dst x' y' K s;rw[h4,h3];exact h2 dst K h
end
end Go.Dl

-- AN INTERPRETER OF THE DATA LEVEL, PART 4: the values that operations give, continued.
namespace Go.Dl
open Go
section
variable {P:Program} {G:Nat->DVal}
variable {B:Aa} {ρ:Nat->Option Nat} {E:Tr DVal} {A:XH} {s:DS}
theorem Cb5 {t:TypeId} {c n:Bool} {op:BinOp} {x y x' y' v:DVal} (hx:RV ρ x x') (hy:RV ρ y y') (hv:Bd7 P t c op n x y=some v):Cp ρ v (fun dst=>Ot P t c op dst n x' y') s:=by
 unfold Bd7 at hv;split at hv
 ·split at hv
  ·rename_i hs
   simp only[RV] at hx;obtain⟨cs',rfl,hl⟩:=hx;obtain⟨a,b,rfl,_,_⟩:=hl.inv;obtain⟨v',h1,h2⟩:=Ah8 (ρ:=ρ) (s:=s) hv;refine⟨v',h1,fun dst K h=>⟨hs,fun b hb=> ?_⟩⟩;rw[hb (by simp)];exact h2 dst K h
  ·cases hv
 ·cases hv
 ·rename_i hne1 hne2
  obtain⟨v',h1,h2⟩:=Ck6 (s:=s) hx hy hv;refine⟨v',h1,fun dst K h=> ?_⟩;have h3:=h2 dst K h;cases n with
  | false=>show Ot P t c op dst false x' y' K s;rw[Hv];exact h3
  | true=>
   cases x<;>simp only[RV] at hx
   case vslice cs m=>cases cs with
    | nil=>exact(hne2 m rfl rfl).elim
    | cons a cs=>exact(hne1 a cs m rfl rfl).elim
   all_goals first
    | (subst hx;exact h3)
    | (obtain⟨_,rfl,_⟩:=hx;exact h3)
    | (obtain⟨_,_,rfl,_⟩:=hx;exact h3)
theorem Cw1 {op:UnOp} {x x' v:DVal} (hx:RV ρ x x') (hv:vUn op x=some v):Cp ρ v (fun dst=>dUn dst op x') s:=by
 unfold vUn at hv;split at hv<;>cases hv<;>simp only[RV] at hx<;>subst hx
 ·exact⟨_, .bool _,fun _ _ h=>h⟩
 ·exact⟨_, .int _ _,fun _ _ h=>h⟩
 ·exact⟨_, .int _ _,fun _ _ h=>h⟩
theorem Ck7 {t:Option TypeDesc} (h:Cv3 t=true):t=some (.int .u8):=by
 unfold Cv3 at h;split at h
 ·rfl
 ·cases h
theorem Az7 {n off:Nat} {k r:Nat} {l:List DVal} (hS:RH B ρ A s.heap) (hr:ρ k=some r) (hv:Lj n off (Bc A k)=some l): ∃l',Lj n off (s.heap r)=some l'/\RVL ρ l l':=by
 unfold Lj at hv;split at hv
 ·rename_i cs e heq
  obtain⟨r',cs',h1,h2,h3⟩:=Hk hS heq;rw[hr] at h1;cases h1;split at hv<;>cases hv
  rename_i hle
  refine⟨_, ?_,(h3.drop off).take n⟩;rw[h2];simp only[Lj,h3.length];rw[if_pos hle]
 ·cases hv
theorem Ck8 {x x':DVal} {l:List DVal} (hS:RH B ρ A s.heap) (hx:RV ρ x x') (hv:Cv4 A x=some l): ∃l',Lk s.heap x'=some l'/\RVL ρ l l':=by
 unfold Cv4 at hv;split at hv
 ·cases hv;simp only[RV] at hx;subst hx;exact⟨[],rfl, .nil⟩
 ·simp only[RV] at hx;obtain⟨cs',rfl,hl⟩:=hx;split at hv<;>cases hv
  rename_i hle
  exact⟨_,by simp only[Lk,hl.length];rw[if_pos hle],hl.take _⟩
 ·simp only[RV] at hx;obtain⟨r,rfl,hr⟩:=hx;exact Az7 hS hr hv
 ·cases hv
theorem Aq8: ∀ {ds ds':List DVal} {l:List UInt8},RVL ρ ds ds'->Ig ds=some l->Ig ds'=some l
 | [],_,l,h,hv=>by simp only[RVL] at h;subst h;exact hv
 | d::ds,_,l,h,hv=>by
  obtain⟨y,ys,rfl,h1,h2⟩:=h.inv;unfold Ig at hv;split at hv
  ·rename_i hd;cases hd
  ·rename_i n ds0 hd
   cases hd;simp only[RV] at h1;subst h1;cases hm:Ig ds with
   | none=>rw[hm] at hv;cases hv
   | some m=>
    rw[hm] at hv;simp only[Ig,Aq8 h2 hm];exact hv
  ·cases hv
theorem Aq9 {a b:Option TypeDesc} {x x' v:DVal} (hx:RV ρ x x') (hv:Xf a b x=some v):Cp ρ v (fun dst=>Ix dst a b x') s/\ ∀(P:Program) dst K s,(∀e,a=some (.slice e)->b≠some .string)->Gl P dst a b x' K s=Ix dst a b x' K s:=by
 have key: ∀(P:Program) dst K s,(∀e,a=some (.slice e)->b≠some .string)->Gl P dst a b x' K s=Ix dst a b x' K s:=by
  intro P dst K s hne;unfold Gl;split
  ·exact(hne _ rfl rfl).elim
  ·rfl
 refine⟨?_,key⟩;unfold Xf at hv;split at hv<;>cases hv<;>simp only[RV] at hx<;>subst hx
 ·exact⟨_, .int _ _,fun _ _ h=>h⟩
 ·exact⟨_, .str _,fun _ _ h=>h⟩
theorem Bo0 {a b:Option TypeDesc} {x x' v:DVal} (hS:RH B ρ A s.heap) (hx:RV ρ x x') (hv:Ag1 P A a b x=some v):Cp ρ v (fun dst=>Gl P dst a b x') s:=by
 unfold Ag1 at hv;split at hv
 ·split at hv
  ·rename_i hu
   obtain⟨l,h1,rfl⟩:=Option.map_eq_some_iff.1 hv;obtain⟨m,h2,h3⟩:=Option.bind_eq_some_iff.1 h1;obtain⟨m',h4,h5⟩:=Ck8 hS hx h2;refine⟨_, .str l,fun dst K h=> ?_⟩;simp only[Gl,Bq4];refine⟨Ck7 hu, ?_⟩;rw[h4];simp only[Option.bind_some,Aq8 h5 h3,Cl9];exact h
  ·cases hv
 ·rename_i hne
  obtain⟨⟨v',h1,h2⟩,h3⟩:=Aq9 (s:=s) hx hv;refine⟨v',h1,fun dst K h=> ?_⟩;show Gl P dst a b x' K s;rw[h3 P dst K s fun e h4 h5=>hne e h4 h5];exact h2 dst K h
theorem Mg {o o':Option DVal} (h:RVo ρ o o'):dLo o'=dLo o:=by
 cases o with
 | none=>cases o' with
  | none=>rfl
  | some _=>exact h.elim
 | some v=>cases o' with
  | none=>exact h.elim
  | some d=>
   have h:RV ρ v d:=h;cases v<;>simp only[RV] at h;all_goals first
    | (subst h;rfl)
    | (obtain⟨_,rfl,_⟩:=h;rfl)
    | (obtain⟨_,_,rfl,_⟩:=h;rfl)
theorem Tl {o o':Option DVal} (n:Nat) (h:RVo ρ o o'):dHi n o'=dHi n o:=by
 cases o with
 | none=>cases o' with
  | none=>rfl
  | some _=>exact h.elim
 | some v=>cases o' with
  | none=>exact h.elim
  | some d=>
   have h:RV ρ v d:=h;cases v<;>simp only[RV] at h;all_goals first
    | (subst h;rfl)
    | (obtain⟨_,rfl,_⟩:=h;rfl)
    | (obtain⟨_,_,rfl,_⟩:=h;rfl)
theorem Ah9 {l:List UInt8} {a b:Option Int} {v:DVal} (hv:Th l a b=some v):Cp ρ v (fun dst K s=>Of l dst K s a b) s:=by
 unfold Th at hv;split at hv
 ·split at hv<;>cases hv
  rename_i hc
  exact⟨_, .str _,fun _ _ h=>⟨hc.1,hc.2.1,hc.2.2,h⟩⟩
 ·cases hv
theorem Xq {size len:Nat} {cs cs':List DVal} {a b:Option Int} {v:DVal} (hc:RVL ρ cs cs') (hv:Uy size cs len a b=some v):Cp ρ v (fun dst K s=>Og size cs' len dst K s a b) s:=by
 unfold Uy at hv;split at hv
 ·split at hv<;>cases hv
  rename_i h
  exact⟨_, .vslice _ ((hc.drop _).take _),fun _ _ k=>⟨h.1,h.2.1,h.2.2,k⟩⟩
 ·cases hv
theorem Qa {size k r off cap:Nat} {a b c:Option Int} {v:DVal} (hr:ρ k=some r) (hv:Ro size k off cap a b c=some v):Cp ρ v (fun dst K s=>Jn size r off cap dst K s a b c) s:=by
 unfold Ro at hv;split at hv
 ·split at hv<;>cases hv
  rename_i h
  exact⟨_, .oslice _ _ _ _ hr,fun _ _ k=>⟨h.1,h.2.1,h.2.2.1,h.2.2.2,k⟩⟩
 ·cases hv
theorem Az8 {a b:Option Int} {v:DVal} (hv:Ag2 a b=some v):Cp ρ v (fun dst K s=>Ut dst K s a b) s:=by
 unfold Ag2 at hv;split at hv
 ·split at hv<;>cases hv
  rename_i h
  exact⟨_, .nilS,fun _ _ k=>⟨h.1,h.2,k⟩⟩
 ·cases hv
theorem Jh {o:Option DVal} (h:RVo ρ none o):o=none:=by
 cases o with
 | none=>rfl
 | some _=>exact h.elim
theorem Ar0 {v:DVal} {o:Option DVal} (h:RVo ρ (some v) o): ∃d,o=some d/\RV ρ v d:=by
 cases o with
 | none=>exact h.elim
 | some d=>exact⟨d,rfl,h⟩
theorem Cw2 {o o':Option DVal} (h:RVo ρ o o'):o'.isSome=o.isSome:=by
 cases o<;>cases o'<;>first | rfl | exact h.elim
theorem Ck9 {n k r:Nat} (hS:RH B ρ A s.heap) (hr:ρ k=some r) (h:Ca0 n (Bc A k)=true):Bb5 n (s.heap r):=by
 unfold Ca0 at h;split at h
 ·rename_i cs e heq
  obtain⟨r',cs',h1,h2,h3⟩:=Hk hS heq;rw[hr] at h1;cases h1;rw[h2];simp only[Bb5,h3.length];exact of_decide_eq_true h
 ·cases h
theorem Bo1 {lo lo' hi hi' mx mx':Option DVal} {t:Option TypeDesc} {x x' v:DVal} (hS:RH B ρ A s.heap) (hl:RVo ρ lo lo') (hh:RVo ρ hi hi') (hm:RVo ρ mx mx') (hx:RV ρ x x')
  (hv:Ag3 P A lo hi t x mx=some v):Cp ρ v (fun dst=>Ph P lo' hi' dst t x' mx') s:=by
 unfold Ag3 at hv;split at hv
 ·obtain rfl:=Jh hm;simp only[RV] at hx;subst hx;rw[<-Mg hl,<-Tl _ hh] at hv;exact Ah9 hv
 ·obtain rfl:=Jh hm;simp only[RV] at hx;subst hx;split at hv<;>try (cases hv;done)
  rename_i hi0
  rw[<-Mg hl,<-Tl _ hh] at hv;obtain⟨v',h1,h2⟩:=Az8 (ρ:=ρ) (s:=s) hv;exact⟨v',h1,fun dst K h=>⟨hi0,h2 dst K h⟩⟩
 ·obtain rfl:=Jh hm;simp only[RV] at hx;obtain⟨cs',rfl,hc⟩:=hx;split at hv<;>try (cases hv;done)
  rename_i hi0
  rw[<-Mg hl,<-Tl _ hh] at hv;obtain⟨v',h1,h2⟩:=Xq (s:=s) hc hv;exact⟨v',h1,fun dst K h=>⟨hi0,h2 dst K h⟩⟩
 ·obtain rfl:=Jh hm;simp only[RV] at hx;obtain⟨r,rfl,hr⟩:=hx;split at hv<;>try (cases hv;done)
  rename_i hi0
  simp only[Bool.and_eq_true,beq_iff_eq] at hi0;rw[<-Mg hl,<-Tl _ hh] at hv;obtain⟨v',h1,h2⟩:=Qa (s:=s) hr hv;exact⟨v',h1,fun dst K h=>⟨hi0.1,hi0.2,h2 dst K h⟩⟩
 ·obtain⟨m',rfl,hm'⟩:=Ar0 hm;simp only[RV] at hx;obtain⟨r,rfl,hr⟩:=hx;split at hv<;>try (cases hv;done)
  rename_i hi0
  simp only[Bool.and_eq_true,beq_iff_eq] at hi0;rw[<-Mg hl,<-Mg hh,<-Mg hm] at hv;obtain⟨v',h1,h2⟩:=Qa (s:=s) hr hv;exact⟨v',h1,fun dst K h=>⟨hi0.1.1,hi0.1.2,by rw[Cw2 hh];exact hi0.2,h2 dst K h⟩⟩
 ·obtain rfl:=Jh hm;simp only[RV] at hx;obtain⟨r,rfl,hr⟩:=hx;split at hv<;>try (cases hv;done)
  rename_i hi0
  simp only[Bool.and_eq_true] at hi0;rw[<-Mg hl,<-Tl _ hh] at hv;obtain⟨v',h1,h2⟩:=Qa (s:=s) hr hv;exact⟨v',h1,fun dst K h=>⟨hi0.1,Ck9 hS hr hi0.2,h2 dst K h⟩⟩
 ·obtain rfl:=Jh hm;simp only[RV] at hx;obtain⟨cs',rfl,hc⟩:=hx;split at hv<;>try (cases hv;done)
  rename_i hi0
  simp only[Bool.and_eq_true,decide_eq_true_eq] at hi0;rw[<-Mg hl,<-Tl _ hh] at hv;obtain⟨v',h1,h2⟩:=Xq (s:=s) ((hc.drop _).take _) hv;exact⟨v',h1,fun dst K h=>⟨hi0.1,by rw[hc.length];exact hi0.2,h2 dst K h⟩⟩
 ·cases hv
theorem Aa1 {n:Nat} {x x' v:DVal} (hx:RV ρ x x') (hv:Il n x=some v): ∃v',RV ρ v v'/\Il n x'=some v':=by
 unfold Il at hv;split at hv<;>cases hv<;>simp only[RV] at hx<;>obtain⟨_,rfl,h⟩:=hx
 ·exact⟨_, .vptr _ h,rfl⟩
 ·exact⟨_, .optr _ h,rfl⟩
theorem Yr {f:Nat} {t:Option TypeDesc} {x x' v:DVal} (hx:RV ρ x x') (hv:Mb P f x t=some v):Cp ρ v (fun dst=>Fp P f x' dst t) s:=by
 unfold Mb at hv;split at hv
 ·unfold Uh at hv;split at hv
  ·rename_i fd heq
   split at hv<;>try (cases hv;done)
   rename_i hlt
   obtain⟨v',h1,h2⟩:=Aa1 hx hv;exact⟨v',h1,fun dst K h=>by simp only[Fp,heq,Mw,h2,Fh];exact⟨hlt,h⟩⟩
  ·cases hv
 ·cases hv
theorem Ar1 {size off:Nat} {ag:Option Bool} {cs cs':List DVal} {v:DVal} (hc:RVL ρ cs cs') (hv:Bd8 size cs off ag=some v):Cp ρ v (fun dst=>Vm size cs' off dst ag) s:=by
 unfold Bd8 at hv;split at hv
 ·rw[Nw,Rw] at hv;cases hv;exact⟨_, .agg ((hc.drop off).take size),fun _ _ h=>h⟩
 ·rw[Ah5] at hv;obtain⟨x',h1,h2⟩:=hc.get hv;exact⟨x',h2,fun dst K h=>by simp only[Vm,h1,Fh];exact h⟩
 ·cases hv
theorem Bo2 {f:Nat} {t:Option TypeDesc} {x x' v:DVal} (hx:RV ρ x x') (hv:Ag4 P f t x=some v):Cp ρ v (fun dst=>Pj P f dst t x') s:=by
 unfold Ag4 at hv;split at hv
 ·simp only[RV] at hx;obtain⟨cs',rfl,hc⟩:=hx;unfold Bd9 at hv;split at hv
  ·rename_i fd heq
   obtain⟨v',h1,h2⟩:=Ar1 (s:=s) hc hv;exact⟨v',h1,fun dst K h=>by simp only[Pj,heq,Ab7];exact h2 dst K h⟩
  ·cases hv
 ·cases hv
theorem Ys {t:Option TypeDesc} {x x' i i' v:DVal} (hx:RV ρ x x') (hi:RV ρ i i') (hv:Mc P t x i=some v):Cp ρ v (fun dst=>Fq P dst t x' i') s:=by
 unfold Mc at hv;split at hv
 ·split at hv<;>cases hv
  rename_i hc
  simp only[RV] at hx hi;subst hi;obtain⟨cs',rfl,hl⟩:=hx;have h4:=hc.2.2.2;rw[Nx,decide_eq_true_eq] at h4;exact⟨_, .vptr _ hl,fun dst K h=>⟨hc.1,hc.2.1,hc.2.2.1,by rw[hl.length];omega,h⟩⟩
 ·split at hv<;>cases hv
  rename_i hc
  simp only[RV] at hx hi;subst hi;obtain⟨r,rfl,hr⟩:=hx;exact⟨_, .optr _ hr,fun dst K h=>⟨hc.1,hc.2.1,hc.2.2,h⟩⟩
 ·split at hv<;>try (cases hv;done)
  rename_i hc
  simp only[RV] at hi;subst hi;obtain⟨v',h1,h2⟩:=Aa1 hx hv;exact⟨v',h1,fun dst K h=>by simp only[Fq];exact⟨hc.1,hc.2.1,hc.2.2,by rw[h2];exact h⟩⟩
 ·cases hv
theorem Bo3 {t:Option TypeDesc} {x x' i i' v:DVal} (hx:RV ρ x x') (hi:RV ρ i i') (hv:Ag5 P t x i=some v):Cp ρ v (fun dst=>Sh P dst t x' i') s:=by
 unfold Ag5 at hv;split at hv
 ·split at hv<;>try (cases hv;done)
  rename_i hc
  simp only[RV] at hx hi;subst hi;obtain⟨cs',rfl,hl⟩:=hx;obtain⟨v',h1,h2⟩:=Ar1 (s:=s) hl hv;exact⟨v',h1,fun dst K h=>⟨hc.1,hc.2,h2 dst K h⟩⟩
 ·split at hv<;>try (cases hv;done)
  rename_i hc
  simp only[RV] at hx hi;subst hi;subst hx;obtain⟨b,h1,rfl⟩:=Option.map_eq_some_iff.1 hv;exact⟨_, .int _ _,fun dst K h=>⟨hc,by rw[h1];exact h⟩⟩
 ·cases hv
theorem Ar2 {i:Nat} {x x' v:DVal} (hx:RV ρ x x') (hv:Rp i x=some v):Cp ρ v (fun dst=>Ko i dst x') s:=by
 unfold Rp at hv;split at hv
 ·simp only[RV] at hx;obtain⟨cs',rfl,hl⟩:=hx;obtain⟨x',h1,h2⟩:=hl.get hv;exact⟨x',h2,fun dst K h=>by simp only[Ko,h1,Fh];exact h⟩
 ·cases hv
theorem Uj {z:Option DVal} {v:DVal} (hz: ∀x,z=some x->RV ρ x x) (hv:Rq z=some v):Cp ρ v (fun dst=>Qg dst z) s:=by
 unfold Rq at hv;split at hv<;>cases hv;exact⟨_, .tuple (.cons (hz _ rfl) (.cons (.bool _) .nil)),fun _ _ h=>h⟩
theorem Xr {t:TypeId} {ok b:Bool} {x x' v:DVal} (hx:RV ρ x x') (hv:Kg P t ok b x=some v):Cp ρ v (fun dst=>Ck P t ok dst b x') s:=by
 unfold Kg at hv;split at hv
 ·simp only[RV] at hx;obtain⟨v1,rfl,h1⟩:=hx;unfold Zt at hv;split at hv
  ·cases hv;exact⟨_, .tuple (.cons h1 (.cons (.bool _) .nil)),fun dst K h=>by
    show Ck P t _ dst _ _ K s;simp only[Ck, *,Iu]⟩
  ·rename_i hd
   obtain⟨v',h2,h3⟩:=Uj (s:=s) (fun x hx=>Iq hx) hv;exact⟨v',h2,fun dst K h=>by simp only[Ck,hd,Iu];exact h3 dst K h⟩
  ·cases hv;exact⟨_,h1,fun dst K h=>by
    show Ck P t _ dst _ _ K s;simp only[Ck, *,Iu]⟩
  ·cases hv
 ·simp only[RV] at hx;subst hx;split at hv<;>try (cases hv;done)
  rename_i hc
  obtain⟨v',h2,h3⟩:=Uj (s:=s) (fun x hx=>Iq hx) hv;exact⟨v',h2,fun dst K h=>⟨hc,h3 dst K h⟩⟩
 ·cases hv
theorem Cl0 {t:Option TypeDesc} {x x' v:DVal} (hx:RV ρ x x') (hv:Cv5 t x=some v):Cp ρ v (fun dst=>Bg7 dst t x') s:=by
 unfold Cv5 at hv;split at hv<;>cases hv
 ·simp only[RV] at hx;subst hx;exact⟨_, .int _ _,fun _ _ h=>h⟩
 ·exact⟨_, .int _ _,fun _ _ h=>h⟩
 all_goals simp only[RV] at hx
 ·subst hx;exact⟨_, .int _ _,fun _ _ h=>h⟩
 ·obtain⟨_,rfl,_⟩:=hx;exact⟨_, .int _ _,fun _ _ h=>h⟩
 ·obtain⟨_,rfl,_⟩:=hx;exact⟨_, .int _ _,fun _ _ h=>h⟩
theorem Bo4 {ts:List TypeId} {x x' v:DVal} (hx:RV ρ x x') (hv:Ay7 P x ts=some v):Cp ρ v (fun dst=>Ab8 P x' dst ts) s:=by
 unfold Ay7 at hv;split at hv
 ·exact Cl0 hx hv
 ·cases hv
theorem Cb6 {k k' p p':DVal} {b:Bool} (hk:RV ρ k k') (hp:RV ρ p p') (h:Jj k p=some b):Jj k' p'=some b:=by
 have h0:=h;unfold Jj at h;split at h<;>(try (cases h;done))<;>simp only[RV] at hk hp
 ·subst hk;subst hp;exact h0
 ·subst hk;subst hp;exact h0
 ·subst hk;subst hp;exact h0
 ·obtain⟨cs,rfl,h1⟩:=hk;obtain⟨cs2,rfl,h2⟩:=hp;obtain⟨x,xs,rfl,a1,h1⟩:=h1.inv;obtain⟨y,rfl,a2⟩:=Fc h1;obtain⟨x',xs',rfl,b1,h2⟩:=h2.inv;obtain⟨y',rfl,b2⟩:=Fc h2;simp only[RV] at a1 a2 b1 b2;subst a1;subst a2;subst b1;subst b2;exact h0
theorem Ai0 {k k':DVal} (hk:RV ρ k k'): ∀ {es es':List (DVal×DVal)} {i:Nat} {r:Option Nat},RVM ρ es es'->Cl k es i=some r->Cl k' es' i=some r
 | [],_,i,r,he,h=>by simp only[RVM] at he;subst he;exact h
 | p::es,_,i,r,he,h=>by
  obtain⟨q,qs,rfl,h1,h2,h3⟩:=he;simp only[Cl] at h⊢
  unfold Ll at h;split at h
  ·rename_i hb;rw[Cb6 hk h1 hb];exact h
  ·rename_i hb;rw[Cb6 hk h1 hb];exact Ai0 hk h3 h
  ·cases h
theorem RVM.get: ∀ {es es':List (DVal×DVal)} {i:Nat} {p:DVal×DVal},RVM ρ es es'->es[i]? =some p-> ∃p',es'[i]? =some p'/\RV ρ p.1 p'.1/\RV ρ p.2 p'.2
 | [],_,i,p,_,h=>by simp at h
 | x::es,_,0,p,he,h=>by
  obtain⟨q,qs,rfl,h1,h2,h3⟩:=he;simp only[List.getElem?_cons_zero,Option.some.injEq] at h;subst h;exact⟨q,rfl,h1,h2⟩
 | x::es,_,i+1,p,he,h=>by
  obtain⟨q,qs,rfl,h1,h2,h3⟩:=he;simp only[List.getElem?_cons_succ] at h⊢
  exact h3.get h
theorem Cl1 {t:Option TypeDesc} {k k':DVal} (hk:RV ρ k k') (h:Gn t k=true):Gn t k'=true:=by
 have h0:=h;unfold Gn at h;split at h<;>(try (cases h;done))<;>simp only[RV] at hk<;>(subst hk;exact h0)
theorem Ai1 {t:Option TypeDesc} {k k':DVal} (hk:RV ρ k k') (h:Fy P t k=true):Fy P t k'=true:=by
 unfold Fy at h;split at h
 ·simp only[RV] at hk;obtain⟨cs',rfl,hl⟩:=hk;obtain⟨x,xs,rfl,h1,hl⟩:=hl.inv;obtain⟨y,rfl,h2⟩:=Fc hl;simp only[RV] at h1 h2;subst h1;subst h2;exact h
 ·have h0:=Cl1 hk h;unfold Fy;split
  ·unfold Gn at h0;split at h0<;>first | (rename_i e;cases e;done) | cases h0
  ·exact h0
theorem Rz {ok b:Bool} {v v':DVal} (h:RV ρ v v'):RV ρ (Ag6 ok v b) (if ok then .tuple [v', .bool b] else v'):=by
 unfold Ag6;split
 ·exact .tuple (.cons h (.cons (.bool _) .nil))
 ·exact h
theorem Aa2 {es es':List (DVal×DVal)} {ok:Bool} {z:Option DVal} {r r':Option (Option Nat)} {v:DVal} (hz: ∀x,z=some x->RV ρ x x) (he:RVM ρ es es') (hr: ∀x,r=some x->r'=some x) (hv:Py es ok z r=some v):
  Cp ρ v (fun dst=>Pm es' ok dst z r') s:=by
 unfold Py at hv;split at hv
 ·rename_i i
  obtain⟨p,h1,rfl⟩:=Option.map_eq_some_iff.1 hv;obtain⟨p',h2,h3,h4⟩:=he.get h1;rw[hr _ rfl];exact⟨_,Rz h4,fun dst K h=>⟨p',h2,h⟩⟩
 ·cases hv;rw[hr _ rfl];exact⟨_,Rz (hz _ rfl),fun dst K h=>h⟩
 ·cases hv
theorem Cl2 {t:Option TypeDesc} {k k':DVal} (hk:RV ρ k k') (h:Fy P t k=true):k'=k:=by
 unfold Fy at h;split at h
 ·simp only[RV] at hk;obtain⟨cs',rfl,hl⟩:=hk;obtain⟨x,xs,rfl,h1,hl⟩:=hl.inv;obtain⟨y,rfl,h2⟩:=Fc hl;simp only[RV] at h1 h2;subst h1;subst h2;rfl
 ·unfold Gn at h;split at h<;>(try (cases h;done))<;>simp only[RV] at hk<;>exact hk
theorem Bo5 {es es':List (DVal×DVal)} {ok:Bool} {z:Option DVal} {k v:DVal} (hz: ∀x,z=some x->RV ρ x x) (he:LK es es') (hv:Py es ok z (Cl k es 0)=some v):Cp ρ v (fun dst=>Pm es' ok dst z (Cl k es' 0)) s:=by
 unfold Py at hv;split at hv
 ·rename_i i hf
  obtain⟨p,h1,rfl⟩:=Option.map_eq_some_iff.1 hv;obtain⟨r',h2,h3⟩:=he k _ hf;rcases h3 with⟨e,_⟩ | ⟨i',j,q,q',e,rfl,e1,e2,e3,e4⟩
  ·cases e
  ·cases e;rw[h1] at e1;cases e1;rw[h2];exact⟨_,Rz (Lf e4),fun dst K h=>⟨q',e2,by rw[<-e3];exact h⟩⟩
 ·rename_i x hf
  cases hv;obtain⟨r',h2,h3⟩:=he k _ hf;rcases h3 with⟨_,rfl⟩ | ⟨i',j,q,q',e,_⟩
  ·rw[h2];exact⟨_,Rz (hz _ rfl),fun dst K h=>h⟩
  ·cases e
 ·cases hv
theorem Az9 {ok:Bool} {t:Option TypeDesc} {x x' k k' v:DVal} (hS:RH B ρ A s.heap) (hx:RV ρ x x') (hk:RV ρ k k') (hv:Uz P A ok t x k=some v):Cp ρ v (fun dst=>Qm P ok dst t x' k') s:=by
 unfold Uz at hv;split at hv
 ·split at hv<;>try (cases hv;done)
  rename_i hkt
  simp only[RV] at hx;obtain⟨r,rfl,hr⟩:=hx;unfold Ca1 at hv;split at hv
  ·rename_i es heq
   obtain⟨r',o',h1,h2,es',rfl,h3⟩:=hS.obj _ _ heq;rw[hr] at h1;cases h1;obtain⟨v',h4,h5⟩:=Aa2 (s:=s) (r':=Cl k' es' 0) (fun x hx=>Iq hx) h3 (fun x hx=>Ai0 hk h3 hx) hv;exact⟨v',h4,fun dst K h=>⟨Ai1 hk hkt,by rw[h2];exact h5 dst K h⟩⟩
  ·rename_i env n l heq
   obtain⟨r',o',h1,h2,es',rfl,h3⟩:=hS.obj _ _ heq;rw[hr] at h1;cases h1;obtain rfl:=Cl2 hk hkt;obtain⟨v',h4,h5⟩:=Bo5 (s:=s) (fun x hx=>Iq hx) h3 hv;exact⟨v',h4,fun dst K h=>⟨hkt,by rw[h2];exact h5 dst K h⟩⟩
  ·cases hv
 ·split at hv<;>try (cases hv;done)
  rename_i hkt
  simp only[RV] at hx;subst hx;obtain⟨v',h4,h5⟩:=Aa2 (s:=s) (es:= []) (es':= []) (r':=some none) (fun x hx=>Iq hx) (by simp only[RVM]) (fun x hx=>hx) hv;exact⟨v',h4,fun dst K h=>⟨Ai1 hk hkt,h5 dst K h⟩⟩
 ·cases hv
theorem Yt {t:TypeId} {b:Bool} {x x' v:DVal} (hx:RV ρ x x') (hv:Md t x b=some v):Cp ρ v (fun dst=>Iz t x' dst b) s:=by
 unfold Md at hv;split at hv<;>cases hv;exact⟨_, .iface t hx,fun _ _ h=>h⟩
theorem Db6 {b:Bool} {x x' y y' v:DVal} (hx:RV ρ x x') (hy:RV ρ y y') (h:dMM b x y=some v):dMM b x' y'=some v/\ ∃k n,v= .int k n:=by
 have h0:=h;unfold dMM at h;split at h
 ·simp only[RV] at hx hy;subst hx;subst hy;cases h;exact⟨h0,_,_,rfl⟩
 ·cases h
theorem Xs {b:Bool}: ∀ {ys ys':List DVal} {x x' v:DVal},RV ρ x x'->RVL ρ ys ys'->Gp b (some x) ys=some v-> ∃v',RV ρ v v'/\Gp b (some x') ys'=some v'
 | [],_,x,x',v,hx,hy,h=>by
  simp only[RVL] at hy;subst hy;simp only[Gp] at h;cases h;exact⟨x',hx,rfl⟩
 | y::ys,_,x,x',v,hx,hy,h=>by
  obtain⟨a,b',rfl,h1,h2⟩:=hy.inv;simp only[Gp] at h⊢
  cases hm:dMM b x y with
  | none=>rw[hm] at h;cases ys<;>cases h
  | some w=>
   rw[hm] at h;obtain⟨h3,k,n,rfl⟩:=Db6 hx h1 hm;rw[h3];exact Xs (.int k n) h2 h
theorem Aa3 {b:Bool} {ys ys':List DVal} {v:DVal} (hy:RVL ρ ys ys') (h:Fm b ys=some v):Cp ρ v (fun dst=>Fh dst (Fm b ys')) s:=by
 cases ys with
 | nil=>cases h
 | cons y ys=>
  obtain⟨a,b',rfl,h1,h2⟩:=hy.inv;simp only[Fm] at h;obtain⟨v',h3,h4⟩:=Xs h1 h2 h;exact⟨v',h3,fun dst K h=>by simp only[Fm,h4,Fh];exact h⟩
end
end Go.Dl

-- AN INTERPRETER OF THE DATA LEVEL, PART 5: operations.
namespace Go.Dl
open Go
def Tm (P:Program) (G:Nat->DVal) (call:Nat->List DVal->XH->COut):Prop:=
 ∀(B:Aa) (ρ:Nat->Option Nat) (k:Nat) (args args':List DVal) (A:XH) (H:Aa) (R:DEnd->Aa->Prop),RVL ρ args args'->RH B ρ A H->Fu B ρ R (call k args A)->Ar P G k args' H R
section
variable {P:Program} {gt:Nat->Option DVal} {G:Nat->DVal} {call:Nat->List DVal->XH->COut}
variable {B:Aa} {ρ:Nat->Option Nat} {E:Tr DVal} {A:XH} {s:DS} {K:DK} {Q:DExit->DS->Prop} {dst:Option Nat}
theorem Cy {b:Bool} {x:Out} {Q:DExit->DS->Prop} (h:Au B ρ Q (Bool.rec (motive:=fun _=>Out) .bad x b)):b=true/\Au B ρ Q x:=by
 cases b with
 | false=>exact h.elim
 | true=>exact⟨rfl,h⟩
theorem Om {α:Type} {o:Option α} {f:α->Out} {Q:DExit->DS->Prop} (h:Au B ρ Q (Mr .bad f o)): ∃v,o=some v/\Au B ρ Q (f v):=by
 cases o with
 | none=>exact h.elim
 | some v=>exact⟨v,rfl,h⟩
theorem Gt (hS:RS B ρ E A s) {o:Option DVal} {F:Option Nat->DK->DS->Prop} (h:Au B ρ (Db K Q) (Ee E A dst o)) (hg: ∀v,o=some v->Cp ρ v F s):F dst K s:=by
 obtain⟨v,hv,hk⟩:=Cb2 hS h;obtain⟨v',h1,h2⟩:=hg v hv;exact h2 dst K (hk v' h1)
theorem Ar3 (hS:RS B ρ E A s) {cs cs':List DVal} {e:TypeId} (hc:RVL ρ cs cs') (h:Au B ρ (Db K Q) (Ap7 E A dst cs e)):Vh cs' e dst K s:=by
 intro r hr;obtain⟨A',ρ',hle,hk,h1,hS'⟩:=Nz hS hr (o:= .cells cs e) (o':= .cells cs' e) ⟨cs',rfl,hc⟩ h;exact Dz hS' (.optr 0 hk) h1
theorem Xt (hS:RS B ρ E A s) {cs cs':List DVal} {e:TypeId} {sz len cap:Nat} (hc:RVL ρ cs cs') (h:Au B ρ (Db K Q) (Ap8 E A dst cs e sz len cap)):Tt cs' e sz len cap dst K s:=by
 intro r hr;obtain⟨A',ρ',hle,hk,h1,hS'⟩:=Nz hS hr (o:= .cells cs e) (o':= .cells cs' e) ⟨cs',rfl,hc⟩ h;exact Dz hS' (.oslice _ _ _ _ hk) h1
theorem Ar4 (hS:RS B ρ E A s) (h:Au B ρ (Db K Q) (Ca2 E A dst)):Bq7 dst K s:=by
 intro r hr;obtain⟨A',ρ',hle,hk,h1,hS'⟩:=Nz hS hr (o:= .map []) (o':= .map []) ⟨[],rfl,by simp only[RVM]⟩ h;exact Dz hS' (.omap hk) h1
theorem Xu (hS:RS B ρ E A s) {n:Nat} {t:Option TypeDesc} {ps ps':List (Nat×DVal)} (hp:RVP ρ ps ps') (h:Au B ρ (Db K Q) (Kh P E A dst n t ps)):Fx P n dst t ps' K s:=by
 unfold Kh at h;split at h
 ·rename_i e
  obtain⟨z,hz,h⟩:=Om h;obtain⟨hb,h⟩:=Cy h;rw[Rx] at h;simp only[Bool.and_eq_true,decide_eq_true_eq,beq_iff_eq] at hb;obtain⟨cs,hcs,h⟩: ∃cs,Gk (Mt (P.cellsOf e)) (repl n z.cells) ps=some cs/\Au B ρ (Db K Q) (Ap8 E A dst cs e (P.cellsOf e) n n):=by
   split at h
   ·rename_i cs hcs;exact⟨cs,hcs,h⟩
   ·exact h.elim
  have rz:RV ρ z z:=Iq hz;obtain⟨cs',h1,h2⟩:=Ry hp (rz.cells.repl n) hcs;simp only[Fx,hz,Li,h1,Bq2];exact⟨hb.1,hb.2,Xt hS h2 h⟩
 ·exact h.elim
theorem Yu (hS:RS B ρ E A s) {t:Option TypeDesc} {l l' c c':DVal} (hl:RV ρ l l') (hc:RV ρ c c') (h:Au B ρ (Db K Q) (Me P E A dst t l c)):Ha P dst t l' c' K s:=by
 unfold Me at h;split at h
 ·simp only[RV] at hl hc;subst hl;subst hc;obtain⟨z,hz,h⟩:=Om h;obtain⟨hb,h⟩:=Cy h;rw[Hr,Hr] at h;simp only[Bool.and_eq_true,decide_eq_true_eq,beq_iff_eq] at hb;have rz:RV ρ z z:=Iq hz;simp only[Ha,hz,Mv];exact⟨hb.1.1.1.1.1,hb.1.1.1.1.2,hb.1.1.1.2,hb.1.1.2,hb.1.2,hb.2,Xt hS (rz.cells.repl _) h⟩
 ·exact h.elim
theorem Bo6 (hS:RS B ρ E A s) {size:Nat} {a a' x x':DVal} (ha:RV ρ a a') (hx:RV ρ x x') (h:Au B ρ (Db K Q) (Ag7 E A size dst a x)):Sg size dst a' x' K s:=by
 unfold Ag7 at h;split at h
 ·simp only[RV] at ha;obtain⟨r,rfl,hr⟩:=ha;unfold Be0 at h;split at h
  ·rename_i cs e heq
   obtain⟨r',cs',h1,h2,h3⟩:=Hk hS.heap heq;rw[hr] at h1;cases h1;obtain⟨hb,h⟩:=Cy h;rw[Va] at h;simp only[Bool.and_eq_true,Xn,Nx,decide_eq_true_eq] at hb;have hcl:=hx.cells;obtain⟨A',h4,h5,_,_⟩:=Ny (ob':= .cells (splice cs' _ x'.cells) e) hS heq hr (fun o1 e1=>by cases e1;exact⟨_,rfl,h3.splice _ hcl⟩) h;simp only[Sg,h2,Ab5];exact⟨by rw[hcl.length];exact hb.1.1,by rw[hcl.allOne];exact hb.1.2,by rw[h3.length];exact hb.2,h4 ρ _ (Ble.refl _) h5⟩
  ·exact h.elim
 ·exact h.elim
theorem Bo7 (hS:RH B ρ A s.heap) {size:Nat} {y y':DVal} {n:Nat} {news:List DVal} (hy:RV ρ y y') (h:Ay8 size A y=some (n,news)): ∃news',Ja size s.heap y'=some (n,news')/\RVL ρ news news':=by
 unfold Ay8 at h;split at h
 ·cases h;simp only[RV] at hy;subst hy;exact⟨[],rfl, .nil⟩
 ·rw[Nw] at h;cases h;simp only[RV] at hy;obtain⟨cs',rfl,hl⟩:=hy;exact⟨_,rfl,hl.take _⟩
 ·simp only[RV] at hy;obtain⟨r,rfl,hr⟩:=hy;unfold Kp at h;split at h
  ·rename_i cs e heq
   cases h;obtain⟨r',cs',h1,h2,h3⟩:=Hk hS heq;rw[hr] at h1;cases h1;exact⟨_,by simp only[Ja,h2,Kp],(h3.drop _).take _⟩
  ·cases h
 ·cases h;simp only[RV] at hy;subst hy;exact⟨_,rfl, .bytes _⟩
 ·cases h
theorem Ar5 (hS:RS B ρ E A s) {e:TypeId} {size bytes k r off len lo n:Nat} {news news':List DVal} (hr:ρ k=some r) (hn:RVL ρ news news')
  (h:Au B ρ (Db K Q) (Xg E A dst e size bytes k off len lo n news (Bc A k))):Qh e size bytes r off len lo n news' dst K s (s.heap r):=by
 unfold Xg at h;split at h
 ·rename_i cs e' heq
  obtain⟨r',cs',h1,h2,h3⟩:=Hk hS.heap heq;rw[hr] at h1;cases h1;obtain⟨he,h⟩:=Cy h;have he:=Nat.eq_of_beq_eq_true he;subst he;rw[h2];simp only[Qh];refine⟨trivial,fun hle=> ?_,fun hle=> ?_⟩
  ·rw[Nat.ble_eq_true_of_le hle] at h;obtain⟨hb,h⟩:=Cy h;rw[Va] at h;rw[Nx] at hb;obtain⟨A',h4,h5,_,_⟩:=Ny (ob':= .cells (splice cs' (off+len*size) news') e') hS heq hr (fun o1 e1=>by cases e1;exact⟨_,rfl,h3.splice _ hn⟩) h;exact⟨by rw[h3.length];exact of_decide_eq_true hb,Dz h5 (.oslice _ _ _ _ hr) h4⟩
  ·have:Nat.ble (len+n) lo=false:=by
    cases hb:Nat.ble (len+n) lo with
    | false=>rfl
    | true=>exact(hle (Nat.le_of_ble_eq_true hb)).elim
   rw[this] at h;obtain⟨hb,h⟩:=Cy h;simp only[Bool.and_eq_true,Nx,decide_eq_true_eq] at hb;obtain⟨⟨⟨hb1,hb2⟩,hb3⟩,hb4⟩:=hb;have hb3:=Nat.le_of_ble_eq_true hb3;have hb4:=Nat.eq_of_beq_eq_true hb4;subst hb4;refine⟨by rw[h3.length];exact hb1,hb2,fun r2 pre hr2 hpre=> ?_⟩;obtain rfl:=hpre rfl;obtain⟨A',h4,h5,_,_⟩:=Ny (ob':= .cells [] e') hS heq hr (fun o1 e1=>by cases e1) h;have hif:(if len<=lo\/r2=r then upd s.heap r none else s.heap)=upd s.heap r none:=if_pos (.inl hb3);rw[hif];rw[Nw,Rw,Be5] at h4;obtain⟨A2,ρ2,hle2,hk2,h6,h7⟩:=Nz h5 hr2 (o:= .cells ((cs.drop 0).take (len*size)++news) e') (o':= .cells ((cs'.drop 0).take (len*size)++news') e') ⟨_,rfl,((h3.drop 0).take _).append hn⟩ h4;exact Dz h7 (.oslice _ _ _ _ hk2) h6
 ·exact h.elim
theorem Ba0 (hS:RS B ρ E A s) {x x' y y':DVal} {ts:List TypeId} (hx:RV ρ x x') (hy:RV ρ y y') (h:Au B ρ (Db K Q) (Ti P E A dst x y ts)):Kr P x' y' dst ts K s:=by
 unfold Ti at h;split at h
 ·obtain⟨hb,h⟩:=Cy h;simp only[Bool.and_eq_true,Bool.not_eq_true'] at hb;simp only[Kr,hb.1,Mx];unfold Be1 at h;split at h
  ·rename_i e heq
   rw[heq];obtain⟨hb2,h⟩:=Cy h;simp only[Bool.and_eq_true,decide_eq_true_eq] at hb2;simp only[Qi];refine⟨hb.2,hb2.1.1.1,hb2.1.1.2,hb2.1.2,hb2.2, ?_⟩;unfold Ap9 at h;split at h
   ·rename_i n news hc
    obtain⟨hb3,h⟩:=Cy h;simp only[Bool.and_eq_true,Xn,decide_eq_true_eq] at hb3;obtain⟨news',h1,h2⟩:=Bo7 hS.heap hy hc;rw[h1];simp only[Vn];refine⟨by rw[h2.length];exact hb3.1,by rw[h2.allOne];exact hb3.2, ?_⟩;unfold Zu at h;split at h
    ·simp only[RV] at hx;subst hx;simp only[Kq];refine⟨fun h0=> ?_,fun h0=> ?_⟩
     ·subst h0;exact Dz hS .nilS h
     ·have:Nat.beq n 0=false:=by
       cases hb:Nat.beq n 0 with
       | false=>rfl
       | true=>exact(h0 (Nat.eq_of_beq_eq_true hb)).elim
      rw[this] at h;obtain⟨hb4,h⟩:=Cy h;exact⟨of_decide_eq_true hb4,Xt hS h2 h⟩
    ·simp only[RV] at hx;obtain⟨r,rfl,hr⟩:=hx;obtain⟨hb4,h⟩:=Cy h;simp only[Kq];exact⟨Nat.eq_of_beq_eq_true hb4,Ar5 hS hr h2 h⟩
    ·exact h.elim
   ·exact h.elim
  ·exact h.elim
 ·exact h.elim
theorem RVM.set: ∀ {es es':List (DVal×DVal)} {i:Nat} {p p':DVal×DVal},RVM ρ es es'->RV ρ p.1 p'.1->RV ρ p.2 p'.2->RVM ρ (es.set i p) (es'.set i p')
 | [],_,i,p,p',he,_,_=>by simp only[RVM] at he;subst he;simp [RVM]
 | x::es,_,0,p,p',he,h1,h2=>by
  obtain⟨q,qs,rfl,_,_,h5⟩:=he;exact⟨p',qs,rfl,h1,h2,h5⟩
 | x::es,_,i+1,p,p',he,h1,h2=>by
  obtain⟨q,qs,rfl,h3,h4,h5⟩:=he;exact⟨q,_,rfl,h3,h4,h5.set h1 h2⟩
theorem RVM.push: ∀ {es es':List (DVal×DVal)} {p p':DVal×DVal},RVM ρ es es'->RV ρ p.1 p'.1->RV ρ p.2 p'.2->RVM ρ (es++ [p]) (es'++ [p'])
 | [],_,p,p',he,h1,h2=>by simp only[RVM] at he;subst he;exact⟨p',[],rfl,h1,h2,rfl⟩
 | x::es,_,p,p',he,h1,h2=>by
  obtain⟨q,qs,rfl,h3,h4,h5⟩:=he;exact⟨q,_,rfl,h3,h4,h5.push h1 h2⟩
theorem Xv (hS:RS B ρ E A s) {t:Option TypeDesc} {m m' k k' x x':DVal} (hm:RV ρ m m') (hk:RV ρ k k') (hx:RV ρ x x') (h:Au B ρ (Db K Q) (Ol P E A dst t m k x)):Jo P dst t m' k' x' K s:=by
 unfold Ol at h;split at h
 ·simp only[RV] at hm;obtain⟨r,rfl,hr⟩:=hm;split at h
  ·rename_i hb heq
   rename_i es
   simp only[Bool.and_eq_true] at hb;obtain⟨i,hi,h⟩:=Om h;obtain⟨r',o',h1,h2,es',rfl,h3⟩:=hS.heap.obj _ _ heq;rw[hr] at h1;cases h1;obtain⟨A',h4,h5,_,_⟩:=Ny (ob':= .map (Ac0 es' k' x' i)) hS heq hr (fun o1 e1=>by
    cases e1;refine⟨_,rfl, ?_⟩;cases i with
    | none=>exact h3.push (p:=(k,x)) (p':=(k',x')) hk hx
    | some j=>exact h3.set (p:=(k,x)) (p':=(k',x')) hk hx) h
   simp only[Jo];refine⟨trivial,Ai1 hk hb.1, ?_⟩;rw[h2];simp only[Ql];refine⟨by rw[hx.one];exact hb.2, ?_⟩;rw[Ai0 hk h3 hi];exact h4 ρ _ (Ble.refl _) h5
  ·exact h.elim
 ·exact h.elim
theorem Ar6 (hS:RS B ρ E A s) {t:Option TypeDesc} {r r':Option DVal} (hr:RVo ρ r r') (h:Au B ρ (Db K Q) (Rr E A dst t r)):Ks dst t r' K s:=by
 unfold Rr at h;split at h
 ·obtain rfl:=Jh hr;exact Ar4 hS h
 ·obtain⟨d,rfl,hd⟩:=Ar0 hr;simp only[RV] at hd;subst hd;exact Ar4 hS h
 ·exact h.elim
theorem Bo8 (hS:RS B ρ E A s) {t:Option TypeDesc} {x x':DVal} (hx:RV ρ x x') (h:Au B ρ (Db K Q) (Ag8 E A dst t x)):Vl dst t x' K s:=by
 unfold Ag8 at h;split at h
 ·rename_i l
  simp only[RV] at hx;subst hx;intro r hr;obtain⟨A',ρ',hle,hk,h1,hS'⟩:=Nz hS hr (o:= .iter l 0) (o':= .iter l 0) (by simp only[RO]) h;exact Dz hS' (.optr 0 hk) h1
 ·exact h.elim
theorem Cb7 (hS:RS B ρ E A s) {b:Bool} {x x':DVal} (hx:RV ρ x x') (h:Au B ρ (Db K Q) (Be2 E A dst b x)):Za dst b x' K s:=by
 unfold Be2 at h;split at h
 ·simp only[RV] at hx;obtain⟨r,rfl,hr⟩:=hx;unfold Ca3 at h;split at h
  ·rename_i l pos heq
   obtain⟨r',o',h1,h2,h3⟩:=hS.heap.obj _ _ heq;rw[hr] at h1;cases h1;simp only[RO] at h3;subst h3;simp only[Za,h2,Ab6];refine⟨fun hlt=> ?_,fun hlt=> ?_⟩
   ·rw[decide_eq_true hlt] at h;simp only[Hr] at h;obtain⟨A',h4,h5,_,_⟩:=Ny (ob':= .iter l (pos+(Iy l pos).2)) hS heq hr (fun o1 e1=>by cases e1;rfl) h;exact Dz h5 (.tuple (.cons (.bool _) (.cons (.int _ _) (.cons (.int _ _) .nil)))) h4
   ·rw[decide_eq_false hlt] at h;exact Dz hS (.tuple (.cons (.bool _) .nil)) h
  ·exact h.elim
 ·exact h.elim
theorem Bo9 (hS:RS B ρ E A s) {c:COut} (h:Au B ρ (Db K Q) (Ca4 E dst c)):Fu B ρ (Ac1 dst K Q s.env) c:=by
 cases c with
 | bad=>exact h.elim
 | cret v A1=>
  intro ρ' H' v' hle hH hv;have hS':RS B ρ' E A1 ⟨s.env,H'⟩:=⟨fun i v hi=>(hS.env i v hi).mono hle,hH⟩;exact Dz hS' hv (Au.le hle h)
 | cpanic v A1=>
  intro ρ' H' v' hle hH hv;exact h ρ' ⟨s.env,H'⟩ v' hle ⟨fun i v hi=>(hS.env i v hi).mono hle,hH⟩ hv
theorem Bp0 (hc:Tm P G call) (hS:RS B ρ E A s) {args args':List DVal} {f f':DVal} (ha:RVL ρ args args') (hf:RV ρ f f') (h:Au B ρ (Db K Q) (Ay9 call E A dst args f)):Si P G args' dst Q f' K s:=by
 unfold Ay9 at h;split at h
 ·simp only[RV] at hf;obtain⟨a',c',rfl,h1,h2⟩:=hf;exact hc B ρ _ _ _ A s.heap _ ((h1.append ha).append h2) hS.heap (Bo9 hS h)
 ·exact h.elim
theorem Bp1 (hS:RS B ρ E A s) {x x':DVal} (hx:RV ρ x x') (h:Au B ρ (Db K Q) (Ah0 E A x)):My Q s x':=by
 have keep:=hx;unfold Ah0 at h;split at h
 ·simp only[RV] at hx;obtain⟨v',rfl,_⟩:=hx;exact h ρ s _ (Ble.refl _) hS keep
 ·exact h.elim
theorem Ar7 (hS:RS B ρ E A s) {ts:List TypeId} {b:Builtin} {args args':List DVal} (ha:RVL ρ args args') (h:Au B ρ (Db K Q) (Xh P E A dst ts b args)):Et P ts dst Q b args' K s:=by
 unfold Xh at h;split at h
 ·obtain⟨x',rfl,hx⟩:=Fc ha;exact Gt hS h fun v hv=>Bo4 hx hv
 ·obtain⟨x',ys,rfl,hx,hy⟩:=ha.inv;obtain⟨y',rfl,hy'⟩:=Fc hy;exact Ba0 hS hx hy' h
 ·exact Gt hS h fun v hv=>Aa3 ha hv
 ·exact Gt hS h fun v hv=>Aa3 ha hv
 ·obtain⟨x',rfl,hx⟩:=Fc ha;have keep:=hx;simp only[RV] at hx;obtain⟨v',rfl,_⟩:=hx;exact h ρ s _ (Ble.refl _) hS keep
 ·exact h.elim
theorem Cw3 (call:Nat->List DVal->XH->COut) (E:Tr DVal) (A:XH) (dst:Option Nat) (op:Op):xop P gt call E A dst op=Db4 P gt call E A dst op:=by cases op<;>rfl
theorem Ai2 (hgt: ∀g d,gt g=some d-> ∀ρ,RV ρ d (G g)) (hc:Tm P G call) (hS:RS B ρ E A s) (op:Op) (h:Au B ρ (Db K Q) (xop P gt call E A dst op)):dop P G dst K Q s op:=by
 rw[Cw3] at h;cases op<;>simp only[Db4,Bn7] at h<;>try (exact h.elim)
 case move x=>obtain⟨v,h1,h⟩:=Bx hgt hS h;exact Aq5 hS h1 h
 case assign x=>obtain⟨v,h1,h⟩:=Bx hgt hS h;exact Aq5 hS h1 h
 case pick c a b=>
  obtain⟨v,h1,h⟩:=Bx hgt hS h;obtain⟨w,h2,h⟩:=Bx hgt hS h;obtain⟨x,h3,h⟩:=Bx hgt hS h;exact Gt hS h fun v hv=>Cb3 hv h1 h2 h3
 case alloc e=>
  obtain⟨z,hz,h⟩:=Om h;simp only[dop,hz,At1];exact Ar3 hS (Iq hz).cells h
 case box e x=>
  obtain⟨v,h1,h⟩:=Bx hgt hS h;exact Ar3 hS h1.cells h
 case build t ps=>
  obtain⟨v,h1,h⟩:=Xp hgt hS h;exact Gt hS h fun v hv=>Bn8 (fun x hx=>Iq hx) hv h1
 case buildSlice t n ps=>
  obtain⟨v,h1,h⟩:=Xp hgt hS h;exact Xu hS h1 h
 case load t a=>
  obtain⟨v,h1,h⟩:=Bx hgt hS h;exact Gt hS h fun v hv=>Cb4 hS.heap h1 hv
 case store t a x=>
  obtain⟨v,h1,h⟩:=Bx hgt hS h;obtain⟨w,h2,h⟩:=Bx hgt hS h;obtain⟨hb,h⟩:=Cy h;exact⟨hb,Bo6 hS h1 h2 h⟩
 case nilCheck x=>
  obtain⟨v,h1,h⟩:=Bx hgt hS h;exact Gt hS h fun v hv=>Ck3 h1 hv
 case binOp op t x y t'=>
  obtain⟨v,h1,h⟩:=Bx hgt hS h;obtain⟨w,h2,h⟩:=Bx hgt hS h;exact Gt hS h fun v hv=>Cb5 h1 h2 hv
 case unOp op t x=>
  obtain⟨v,h1,h⟩:=Bx hgt hS h;exact Gt hS h fun v hv=>Cw1 h1 hv
 case convert src t x=>
  obtain⟨v,h1,h⟩:=Bx hgt hS h;exact Gt hS h fun v hv=>Bo0 hS.heap h1 hv
 case makeInterface t x=>
  obtain⟨v,h1,h⟩:=Bx hgt hS h;exact Gt hS h fun v hv=>Yt h1 hv
 case makeFunc fn fs cs=>
  obtain⟨v,h1,h⟩:=Xo hgt hS h;obtain⟨w,h2,h⟩:=Xo hgt hS h;exact Dz hS (.func fn h1 h2) h
 case makeMap t r=>
  obtain⟨v,h1,h⟩:=Ah7 hgt hS h;exact Ar6 hS h1 h
 case lookup t x k ok=>
  obtain⟨v,h1,h⟩:=Bx hgt hS h;obtain⟨w,h2,h⟩:=Bx hgt hS h;exact Gt hS h fun v hv=>Az9 hS.heap h1 h2 hv
 case mapUpdate t m k x=>
  obtain⟨v,h1,h⟩:=Bx hgt hS h;obtain⟨w,h2,h⟩:=Bx hgt hS h;obtain⟨y,h3,h⟩:=Bx hgt hS h;exact Xv hS h1 h2 h3 h
 case insert t m k x=>
  obtain⟨v,h1,h⟩:=Bx hgt hS h;obtain⟨w,h2,h⟩:=Bx hgt hS h;obtain⟨y,h3,h⟩:=Bx hgt hS h;exact Xv hS h1 h2 h3 h
 case makeSlice t l c=>
  obtain⟨v,h1,h⟩:=Bx hgt hS h;obtain⟨w,h2,h⟩:=Bx hgt hS h;exact Yu hS h1 h2 h
 case slice t x lo hi mx=>
  obtain⟨v,h1,h⟩:=Bx hgt hS h;obtain⟨a,h2,h⟩:=Ah7 hgt hS h;obtain⟨b,h3,h⟩:=Ah7 hgt hS h;obtain⟨c,h4,h⟩:=Ah7 hgt hS h;exact Gt hS h fun v hv=>Bo1 hS.heap h2 h3 h4 h1 hv
 case fieldAddr t x f=>
  obtain⟨v,h1,h⟩:=Bx hgt hS h;exact Gt hS h fun v hv=>Yr h1 hv
 case field t x f=>
  obtain⟨v,h1,h⟩:=Bx hgt hS h;exact Gt hS h fun v hv=>Bo2 h1 hv
 case indexAddr t x i=>
  obtain⟨v,h1,h⟩:=Bx hgt hS h;obtain⟨w,h2,h⟩:=Bx hgt hS h;exact Gt hS h fun v hv=>Ys h1 h2 hv
 case index t x i=>
  obtain⟨v,h1,h⟩:=Bx hgt hS h;obtain⟨w,h2,h⟩:=Bx hgt hS h;exact Gt hS h fun v hv=>Bo3 h1 h2 hv
 case typeAssert x t u ok=>
  obtain⟨v,h1,h⟩:=Bx hgt hS h;exact Gt hS h fun v hv=>Xr h1 hv
 case extract x i=>
  obtain⟨v,h1,h⟩:=Bx hgt hS h;exact Gt hS h fun v hv=>Ar2 h1 hv
 case panic x=>
  obtain⟨v,h1,h⟩:=Bx hgt hS h;exact Bp1 hS h1 h
 case range t x=>
  obtain⟨v,h1,h⟩:=Bx hgt hS h;exact Bo8 hS h1 h
 case next x b=>
  obtain⟨v,h1,h⟩:=Bx hgt hS h;exact Cb7 hS h1 h
 case call c=>
  unfold Ag9 at h;simp only[dop,Jp];split at h
  ·rename_i f heq
   rw[heq];obtain⟨v,h1,h⟩:=Bx hgt hS h;obtain⟨w,h2,h⟩:=Xo hgt hS h;exact Bp0 hc hS h2 h1 h
  ·rename_i b heq
   rw[heq];obtain⟨w,h2,h⟩:=Xo hgt hS h;exact Ar7 hS h2 h
  ·exact h.elim
end
end Go.Dl

-- AN INTERPRETER OF THE DATA LEVEL, PART 6: code.
namespace Go.Dl
open Go
noncomputable section
structure XP where
 P:Program
 gt:Nat->Option DVal
 plans:List (FuncId×Nat×Plan)
 memo:List (FuncId×List DVal×DVal)
 good:List (FuncId×Nat)
def Ba1 (l:List (FuncId×Nat×Plan)) (f id:Nat):Option Plan:=
 List.rec (motive:=fun _=>Option Plan) none (fun x _ ih=>Bool.rec (motive:=fun _=>Option Plan) ih (some x.2.2) (Nat.beq x.1 f&&Nat.beq x.2.1 id)) l
def Ba2 (l:List (FuncId×List DVal×DVal)) (k:Nat) (args:List DVal):Option DVal:=
 List.rec (motive:=fun _=>Option DVal) none (fun x _ ih=>Bool.rec (motive:=fun _=>Option DVal) ih (some x.2.2) (Nat.beq x.1 k&&Gg args x.2.1)) l
def Ai3 (l:List (FuncId×Nat)) (k n:Nat):Bool:=
 List.rec (motive:=fun _=>Bool) false (fun x _ ih=>Bool.rec (motive:=fun _=>Bool) ih true (Nat.beq x.1 k&&Nat.beq x.2 n)) l
section
variable (X:XP)
def Oa (ih:FuncId->Code->Tr DVal->XH->Out) (rs:List ResultVar) (g:FuncId) (caps:List DVal) (x:DVal) (E:Tr DVal) (H:XH):COut:=
 match X.P.funcs[g]? with
 | some fg=>match fg.body with
  | some c=>match Zv c with
   | some (t1,t2,cc)=>Ru caps 0 .leaf fun F=>Tr.setK .bad x 10 F t1 fun F=>Tr.setK .bad x 10 F t2 fun F=>
    match ih g cc F H with
    | .norm _ H'=>Bn5 X.P rs E H'
    | .ret _ H'=>Bn5 X.P rs E H'
    | _=> .bad
   | none=> .bad
  | none=> .bad
 | none=> .bad
def Xw (ih:FuncId->Code->Tr DVal->XH->Out) (rs:List ResultVar) (g:FuncId) (caps:List DVal):Out->COut
 | .norm E H=>Oa X ih rs g caps .nilIface E H
 | .ret E H=>Oa X ih rs g caps .nilIface E H
 | .panic v E H=>Oa X ih rs g caps v E H
 | _=> .bad
def Co1 (ih:FuncId->Code->Tr DVal->XH->Out) (k:FuncId) (rs:List ResultVar) (l:Late) (args:List DVal) (H:XH):COut:=
 Ru args 0 .leaf fun E=>
 match ih k l.A1 E H with
 | .norm E H=>match ih k l.A2 E H with
  | .norm E H=>Rn X.gt .bad E l.caps fun caps=>Tr.setK .bad (.func (.func l.g) [] caps) 10 E l.d fun E2=>Xw X ih rs l.g caps (ih k l.C E2 H)
  | _=> .bad
 | _=> .bad
def Ba3 (ih:FuncId->Code->Tr DVal->XH->Out) (k:FuncId) (args:List DVal) (H:XH):COut:=
 match X.P.funcs[k]? with
 | some fn=>match fn.body with
  | some c=>match Xm c with
   | some l=>Co1 X ih k fn.results.toList l args H
   | none=>Ru args 0 .leaf fun E=>Db5 X.P fn.results.toList (ih k c E H)
  | none=> .bad
 | none=> .bad
def Ar8 (ih:FuncId->Code->Tr DVal->XH->Out) (k:FuncId) (args:List DVal) (H:XH):COut:=
 match Ba2 X.memo k args with
 | some v=> .cret v H
 | none=>Bool.rec (motive:=fun _=>COut) .bad (Ba3 X ih k args H) (Ai3 X.good k args.length)
def Cb8 (ih:FuncId->Code->Tr DVal->XH->Out) (f:FuncId) (c:Code) (E:Tr DVal) (H:XH):Out:=
 match c with
 | .skip=> .norm E H
 | .label _=> .norm E H
 | .region _ ops false=>Cv6 X.P X.gt (Ar8 X ih) ops.toList ops.toList E H
 | .region id ops true=>match Ba1 X.plans f id with
  | some p=>Aq0 (Rt X.P X.gt (Ar8 X ih) ops.toList p E H)
  | none=> .bad
 | .seq a b=>Nv (ih f a E H) fun E H=>ih f b E H
 | .cond c a b=>evK X.gt .bad E c fun v=>Co0 (ih f a E H) (ih f b E H) v
 | .block id c=>Ah4 id (ih f c E H)
 | .loop c=>Cn9 (Xl (fun E H=>ih f c E H) 20 E H)
 | .exit id=> .exit id E H
 | .ret=> .ret E H
 | .scope c=>ih f c E H
 | _=> .bad
def Yv (n:Nat):FuncId->Code->Tr DVal->XH->Out:=
 Nat.rec (motive:=fun _=>FuncId->Code->Tr DVal->XH->Out) (fun _ _ _ _=> .bad) (fun _ ih f c E H=>Cb8 X ih f c E H) n
def Cw (plans:List (FuncId×Nat×Plan)) (f N:Nat):Code->Bool
 | .region id ops true=>match Ba1 plans f id with
  | some p=>ops.toList.all (Ef N)&&Ub ops.toList [] p&&Dx ops.toList p []
  | none=>true
 | .seq a b=>Cw plans f N a&&Cw plans f N b
 | .cond _ a b=>Cw plans f N a&&Cw plans f N b
 | .block _ c=>Cw plans f N c
 | .loop c=>Cw plans f N c
 | .scope c=>Cw plans f N c
 | _=>true
def Be6 (P:Program) (plans:List (FuncId×Nat×Plan)) (k n:Nat) (fn:Func) (l:Late):Bool:=
 match P.funcs[l.g]? with
 | some fg=>match fg.body with
  | some c=>match Zv c with
   | some (t1,t2,cc)=>!(fg.name== "runtime.NumGoroutine")&&fg.results.toList.isEmpty&&Cw plans l.g fg.ntmps cc&&
    (decide (l.caps.length<=fg.ntmps)&&Cm fg.ntmps cc&&Jk cc&&decide (t1<fg.ntmps)&&decide (t2<fg.ntmps))&&
    (Cw plans k fn.ntmps l.A1&&Cw plans k fn.ntmps l.A2&&Cw plans k fn.ntmps l.C)&&
    (decide (n<=fn.ntmps)&&(Cm fn.ntmps l.A1&&Jk l.A1)&&(Cm fn.ntmps l.A2&&Jk l.A2)&&(Cm fn.ntmps l.C&&Jk l.C)&&decide (l.d<fn.ntmps)&&l.caps.all (Ay fn.ntmps)&&fn.results.toList.all (Tz fn.ntmps))
   | none=>false
  | none=>false
 | none=>false
def Be7 (P:Program) (plans:List (FuncId×Nat×Plan)) (k n:Nat):Bool:=
 match P.funcs[k]? with
 | some fn=>!(fn.name== "runtime.NumGoroutine")&&match fn.body with
  | some c=>match Xm c with
   | some l=>Be6 P plans k n fn l
   | none=>Cr2 fn n&&Cw plans k fn.ntmps c
  | none=>false
 | none=>false
structure XOk (G:Nat->DVal):Prop where
 mixed:X.P.follows .mixedOrders=true
 gt: ∀g d,X.gt g=some d-> ∀ρ,RV ρ d (G g)
 good:X.good.all (fun x=>Be7 X.P X.plans x.1 x.2)=true
 plain:X.memo.all (fun x=>Es x.2.1&&Ej x.2.2)=true
 memo: ∀x∈X.memo,∀H,Ar X.P G x.1 x.2.1 H (Cq x.2.2 H)
end
end
theorem Uk {k:Nat} {args:List DVal} {v:DVal}: ∀ {l:List (FuncId×List DVal×DVal)},Ba2 l k args=some v-> ∃x∈l,x.1=k/\Gg args x.2.1=true/\x.2.2=v
 | [],h=>by cases h
 | x::l,h=>by
  have h:Bool.rec (motive:=fun _=>Option DVal) (Ba2 l k args) (some x.2.2) (Nat.beq x.1 k&&Gg args x.2.1)=some v:=h;cases hb:(Nat.beq x.1 k&&Gg args x.2.1) with
  | false=>
   rw[hb] at h;obtain⟨y,h1,h2⟩:=Uk h;exact⟨y,List.mem_cons_of_mem _ h1,h2⟩
  | true=>
   rw[hb] at h;cases h;simp only[Bool.and_eq_true] at hb;exact⟨x,List.mem_cons_self,Nat.eq_of_beq_eq_true hb.1,hb.2,rfl⟩
theorem Ul {k n:Nat}: ∀ {l:List (FuncId×Nat)},Ai3 l k n=true->(k,n)∈l
 | [],h=>by cases h
 | x::l,h=>by
  have h:Bool.rec (motive:=fun _=>Bool) (Ai3 l k n) true (Nat.beq x.1 k&&Nat.beq x.2 n)=true:=h;cases hb:(Nat.beq x.1 k&&Nat.beq x.2 n) with
  | false=>rw[hb] at h;exact List.mem_cons_of_mem _ (Ul h)
  | true=>
   simp only[Bool.and_eq_true] at hb;obtain⟨a,b⟩:=x;have h1:=Nat.eq_of_beq_eq_true hb.1;have h2:=Nat.eq_of_beq_eq_true hb.2;dsimp only at h1 h2;rw[h1,h2];exact List.mem_cons_self
theorem Bq {a b:Nat} (h:Nat.beq a b=true):a=b:=Nat.eq_of_beq_eq_true h
mutual
theorem Vd: ∀ {a b:DVal},Az0 a b=true->a=b
 | .raw _,b,h=>by
  cases b<;>first | (cases (show false=true from h);done) | skip
 | .bool a,b,h=>by
  cases b<;>first | (cases (show false=true from h);done) | skip
  rename_i c;have h:(a==c)=true:=h;rw[eq_of_beq h]
 | .int k n,b,h=>by
  cases b<;>first | (cases (show false=true from h);done) | skip
  rename_i k' n';have h:(decide (k=k')&&decide (n=n'))=true:=h;simp only[Bool.and_eq_true,decide_eq_true_eq] at h;rw[h.1,h.2]
 | .str l,b,h=>by
  cases b<;>first | (cases (show false=true from h);done) | skip
  rename_i c;have h:decide (l=c)=true:=h;rw[of_decide_eq_true h]
 | .nilPtr,b,h=>by
  cases b<;>first | (cases (show false=true from h);done) | skip
  rfl
 | .nilSlice,b,h=>by
  cases b<;>first | (cases (show false=true from h);done) | skip
  rfl
 | .nilMap,b,h=>by
  cases b<;>first | (cases (show false=true from h);done) | skip
  rfl
 | .nilFunc,b,h=>by
  cases b<;>first | (cases (show false=true from h);done) | skip
  rfl
 | .nilIface,b,h=>by
  cases b<;>first | (cases (show false=true from h);done) | skip
  rfl
 | .optr r o,b,h=>by
  cases b<;>first | (cases (show false=true from h);done) | skip
  rename_i r' o';have h:(Nat.beq r r'&&Nat.beq o o')=true:=h;simp only[Bool.and_eq_true] at h;rw[Bq h.1,Bq h.2]
 | .oslice x y z u v,b,h=>by
  cases b<;>first | (cases (show false=true from h);done) | skip
  rename_i x' y' z' u' v';have h:(Nat.beq x x'&&Nat.beq y y'&&Nat.beq z z'&&Nat.beq u u'&&Nat.beq v v')=true:=h;simp only[Bool.and_eq_true] at h;rw[Bq h.1.1.1.1,Bq h.1.1.1.2,Bq h.1.1.2,Bq h.1.2,Bq h.2]
 | .vptr cs o,b,h=>by
  cases b<;>first | (cases (show false=true from h);done) | skip
  rename_i cs' o';have h:(Nat.beq o o'&&Gg cs cs')=true:=h;simp only[Bool.and_eq_true] at h;rw[Bq h.1,Gu h.2]
 | .vslice cs o,b,h=>by
  cases b<;>first | (cases (show false=true from h);done) | skip
  rename_i cs' o';have h:(Nat.beq o o'&&Gg cs cs')=true:=h;simp only[Bool.and_eq_true] at h;rw[Bq h.1,Gu h.2]
 | .iface t v,b,h=>by
  cases b<;>first | (cases (show false=true from h);done) | skip
  rename_i t' v';have h:(Nat.beq t t'&&Az0 v v')=true:=h;simp only[Bool.and_eq_true] at h;rw[Bq h.1,Vd h.2]
 | .agg cs,b,h=>by
  cases b<;>first | (cases (show false=true from h);done) | skip
  rename_i cs';have h:Gg cs cs'=true:=h;rw[Gu h]
 | .tuple cs,b,h=>by
  cases b<;>first | (cases (show false=true from h);done) | skip
  rename_i cs';have h:Gg cs cs'=true:=h;rw[Gu h]
 | .omap r,b,h=>by
  cases b<;>first | (cases (show false=true from h);done) | skip
 | .func f x y,b,h=>by
  cases f<;>cases b<;>first | (cases (show false=true from h);done) | skip
  rename_i f g x' y'
  cases g<;>first | (cases (show false=true from h);done) | skip
  rename_i g
  have h:(Nat.beq f g&&Gg x x'&&Gg y y')=true:=h
  simp only[Bool.and_eq_true] at h
  rw[Bq h.1.1,Gu h.1.2,Gu h.2]
theorem Gu: ∀ {a b:List DVal},Gg a b=true->a=b
 | [],[],_=>rfl
 | [],_::_,h=>by cases (show false=true from h)
 | _::_,[],h=>by cases (show false=true from h)
 | a::al,b::bl,h=>by
  have h:(Az0 a b&&Gg al bl)=true:=h
  simp only[Bool.and_eq_true] at h
  rw[Vd h.1,Gu h.2]
end
theorem Cl3 {a b:Option DObj} (h:Az1 a b=true):a=b/\ ∃o,a=some o:=by
 unfold Az1 at h;split at h
 ·simp only[Bool.and_eq_true] at h;rw[Nat.eq_of_beq_eq_true h.1,Gu h.2];exact⟨rfl,_,rfl⟩
 ·simp only[Bool.and_eq_true,decide_eq_true_eq] at h;rw[h.1,Nat.eq_of_beq_eq_true h.2];exact⟨rfl,_,rfl⟩
 ·cases h
end Go.Dl
