/- The data level and the contracts of the functions that are reached (part 1). -/
import Derived.Shelf.Lays
import Derived.Shelf.Strings.Fields
import Derived.Shelf.Strings.Repeat
import Derived.Test.YtddbdpcgikmiaaaGreatDoorProg
import Derived.WalkKit
import Derived.OwnWalk
import Derived.RangeFuncNested
import Derived.RangeFuncCalls
import Derived.TacticsIn
import Derived.OrdersIn
set_option linter.unusedSimpArgs false
set_option linter.unusedVariables false
set_option linter.unusedSectionVars false
attribute [go_sem ↓] reduceIte
theorem jA {α : Type _} {a : α} {l : List α} : (a::l).length = l.length+1 := rfl
theorem jB {α : Type _} : ([] : List α).length = 0 := rfl
theorem jC {α : Type _} {a b : List α} : (a++b).length = a.length+b.length := List.length_append
theorem jD (n : Nat) : (n:Int).toNat = n := rfl
theorem jE {α : Type _} {a : α} {l : List α} {i : Nat} : (a::l).drop (i+1) = l.drop i := rfl
theorem jF (a b : Bool) : ((a && b) = true) = (a = true ∧ b = true) := Bool.and_eq_true a b
theorem jG {α : Type _} (l : List α) : [] ++ l = l := rfl
theorem jH {α : Type _} (l : List α) : l ++ [] = l := List.append_nil l
theorem jI {α : Type _} {a : α} {l m : List α} : (a::l) ++ m = a::(l++m) := rfl
theorem jJ {α : Type _} {l : List α} : l.drop 0 = l := rfl
theorem jK {α : Type _} {β : Type _} {l : List α} (f : α → β) : (l.map f).length = l.length := List.length_map f
theorem jL {α : Type _} {i : Nat} : ([] : List α).drop i = [] := List.drop_nil
theorem jM {α : Type _} {a : α} {l : List α} {i : Nat} : (a::l).take (i+1) = a::l.take i := rfl
theorem jN {α : Type _} {β : Type _} {f : α → β} {a : α} {l : List α} : (a::l).map f = f a::l.map f := rfl
theorem jO {α : Type _} (a b c : List α) : a ++ b ++ c = a ++ (b ++ c) := List.append_assoc a b c
theorem jP {α : Type _} {β : Type _} {f : α → β} : ([] : List α).map f = [] := rfl
theorem jQ {α : Type _} {a : α} : [a].length = 1 := rfl
theorem jR {α : Type _} {l : List α} : l.take 0 = [] := List.take_zero
theorem jS (b : Bool) : (true && b) = b := Bool.true_and b
theorem jT (b : Bool) : (false && b) = false := Bool.false_and b
-- The library functions of this seat, by t
namespace Go.Proofs
open Go.Shelf
def Tryz.lays157_ren:Go.Shelf.Ren:=⟨fun | 157=>307 | 229=>321 | 199=>322 | 261=>326 | 311=>327 | 312=>328 | n=>n,fun | 9=>9 | 31=>54 | 3=>3 | 5=>5 | 4=>4 | 119=>332 | 0=>0 | 40=>334 | 152=>336 | 21=>21 | 154=>338 | 51=>273 | 141=>340 | 196=>344 | 193=>341 | 198=>347 | 49=>345 | 194=>342 | 201=>350 | 226=>352 | 46=>204 | 227=>353 | n=>n,fun | 0=>1 | 6=>2 | n=>n⟩
theorem Tryz.lays157:Go.Proofs.Lays.n157 Tryz.prog Tryz.lays157_ren:= {
  mixed:=by kernel_rfl
  f157:=Tryz.func307.trans (congrArg some (by kernel_rfl))
  f199:=Tryz.func322.trans (congrArg some (by kernel_rfl))
  f229:=Tryz.func321.trans (congrArg some (by kernel_rfl))
  f261:=Tryz.func326.trans (congrArg some (by kernel_rfl))
  f311:=Tryz.func327.trans (congrArg some (by kernel_rfl))
  f312:=Tryz.func328.trans (congrArg some (by kernel_rfl))
  t0:=Tryz.underlying0
  a0:=Tryz.isAgg0
  z0:=Tryz.sizeOf0
  v0:=Tryz.zeroValue0
  t3:=Tryz.underlying3
  a3:=Tryz.isAgg3
  z3:=Tryz.sizeOf3
  v3:=Tryz.zeroValue3
  t4:=Tryz.underlying4
  a4:=Tryz.isAgg4
  z4:=Tryz.sizeOf4
  v4:=Tryz.zeroValue4
  t5:=Tryz.underlying5
  a5:=Tryz.isAgg5
  z5:=Tryz.sizeOf5
  v5:=Tryz.zeroValue5
  t9:=Tryz.underlying9
  a9:=Tryz.isAgg9
  z9:=Tryz.sizeOf9
  v9:=Tryz.zeroValue9
  t21:=Tryz.underlying21
  a21:=Tryz.isAgg21
  z21:=Tryz.sizeOf21
  v21:=Tryz.zeroValue21
  t31:=Tryz.underlying54
  a31:=Tryz.isAgg54
  z31:=Tryz.sizeOf54
  v31:=Tryz.zeroValue54
  t40:=Tryz.underlying334
  a40:=Tryz.isAgg334
  z40:=Tryz.sizeOf334
  v40:=Tryz.zeroValue334
  t46:=Tryz.underlying204
  a46:=Tryz.isAgg204
  z46:=Tryz.sizeOf204
  v46:=Tryz.zeroValue204
  t49:=Tryz.underlying345
  a49:=Tryz.isAgg345
  z49:=Tryz.sizeOf345
  v49:=Tryz.zeroValue345
  t51:=Tryz.underlying273
  a51:=Tryz.isAgg273
  z51:=Tryz.sizeOf273
  v51:=Tryz.zeroValue273
  t119:=Tryz.underlying332
  a119:=Tryz.isAgg332
  z119:=Tryz.sizeOf332
  t141:=Tryz.underlying340
  a141:=Tryz.isAgg340
  z141:=Tryz.sizeOf340
  v141:=Tryz.zeroValue340
  t152:=Tryz.underlying336
  a152:=Tryz.isAgg336
  z152:=Tryz.sizeOf336
  v152:=Tryz.zeroValue336
  t154:=Tryz.underlying338
  a154:=Tryz.isAgg338
  z154:=Tryz.sizeOf338
  v154:=Tryz.zeroValue338
  t193:=Tryz.underlying341
  a193:=Tryz.isAgg341
  z193:=Tryz.sizeOf341
  v193:=Tryz.zeroValue341
  t194:=Tryz.underlying342
  a194:=Tryz.isAgg342
  z194:=Tryz.sizeOf342
  v194:=Tryz.zeroValue342
  t196:=Tryz.underlying344
  a196:=Tryz.isAgg344
  z196:=Tryz.sizeOf344
  v196:=Tryz.zeroValue344
  t198:=Tryz.underlying347
  a198:=Tryz.isAgg347
  z198:=Tryz.sizeOf347
  v198:=Tryz.zeroValue347
  t201:=Tryz.underlying350
  a201:=Tryz.isAgg350
  z201:=Tryz.sizeOf350
  v201:=Tryz.zeroValue350
  t226:=Tryz.underlying352
  a226:=Tryz.isAgg352
  z226:=Tryz.sizeOf352
  v226:=Tryz.zeroValue352
  t227:=Tryz.underlying353
  a227:=Tryz.isAgg353
  z227:=Tryz.sizeOf353
  v227:=Tryz.zeroValue353
  g0:=by kernel_rfl
  g6:=by kernel_rfl }
open Go.RowKit Go.Lib in
theorem Tryz.strings_Fields (s:ByteArray) (w:World) (hs:s.size<4294967281) (h: ∀(j:Nat) b,s.data.toList[j]? =some b->b.toNat<128) (y:Lib.TabIs Tryz.prog w "strings.asciiSpace" .u8 Lib.asciiSpaceTab):
  Calls Tryz.prog 307 #[.string s] w fun e w'=>
   e= .returned (.slice (some ⟨w.heap.size,0,none⟩) (Lib.fields s.data.toList).length (Lib.fields s.data.toList).length)/\w'=w.alloc (.cells ((Lib.fields s.data.toList).map fun l=>Value.string ⟨l.toArray⟩).toArray 9):=Any.strings_Fields Tryz.lays157 (by kernel_rfl) (by kernel_rfl) s w hs h y
def Tryz.lays105_ren:Go.Shelf.Ren:=⟨fun | 105=>49 | 212=>157 | 99=>158 | 165=>159 | 166=>160 | 170=>161 | 169=>162 | 263=>239 | 264=>240 | 206=>241 | 240=>242 | 241=>243 | 276=>291 | 277=>292 | n=>n,fun | 9=>9 | 3=>3 | 4=>4 | 20=>20 | 0=>0 | 46=>204 | 109=>205 | 5=>5 | 72=>211 | 76=>215 | 51=>273 | 146=>274 | 53=>276 | 148=>277 | 70=>208 | 37=>209 | 75=>214 | 127=>279 | 164=>310 | 80=>218 | n=>n,fun | n=>n⟩
theorem Tryz.lays105:Go.Proofs.Lays.n105 Tryz.prog Tryz.lays105_ren:= {
  mixed:=by kernel_rfl
  f99:=Tryz.func158.trans (congrArg some (by kernel_rfl))
  f105:=Tryz.func49.trans (congrArg some (by kernel_rfl))
  f165:=Tryz.func159.trans (congrArg some (by kernel_rfl))
  f166:=Tryz.func160.trans (congrArg some (by kernel_rfl))
  f169:=Tryz.func162.trans (congrArg some (by kernel_rfl))
  f170:=Tryz.func161.trans (congrArg some (by kernel_rfl))
  f206:=Tryz.func241.trans (congrArg some (by kernel_rfl))
  f212:=Tryz.func157.trans (congrArg some (by kernel_rfl))
  f240:=Tryz.func242.trans (congrArg some (by kernel_rfl))
  f241:=Tryz.func243.trans (congrArg some (by kernel_rfl))
  f263:=Tryz.func239.trans (congrArg some (by kernel_rfl))
  f264:=Tryz.func240.trans (congrArg some (by kernel_rfl))
  f276:=Tryz.func291.trans (congrArg some (by kernel_rfl))
  f277:=Tryz.func292.trans (congrArg some (by kernel_rfl))
  t0:=Tryz.underlying0
  a0:=Tryz.isAgg0
  z0:=Tryz.sizeOf0
  v0:=Tryz.zeroValue0
  t3:=Tryz.underlying3
  a3:=Tryz.isAgg3
  z3:=Tryz.sizeOf3
  v3:=Tryz.zeroValue3
  t4:=Tryz.underlying4
  a4:=Tryz.isAgg4
  z4:=Tryz.sizeOf4
  v4:=Tryz.zeroValue4
  t5:=Tryz.underlying5
  a5:=Tryz.isAgg5
  z5:=Tryz.sizeOf5
  v5:=Tryz.zeroValue5
  t9:=Tryz.underlying9
  a9:=Tryz.isAgg9
  z9:=Tryz.sizeOf9
  v9:=Tryz.zeroValue9
  t20:=Tryz.underlying20
  a20:=Tryz.isAgg20
  z20:=Tryz.sizeOf20
  v20:=Tryz.zeroValue20
  t37:=Tryz.underlying209
  a37:=Tryz.isAgg209
  z37:=Tryz.sizeOf209
  v37:=Tryz.zeroValue209
  t46:=Tryz.underlying204
  a46:=Tryz.isAgg204
  z46:=Tryz.sizeOf204
  v46:=Tryz.zeroValue204
  t51:=Tryz.underlying273
  a51:=Tryz.isAgg273
  z51:=Tryz.sizeOf273
  v51:=Tryz.zeroValue273
  t53:=Tryz.underlying276
  a53:=Tryz.isAgg276
  z53:=Tryz.sizeOf276
  v53:=Tryz.zeroValue276
  t70:=Tryz.underlying208
  a70:=Tryz.isAgg208
  z70:=Tryz.sizeOf208
  v70:=Tryz.zeroValue208
  t72:=Tryz.underlying211
  a72:=Tryz.isAgg211
  z72:=Tryz.sizeOf211
  v72:=Tryz.zeroValue211
  t75:=Tryz.underlying214
  a75:=Tryz.isAgg214
  z75:=Tryz.sizeOf214
  v75:=Tryz.zeroValue214
  t76:=Tryz.underlying215
  a76:=Tryz.isAgg215
  z76:=Tryz.sizeOf215
  v76:=Tryz.zeroValue215
  t109:=Tryz.underlying205
  a109:=Tryz.isAgg205
  z109:=Tryz.sizeOf205
  v109:=Tryz.zeroValue205
  t127:=Tryz.underlying279
  a127:=Tryz.isAgg279
  z127:=Tryz.sizeOf279
  v127:=Tryz.zeroValue279
  t146:=Tryz.underlying274
  a146:=Tryz.isAgg274
  z146:=Tryz.sizeOf274
  v146:=Tryz.zeroValue274
  t148:=Tryz.underlying277
  a148:=Tryz.isAgg277
  z148:=Tryz.sizeOf277
  v148:=Tryz.zeroValue277
  t164:=Tryz.underlying310
  a164:=Tryz.isAgg310
  z164:=Tryz.sizeOf310
  v164:=Tryz.zeroValue310 }
theorem Tryz.Builder_Extra_105:Builder.Extra Tryz.prog Tryz.lays105_ren:= {
  sizeBuilder:=by kernel_rfl
  liesBuilder:=by kernel_rfl
  t5:=Tryz.underlying5
  a5:=Tryz.isAgg5
  z5:=Tryz.sizeOf5
  v5:=Tryz.zeroValue5
  infoByte:=by kernel_rfl
  cellsByte:=by kernel_rfl
  sizeByte:=by kernel_rfl
  neB5:=by decide }
open Go.RowKit Go.Lib in
theorem Tryz.strings_Repeat (s:ByteArray) (c:Nat) (w:World) (h:c<=9223372036854775807) (y:s.size*c<=140737488355328):
  Calls Tryz.prog 49 #[.string s, .int .i64 c] w fun e w'=>e= .returned (.string ⟨(Lib.repeatL s.data.toList c).toArray⟩)/\Below w.heap.size w w':=Any.strings_Repeat Tryz.lays105 Tryz.Builder_Extra_105 s c w h y
end Go.Proofs
-- THE DATA LEVEL, PART A: values that carr
namespace Go.Dl
open Go
attribute [go_sem] Nat.reduceEqDiff Nat.reduceAdd Nat.reduceMul Nat.reduceSub Nat.reduceLeDiff reduceCtorEq Int.reduceAdd Int.reduceSub Int.reduceMul Int.reduceNeg Int.reduceToNat List.reduceReplicate String.reduceEq
inductive DVal where
 | raw (v:Value)
 | bool (b:Bool)
 | int (k:IntKind) (n:Int)
 | str (s:List UInt8)
 | nilPtr
 | vptr (cs:List DVal) (off:Nat)
 | optr (r off:Nat)
 | nilSlice
 | vslice (cs:List DVal) (len:Nat)
 | oslice (sz r off len lo:Nat)
 | nilMap
 | omap (r:Nat)
 | func (fn:Fn) (first captured:List DVal)
 | nilFunc
 | iface (t:TypeId) (v:DVal)
 | nilIface
 | agg (cs:List DVal)
 | tuple (vs:List DVal)
 deriving Inhabited
def DVal.cells:DVal->List DVal
 | .agg cs=>cs
 | v=> [v]
def DVal.one:DVal->Bool
 | .agg _ | .tuple _=>false
 | .raw v=>v.oneCell'
 | _=>true
inductive DObj where
 | cells (cs:List DVal) (e:TypeId)
 /-- The record of a loop over an iterator: the slots as they were where it began (the record's own 'tmps' are not looked at). -/
 | loop (env:Nat->DVal) (n:Nat) (r:Loop)
 /-- A map: its entries, in the order in which they were laid. -/
 | map (es:List (DVal×DVal))
 /-- A walk through a string's characters. -/
 | iter (s:List UInt8) (pos:Nat)
abbrev Ac:=Nat->Option DObj
def upd {α:Type} (f:Nat->α) (i:Nat) (v:α):Nat->α:=fun j=>if j=i then v else f j
structure DS where
 env:Nat->DVal
 heap:Ac
inductive DExit where
 | normal
 | exit (id:Nat)
 | goto (l:Nat)
 | ret
 | panic (v:DVal)
inductive DEnd where
 | ret (v:DVal)
 | panic (v:DVal)
def Ud (w:World) (H:Ac) (b off:Nat) (xs:List Value):Prop:=
 xs= []\/(H b=none/\ ∀i x,xs[i]? =some x->w.cell? ⟨b,off+i,none⟩=some x)
def Pk:Option Obj->Option Nat
 | some (.cells c _ _)=>some c.size
 | _=>none
def Dt5 (w:World) (r n:Nat):Prop:=r<w.heap.size/\ ∀k,Pk w.heap[r]? =some k->n<=k
mutual
/-- The value of the data level describes the model's value. -/
def Rel (w:World) (H:Ac):DVal->Value->Prop
 | .raw x,v=>v=x/\x.oneCell'=true
 | .bool b,v=>v= .bool b
 | .int k n,v=>v= .int k n
 | .str s,v=>v= .string ⟨⟨s⟩⟩
 | .nilPtr,v=>v= .pointer none
 | .vptr cs off,v=> ∃b o xs,v= .pointer (some ⟨b,o+off,none⟩)/\Ud w H b o xs/\Az w H cs xs
 | .optr r off,v=>v= .pointer (some ⟨r,off,none⟩)
 | .nilSlice,v=>v= .slice none 0 0
 | .vslice cs len,v=> ∃a cap,v= .slice a len cap/\len<=cap/\(cs= []\/ ∃b o xs,a=some ⟨b,o,none⟩/\Ud w H b o xs/\Az w H cs xs)
 | .oslice sz r off len lo,v=> ∃o cap,v= .slice (some ⟨r,o,none⟩) len cap/\lo<=cap/\len<=cap/\(cap=0\/o=off)/\Dt5 w r (o+cap*sz)
 | .nilMap,v=>v= .map none
 | .omap r,v=>v= .map (some r)
 | .func fn first captured,v=> ∃xs ys,v= .func fn xs ys/\Az w H first xs.toList/\Az w H captured ys.toList
 | .nilFunc,v=>v= .nilFunc
 | .iface t d,v=> ∃x,v= .iface t x/\Rel w H d x
 | .nilIface,v=>v= .nilIface
 | .agg cs,v=> ∃xs,v= .agg xs/\Az w H cs xs.toList
 | .tuple cs,v=> ∃xs,v= .tuple xs/\Az w H cs xs.toList
def Az (w:World) (H:Ac):List DVal->List Value->Prop
 | [],xs=>xs= []
 | d::ds,xs=> ∃y ys,xs=y::ys/\Rel w H d y/\Az w H ds ys
end
def Ys (w:World) (H:Ac):List (DVal×DVal)->List MapEntry->Prop
 | [],ms=>ms= []
 | p::es,ms=> ∃m ms',ms=m::ms'/\Rel w H p.1 m.key/\Rel w H p.2 m.val/\Ys w H es ms'
def Af4 (w:World) (H:Ac):DObj->Option Obj->Prop
 | .cells cs e,o=> ∃xs c fz,o=some (.cells c e fz)/\xs<+:c.toList/\Az w H cs xs/\ ∀i,i<c.size-> ¬(fz.1<=i/\i<fz.2)
 | .loop env n r,o=> ∃tmps,o=some (.loop { r with tmps:=tmps })/\tmps.size=n/\ ∀i,i<n->Rel w H (env i) (tmps.getD i undef)
 | .map es,o=> ∃ms clock,o=some (.map ms clock)/\Ys w H es ms.toList
 | .iter s pos,o=>o=some (.stringIter ⟨⟨s⟩⟩ pos)
def Bj (w:World) (H:Ac):Prop:= ∀r o,H r=some o->Af4 w H o w.heap[r]?
structure Ext (H:Ac) (w:World) (H':Ac) (w':World):Prop where
 os:w'.os=w.os
 tape:w'.tape=w.tape
 output:w'.output=w.output
 size:w.heap.size<=w'.heap.size
 block: ∀b,b<w.heap.size->H b=none->w'.heap[b]? =w.heap[b]?
 own: ∀b,H' b≠none->H b≠none\/w.heap.size<=b
 keep: ∀b,b<w.heap.size->Pk w'.heap[b]? =Pk w.heap[b]?
 fz: ∀a,a.block<w.heap.size->H a.block=none->w'.frozen? a=w.frozen? a
structure GOk (G:Nat->DVal) (w:World) (H:Ac):Prop where
 rel: ∀g,Rel w H (G g) (.pointer (some ⟨g,0,none⟩))
 exact: ∀g cs,G g= .vptr cs 0->Pk w.heap[g]? =some cs.length
structure Base where
 b:Nat
 late:List Deferred
 still:Bool
structure Fr where
 n:Nat
 base:Base
instance:Coe Fr Nat:=⟨Fr.n⟩
def Dfs (w:World) (H:Ac) (B:Base) (ds:List Deferred):Prop:=
 ∃Ds:List Nat,ds=Ds.map (fun D=>({ target:= .collected D,args:= #[] }:Deferred))++B.late/\Ds.Nodup/\ ∀D∈Ds,(B.b<=D/\B.still=false)/\w.heap[D]? =some (.deferred (some []))/\H D=none
theorem Dfs.nil (w:World) (H:Ac) (B:Nat):Dfs w H ⟨B,[],false⟩ []:=⟨[],rfl,List.nodup_nil,by simp⟩
structure Sim (G:Nat->DVal) (N:Fr) (s:DS) (a:Act) (w:World):Prop where
 size:a.tmps.size=N.n
 defers:Dfs w s.heap N.base a.defers
 tmps: ∀i,i<N.n->Rel w s.heap (s.env i) (a.tmps.getD i undef)
 heap:Bj w s.heap
 glob:GOk G w s.heap
 base:N.base.b<=w.heap.size
inductive RelX (w:World) (H:Ac):DExit->Exit->Prop
 | normal:RelX w H .normal .normal
 | exit (id:Nat):RelX w H (.exit id) (.exit id)
 | goto (l:Nat):RelX w H (.goto l) (.goto l)
 | ret:RelX w H .ret .ret
 | panic (d:DVal) (v:Value):Rel w H d v->RelX w H (.panic d) (.panic [{ v,recovered:=false }])
inductive RelE (w:World) (H:Ac):DEnd->Ending->Prop
 | ret (d:DVal) (v:Value):Rel w H d v->RelE w H (.ret d) (.returned v)
 | panic (d:DVal) (v:Value):Rel w H d v->RelE w H (.panic d) (.panicked [{ v,recovered:=false }])
def Af (P:Program) (G:Nat->DVal) (f:FuncId) (args:List DVal) (H:Ac) (R:DEnd->Ac->Prop):Prop:=
 (∀vs w,(callFunc f vs).run P w= .ok (.enter f vs) w)/\
 ∀(vs:List Value) (w:World),Az w H args vs->Bj w H->GOk G w H->
  Calls P f vs.toArray w fun e w'=> ∃e' H',R e' H'/\RelE w' H' e' e/\Bj w' H'/\Ext H w H' w'
def FOk (F:Fence):Prop:=F=Fence.wide\/ ∃l,F=Fence.wide.inRound l
def Bd2 (P:Program) (G:Nat->DVal) (l:Nat) (args:List DVal) (H:Ac) (R:DEnd->Ac->Prop):Prop:=
 ∀(F:Fence) (n:Nat),FOk F-> ∀(vs:List Value) (w:World),Az w H args vs->Bj w H->GOk G w H->
  YieldAt F n P l vs.toArray w fun e w'=> ∃e' H',R e' H'/\RelE w' H' e' e/\Bj w' H'/\Ext H w H' w'
section
variable {P:Program} {F:Fence} {n:Nat}
theorem FOk.fn (h:FOk F) (g:FuncId):F.fn g:=by
 rcases h with rfl | ⟨l,rfl⟩<;>trivial
theorem FOk.depth (h:FOk F):F.depth=none:=by
 rcases h with rfl | ⟨l,rfl⟩<;>rfl
theorem FOk.calls (h:FOk F) {f:FuncId} {args:Array Value} {w:World} {R:Ending->World->Prop} (y:Calls P f args w R):CallsIn F n P f args w R:=by
 rcases h with rfl | ⟨l,rfl⟩
 ·exact callsIn_wide.2 y
 ·exact CallsIn.inRound l (callsIn_wide.2 y)
theorem FOk.rows (h:FOk F) {row:String} {args:Array Value} {w:World} {R:Value->World->Prop} (y:Rows P row args w R):RowsIn F n P row args w R:=by
 have h0:RowsIn Fence.wide n P row args w R:=fun c cs _=>by
  obtain⟨v,w',hr,hs⟩:=y c cs;exact⟨v,w',hr,stepsIn_wide.2 hs⟩
 rcases h with rfl | ⟨l,rfl⟩
 ·exact h0
 ·exact h0
theorem FOk.oper (h:FOk F) {o:Oper} {a:Act} {w:World} {K:Act->World->Prop} {Q:Exit->Act->World->Prop} (y: ∀c,o.op≠ .defer c) (hw:o.wp P a w K Q):o.wpIn F n P a w K Q:=by
 refine⟨fun f _=>h.fn f, ?_⟩;rw[Oper.semAt_eq _ _ _ y];unfold Oper.wp at hw;have hdep:F.depth.isSome=true->1<=n:=by rw[h.depth];intro hh;cases hh
 generalize (execOp a.eval o).run P w=r at hw⊢
 cases r with
 | ok x w'=>
  cases x<;>simp only[Oper.upon,Oper.uponIn] at hw⊢ <;>first
   | exact hw
   | exact⟨hdep,h.calls (hw.mono fun e C he=>by cases e<;>exact he)⟩
   | exact⟨hdep,h.rows hw⟩
   | exact hw.elim
 | halt x w'=>cases x<;>simp only[Oper.upon,Oper.uponIn] at hw⊢ <;>first | exact hw | exact hw.elim
end
def DWp (P:Program) (G:Nat->DVal) (N:Nat) (c:Code) (Q:DExit->DS->Prop) (s:DS):Prop:=
 ∀(F:Fence) (n:Nat) (B:Base),FOk F-> ∀(a:Act) (w:World),Sim G ⟨N,B⟩ s a w->
  c.wpIn F n P (fun e a' w'=> ∃e' s',Q e' s'/\RelX w' s'.heap e' e/\Sim G ⟨N,B⟩ s' a' w'/\Ext s.heap w s'.heap w') a w
def Gj9 (P:Program) (G:Nat->DVal) (N:Nat) (c:Code) (Q:DExit->DS->Prop) (s:DS):Prop:=
 ∀(n:Nat) (B:Base),B.still=false-> ∀(a:Act) (w:World),Sim G ⟨N,B⟩ s a w->
  c.wpIn Fence.wide n P (fun e a' w'=> ∃e' s',Q e' s'/\RelX w' s'.heap e' e/\Sim G ⟨N,B⟩ s' a' w'/\Ext s.heap w s'.heap w') a w
structure Lasts (H:Ac) (w:World) (H':Ac) (w':World):Prop where
 cell: ∀b i x,H b=none->w.cell? ⟨b,i,none⟩=some x->H' b=none/\w'.cell? ⟨b,i,none⟩=some x
 size:w.heap.size<=w'.heap.size
 keep: ∀b,b<w.heap.size->Pk w'.heap[b]? =Pk w.heap[b]?
theorem Lasts.room {H H':Ac} {w w':World} (h:Lasts H w H' w') {r n:Nat} (hr:Dt5 w r n):Dt5 w' r n:=
 ⟨Nat.lt_of_lt_of_le hr.1 h.size,fun k hk=>hr.2 k (by rw[<-h.keep r hr.1];exact hk)⟩
theorem Ff4 {w:World} {b i:Nat} {x:Value} (h:w.cell? ⟨b,i,none⟩=some x):b<w.heap.size:=by
 unfold World.cell? at h;rcases Nat.lt_or_ge b w.heap.size with hl | hl
 ·exact hl
 ·simp [Array.getElem?_eq_none hl] at h
theorem Ext.lasts {H H':Ac} {w w':World} (h:Ext H w H' w'):Lasts H w H' w':=by
 refine⟨fun b i x hb hc=> ?_,h.size,h.keep⟩;have hl:=Ff4 hc;constructor
 ·cases e:H' b with
  | none=>rfl
  | some o=>
   rcases h.own b (by simp [e]) with h1 | h1
   ·exact(h1 hb).elim
   ·omega
 ·unfold World.cell? at hc⊢
  rw[h.block b hl hb];exact hc
theorem Dfs.ext {H H':Ac} {w w':World} {B:Base} {y:List Deferred} (h:Ext H w H' w') (I:Dfs w H B y):Dfs w' H' B y:=by
 obtain⟨J,h1,h2,h3⟩:=I;refine⟨J,h1,h2,fun D L=> ?_⟩;obtain⟨M,C,E⟩:=h3 D L;have hl:D<w.heap.size:=(Array.getElem?_eq_some_iff.1 C).1;refine⟨M,by rw[h.block D hl E];exact C, ?_⟩;cases e:H' D with
 | none=>rfl
 | some o=>
  rcases h.own D (by simp [e]) with k | k
  ·exact(k E).elim
  ·omega
theorem Dfs.less {H H':Ac} {w:World} {B:Base} {C:List Deferred} (E:Dfs w H B C) (h: ∀b,H' b≠none->H b≠none):Dfs w H' B C:=by
 obtain⟨I,h1,h2,h3⟩:=E;refine⟨I,h1,h2,fun D y=>⟨(h3 D y).1,(h3 D y).2.1, ?_⟩⟩;cases e:H' D with
 | none=>rfl
 | some o=>exact absurd (h3 D y).2.2 (h D (by simp [e]))
theorem Ud.lasts {H H':Ac} {w w':World} (h:Lasts H w H' w') {b o:Nat} {xs:List Value} (C:Ud w H b o xs):Ud w' H' b o xs:=by
 rcases C with rfl | ⟨h1,h2⟩
 ·exact .inl rfl
 ·cases xs with
  | nil=>exact .inl rfl
  | cons x xs=>
   refine .inr ⟨(h.cell b (o+0) x h1 (h2 0 x rfl)).1,fun i y D=>(h.cell b (o+i) y h1 (h2 i y D)).2⟩
mutual
theorem Rel.lasts {H H':Ac} {w w':World} (h:Lasts H w H' w'): ∀(d:DVal) (v:Value),Rel w H d v->Rel w' H' d v
 | .raw _,_,hr=>by simpa [Rel] using hr
 | .bool _,_,hr=>by simpa [Rel] using hr
 | .int _ _,_,hr=>by simpa [Rel] using hr
 | .str _,_,hr=>by simpa [Rel] using hr
 | .nilPtr,_,hr=>by simpa [Rel] using hr
 | .vptr cs off,v,hr=>by
  simp only[Rel] at hr⊢
  obtain⟨b,o,xs,rfl,hc,hl⟩:=hr
  exact⟨b,o,xs,rfl,hc.lasts h,Az.lasts h cs xs hl⟩
 | .optr _ _,_,hr=>by simpa [Rel] using hr
 | .nilSlice,_,hr=>by simpa [Rel] using hr
 | .vslice cs len,v,hr=>by
  simp only[Rel] at hr⊢
  obtain⟨a,cap,rfl,hle,hc⟩:=hr
  refine⟨a,cap,rfl,hle, ?_⟩
  rcases hc with hc | ⟨b,o,xs,rfl,hc,hl⟩
  ·exact .inl hc
  ·exact .inr ⟨b,o,xs,rfl,hc.lasts h,Az.lasts h cs xs hl⟩
 | .oslice sz r off len lo,v,hr=>by
  simp only[Rel] at hr⊢
  obtain⟨o,cap,e,h1,h2,h3,h4⟩:=hr
  exact⟨o,cap,e,h1,h2,h3,h.room h4⟩
 | .nilMap,_,hr=>by simpa [Rel] using hr
 | .omap _,_,hr=>by simpa [Rel] using hr
 | .func fn first captured,v,hr=>by
  simp only[Rel] at hr⊢
  obtain⟨xs,ys,rfl,h1,h2⟩:=hr
  exact⟨xs,ys,rfl,Az.lasts h first _ h1,Az.lasts h captured _ h2⟩
 | .nilFunc,_,hr=>by simpa [Rel] using hr
 | .iface t d,v,hr=>by
  simp only[Rel] at hr⊢
  obtain⟨x,rfl,h1⟩:=hr
  exact⟨x,rfl,Rel.lasts h d x h1⟩
 | .nilIface,_,hr=>by simpa [Rel] using hr
 | .agg cs,v,hr=>by
  simp only[Rel] at hr⊢
  obtain⟨xs,rfl,h1⟩:=hr
  exact⟨xs,rfl,Az.lasts h cs _ h1⟩
 | .tuple cs,v,hr=>by
  simp only[Rel] at hr⊢
  obtain⟨xs,rfl,h1⟩:=hr
  exact⟨xs,rfl,Az.lasts h cs _ h1⟩
theorem Az.lasts {H H':Ac} {w w':World} (h:Lasts H w H' w'): ∀(C:List DVal) (xs:List Value),Az w H C xs->Az w' H' C xs
 | [],_,hr=>by simpa [Az] using hr
 | d::C,xs,hr=>by
  simp only[Az] at hr⊢
  obtain⟨y,ys,rfl,h1,h2⟩:=hr
  exact⟨y,ys,rfl,Rel.lasts h d y h1,Az.lasts h C ys h2⟩
end
theorem Ys.lasts {H H':Ac} {w w':World} (h:Lasts H w H' w'): ∀ {es:List (DVal×DVal)} {ms:List MapEntry},Ys w H es ms->Ys w' H' es ms
 | [],_,hr=>hr
 | p::es,ms,hr=>by
  obtain⟨m,y,rfl,h1,h2,h3⟩:=hr;exact⟨m,y,rfl,Rel.lasts h _ _ h1,Rel.lasts h _ _ h2,Ys.lasts h h3⟩
theorem Af4.lasts {H H':Ac} {w w':World} (h:Lasts H w H' w') {o:DObj} {x:Option Obj} (hr:Af4 w H o x):Af4 w' H' o x:=by
 cases o with
 | cells cs e=>
  obtain⟨xs,c,fz,h1,h2,h3,h4⟩:=hr;exact⟨xs,c,fz,h1,h2,Az.lasts h _ _ h3,h4⟩
 | loop env n r=>
  obtain⟨tmps,h1,h2,h3⟩:=hr;exact⟨tmps,h1,h2,fun i hi=>Rel.lasts h _ _ (h3 i hi)⟩
 | map es=>
  obtain⟨ms,c,h1,h2⟩:=hr;exact⟨ms,c,h1,h2.lasts h⟩
 | iter s pos=>exact hr
theorem Af4.some {H:Ac} {w:World} {o:DObj} {x:Option Obj} (hr:Af4 w H o x): ∃y,x=Option.some y:=by
 cases o with
 | cells cs e=>
  obtain⟨xs,c,fz,h1,h2,h3,h4⟩:=hr;exact⟨_,h1⟩
 | loop env n r=>
  obtain⟨tmps,h1,h2,h3⟩:=hr;exact⟨_,h1⟩
 | map es=>
  obtain⟨ms,c,h1,h2⟩:=hr;exact⟨_,h1⟩
 | iter s pos=>exact⟨_,hr⟩
theorem Ext.refl (H:Ac) (w:World):Ext H w H w:=⟨rfl,rfl,rfl,Nat.le_refl _,fun _ _ _=>rfl,fun _ h=> .inl h,fun _ _=>rfl,fun _ _ _=>rfl⟩
theorem Ext.trans {H H' y:Ac} {w w' C:World} (h:Ext H w H' w') (k:Ext H' w' y C):Ext H w y C:=by
 refine⟨k.os.trans h.os,k.tape.trans h.tape,k.output.trans h.output,Nat.le_trans h.size k.size,fun b hb hn=> ?_,fun b hb=> ?_,fun b hb=>by rw[k.keep b (Nat.lt_of_lt_of_le hb h.size),h.keep b hb],fun a ha hn=>by rw[k.fz a (Nat.lt_of_lt_of_le ha h.size) (by
  cases e:H' a.block with
  | none=>rfl
  | some o=>
   rcases h.own a.block (by simp [e]) with h1 | h1
   ·exact(h1 hn).elim
   ·omega),h.fz a ha hn]⟩
 ·have D:H' b=none:=by
   cases e:H' b with
   | none=>rfl
   | some o=>
    rcases h.own b (by simp [e]) with h1 | h1
    ·exact(h1 hn).elim
    ·omega
  rw[k.block b (Nat.lt_of_lt_of_le hb h.size) D,h.block b hb hn]
 ·rcases k.own b hb with h1 | h1
  ·exact h.own b h1
  ·exact .inr (Nat.le_trans h.size h1)
theorem Az.length {w:World} {H:Ac}: ∀ {C:List DVal} {xs:List Value},Az w H C xs->C.length=xs.length
 | [],_,h=>by simp only[Az] at h;subst h;rfl
 | d::C,xs,h=>by
  simp only[Az] at h;obtain⟨y,ys,rfl,_,h2⟩:=h;simp [Az.length h2]
theorem Az.get {w:World} {H:Ac}: ∀ {C:List DVal} {xs:List Value},Az w H C xs-> ∀ {i:Nat} {d:DVal},C[i]? =some d-> ∃x,xs[i]? =some x/\Rel w H d x
 | [],_,_,i,d,hd=>by simp at hd
 | d::C,xs,h,i,e,hd=>by
  simp only[Az] at h;obtain⟨y,ys,rfl,h1,h2⟩:=h;cases i with
  | zero=>simp at hd;subst hd;exact⟨y,rfl,h1⟩
  | succ i=>simp at hd;obtain⟨x,hx,hr⟩:=Az.get h2 hd;exact⟨x,by simpa using hx,hr⟩
theorem Az.mk {w:World} {H:Ac}: ∀ {y:List DVal} {xs:List Value},y.length=xs.length->(∀(i:Nat) (d:DVal) (x:Value),y[i]? =some d->xs[i]? =some x->Rel w H d x)->Az w H y xs
 | [],[],_,_=>by simp [Az]
 | [],_::_,h,_=>by simp at h
 | _::_,[],h,_=>by simp at h
 | d::y,x::xs,hl,h=>by
  simp only[Az];refine⟨x,xs,rfl,h 0 d x rfl rfl,Az.mk (by simpa using hl) fun i C D h1 h2=>h (i+1) C D (by simpa using h1) (by simpa using h2)⟩
theorem Az.append {w:World} {H:Ac}: ∀ {C es:List DVal} {xs D:List Value},Az w H C xs->Az w H es D->Az w H (C++es) (xs++D)
 | [],_,_,_,h,k=>by simp only[Az] at h;subst h;simpa using k
 | d::C,es,xs,D,h,k=>by
  simp only[Az] at h;obtain⟨y,E,rfl,h1,h2⟩:=h;simp only[jI,Az];exact⟨y,_,rfl,h1,Az.append h2 k⟩
theorem Az.take {w:World} {H:Ac} {C:List DVal} {xs:List Value} (h:Az w H C xs) (n:Nat):Az w H (C.take n) (xs.take n):=by
 have hl:=h.length;refine Az.mk (by simp [hl]) fun i d x h1 h2=> ?_;simp only[List.getElem?_take] at h1 h2;split at h1
 ·rename_i hi
  simp only[hi,if_true] at h2;obtain⟨y,D,hr⟩:=h.get h1;rw[h2] at D;cases D;exact hr
 ·simp at h1
theorem Az.drop {w:World} {H:Ac} {C:List DVal} {xs:List Value} (h:Az w H C xs) (n:Nat):Az w H (C.drop n) (xs.drop n):=by
 have hl:=h.length;refine Az.mk (by simp [hl]) fun i d x h1 h2=> ?_;simp only[List.getElem?_drop] at h1 h2;obtain⟨y,D,hr⟩:=h.get h1;rw[h2] at D;cases D;exact hr
theorem Rel.cells {w:World} {H:Ac} {d:DVal} {v:Value} (h:Rel w H d v):Az w H d.cells v.cells.toList:=by
 cases d<;>simp only[Rel,DVal.cells,Az] at h⊢
 case raw x=>obtain⟨rfl,h⟩:=h;cases v<;>simp_all [Value.cells,Value.oneCell']
 case agg cs=>obtain⟨xs,rfl,hl⟩:=h;simpa [Value.cells] using hl
 case func=>obtain⟨xs,ys,rfl,h1,h2⟩:=h;exact⟨_,_,rfl,⟨xs,ys,rfl,h1,h2⟩,rfl⟩
 case vptr=>obtain⟨b,o,xs,rfl,h1,h2⟩:=h;exact⟨_,_,rfl,⟨b,o,xs,rfl,h1,h2⟩,rfl⟩
 case vslice=>obtain⟨a,cap,rfl,h1,h2⟩:=h;exact⟨_,_,rfl,⟨a,cap,rfl,h1,h2⟩,rfl⟩
 case oslice=>obtain⟨o,cap,rfl,h1⟩:=h;exact⟨_,_,rfl,⟨o,cap,rfl,h1⟩,rfl⟩
 case iface=>obtain⟨x,rfl,h1⟩:=h;exact⟨_,_,rfl,⟨x,rfl,h1⟩,rfl⟩
 case tuple=>obtain⟨xs,rfl,h1⟩:=h;exact⟨_,_,rfl,⟨xs,rfl,h1⟩,rfl⟩
 all_goals (subst h;exact⟨_,_,rfl,rfl,rfl⟩)
mutual
def Fe:Value->DVal
 | .bool b=> .bool b
 | .int k n=> .int k n
 | .string ⟨⟨l⟩⟩=> .str l
 | .pointer none=> .nilPtr
 | .slice none 0 0=> .nilSlice
 | .map none=> .nilMap
 | .nilFunc=> .nilFunc
 | .nilIface=> .nilIface
 | .func fn ⟨a⟩ ⟨c⟩=> .func fn (Ix a) (Ix c)
 | .agg ⟨l⟩=> .agg (Ix l)
 | .tuple ⟨l⟩=> .tuple (Ix l)
 | v=> .raw v
def Ix:List Value->List DVal
 | []=> []
 | v::vs=>Fe v::Ix vs
end
def Ho (env:Nat->DVal) (dst:Option Nat) (v:DVal):Nat->DVal:=
 match dst with
 | some d=>upd env d v
 | none=>env
def Fa:DVal:= .tuple []
def dev (G:Nat->DVal) (env:Nat->DVal):Operand->DVal
 | .tmp t=>env t
 | .const v=>Fe v
 | .global g=>G g
 | .func f=> .func (.func f) [] []
def Hf (G:Nat->DVal) (env:Nat->DVal):List Operand->List DVal
 | []=> []
 | x::xs=>dev G env x::Hf G env xs
def Dy (P:Program) (t:TypeId):Option Bool:=
 match P.underlying t with
 | some (.struct _) | some (.array _ _)=>some true
 | some _=>some false
 | none=>none
def Ew (P:Program) (t:TypeId):Bool:=
 match P.underlying t with
 | some (.struct fs)=>fs.toList.all fun f=>(P.info? f.type).isSome
 | some (.array _ e)=>(P.info? e).isSome
 | _=>false
abbrev DK:=DS->Prop
def Bs (dst:Option Nat) (v:DVal) (K:DK) (s:DS):Prop:=K ⟨Ho s.env dst v,s.heap⟩
def Vm (dst:Option Nat):Option DVal->DK->DS->Prop
 | some v,K,s=>Bs dst v K s
 | none,_,_=>False
def Ff (cs:List DVal) (e:TypeId) (dst:Option Nat) (K:DK) (s:DS):Prop:=
 ∀r,s.heap r=none->K ⟨Ho s.env dst (.optr r 0),upd s.heap r (some (.cells cs e))⟩
def Bf0 (cs:List DVal) (e:TypeId) (sz len cap:Nat) (dst:Option Nat) (K:DK) (s:DS):Prop:=
 ∀r,s.heap r=none->K ⟨Ho s.env dst (.oslice sz r 0 len cap),upd s.heap r (some (.cells cs e))⟩
def Bm (P:Program) (t:TypeId):Option DVal:=((P.info? t).bind (·.zero)).map Fe
def Ej4 (e:TypeId) (dst:Option Nat):Option DVal->DK->DS->Prop
 | some z,K,s=>Ff z.cells e dst K s
 | none,_,_=>False
def Ck0 (dst:Option Nat):DVal->DVal->DVal->DK->DS->Prop
 | .bool t,a,b,K,s=>Bs dst (if t then a else b) K s
 | _,_,_,_,_=>False
def Xy (place:Nat->Option (Nat×Nat)) (cells:List DVal):List (Nat×DVal)->Option (List DVal)
 | []=>some cells
 | (i,v)::rest=>
  match place i with
  | none=>none
  | some (off,size)=>
   if v.cells.length=size/\off+v.cells.length<=cells.length then Xy place (cells.take off++v.cells++cells.drop (off+v.cells.length)) rest else none
def Cx8 (P:Program) (fields:Array Field) (i:Nat):Option (Nat×Nat):=(fields[i]?).map fun f=>(f.offset,P.cellsOf f.type)
def Bf1 (size:Nat) (i:Nat):Option (Nat×Nat):=some (i*size,size)
def Ca4 (P:Program) (dst:Option Nat):Bool->Option TypeDesc->Option DVal->List (Nat×DVal)->DK->DS->Prop
 | true,some (.struct fields),some z,parts,K,s=>Vm dst ((Xy (Cx8 P fields) z.cells parts).map .agg) K s
 | true,some (.array _ e),some z,parts,K,s=>Vm dst ((Xy (Bf1 (P.cellsOf e)) z.cells parts).map .agg) K s
 | _,_,_,_,_,_=>False
def Cc (n:Nat) (zs:List DVal):List DVal:=(List.replicate n zs).flatten
def Cx9 (e:TypeId) (sz len:Nat) (dst:Option Nat):Option (List DVal)->DK->DS->Prop
 | some cs,K,s=>Bf0 cs e sz len len dst K s
 | none,_,_=>False
def Aj8 (e:TypeId) (size len:Nat) (dst:Option Nat):Option DVal->List (Nat×DVal)->DK->DS->Prop
 | some z,parts,K,s=>len*size<=16777216/\z.cells.length=size/\Cx9 e size len dst (Xy (Bf1 size) (Cc len z.cells) parts) K s
 | none,_,_,_=>False
def Ue (P:Program) (len:Nat) (dst:Option Nat):Option TypeDesc->List (Nat×DVal)->DK->DS->Prop
 | some (.slice e),parts,K,s=>Aj8 e (P.cellsOf e) len dst (Bm P e) parts K s
 | _,_,_,_=>False
def Bf2 (size:Nat) (dst:Option Nat):Option Bool->List DVal->Nat->DK->DS->Prop
 | some true,cs,off,K,s=>off+size<=cs.length/\Bs dst (.agg ((cs.drop off).take size)) K s
 | some false,cs,off,K,s=>Vm dst cs[off]? K s
 | none,_,_,_,_=>False
def Ca5 (size:Nat) (ag:Option Bool) (dst:Option Nat) (off:Nat):Option DObj->DK->DS->Prop
 | some (.cells cs _),K,s=>Bf2 size dst ag cs off K s
 | _,_,_=>False
def Bu7 (size:Nat) (ag:Option Bool) (dst:Option Nat):DVal->DK->DS->Prop
 | .vptr cs off,K,s=>Bf2 size dst ag cs off K s
 | .optr r off,K,s=>Ca5 size ag dst off (s.heap r) K s
 | _,_,_=>False
def Cn (cs:List DVal) (off:Nat) (vs:List DVal):List DVal:=cs.take off++vs++cs.drop (off+vs.length)
def Dm3 (size:Nat) (r off:Nat) (v:DVal):Option DObj->DK->DS->Prop
 | some (.cells cs e),K,s=>v.cells.length=size/\(v.cells.all (·.one))=true/\off+size<=cs.length/\
   K ⟨s.env,upd s.heap r (some (.cells (Cn cs off v.cells) e))⟩
 | _,_,_=>False
def Ca6 (size:Nat):Option Nat->DVal->DVal->DK->DS->Prop
 | none, .optr r off,v,K,s=>Dm3 size r off v (s.heap r) K s
 | _,_,_,_,_=>False
def Ab8 (dst:Option Nat):DVal->DK->DS->Prop
 | .vptr cs off,K,s=>Bs dst (.vptr cs off) K s
 | .optr r off,K,s=>Bs dst (.optr r off) K s
 | .func (.func f) a c,K,s=>Bs dst (.func (.func f) a c) K s
 | .iface t v,K,s=>Bs dst (.iface t v) K s
 | .omap r,K,s=>Bs dst (.omap r) K s
 | _,_,_=>False
def Yj (c:Bool):Option TypeDesc->DVal->DVal->Option Bool
 | some .bool, .bool a, .bool b=>some (a==b)
 | some (.pointer _), .nilPtr, .nilPtr=>some true
 | some (.pointer _), .nilPtr, .optr _ _=>some false
 | some (.pointer _), .nilPtr, .vptr _ _=>some false
 | some (.pointer _), .optr _ _, .nilPtr=>some false
 | some (.pointer _), .vptr _ _, .nilPtr=>some false
 | some (.interface _), .nilIface, .iface _ _=>some false
 | some (.interface _), .iface _ _, .nilIface=>some false
 | some (.interface _), .nilIface, .nilIface=>if c then some true else none
 | some (.func _ _ _), .nilFunc, .nilFunc=>some true
 | some (.func _ _ _), .func _ _ _, .nilFunc=>some false
 | some (.func _ _ _), .nilFunc, .func _ _ _=>some false
 | some (.slice _), .nilSlice, .nilSlice=>some true
 | some (.slice _), .oslice _ _ _ _ _, .nilSlice=>some false
 | some (.slice _), .nilSlice, .oslice _ _ _ _ _=>some false
 | _,_,_=>none
def Fy6:Option Bool->Option Bool->Option Bool
 | some true,b=>b
 | some false,some _=>some false
 | _,_=>none
def Jh (size off:Nat) (xs:List DVal):Option Bool->List DVal
 | some true=>(xs.drop off).take size
 | some false=>(xs.drop off).take 1
 | none=> []
def Gs7:DVal->DVal->Option Bool
 | .bool a, .bool b=>some (decide (a=b))
 | .int k a, .int k' b=>if k=k' then some (decide (a=b)) else none
 | .str a, .str b=>some (decide (a=b))
 | _,_=>none
def Dm4 (f:TypeId->Nat->Option Bool):List Field->Option Bool
 | []=>some true
 | x::fs=>if x.name≠ "_" then Fy6 (f x.type x.offset) (Dm4 f fs) else none
def Ck1 (f:Nat->Option Bool):List Nat->Option Bool
 | []=>some true
 | i::is=>Fy6 (f i) (Ck1 f is)
def Ck2:List DVal->List DVal->Option Bool
 | [.bool a],[.bool b]=>some (decide (a=b))
 | _,_=>none
def Dm5:List DVal->List DVal->Option Bool
 | [.int k a],[.int k' b]=>if k=k' then some (decide (a=b)) else none
 | _,_=>none
def Dm6:List DVal->List DVal->Option Bool
 | [.str a],[.str b]=>some (decide (a=b))
 | _,_=>none
def Fv2 (P:Program) (f:TypeId->List DVal->List DVal->Option Bool) (fs:List Field) (xs ys:List DVal):Bool->Option Bool
 | true=>none
 | false=>Dm4 (fun u off=>f u (Jh (P.cellsOf u) off xs (Dy P u)) (Jh (P.cellsOf u) off ys (Dy P u))) fs
def Ae4 (P:Program) (f:TypeId->List DVal->List DVal->Option Bool) (t:TypeId) (xs ys:List DVal):Option TypeDesc->Option Bool
 | some .bool=>Ck2 xs ys
 | some (.int _)=>Dm5 xs ys
 | some .string=>Dm6 xs ys
 | some (.struct fs)=>Fv2 P f fs.toList xs ys (P.stoodInHeld t)
 | some (.array m e)=>if(P.info? e).isSome then Ck1 (fun i=>f e (Jh (P.cellsOf e) (i*P.cellsOf e) xs (Dy P e)) (Jh (P.cellsOf e) (i*P.cellsOf e) ys (Dy P e))) (List.range m) else none
 | _=>none
def Ar5 (P:Program):Nat->TypeId->List DVal->List DVal->Option Bool
 | 0,_,_,_=>none
 | n+1,t,xs,ys=>Ae4 P (Ar5 P n) t xs ys (P.underlying t)
def Bd3 (k:IntKind) (a b:Int) (dst:Option Nat) (K:DK) (s:DS):BinOp->Prop
 | .add=>Bs dst (.int k (k.wrap (a+b))) K s
 | .sub=>Bs dst (.int k (k.wrap (a-b))) K s
 | .mul=>Bs dst (.int k (k.wrap (a*b))) K s
 | .quo=>b≠0/\Bs dst (.int k (k.wrap (a.tdiv b))) K s
 | .rem=>b≠0/\Bs dst (.int k (a.tmod b)) K s
 | .and=>Bs dst (.int k (k.wrap (BitVec.ofInt k.bits a&&&BitVec.ofInt k.bits b).toNat)) K s
 | .or=>Bs dst (.int k (k.wrap (BitVec.ofInt k.bits a ||| BitVec.ofInt k.bits b).toNat)) K s
 | .xor=>Bs dst (.int k (k.wrap (BitVec.ofInt k.bits a^^^BitVec.ofInt k.bits b).toNat)) K s
 | .andNot=>Bs dst (.int k (k.wrap (BitVec.ofInt k.bits a&&& ~~~BitVec.ofInt k.bits b).toNat)) K s
 | .eql=>Bs dst (.bool (decide (a=b))) K s
 | .neq=>Bs dst (.bool (!decide (a=b))) K s
 | .lss=>Bs dst (.bool (decide (a<b))) K s
 | .leq=>Bs dst (.bool (decide (a<=b))) K s
 | .gtr=>Bs dst (.bool (decide (b<a))) K s
 | .geq=>Bs dst (.bool (decide (b<=a))) K s
 | _=>False
def Ca7 (k:IntKind) (a b:Int) (dst:Option Nat) (K:DK) (s:DS):BinOp->Prop
 | .shl=>0<=b/\Bs dst (.int k (k.wrap (a*2^(min b.toNat k.bits)))) K s
 | .shr=>0<=b/\Bs dst (.int k (a.fdiv (2^(min b.toNat k.bits)))) K s
 | _=>False
def Aj9 (a b:List UInt8) (dst:Option Nat) (K:DK) (s:DS):BinOp->Prop
 | .add=>a.length+b.length<=9223372036854775807/\Bs dst (.str (a++b)) K s
 | .eql=>Bs dst (.bool (decide (a=b))) K s
 | .neq=>Bs dst (.bool (!decide (a=b))) K s
 | .lss=>Bs dst (.bool (Go.Op.bytesLess a b)) K s
 | .leq=>Bs dst (.bool (Go.Op.bytesLess a b || decide (a=b))) K s
 | .gtr=>Bs dst (.bool (!(Go.Op.bytesLess a b || decide (a=b)))) K s
 | .geq=>Bs dst (.bool (!Go.Op.bytesLess a b)) K s
 | _=>False
def Tu:BinOp->Option Bool
 | .eql=>some false
 | .neq=>some true
 | _=>none
def Sr (dst:Option Nat):Option Bool->Option Bool->DK->DS->Prop
 | some false,some b,K,s=>Bs dst (.bool b) K s
 | some true,some b,K,s=>Bs dst (.bool (!b)) K s
 | _,_,_,_=>False
def Gt:BinOp->Bool
 | .shl | .shr=>true
 | _=>false
def Dm7 (op:BinOp) (k k':IntKind) (a b:Int) (dst:Option Nat) (K:DK) (s:DS):Bool->Prop
 | true=>Ca7 k a b dst K s op
 | false=>k=k'/\Bd3 k a b dst K s op
def Ig:Operand->Bool
 | .const _=>true
 | _=>false
def Rg (P:Program) (t:TypeId) (c:Bool) (op:BinOp) (dst:Option Nat):DVal->DVal->DK->DS->Prop
 | .int k a, .int k' b,K,s=>Dm7 op k k' a b dst K s (Gt op)
 | .str a, .str b,K,s=>Aj9 a b dst K s op
 | .agg xs, .agg ys,K,s=>Dy P t=some true/\P.eqGuardType P.depth t=false/\Sr dst (Tu op) (Ar5 P 6 t xs ys) K s
 | x,y,K,s=>Sr dst (Tu op) (Yj c (P.underlying t) x y) K s
def Ji:Operand->Bool
 | .const (.slice none 0 0)=>true
 | _=>false
def Fy7:Option TypeDesc->Bool
 | some (.slice _)=>true
 | _=>false
def Fv3 (cs:List DVal) (op:BinOp) (dst:Option Nat) (K:DK) (s:DS):Prop:= ∀b,(cs≠ []->b=false)->Sr dst (Tu op) (some b) K s
def Ax9 (P:Program) (t:TypeId) (c:Bool) (op:BinOp) (dst:Option Nat):Bool->DVal->DVal->DK->DS->Prop
 | true, .vslice cs _,_,K,s=>Fy7 (P.underlying t)=true/\Fv3 cs op dst K s
 | _,x,y,K,s=>Rg P t c op dst x y K s
def dUn (dst:Option Nat):UnOp->DVal->DK->DS->Prop
 | .not, .bool b,K,s=>Bs dst (.bool (!b)) K s
 | .neg, .int k n,K,s=>Bs dst (.int k (k.wrap (0-n))) K s
 | .xor, .int k n,K,s=>Bs dst (.int k (k.wrap (BitVec.ofInt k.bits (if k.signed then-1 else k.max)^^^BitVec.ofInt k.bits n).toNat)) K s
 | _,_,_,_=>False
def Ak0 (dst:Option Nat):Option TypeDesc->Option TypeDesc->DVal->DK->DS->Prop
 | some _,some (.int k), .int _ n,K,s=>Bs dst (.int k (k.wrap n)) K s
 | some _,some .string, .str l,K,s=>Bs dst (.str l) K s
 | _,_,_,_,_=>False
def Yt:List DVal->Option (List UInt8)
 | []=>some []
 | .int .u8 n::ds=>(Yt ds).map (UInt8.ofNat n.toNat:: ·)
 | _=>none
def Gk0 (dst:Option Nat):Option (List UInt8)->DK->DS->Prop
 | some l,K,s=>Bs dst (.str l) K s
 | none,_,_=>False
def Dm8 (n off:Nat):Option DObj->Option (List DVal)
 | some (.cells cs _)=>if off+n<=cs.length then some ((cs.drop off).take n) else none
 | _=>none
def Af5 (H:Ac):DVal->Option (List DVal)
 | .nilSlice=>some []
 | .vslice cs n=>if n<=cs.length then some (cs.take n) else none
 | .oslice _ r off n _=>Dm8 n off (H r)
 | _=>none
def Fy8 (P:Program) (e:TypeId) (x:DVal) (dst:Option Nat) (K:DK) (s:DS):Prop:=P.underlying e=some (.int .u8)/\Gk0 dst ((Af5 s.heap x).bind Yt) K s
def Yu (P:Program) (dst:Option Nat):Option TypeDesc->Option TypeDesc->DVal->DK->DS->Prop
 | some (.slice e),some .string,x,K,s=>Fy8 P e x dst K s
 | a,b,x,K,s=>Ak0 dst a b x K s
def Ca8 (dst:Option Nat):Option TypeDesc->DVal->DK->DS->Prop
 | some .string, .str l,K,s=> ∀r,s.heap r=none->K ⟨Ho s.env dst (.optr r 0),upd s.heap r (some (.iter l 0))⟩
 | _,_,_,_=>False
def Ss (l:List UInt8) (pos:Nat):Nat×Nat:=Utf8.decode ⟨⟨l⟩⟩ pos
def Cy0 (r:Nat) (dst:Option Nat) (K:DK) (s:DS):Option DObj->Prop
 | some (.iter l pos)=>(pos<l.length->K ⟨Ho s.env dst (.tuple [.bool true, .int .i64 pos, .int .i32 (Ss l pos).1]),upd s.heap r (some (.iter l (pos+(Ss l pos).2)))⟩)/\
   (¬pos<l.length->Bs dst (.tuple [.bool false]) K s)
 | _=>False
def Dm9 (dst:Option Nat):Bool->DVal->DK->DS->Prop
 | true, .optr r 0,K,s=>Cy0 r dst K s (s.heap r)
 | _,_,_,_=>False
def Fg:Option TypeDesc->Bool
 | some (.interface _) | none=>false
 | _=>true
def Wl (t:TypeId) (x:DVal) (dst:Option Nat):Bool->DK->DS->Prop
 | true,K,s=>Bs dst (.iface t x) K s
 | false,_,_=>False
def Ay0 (e:TypeId) (size bytes:Nat) (l c:Int) (dst:Option Nat):Option DVal->DK->DS->Prop
 | some z,K,s=>0<=l/\l<=c/\c*(bytes:Int)<=35184372088832/\c<9223372036854775808/\z.cells.length=size/\0<size/\Bf0 (Cc c.toNat z.cells) e size l.toNat c.toNat dst K s
 | none,_,_=>False
def Wm (P:Program) (dst:Option Nat):Option TypeDesc->DVal->DVal->DK->DS->Prop
 | some (.slice e), .int _ l, .int _ c,K,s=>Ay0 e (P.cellsOf e) (P.bytesOf e) l c dst (Bm P e) K s
 | _,_,_,_,_=>False
def dLo:Option DVal->Option Int
 | none=>some 0
 | some (.int _ n)=>some n
 | _=>none
def dHi (len:Nat):Option DVal->Option Int
 | none=>some len
 | some (.int _ n)=>some n
 | _=>none
def Ar6 (l:List UInt8) (dst:Option Nat) (K:DK) (s:DS):Option Int->Option Int->Prop
 | some lo,some hi=>0<=lo/\lo<=hi/\hi<=l.length/\Bs dst (.str ((l.drop lo.toNat).take (hi.toNat-lo.toNat))) K s
 | _,_=>False
def Ak1 (size:Nat) (cs:List DVal) (len:Nat) (dst:Option Nat) (K:DK) (s:DS):Option Int->Option Int->Prop
 | some lo,some hi=>0<=lo/\lo<=hi/\hi<=len/\Bs dst (.vslice ((cs.drop (lo.toNat*size)).take ((hi.toNat-lo.toNat)*size)) (hi.toNat-lo.toNat)) K s
 | _,_=>False
def Wn (size r off cap:Nat) (dst:Option Nat) (K:DK) (s:DS):Option Int->Option Int->Option Int->Prop
 | some lo,some hi,some mx=>0<=lo/\lo<=hi/\hi<=mx/\mx<=cap/\Bs dst (.oslice size r (off+lo.toNat*size) (hi.toNat-lo.toNat) (mx.toNat-lo.toNat)) K s
 | _,_,_=>False
def Ca9 (dst:Option Nat) (K:DK) (s:DS):Option Int->Option Int->Prop
 | some lo,some hi=>lo=0/\hi=0/\Bs dst .nilSlice K s
 | _,_=>False
def Fv4 (n:Nat):Option DObj->Prop
 | some (.cells cs _)=>n<=cs.length
 | _=>False
def Ar7 (P:Program) (lo hi:Option DVal) (dst:Option Nat):Option TypeDesc->DVal->Option DVal->DK->DS->Prop
 | some .string, .str l,none,K,s=>Ar6 l dst K s (dLo lo) (dHi l.length hi)
 | some (.slice e), .nilSlice,none,K,s=>(P.info? e).isSome=true/\Ca9 dst K s (dLo lo) (dHi 0 hi)
 | some (.slice e), .vslice cs len,none,K,s=>(P.info? e).isSome=true/\Ak1 (P.cellsOf e) cs len dst K s (dLo lo) (dHi len hi)
 | some (.slice e), .oslice sz r off len cap,none,K,s=>(P.info? e).isSome=true/\sz=P.cellsOf e/\Wn (P.cellsOf e) r off cap dst K s (dLo lo) (dHi len hi) (some cap)
 | some (.slice e), .oslice sz r off _ cap,some m,K,s=>(P.info? e).isSome=true/\sz=P.cellsOf e/\hi.isSome/\Wn (P.cellsOf e) r off cap dst K s (dLo lo) (dLo hi) (dLo (some m))
 | some (.array n e), .optr r off,none,K,s=>(P.info? e).isSome=true/\Fv4 (off+n*P.cellsOf e) (s.heap r)/\Wn (P.cellsOf e) r off n dst K s (dLo lo) (dHi n hi) (some n)
 | some (.array n e), .vptr cs off,none,K,s=>(P.info? e).isSome=true/\off+n*P.cellsOf e<=cs.length/\Ak1 (P.cellsOf e) ((cs.drop off).take (n*P.cellsOf e)) n dst K s (dLo lo) (dHi n hi)
 | _,_,_,_,_=>False
def Bd4 (n:Nat):DVal->Option DVal
 | .vptr cs off=>some (.vptr cs (off+n))
 | .optr r off=>some (.optr r (off+n))
 | _=>none
def Ay1 (P:Program) (x:DVal) (dst:Option Nat):Option Field->DK->DS->Prop
 | some f,K,s=>0<P.cellsOf f.type/\Vm dst (Bd4 f.offset x) K s
 | none,_,_=>False
def Su (P:Program) (f:Nat) (x:DVal) (dst:Option Nat):Option TypeDesc->DK->DS->Prop
 | some (.struct fields),K,s=>Ay1 P x dst fields[f]? K s
 | _,_,_=>False
def Ck3 (size:Nat) (cs:List DVal) (off:Nat) (dst:Option Nat):Option Bool->DK->DS->Prop
 | some true,K,s=>Bs dst (.agg ((cs.drop off).take size)) K s
 | some false,K,s=>Vm dst cs[off]? K s
 | none,_,_=>False
def Dn0 (P:Program) (cs:List DVal) (dst:Option Nat):Option Field->DK->DS->Prop
 | some f,K,s=>Ck3 (P.cellsOf f.type) cs f.offset dst (Dy P f.type) K s
 | none,_,_=>False
def Bf3 (P:Program) (f:Nat) (dst:Option Nat):Option TypeDesc->DVal->DK->DS->Prop
 | some (.struct fields), .agg cs,K,s=>Dn0 P cs dst fields[f]? K s
 | _,_,_,_=>False
def Sv (P:Program) (dst:Option Nat):Option TypeDesc->DVal->DVal->DK->DS->Prop
 | some (.slice e), .vslice cs len, .int _ i,K,s=>(P.info? e).isSome=true/\0<=i/\i<len/\i.toNat*P.cellsOf e<cs.length/\Bs dst (.vptr cs (i.toNat*P.cellsOf e)) K s
 | some (.slice e), .oslice _ r off len _, .int _ i,K,s=>(P.info? e).isSome=true/\0<=i/\i<len/\Bs dst (.optr r (off+i.toNat*P.cellsOf e)) K s
 | some (.array n e),x, .int _ i,K,s=>(P.info? e).isSome=true/\0<=i/\i<n/\Vm dst (Bd4 (i.toNat*P.cellsOf e) x) K s
 | _,_,_,_,_=>False
def Bf4 (P:Program) (dst:Option Nat):Option TypeDesc->DVal->DVal->DK->DS->Prop
 | some (.array n e), .agg cs, .int _ i,K,s=>0<=i/\i<n/\Ck3 (P.cellsOf e) cs (i.toNat*P.cellsOf e) dst (Dy P e) K s
 | some .string, .str l, .int _ i,K,s=>0<=i/\Vm dst (l[i.toNat]?.map fun b=> .int .u8 b.toNat) K s
 | _,_,_,_,_=>False
def Ak2 (i:Nat) (dst:Option Nat):DVal->DK->DS->Prop
 | .tuple vs,K,s=>Vm dst vs[i]? K s
 | _,_,_=>False
def Bf5 (dst:Option Nat):Option DVal->DK->DS->Prop
 | some z,K,s=>Bs dst (.tuple [z, .bool false]) K s
 | none,_,_=>False
def Ar8 (v:DVal) (z:Option DVal) (dst:Option Nat):Bool->Bool->DK->DS->Prop
 | true,true,K,s=>Bs dst (.tuple [v, .bool true]) K s
 | true,false,K,s=>Bf5 dst z K s
 | false,true,K,s=>Bs dst v K s
 | false,false,_,_=>False
def Ql (P:Program) (asserted:TypeId) (commaOk:Bool) (dst:Option Nat):Bool->DVal->DK->DS->Prop
 | true, .iface t v,K,s=>Ar8 v (Bm P asserted) dst commaOk (decide (t=asserted)) K s
 | true, .nilIface,K,s=>commaOk=true/\Bf5 dst (Bm P asserted) K s
 | _,_,_,_=>False
def dLen (dst:Option Nat):Option TypeDesc->DVal->DK->DS->Prop
 | some .string, .str l,K,s=>Bs dst (.int .i64 l.length) K s
 | some (.array n _),_,K,s=>Bs dst (.int .i64 n) K s
 | some (.slice _), .nilSlice,K,s=>Bs dst (.int .i64 0) K s
 | some (.slice _), .vslice _ n,K,s=>Bs dst (.int .i64 n) K s
 | some (.slice _), .oslice _ _ _ n _,K,s=>Bs dst (.int .i64 n) K s
 | _,_,_,_=>False
def Cy1 (P:Program) (x:DVal) (dst:Option Nat):List TypeId->DK->DS->Prop
 | [t],K,s=>dLen dst (P.underlying t) x K s
 | _,_,_=>False
def Bu8 (size n off:Nat):Option DObj->Option (Nat×List DVal)
 | some (.cells cs _)=>some (n,(cs.drop off).take (n*size))
 | _=>none
def Yv (size:Nat) (H:Ac):DVal->Option (Nat×List DVal)
 | .nilSlice=>some (0,[])
 | .vslice cs n=>some (n,cs.take (n*size))
 | .oslice _ r off n _=>Bu8 size n off (H r)
 | .str l=>some (l.length,l.map fun b=> .int .u8 b.toNat)
 | _=>none
def Sw (e:TypeId) (size bytes:Nat) (r off len lo:Nat) (n:Nat) (news:List DVal) (dst:Option Nat) (K:DK) (s:DS):Option DObj->Prop
 | some (.cells cs e')=>e'=e/\
  (len+n<=lo->off+(len+n)*size<=cs.length/\
    K ⟨Ho s.env dst (.oslice size r off (len+n) lo),upd s.heap r (some (.cells (Cn cs (off+len*size) news) e))⟩)/\
  (¬len+n<=lo->off+len*size<=cs.length/\(len+n)*bytes<=35184372088832/\
   ∀r' pre,upd s.heap r none r'=none->(off=0->pre= [])->
    K ⟨Ho s.env dst (.oslice size r' pre.length (len+n) (len+n)),upd (if len<=lo\/r'=r then upd s.heap r none else s.heap) r' (some (.cells (pre++(cs.drop off).take (len*size)++news) e))⟩)
 | _=>False
def Pq (e:TypeId) (size bytes:Nat) (n:Nat) (news:List DVal) (dst:Option Nat):DVal->DK->DS->Prop
 | .nilSlice,K,s=>(n=0->Bs dst .nilSlice K s)/\(n≠0->n*bytes<=35184372088832/\Bf0 news e size n n dst K s)
 | .oslice sz r off len lo,K,s=>sz=size/\Sw e size bytes r off len lo n news dst K s (s.heap r)
 | _,_,_=>False
def Ck4 (e:TypeId) (size bytes:Nat) (x:DVal) (dst:Option Nat):Option (Nat×List DVal)->DK->DS->Prop
 | some (n,news),K,s=>news.length=n*size/\news.all (·.one)=true/\Pq e size bytes n news dst x K s
 | none,_,_=>False
def Ar9:Option TypeDesc->Bool
 | some (.slice _)=>true
 | some .string=>true
 | _=>false
def Bd5 (P:Program) (u':Bool) (x y:DVal) (dst:Option Nat):Option TypeDesc->DK->DS->Prop
 | some (.slice e),K,s=>u'=true/\(Bm P e).isSome=true/\(Bm P e).all (fun z=>z.cells.length=P.cellsOf e)=true/\0<P.cellsOf e/\0<P.bytesOf e/\Ck4 e (P.cellsOf e) (P.bytesOf e) x dst (Yv (P.cellsOf e) s.heap y) K s
 | _,_,_=>False
def Ej5 (dst:Option Nat):Option TypeDesc->DVal->DK->DS->Prop
 | some (.slice _), .nilSlice,K,s=>Bs dst (.int .i64 0) K s
 | some (.slice _), .vslice _ n,K,s=> ∀c:Nat,n<=c->Bs dst (.int .i64 c) K s
 | some (.slice _), .oslice _ _ _ n lo,K,s=> ∀c:Nat,n<=c->lo<=c->Bs dst (.int .i64 c) K s
 | _,_,_,_=>False
def Ej6 (P:Program) (x:DVal) (dst:Option Nat):List TypeId->DK->DS->Prop
 | [t],K,s=>Ej5 dst (P.underlying t) x K s
 | _,_,_=>False
def Bf6 (e:TypeId) (size bytes:Nat) (dst:Option Nat):DVal->DVal->Option DVal->DK->DS->Prop
 | .nilSlice, .int .i64 n,some z,K,s=>0<=n/\0<size/\(n=0->Bs dst .nilSlice K s)/\(n≠0->n*bytes<=35184372088832/\n<=35184372088832/\z.cells.length=size/\Bf0 (Cc n.toNat z.cells) e size n.toNat n.toNat dst K s)
 | _,_,_,_,_=>False
def Dn1 (size:Nat) (r off n:Nat) (dst:Option Nat) (K:DK) (s:DS) (z:List DVal):Option DObj->Prop
 | some (.cells cs e)=>z.length=size/\z.all (·.one)=true/\off+n*size<=cs.length/\K ⟨Ho s.env dst (.tuple []),upd s.heap r (some (.cells (Cn cs off (Cc n z)) e))⟩
 | _=>False
def Cb0 (size:Nat) (dst:Option Nat):Option DVal->DVal->DK->DS->Prop
 | some _, .nilSlice,K,s=>Bs dst (.tuple []) K s
 | some z, .oslice sz r off n lo,K,s=>sz=size/\n<=lo/\Dn1 size r off n dst K s z.cells (s.heap r)
 | _,_,_,_=>False
def Bf7 (P:Program) (dst:Option Nat):Option TypeDesc->DVal->DK->DS->Prop
 | some (.slice e),x,K,s=>Cb0 (P.cellsOf e) dst (Bm P e) x K s
 | _,_,_,_=>False
def Ck5 (P:Program) (x:DVal) (dst:Option Nat):List TypeId->DK->DS->Prop
 | [t],K,s=>Bf7 P dst (P.underlying t) x K s
 | _,_,_=>False
def Pr:Option TypeDesc->Bool
 | some (.int _)=>true
 | _=>false
def Ak3 (P:Program) (x y:DVal) (dst:Option Nat):Option TypeDesc->DK->DS->Prop
 | some (.slice e),K,s=>Bf6 e (P.cellsOf e) (P.bytesOf e) dst x y (Bm P e) K s
 | _,_,_=>False
def Ak4 (P:Program) (x y:DVal) (dst:Option Nat):Bool->Bool->Option TypeDesc->DK->DS->Prop
 | true,_,t,K,s=>Ak3 P x y dst t K s
 | false,u',t,K,s=>Bd5 P u' x y dst t K s
def As0 (P:Program) (x y:DVal) (dst:Option Nat):List TypeId->DK->DS->Prop
 | [t,t'],K,s=>Ak4 P x y dst (Pr (P.underlying t')) (Ar9 (P.underlying t')) (P.underlying t) K s
 | _,_,_=>False
def Yk:DVal->DVal->Option Bool
 | .int k a, .int k' b=>if k=k' then some (decide (a=b)) else none
 | .str a, .str b=>some (decide (a=b))
 | .bool a, .bool b=>some (decide (a=b))
 | .agg [.bool a, .bool b], .agg [.bool c, .bool d]=>some (decide (a=c)&&decide (b=d))
 | _,_=>none
def Yw (i:Nat) (r:Option (Option Nat)):Option Bool->Option (Option Nat)
 | some true=>some (some i)
 | some false=>r
 | none=>none
def Mz (k:DVal):List (DVal×DVal)->Nat->Option (Option Nat)
 | [],_=>some none
 | p::es,i=>Yw i (Mz k es (i+1)) (Yk k p.1)
def Uf:Option TypeDesc->DVal->Bool
 | some (.int k), .int k' _=>decide (k=k')
 | some .string, .str _=>true
 | some .bool, .bool _=>true
 | _,_=>false
def Dn2:Option TypeDesc->Bool
 | some .bool=>true
 | _=>false
def Bu9 (P:Program):Option TypeDesc->Bool
 | some (.array 2 e)=>Dn2 (P.underlying e)&&(P.info? e).isSome&&P.cellsOf e==1
 | _=>false
def Yx (P:Program) (t:Option TypeDesc):DVal->Bool
 | .agg [.bool _, .bool _]=>Bu9 P t
 | k=>Uf t k
def Dn3 (es:List (DVal×DVal)) (k v:DVal):Option Nat->List (DVal×DVal)
 | some i=>es.set i (k,v)
 | none=>es++ [(k,v)]
def Ak5 (r:Nat) (es:List (DVal×DVal)) (k v:DVal) (K:DK) (s:DS):Option (Option Nat)->Prop
 | some i=>K ⟨s.env,upd s.heap r (some (.map (Dn3 es k v i)))⟩
 | none=>False
def Bf8 (r:Nat) (k v:DVal) (K:DK) (s:DS):Option DObj->Prop
 | some (.map es)=>v.one=true/\Ak5 r es k v K s (Mz k es 0)
 | _=>False
def Ab9 (P:Program) (dst:Option Nat):Option TypeDesc->DVal->DVal->DVal->DK->DS->Prop
 | some (.map kt _), .omap r,k,v,K,s=>dst=none/\Yx P (P.underlying kt) k=true/\Bf8 r k v K s (s.heap r)
 | _,_,_,_,_,_=>False
def Cy2 (ok:Bool) (dst:Option Nat) (v:DVal) (b:Bool) (K:DK) (s:DS):Prop:=Bs dst (if ok then .tuple [v, .bool b] else v) K s
def Bf9 (es:List (DVal×DVal)) (ok:Bool) (dst:Option Nat):Option DVal->Option (Option Nat)->DK->DS->Prop
 | _,some (some i),K,s=> ∃p,es[i]? =some p/\Cy2 ok dst p.2 true K s
 | some z,some none,K,s=>Cy2 ok dst z false K s
 | _,_,_,_=>False
def Cy3 (z:Option DVal) (k:DVal) (ok:Bool) (dst:Option Nat):Option DObj->DK->DS->Prop
 | some (.map es),K,s=>Bf9 es ok dst z (Mz k es 0) K s
 | _,_,_=>False
def Bd6 (P:Program) (ok:Bool) (dst:Option Nat):Option TypeDesc->DVal->DVal->DK->DS->Prop
 | some (.map kt e), .omap r,k,K,s=>Yx P (P.underlying kt) k=true/\Cy3 (Bm P e) k ok dst (s.heap r) K s
 | some (.map kt e), .nilMap,k,K,s=>Yx P (P.underlying kt) k=true/\Bf9 [] ok dst (Bm P e) (some none) K s
 | _,_,_,_,_=>False
def Ck6 (es:List (DVal×DVal)):Option Nat->List (DVal×DVal)
 | some i=>es.eraseIdx i
 | none=>es
def Bg0 (r:Nat) (es:List (DVal×DVal)) (dst:Option Nat) (K:DK) (s:DS):Option (Option Nat)->Prop
 | some i=>K ⟨Ho s.env dst (.tuple []),upd s.heap r (some (.map (Ck6 es i)))⟩
 | none=>False
def Bg1 (r:Nat) (k:DVal) (dst:Option Nat) (K:DK) (s:DS):Option DObj->Prop
 | some (.map es)=>Bg0 r es dst K s (Mz k es 0)
 | _=>False
def Ak6 (P:Program) (dst:Option Nat):Option TypeDesc->DVal->DVal->DK->DS->Prop
 | some (.map kt _), .omap r,k,K,s=>Yx P (P.underlying kt) k=true/\Bg1 r k dst K s (s.heap r)
 | _,_,_,_,_=>False
def Bv0 (P:Program) (x k:DVal) (dst:Option Nat):List TypeId->DK->DS->Prop
 | t::_,K,s=>Ak6 P dst (P.underlying t) x k K s
 | _,_,_=>False
def Fv5 (dst:Option Nat) (K:DK) (s:DS):Prop:=
 ∀r,s.heap r=none->K ⟨Ho s.env dst (.omap r),upd s.heap r (some (.map []))⟩
def Yy (dst:Option Nat):Option TypeDesc->Option DVal->DK->DS->Prop
 | some (.map _ _),none,K,s=>Fv5 dst K s
 | some (.map _ _),some (.int _ _),K,s=>Fv5 dst K s
 | _,_,_,_=>False
def dMM (isMax:Bool):DVal->DVal->Option DVal
 | .int k x, .int _ y=>some (.int k (if isMax then(if y>x then y else x) else(if y<x then y else x)))
 | _,_=>none
def Yz (isMax:Bool):Option DVal->List DVal->Option DVal
 | a,[]=>a
 | some x,y::ys=>Yz isMax (dMM isMax x y) ys
 | none,_=>none
def Ac0 (isMax:Bool):List DVal->Option DVal
 | []=>none
 | x::rest=>Yz isMax (some x) rest
def Cy4 (dst:Option Nat) (K:DK) (Q:DExit->DS->Prop) (env:Nat->DVal):DEnd->Ac->Prop
 | .ret v,H=>K ⟨Ho env dst v,H⟩
 | .panic v,H=>Q (.panic v) ⟨env,H⟩
def Bg2 (P:Program) (G:Nat->DVal) (args:List DVal) (dst:Option Nat) (Q:DExit->DS->Prop):DVal->DK->DS->Prop
 | .func (.func k) first captured,K,s=>Af P G k (first++args++captured) s.heap (Cy4 dst K Q s.env)
 | .func (.yield l) [] [],K,s=>Bd2 P G l args s.heap (Cy4 dst K Q s.env)
 | _,_,_=>False
def Af6 (Q:DExit->DS->Prop) (s:DS):DVal->Prop
 | .iface t v=>Q (.panic (.iface t v)) s
 | _=>False
def Na (P:Program) (ts:List TypeId) (dst:Option Nat) (Q:DExit->DS->Prop):Builtin->List DVal->DK->DS->Prop
 | .len,[x],K,s=>Cy1 P x dst ts K s
 | .append,[x,y],K,s=>As0 P x y dst ts K s
 | .cap,[x],K,s=>Ej6 P x dst ts K s
 | .clear,[x],K,s=>Ck5 P x dst ts K s
 | .delete,[x,k],K,s=>Bv0 P x k dst ts K s
 | .min,xs,K,s=>Vm dst (Ac0 false xs) K s
 | .max,xs,K,s=>Vm dst (Ac0 true xs) K s
 | .panic,[x],_,s=>Af6 Q s x
 | _,_,_,_=>False
def Wo (P:Program) (G:Nat->DVal) (c:Call) (dst:Option Nat) (K:DK) (Q:DExit->DS->Prop) (s:DS):Callee->Prop
 | .value f=>Bg2 P G (Hf G s.env c.args.toList) dst Q (dev G s.env f) K s
 | .builtin b=>Na P c.argTypes.toList dst Q b (Hf G s.env c.args.toList) K s
 | .invoke _ _=>False
def Ms (G:Nat->DVal) (env:Nat->DVal):List (Nat×Operand)->List (Nat×DVal)
 | []=> []
 | (i,x)::ps=>(i,dev G env x)::Ms G env ps
def Rh (G:Nat->DVal) (env:Nat->DVal):Option Operand->Option DVal
 | some x=>some (dev G env x)
 | none=>none
def dop (P:Program) (G:Nat->DVal) (dst:Option Nat) (K:DK) (Q:DExit->DS->Prop) (s:DS):Op->Prop
 | .move x=>Bs dst (dev G s.env x) K s
 | .assign x=>Bs dst (dev G s.env x) K s
 | .pick c a b=>Ck0 dst (dev G s.env c) (dev G s.env a) (dev G s.env b) K s
 | .alloc e=>Ej4 e dst (Bm P e) K s
 | .box e x=>Ff (dev G s.env x).cells e dst K s
 | .build t ps=>Ca4 P dst (Ew P t) (P.underlying t) (Bm P t) (Ms G s.env ps.toList) K s
 | .buildSlice t n ps=>Ue P n dst (P.underlying t) (Ms G s.env ps.toList) K s
 | .load t a=>Bu7 (P.cellsOf t) (Dy P t) dst (dev G s.env a) K s
 | .store t a x=>(P.info? t).isSome=true/\Ca6 (P.cellsOf t) dst (dev G s.env a) (dev G s.env x) K s
 | .nilCheck x=>Ab8 dst (dev G s.env x) K s
 | .binOp op t x y _=>Ax9 P t (Ig x || Ig y) op dst (Ji y) (dev G s.env x) (dev G s.env y) K s
 | .unOp op _ x=>dUn dst op (dev G s.env x) K s
 | .convert src t x=>Yu P dst (P.underlying src) (P.underlying t) (dev G s.env x) K s
 | .makeInterface t x=>Wl t (dev G s.env x) dst (Fg (P.underlying t)) K s
 | .makeFunc fn fs cs=>Bs dst (.func fn (Hf G s.env fs.toList) (Hf G s.env cs.toList)) K s
 | .makeMap t r=>Yy dst (P.underlying t) (Rh G s.env r) K s
 | .lookup t x k ok=>Bd6 P ok dst (P.underlying t) (dev G s.env x) (dev G s.env k) K s
 | .mapUpdate t m k x=>Ab9 P dst (P.underlying t) (dev G s.env m) (dev G s.env k) (dev G s.env x) K s
 | .insert t m k x=>Ab9 P dst (P.underlying t) (dev G s.env m) (dev G s.env k) (dev G s.env x) K s
 | .makeSlice t l c=>Wm P dst (P.underlying t) (dev G s.env l) (dev G s.env c) K s
 | .slice t x lo hi mx=>Ar7 P (Rh G s.env lo) (Rh G s.env hi) dst (P.underlying t) (dev G s.env x) (Rh G s.env mx) K s
 | .fieldAddr t x f=>Su P f (dev G s.env x) dst (P.underlying t) K s
 | .field t x f=>Bf3 P f dst (P.underlying t) (dev G s.env x) K s
 | .indexAddr t x i=>Sv P dst (P.underlying t) (dev G s.env x) (dev G s.env i) K s
 | .index t x i=>Bf4 P dst (P.underlying t) (dev G s.env x) (dev G s.env i) K s
 | .typeAssert x _ t ok=>Ql P t ok dst (Fg (P.underlying t)) (dev G s.env x) K s
 | .extract x i=>Ak2 i dst (dev G s.env x) K s
 | .panic x=>Af6 Q s (dev G s.env x)
 | .range t x=>Ca8 dst (P.underlying t) (dev G s.env x) K s
 | .next x b=>Dm9 dst b (dev G s.env x) K s
 | .call c=>Wo P G c dst K Q s c.callee
 | _=>False
def Ug:List Oper->Nat->Option Nat
 | [],_=>none
 | o::_,0=>o.dst
 | _::r,n+1=>Ug r n
def Rx (P:Program) (G:Nat->DVal) (all:List Oper) (Q:DExit->DS->Prop):List Oper->DS->Prop
 | [],s=>Q .normal s
 | o::rest,s=>
  match o.guard with
  | none=>dop P G o.dst (Rx P G all Q rest) Q s o.op
  | some (j,b)=>match Ug all j with
   | some g=>match s.env g with
    | .bool v=>(v=b->dop P G o.dst (Rx P G all Q rest) Q s o.op)/\(v≠b->Bs o.dst Fa (Rx P G all Q rest) s)
    | .tuple []=>Bs o.dst Fa (Rx P G all Q rest) s
    | _=>False
   | none=>False
def As1 (P:Program) (G:Nat->DVal) (all:List Oper) (Q:DExit->DS->Prop) (dst:Option Nat) (op:Op) (rest:List Oper) (s:DS):Bool->DVal->Prop
 | true, .bool true=>dop P G dst (Rx P G all Q rest) Q s op
 | true, .bool false=>Bs dst Fa (Rx P G all Q rest) s
 | false, .bool true=>Bs dst Fa (Rx P G all Q rest) s
 | false, .bool false=>dop P G dst (Rx P G all Q rest) Q s op
 | true, .tuple []=>Bs dst Fa (Rx P G all Q rest) s
 | false, .tuple []=>Bs dst Fa (Rx P G all Q rest) s
 | _,_=>False
def Cb1 (P:Program) (G:Nat->DVal) (all:List Oper) (Q:DExit->DS->Prop) (dst:Option Nat) (op:Op) (rest:List Oper) (s:DS) (b:Bool):Option Nat->Prop
 | some g=>As1 P G all Q dst op rest s b (s.env g)
 | none=>False
def Ay2 (W:DK) (Q:DExit->DS->Prop):DExit->DS->Prop
 | .normal,s=>W s
 | .exit id,s=>Q (.exit id) s
 | .goto l,s=>Q (.goto l) s
 | .ret,s=>Q .ret s
 | .panic v,s=>Q (.panic v) s
def Cb2 (Q:DExit->DS->Prop) (s:DS) (id':Nat):Bool->Prop
 | true=>Q .normal s
 | false=>Q (.exit id') s
def Cb3 (id:Nat) (Q:DExit->DS->Prop):DExit->DS->Prop
 | .exit id',s=>Cb2 Q s id' (decide (id'=id))
 | .normal,s=>Q .normal s
 | .goto l,s=>Q (.goto l) s
 | .ret,s=>Q .ret s
 | .panic v,s=>Q (.panic v) s
def Dn4 (Q:DExit->DS->Prop):DExit->DS->Prop
 | .goto _,_=>False
 | .exit id,s=>Q (.exit id) s
 | .normal,s=>Q .normal s
 | .ret,s=>Q .ret s
 | .panic v,s=>Q (.panic v) s
def Ck7 (X Y:DK) (s:DS):DVal->Prop
 | .bool true=>X s
 | .bool false=>Y s
 | _=>False
def Ri (G:Nat->DVal) (s s':DS):Prop:=
 ∀w,Bj w s.heap->GOk G w s.heap->Bj w s'.heap/\(∀b,s'.heap b≠none->s.heap b≠none)/\GOk G w s'.heap/\ ∀i x,Rel w s.heap (s.env i) x->Rel w s'.heap (s'.env i) x
def Dn5 (G:Nat->DVal) (body:(DExit->DS->Prop)->DK) (Q:DExit->DS->Prop) (s:DS):Prop:=
 ∃(ι:Type) (I:ι->DS->Prop) (μ:ι->Nat),(∃i s',Ri G s s'/\I i s')/\ ∀i s,I i s->body (Ay2 (fun s1=> ∃j s2,Ri G s1 s2/\I j s2/\μ j<μ i) Q) s
def dwp (P:Program) (G:Nat->DVal) (N:Nat):Code->(DExit->DS->Prop)->DS->Prop
 | .skip,Q,s=>Q .normal s
 | .label _,Q,s=>Q .normal s
 | .region _ ops false,Q,s=>Rx P G ops.toList Q ops.toList s
 | .region id ops true,Q,s=>DWp P G N (.region id ops true) Q s
 | .seq a b,Q,s=>dwp P G N a (Ay2 (dwp P G N b Q) Q) s
 | .cond c a b,Q,s=>Ck7 (dwp P G N a Q) (dwp P G N b Q) s (dev G s.env c)
 | .block id c,Q,s=>dwp P G N c (Cb3 id Q) s
 | .loop c,Q,s=>Dn5 G (dwp P G N c) Q s
 | .exit id,Q,s=>Q (.exit id) s
 | .goto l,Q,s=>Q (.goto l) s
 | .ret,Q,s=>Q .ret s
 | .rangeFunc f ps asg body,Q,s=>Gj9 P G N (.rangeFunc f ps asg body) Q s
 | .scope c,Q,s=>dwp P G N c (Dn4 Q) s
 | .refuse _,_,_=>False
def Ca (N:Nat):Operand->Bool
 | .tmp t=>decide (t<N)
 | _=>true
def Ll (N:Nat) (o:Oper):Bool:=
 (match o.dst with | some d=>decide (d<N) | none=>true)&&o.op.operands.all (Ca N)
def Im (N:Nat):Code->Bool
 | .region _ ops _=>ops.all (Ll N)
 | .seq a b=>Im N a&&Im N b
 | .cond c a b=>Ca N c&&Im N a&&Im N b
 | .block _ c=>Im N c
 | .loop c=>Im N c
 | .scope c=>Im N c
 | .rangeFunc f _ a b=>Ca N f&&Im N a&&Im N b
 | _=>true
@[go_sem] theorem Gj6 (P:Program) (t:Option TypeDesc) (k:IntKind) (n:Int):Yx P t (.int k n)=Uf t (.int k n):=rfl
@[go_sem] theorem Gj7 (P:Program) (t:Option TypeDesc) (l:List UInt8):Yx P t (.str l)=Uf t (.str l):=rfl
@[go_sem] theorem Fy9 (P:Program) (t:Option TypeDesc) (b:Bool):Yx P t (.bool b)=Uf t (.bool b):=rfl
theorem Uh {P:Program} {s:DS} {t:TypeId} {c:Bool} {op:BinOp} {dst:Option Nat} {x y:DVal} {K:DK}:Ax9 P t c op dst false x y K s=Rg P t c op dst x y K s:=by cases x<;>rfl
section
variable {P:Program} {G:Nat->DVal} {N:Fr}
mutual
theorem Gu (w:World) (H:Ac): ∀v:Value,Rel w H (Fe v) v
 | .bool b=>by simp [Fe,Rel]
 | .int k n=>by simp [Fe,Rel]
 | .string ⟨⟨l⟩⟩=>by simp [Fe,Rel]
 | .pointer none=>by simp [Fe,Rel]
 | .pointer (some a)=>by simp [Fe,Rel,Value.oneCell']
 | .slice a n c=>by
  by_cases h:a=none/\n=0/\c=0
  ·obtain⟨rfl,rfl,rfl⟩:=h;simp [Fe,Rel]
  ·have:Fe (.slice a n c)= .raw (.slice a n c):=by
    cases a with
    | none=>cases n with
     | zero=>cases c with
      | zero=>simp at h
      | succ c=>rfl
     | succ n=>rfl
    | some a=>rfl
   rw[this];simp [Rel,Value.oneCell']
 | .map none=>by simp [Fe,Rel]
 | .map (some r)=>by simp [Fe,Rel,Value.oneCell']
 | .chan r=>by simp [Fe,Rel,Value.oneCell']
 | .float k b=>by simp [Fe,Rel,Value.oneCell']
 | .complex k a b=>by simp [Fe,Rel,Value.oneCell']
 | .nilFunc=>by simp [Fe,Rel]
 | .nilIface=>by simp [Fe,Rel]
 | .iface t v=>by simp [Fe,Rel,Value.oneCell']
 | .func fn ⟨a⟩ ⟨c⟩=>by
  simp only[Fe,Rel]
  exact⟨_,_,rfl,Sx w H a,Sx w H c⟩
 | .agg ⟨l⟩=>by
  simp only[Fe,Rel]
  exact⟨_,rfl,Sx w H l⟩
 | .tuple ⟨l⟩=>by
  simp only[Fe,Rel]
  exact⟨_,rfl,Sx w H l⟩
theorem Sx (w:World) (H:Ac): ∀vs:List Value,Az w H (Ix vs) vs
 | []=>by simp [Ix,Az]
 | v::vs=>by
  simp only[Ix,Az]
  exact⟨v,vs,rfl,Gu w H v,Sx w H vs⟩
end
theorem Wp (w:World) (H:Ac):Rel w H Fa undef:=by
 simp only[Fa,undef,Rel];exact⟨#[],rfl,by simp [Az]⟩
theorem Br {s:DS} {a:Act} {w:World} (h:Sim G N s a w) {x:Operand} (hx:Ca N x=true):Rel w s.heap (dev G s.env x) (a.eval x):=by
 cases x with
 | tmp t=>exact h.tmps t (by simpa [Ca] using hx)
 | const v=>exact Gu w s.heap v
 | global g=>exact h.glob.rel g
 | func f=>
  simp only[dev,Act.eval,Rel];exact⟨#[], #[],rfl,by simp [Az],by simp [Az]⟩
theorem Sy {s:DS} {a:Act} {w:World} (y:Sim G N s a w): ∀ {xs:List Operand},xs.all (Ca N)=true->Az w s.heap (Hf G s.env xs) (xs.map a.eval)
 | [],_=>by simp [Hf,Az]
 | x::xs,h=>by
  simp only[List.all_cons,jF] at h;simp only[Hf,Az,jN];exact⟨_,_,rfl,Br y h.1,Sy y h.2⟩
def Da (N:Nat):Option Nat->Bool
 | some d=>decide (d<N)
 | none=>true
theorem GOk.lasts {H H':Ac} {w w':World} (h:Lasts H w H' w') (y:GOk G w H):GOk G w' H':=⟨fun g=>Rel.lasts h _ _ (y.rel g),fun g cs e=>by
 have k:=y.exact g cs e;rw[h.keep g ?_];exact k;rcases Nat.lt_or_ge g w.heap.size with hl | hl
 ·exact hl
 ·rw[Array.getElem?_eq_none hl] at k;cases k⟩
theorem Sim.ext {s:DS} {a:Act} {w w':World} {H':Ac} (h:Sim G N s a w) (y:Ext s.heap w H' w') (C:Bj w' H'):Sim G N ⟨s.env,H'⟩ a w':=
 ⟨h.size,h.defers.ext y,fun i hi=>Rel.lasts y.lasts _ _ (h.tmps i hi),C,h.glob.lasts y.lasts,Nat.le_trans h.base y.size⟩
theorem Sim.put {s:DS} {a:Act} {w:World} (h:Sim G N s a w) {dst:Option Nat} (C:Da N dst=true) {v:DVal} {x:Value} (hv:Rel w s.heap v x):
  Sim G N ⟨Ho s.env dst v,s.heap⟩ (a.put dst x) w:=by
 cases dst with
 | none=>exact h
 | some d=>
  have D:d<N:=by simpa [Da] using C
  refine⟨by simpa [Act.put] using h.size,by simpa [Act.put] using h.defers,fun i hi=> ?_,h.heap,h.glob,h.base⟩;have y:=h.size;simp only[Act.put,Ho,upd];by_cases e:i=d
  ·subst e;have:(a.tmps.setIfInBounds i x).getD i undef=x:=by simp [Array.getD,y,hi]
   rw[this,if_pos rfl];exact hv
  ·have h1:(a.tmps.setIfInBounds d x).getD i undef=a.tmps.getD i undef:=by
    simp [Array.getD,y,hi,Array.getElem_setIfInBounds,Ne.symm e]
   rw[h1,if_neg e];exact h.tmps i hi
def Ik (G:Nat->DVal) (N:Fr) (K:DK) (s:DS) (w:World):Act->World->Prop:=
 fun a' w'=> ∃s',K s'/\Sim G N s' a' w'/\Ext s.heap w s'.heap w'
def Ro (G:Nat->DVal) (N:Fr) (Q:DExit->DS->Prop) (s:DS) (w:World):Exit->Act->World->Prop:=
 fun e a' w'=> ∃e' s',Q e' s'/\RelX w' s'.heap e' e/\Sim G N s' a' w'/\Ext s.heap w s'.heap w'
variable {o:Oper} {s:DS} {a:Act} {w:World} {K:DK} {Qx:Exit->Act->World->Prop}
theorem In {w':World} {H':Ac} {v:DVal} {x:Value} (y:Sim G N s a w) (C:Da N o.dst=true) (D:(execOp a.eval o).run P w= .ok (.value x) w')
  (h:Ext s.heap w H' w') (E:Bj w' H') (hv:Rel w' H' v x) (I:K ⟨Ho s.env o.dst v,H'⟩):o.wp P a w (Ik G N K s w) Qx:=by
 unfold Oper.wp;rw[D];exact⟨_,I,(y.ext h E).put C hv,h⟩
theorem Ko {v:DVal} {x:Value} (h:Sim G N s a w) (y:Da N o.dst=true) (C:(execOp a.eval o).run P w= .ok (.value x) w)
  (hv:Rel w s.heap v x) (D:Bs o.dst v K s):o.wp P a w (Ik G N K s w) Qx:=
 In h y C (Ext.refl _ _) h.heap hv D
def PV (P:Program) (o:Oper) (s:DS) (a:Act) (w:World) (K:DK):Prop:=
 ∃d x,(execOp a.eval o).run P w= .ok (.value x) w/\Rel w s.heap d x/\Bs o.dst d K s
theorem pvI {v:DVal} {x:Value} (_hS:Sim G N s a w) (_hd:Da N o.dst=true) (h:(execOp a.eval o).run P w= .ok (.value x) w)
  (hv:Rel w s.heap v x) (y:Bs o.dst v K s):PV P o s a w K:=⟨v,x,h,hv,y⟩
theorem PV.wp (h:PV P o s a w K) (y:Sim G N s a w) (C:Da N o.dst=true):o.wp P a w (Ik G N K s w) Qx:=by
 obtain⟨d,x,h1,h2,h3⟩:=h;exact Ko y C h1 h2 h3
theorem Wq {k:IntKind} {n:Int} (h:Sim G N s a w) (y:Da N o.dst=true) (C:(execOp a.eval o).run P w= .ok (.value (.int k n)) w) (D:Bs o.dst (.int k n) K s):PV P o s a w K:=
 pvI h y C (by simp [Rel]) D
theorem Bd7 {b:Bool} (h:Sim G N s a w) (y:Da N o.dst=true) (C:(execOp a.eval o).run P w= .ok (.value (.bool b)) w) (D:Bs o.dst (.bool b) K s):PV P o s a w K:=
 pvI h y C (by simp [Rel]) D
theorem Ext.drawn {H:Ac} {w w':World} {H':Ac} (h:Ext H w H' w') (n:Nat):Ext H w H' { w' with drawn:=n }:=⟨h.os,h.tape,h.output,h.size,h.block,h.own,h.keep,fun a ha hn=>h.fz a ha hn⟩
theorem Ck8 (H:Ac) (w:World) (n:Nat):Lasts H w H { w with drawn:=n }:=⟨fun b i x hb hc=>⟨hb,hc⟩,Nat.le_refl _,fun _ _=>rfl⟩
theorem Bj.drawn {w:World} {H:Ac} (n:Nat) (h:Bj w H):Bj { w with drawn:=n } H:=by
 intro r o ho;exact(h r o ho).lasts (Ck8 H w n)
theorem Bj.lt {H:Ac} (C:Bj w H) {r:Nat} (h:H r≠none):r<w.heap.size:=by
 cases e:H r with
 | none=>exact(h e).elim
 | some o=>
  obtain⟨y,h1⟩:=(C r o e).some;rcases Nat.lt_or_ge r w.heap.size with hl | hl
  ·exact hl
  ·rw[Array.getElem?_eq_none hl] at h1;cases h1
theorem Bj.fresh {H:Ac} (h:Bj w H):H w.heap.size=none:=by
 cases e:H w.heap.size with
 | none=>rfl
 | some o=>exact absurd (h.lt (r:=w.heap.size) (by simp [e])) (by omega)
theorem Ac1 {H:Ac} (C:Bj w H) (c:Array Value) (e:TypeId) (o':Option DObj):Ext H w (upd H w.heap.size o') (w.alloc (.cells c e)):=by
 have h: ∀b,b<w.heap.size->(w.alloc (.cells c e)).heap[b]? =w.heap[b]? :=fun b hb=>by
  show(w.heap.push (.cells c e))[b]? =_;rw[Array.getElem?_push,if_neg (by omega)]
 refine⟨rfl,rfl,rfl,by simp,fun b hb _=>h b hb,fun b hb=> ?_,fun b hb=>by rw[h b hb],fun a _ _=> ?_⟩
 ·by_cases y:b=w.heap.size
  ·exact .inr (by omega)
  ·simp only[upd,if_neg y] at hb;exact .inl hb
 ·exact Go.RowKit.frozen?_alloc_cells w c e a
theorem Vb {H:Ac} (h:Bj w H) {cs:List DVal} {xs:List Value} (y:Az w H cs xs) (c:Array Value) (hx:xs<+:c.toList) (e:TypeId):
  Bj (w.alloc (.cells c e)) (upd H w.heap.size (some (.cells cs e))):=by
 have hE:=Ac1 h c e (some (.cells cs e));intro r o ho;by_cases hr:r=w.heap.size
 ·subst hr;simp only[upd,if_pos] at ho;cases ho;refine⟨xs,c,(0,0), ?_,hx,Az.lasts hE.lasts _ _ y,fun i _=>by simp⟩;show(w.heap.push _)[w.heap.size]? =_;simp
 ·simp only[upd,if_neg hr] at ho;have C:r<w.heap.size:=h.lt (by simp [ho]);have hb:(w.alloc (.cells c e)).heap[r]? =w.heap[r]? :=by
   show(w.heap.push _)[r]? =_;rw[Array.getElem?_push,if_neg (by omega)]
  rw[hb];exact(h r o ho).lasts hE.lasts
theorem Dn6 (h:Sim G N s a w) (y:Da N o.dst=true) {cs:List DVal} {c:Array Value} {e:TypeId}
  (C:(execOp a.eval o).run P w= .ok (.value (.pointer (some ⟨w.heap.size,0,none⟩))) (w.alloc (.cells c e)))
  (D:Az w s.heap cs c.toList) (E:Ff cs e o.dst K s):o.wp P a w (Ik G N K s w) Qx:=
 In h y C (Ac1 h.heap _ _ _) (Vb h.heap D c (List.prefix_refl _) e) (by simp [Rel]) (E _ h.heap.fresh)
theorem Ak7 (h:Sim G N s a w) (C:Da N o.dst=true) {cs:List DVal} {xs:List Value} {c:Array Value} {e:TypeId} {sz len lo cap n:Nat} (D:lo<=cap) (E:len<=cap) (M:cap*sz<=c.size)
  (I:(execOp a.eval o).run P w= .ok (.value (.slice (some ⟨w.heap.size,0,none⟩) len cap)) { w.alloc (.cells c e) with drawn:=n })
  (J:Az w s.heap cs xs) (hx:xs<+:c.toList) (L:Bf0 cs e sz len lo o.dst K s):o.wp P a w (Ik G N K s w) Qx:=by
 refine In h C I ((Ac1 h.heap _ _ _).drawn n) ((Vb h.heap J c hx e).drawn n) ?_ (L _ h.heap.fresh);simp only[Rel];refine⟨0,cap,rfl,D,E, .inr rfl, ?_⟩;constructor
 ·show w.heap.size<(w.alloc _).heap.size;simp
 ·intro k hk;have:(w.alloc (.cells c e)).heap[w.heap.size]? =some (.cells c e):=by
   show(w.heap.push _)[w.heap.size]? =_;simp
  have y:Pk (w.alloc (.cells c e)).heap[w.heap.size]? =some k:=hk;rw[this] at y;simp [Pk] at y;omega
theorem Me (b off n:Nat):Addr.add ⟨b,off,none⟩ n=⟨b,off+n,none⟩:=by
 unfold Addr.add;split<;>simp_all
def Rp (w:World) (b off:Nat) (xs:List Value):Prop:= ∀i x,xs[i]? =some x->w.cell? ⟨b,off+i,none⟩=some x
theorem Ud.holds {H:Ac} {b off:Nat} {xs:List Value} (h:Ud w H b off xs):Rp w b off xs:=by
 rcases h with rfl | ⟨_,h⟩
 ·intro i x hx;simp at hx
 ·exact h
theorem Rp.drop {b off n:Nat} {xs:List Value} (h:Rp w b off xs):Rp w b (off+n) (xs.drop n):=by
 intro i x hx;rw[List.getElem?_drop] at hx;have:=h _ _ hx
 rwa [<-Nat.add_assoc] at this
theorem Rp.take {b off n:Nat} {xs:List Value} (h:Rp w b off xs):Rp w b off (xs.take n):=by
 intro i x hx;rw[List.getElem?_take] at hx;split at hx
 ·exact h _ _ hx
 ·cases hx
theorem Fu {b off:Nat} {xs:List Value} (h:Rp w b off xs):(loadCells ⟨b,off,none⟩ xs.length).run P w= .ok xs.toArray w:=
 run_loadCells_list w ⟨b,off,none⟩ xs fun j v hv=>by rw[Me];exact h j v hv
theorem Bj.holds {H:Ac} (h:Bj w H) {r:Nat} {cs:List DVal} {e:TypeId} (hr:H r=some (.cells cs e)): ∃xs,Az w H cs xs/\Rp w r 0 xs:=by
 obtain⟨xs,c,fz,h1,h2,h3,_⟩:=h r _ hr;refine⟨xs,h3,fun i x hx=> ?_⟩;have hp:c.toList[i]? =some x:=by
  obtain⟨t,ht⟩:=h2;rw[<-ht,List.getElem?_append_left]
  ·exact hx
  ·rcases Nat.lt_or_ge i xs.length with hl | hl
   ·exact hl
   ·rw[List.getElem?_eq_none hl] at hx;cases hx
 simp only[World.cell?,h1,Nat.zero_add,Option.isSome_none,Bool.false_eq_true,if_false];simpa using hp
theorem Nx {t:TypeId} {b:Bool} (h:Dy P t=some b):(isAgg t).run P w= .ok b w:=by
 unfold Dy at h;cases hu:P.underlying t with
 | none=>simp [hu] at h
 | some d=>
  simp only[isAgg,Sem.run_bind,run_underlying hu,Result.andThen_ok];rw[hu] at h;cases d<;>simp at h<;>subst h<;>rfl
theorem Af7 {t:TypeId} {d:TypeDesc} (h:P.underlying t=some d):(P.info? t).isSome=true:=by
 unfold Program.underlying at h;cases hi:P.info? t with
 | none=>simp [hi] at h
 | some i=>rfl
theorem Ui {t:TypeId} {b:Bool} (h:Dy P t=some b):(P.info? t).isSome=true:=by
 unfold Dy at h;cases hu:P.underlying t with
 | none=>simp [hu] at h
 | some d=>exact Af7 hu
theorem Dd {t:TypeId} (h:(P.info? t).isSome=true):(sizeOf t).run P w= .ok (P.cellsOf t) w:=by
 cases hi:P.info? t with
 | none=>simp [hi] at h
 | some i=>simp [sizeOf,typeInfo,program,hi,Program.cellsOf,Sem.run]
theorem Ry {t:TypeId} {i:TypeInfo} (h:P.info? t=some i):(typeInfo t).run P w= .ok i w:=by
 simp [typeInfo,program,h,Sem.run]
theorem Ej7 {t:TypeId} {z:DVal} (h:Bm P t=some z): ∃v,(zeroValue t).run P w= .ok v w/\z=Fe v:=by
 unfold Bm at h;cases hi:P.info? t with
 | none=>simp [hi] at h
 | some i=>
  cases hz:i.zero with
  | none=>simp [hi,hz] at h
  | some v=>
   simp [hi,hz] at h;exact⟨v,by simp [zeroValue,Ry hi,hz],h.symm⟩
theorem Xz {t:TypeId} (h:Dy P t=some true) {b off:Nat} {xs:List Value} (hx:Rp w b off xs) (hl:xs.length=P.cellsOf t):
  (loadVar t ⟨b,off,none⟩).run P w= .ok (.agg xs.toArray) w:=by
 simp only[loadVar,Sem.run_bind,Nx h,Result.andThen_ok,if_true];simp only[Dd (Ui h),Result.andThen_ok,<-hl,Fu hx,Sem.run_bind,Sem.run_pure]
theorem Ya {t:TypeId} (h:Dy P t=some false) {b off:Nat} {x:Value} (hx:w.cell? ⟨b,off,none⟩=some x):
  (loadVar t ⟨b,off,none⟩).run P w= .ok x w:=by
 simp [loadVar,Nx h,hx]
end
section
variable {P:Program} {G:Nat->DVal} {N:Fr}
variable {o:Oper} {s:DS} {a:Act} {w:World} {K:DK} {Qx:Exit->Act->World->Prop}
theorem Kg {dst:Option Nat} {v:Option DVal} (h:Vm dst v K s): ∃d,v=some d/\Bs dst d K s:=by
 cases v with
 | none=>exact h.elim
 | some d=>exact⟨d,rfl,h⟩
theorem Fz0 (y:Sim G N s a w) (C:Da N o.dst=true) {x:Operand} (hx:Ca N x=true) (he:o.op= .move x) (h:Bs o.dst (dev G s.env x) K s):PV P o s a w K:=
 pvI y C (by simp [execOp,he]) (Br y hx) h
theorem Ej8 (y:Sim G N s a w) (C:Da N o.dst=true) {x:Operand} (hx:Ca N x=true) (he:o.op= .assign x) (h:Bs o.dst (dev G s.env x) K s):PV P o s a w K:=
 pvI y C (by simp [execOp,he]) (Br y hx) h
theorem Fz1 (C:Sim G N s a w) (D:Da N o.dst=true) {c x y:Operand} (E:Ca N c=true) (hx:Ca N x=true) (I:Ca N y=true) (he:o.op= .pick c x y)
  (h:Ck0 o.dst (dev G s.env c) (dev G s.env x) (dev G s.env y) K s):PV P o s a w K:=by
 have r:=Br C E;cases hcv:dev G s.env c<;>rw[hcv] at h r<;>try exact h.elim
 rename_i t
 simp only[Rel] at r;simp only[Ck0] at h;refine pvI C D (x:=if t then a.eval x else a.eval y) (by simp [execOp,he,r,asBool]) ?_ h;cases t
 ·exact Br C I
 ·exact Br C hx
theorem Mf {H:Ac} {d:DVal} {v:Value} (h:Rel w H d v):Az w H d.cells v.cells.toList:=Rel.cells h
theorem Ff5 (y:Sim G N s a w) (C:Da N o.dst=true) {e:TypeId} (he:o.op= .alloc e) (h:Ej4 e o.dst (Bm P e) K s):o.wp P a w (Ik G N K s w) Qx:=by
 cases hz:Bm P e with
 | none=>rw[hz] at h;exact h.elim
 | some z=>
  rw[hz] at h;obtain⟨v,hv,rfl⟩:=Ej7 (w:=w) hz;refine Dn6 y C (c:=v.cells) ?_ ?_ h
  ·simp [execOp,he,Instr.alloc,hv,newVar,newRow]
  ·exact Mf (Gu w s.heap v)
theorem Gk1 (y:Sim G N s a w) (C:Da N o.dst=true) {e:TypeId} {x:Operand} (hx:Ca N x=true) (he:o.op= .box e x)
  (h:Ff (dev G s.env x).cells e o.dst K s):o.wp P a w (Ik G N K s w) Qx:=
 Dn6 y C (c:=(a.eval x).cells) (by simp [execOp,he,Instr.box,newVar,newRow]) (Mf (Br y hx)) h
theorem Dn7 {size:Nat} {y:Option Bool} {t:TypeId} (D:Dy P t=y) (E:P.cellsOf t=size) {b off:Nat} {cs:List DVal} {xs:List Value} {H:Ac} (hr:Az w H cs xs) (hh:Rp w b off xs) {i:Nat} {dst:Option Nat}
  (h:Bf2 size dst y cs i K s): ∃d x,(loadVar t ⟨b,off+i,none⟩).run P w= .ok x w/\Rel w H d x/\Bs dst d K s:=by
 subst E;cases y with
 | none=>exact h.elim
 | some y=>
  cases y with
  | true=>
   obtain⟨hle,C⟩:=h;have hx:Rp w b (off+i) ((xs.drop i).take (P.cellsOf t)):=hh.drop.take;have hl:((xs.drop i).take (P.cellsOf t)).length=P.cellsOf t:=by
    have:=hr.length;simp;omega
   refine⟨_,_,Xz D hx hl, ?_,C⟩;simp only[Rel];exact⟨_,rfl,(hr.drop i).take _⟩
  | false=>
   obtain⟨d,hd,C⟩:=Kg h;obtain⟨x,hx,I⟩:=hr.get hd;exact⟨d,x,Ya D (hh i x hx),I,C⟩
theorem Fz2 (C:Sim G N s a w) (J:Da N o.dst=true) {t:TypeId} {x:Operand} (hx:Ca N x=true) (he:o.op= .load t x)
  (h:Bu7 (P.cellsOf t) (Dy P t) o.dst (dev G s.env x) K s):PV P o s a w K:=by
 have r:=Br C hx;cases hv:dev G s.env x<;>rw[hv] at h r<;>try exact h.elim
 case vptr cs off=>
  simp only[Rel] at r;obtain⟨b,o',xs,hp,hc,hl⟩:=r;obtain⟨d,y,D,E,I⟩:=Dn7 (P:=P) (t:=t) rfl rfl hl hc.holds h;refine pvI C J ?_ E I;simp [execOp,he,hp,Instr.loadAt,Instr.sureAddr,D]
 case optr r0 off=>
  simp only[Rel] at r;simp only[Bu7] at h;cases hh:s.heap r0 with
  | none=>rw[hh] at h;exact h.elim
  | some ob=>
   rw[hh] at h;cases ob with
   | loop=>exact h.elim
   | iter=>exact h.elim
   | map=>exact h.elim
   | cells cs e=>
    obtain⟨xs,hl,L⟩:=C.heap.holds hh;obtain⟨d,y,D,E,I⟩:=Dn7 (P:=P) (t:=t) rfl rfl hl L h;refine pvI C J ?_ E I;simp only[Nat.zero_add] at D;simp [execOp,he,r,Instr.loadAt,Instr.sureAddr,D]
theorem Np (r off:Nat) (e:TypeId) (fz:Nat×Nat): ∀(vs:List Value) (i:Nat) (c:Array Value) (w:World),w.heap[r]? =some (.cells c e fz)->off+i+vs.length<=c.size->
  (∀v∈vs,v.oneCell'=true)->(∀j,j<c.size-> ¬(fz.1<=j/\j<fz.2))->
  ∃(w':World) (h:Array Value),(storeCells ⟨r,off,none⟩ vs i).run P w= .ok () w'/\w'.heap[r]? =some (.cells h e fz)/\h.toList=c.toList.take (off+i)++vs++c.toList.drop (off+i+vs.length)/\
   (∀b,b≠r->w'.heap[b]? =w.heap[b]?)/\w'.heap.size=w.heap.size/\w'.os=w.os/\w'.tape=w.tape/\w'.output=w.output
 | [],i,c,w,hc,hl,_,_=>⟨w,c,by simp [storeCells],hc,by simp,fun _ _=>rfl,rfl,rfl,rfl,rfl⟩
 | v::vs,i,c,w,hc,hl,h1,hf=>by
  simp only[jA] at hl;have hi:off+i<c.size:=by omega
  have y:w.cell? ⟨r,off+i,none⟩=some c[off+i]:=by simp [World.cell?,hc,hi]
  have C:w.frozen? ⟨r,off+i,none⟩=false:=by
   have:=hf (off+i) hi;obtain⟨lo,Y⟩:=fz;simp [World.frozen?,hc];intro h2;have:=fun h3=>this ⟨h2,h3⟩;simp at this;omega
  have D:(w.setCell ⟨r,off+i,none⟩ v).heap[r]? =some (.cells (c.setIfInBounds (off+i) v) e fz):=by
   simp [World.setCell,Array.getElem?_modify,hc]
  obtain⟨w',h,E,I,J,L,M,O,S,U⟩:=Np r off e fz vs (i+1) (c.setIfInBounds (off+i) v) _ D (by simp;omega) (fun u hu=>h1 u (List.mem_cons_of_mem _ hu)) (by simpa using hf);refine⟨w',h, ?_,I, ?_,fun b hb=> ?_,by rw[M];simp,O,S,U⟩
  ·simp only[storeCells,Sem.run_bind,Me,run_store P w _ v _ (h1 v (List.mem_cons_self ..)),y,C];simpa using E
  ·rw[J];have V:off+i<c.toList.length:=by simpa using hi
   rw[Array.toList_setIfInBounds,jA,<-Nat.add_assoc];have e1:(c.toList.set (off+i) v).take (off+i+1)=c.toList.take (off+i)++ [v]:=by
    rw[List.take_set,List.take_succ_eq_append_getElem V,List.set_append_right _ _ (by simp;omega)];have W:off+i-min (off+i) c.size=0:=by omega
    simp [W]
   have X:(c.toList.set (off+i) v).drop (off+i+1+vs.length)=c.toList.drop (off+i+(vs.length+1)):=by
    rw[List.drop_set,if_pos (by omega)];congr 1;omega
   rw[e1,X];simp
  ·rw[L b hb];exact Go.RowKit.Below.heap_setCell _ _ _ _ hb
theorem Bg3 {H:Ac}: ∀ {C:List DVal} {xs:List Value},Az w H C xs->C.all (·.one)=true-> ∀x∈xs,x.oneCell'=true
 | [],_,h,_,x,hx=>by simp only[Az] at h;subst h;simp at hx
 | d::C,xs,h,h1,x,hx=>by
  simp only[Az] at h;obtain⟨y,ys,rfl,hr,hl⟩:=h;simp only[List.all_cons,jF] at h1;rcases List.mem_cons.1 hx with rfl | hx
  ·cases d<;>simp only[Rel,DVal.one] at hr h1<;>try (simp at h1;done)
   case raw v=>obtain⟨rfl,_⟩:=hr;exact h1.1
   case vptr=>obtain⟨_,_,_,rfl,_⟩:=hr;rfl
   case vslice=>obtain⟨_,_,rfl,_⟩:=hr;rfl
   case oslice=>obtain⟨_,_,rfl,_⟩:=hr;rfl
   case func=>obtain⟨_,_,rfl,_⟩:=hr;rfl
   case iface=>obtain⟨_,rfl,_⟩:=hr;rfl
   all_goals (subst hr;rfl)
  ·exact Bg3 hl h1.2 x hx
theorem As2 {H:Ac} (M:Bj w H) {r off:Nat} {cs y:List DVal} {e:TypeId} (hr:H r=some (.cells cs e)) {vs:List Value} (hv:Az w H y vs) (h1:y.all (·.one)=true) (ac:off+y.length<=cs.length):
  ∃w',(storeCells ⟨r,off,none⟩ vs 0).run P w= .ok () w'/\Bj w' (upd H r (some (.cells (Cn cs off y) e)))/\Ext H w (upd H r (some (.cells (Cn cs off y) e))) w':=by
 obtain⟨xs,c,fz,E,V,I,O⟩:=M r _ hr;obtain⟨S,U⟩:=V;have ad:=I.length;have W:=hv.length;have hcs:c.size=xs.length+S.length:=by rw[<-Array.length_toList,<-U];simp
 obtain⟨w',c',X,J,L,C,ae,Y,Z,aa⟩:=Np (P:=P) r off e fz vs 0 c w E (by omega) (Bg3 hv h1) O;have hE:Ext H w (upd H r (some (.cells (Cn cs off y) e))) w':=by
  have ab:c'.size=c.size:=by
   rw[<-Array.length_toList,L];simp;omega
  refine⟨Y,Z,aa,by omega,fun b hb hn=>C b (fun h=>by subst h;rw[hr] at hn;cases hn),fun b hb=> ?_,fun b hb=> ?_,fun a _ _=>by
   unfold World.frozen?;by_cases h:a.block=r
   ·rw[h,J,E]
   ·rw[C _ h]⟩
  rotate_left
  ·by_cases h:b=r
   ·subst h;rw[J,E];simp [Pk,ab]
   ·rw[C b h]
  by_cases h:b=r
  ·subst h;exact .inl (by rw[hr];simp)
  ·simp only[upd,if_neg h] at hb;exact .inl hb
 refine⟨w',X,fun r' o' D=> ?_,hE⟩;by_cases h:r'=r
 ·subst h;simp only[upd,if_pos] at D;cases D;refine⟨xs.take off++vs++xs.drop (off+vs.length),c',fz,J, ?_, ?_, ?_⟩
  ·refine⟨S, ?_⟩;rw[L,<-U,Nat.add_zero,List.take_append_of_le_length (by omega),List.drop_append_of_le_length (by omega)];simp
  ·have e0:Cn cs off y=cs.take off++y++cs.drop (off+vs.length):=by unfold Cn;rw[W]
   have e1:=((Az.lasts hE.lasts _ _ (I.take off)).append (Az.lasts hE.lasts _ _ hv)).append (Az.lasts hE.lasts _ _ (I.drop (off+vs.length)));rw[<-e0] at e1;exact e1
  ·have:c'.size=c.size:=by
    rw[<-Array.length_toList,L];simp;omega
   rw[this];exact O
 ·simp only[upd,if_neg h] at D;rw[C r' h];exact(M r' o' D).lasts hE.lasts
theorem Ff6 (C:Sim G N s a w) {t:TypeId} {x y:Operand} (hx:Ca N x=true) (E:Ca N y=true) (he:o.op= .store t x y)
  (h:(P.info? t).isSome=true/\Ca6 (P.cellsOf t) o.dst (dev G s.env x) (dev G s.env y) K s):o.wp P a w (Ik G N K s w) Qx:=by
 obtain⟨hi,h⟩:=h;have r:=Br C hx;have I:=Br C E;cases hv:dev G s.env x<;>rw[hv] at h r<;>(try (cases hdst:o.dst<;>rw[hdst] at h<;>exact h.elim))
 rename_i r0 off
 cases hdst:o.dst with
 | some d=>rw[hdst] at h;exact h.elim
 | none=>
  rw[hdst] at h;simp only[Rel] at r;simp only[Ca6] at h;cases hh:s.heap r0 with
  | none=>rw[hh] at h;exact h.elim
  | some ob=>
   rw[hh] at h;cases ob with
   | loop=>exact h.elim
   | iter=>exact h.elim
   | map=>exact h.elim
   | cells cs e=>
    obtain⟨hl,h1,hle,J⟩:=h;have D:=Mf I;obtain⟨w',L,M,hE⟩:=As2 (P:=P) C.heap hh D h1 (off:=off) (by omega);have O:(a.eval y).cells.size=P.cellsOf t:=by rw[<-hl,D.length];simp
    unfold Oper.wp;have:(execOp a.eval o).run P w= .ok .skip w':=by
     simp [execOp,he,r,Instr.storeAt,Instr.sureAddr,storeVar,Dd hi,O,L]
    rw[this];show Ik G N K s w (a.put o.dst undef) w';rw[hdst];exact⟨_,J,C.ext hE M,hE⟩
end
end Go.Dl
-- THE DATA LEVEL, PART P: further operatio
namespace Go.Dl
open Go
set_option maxHeartbeats 40000
section
variable {P:Program} {G:Nat->DVal} {N:Fr}
variable {o:Oper} {s:DS} {a:Act} {w:World} {K:DK} {Qx:Exit->Act->World->Prop}
theorem Cy5 (y:Sim G N s a w) (C:Da N o.dst=true) {x:Operand} (hx:Ca N x=true) (he:o.op= .nilCheck x)
  (h:Ab8 o.dst (dev G s.env x) K s):PV P o s a w K:=by
 have r:=Br y hx;have r':=r;cases hv:dev G s.env x<;>rw[hv] at h r r'<;>try exact h.elim
 case vptr cs off=>
  simp only[Rel] at r;obtain⟨b,o',xs,hp,hc,hl⟩:=r;exact pvI y C (x:=a.eval x) (by simp [execOp,he,hp]) r' h
 case optr r0 off=>
  simp only[Rel] at r;exact pvI y C (x:=a.eval x) (by simp [execOp,he,r]) r' h
 case omap r0=>
  simp only[Rel] at r;exact pvI y C (x:=a.eval x) (by simp [execOp,he,r]) r' h
 case iface t0 v0=>
  simp only[Rel] at r;obtain⟨D,hp,_⟩:=r;exact pvI y C (x:=a.eval x) (by simp [execOp,he,hp]) r' h
 case func fn f c=>
  simp only[Rel] at r;obtain⟨xs,ys,hp,_,_⟩:=r;cases fn<;>try exact h.elim
  exact pvI y C (x:=a.eval x) (by simp [execOp,he,hp]) r' h
theorem Cy6 (y:Sim G N s a w) (C:Da N o.dst=true) {fn:Fn} {fs cs:Array Operand} (hf:fs.toList.all (Ca N)=true) (D:cs.toList.all (Ca N)=true) (he:o.op= .makeFunc fn fs cs)
  (h:Bs o.dst (.func fn (Hf G s.env fs.toList) (Hf G s.env cs.toList)) K s):PV P o s a w K:=by
 refine pvI y C (x:= .func fn (fs.map a.eval) (cs.map a.eval)) (by simp [execOp,he,Instr.makeFunc]) ?_ h;simp only[Rel];exact⟨_,_,rfl,by simpa using Sy y hf,by simpa using Sy y D⟩
theorem Ck9 (y:Sim G N s a w) (C:Da N o.dst=true) {t:TypeId} {x:Operand} (hx:Ca N x=true) (he:o.op= .makeInterface t x)
  (h:Wl t (dev G s.env x) o.dst (Fg (P.underlying t)) K s):PV P o s a w K:=by
 cases hn:Fg (P.underlying t) with
 | false=>rw[hn] at h;exact h.elim
 | true=>
  rw[hn] at h;cases hu:P.underlying t with
  | none=>rw[hu] at hn;simp [Fg] at hn
  | some d=>
   refine pvI y C (x:= .iface t (a.eval x)) ?_ ?_ h
   ·rw[hu] at hn;cases d<;>simp [Fg] at hn<;>simp [execOp,he,Instr.makeInterface,run_underlying hu]
   ·simp only[Rel];exact⟨_,rfl,Br y hx⟩
theorem Dt6 (C:Sim G N s a w) (D:Da N o.dst=true) {x:Operand} {i:Nat} (hx:Ca N x=true) (he:o.op= .extract x i)
  (h:Ak2 i o.dst (dev G s.env x) K s):PV P o s a w K:=by
 have r:=Br C hx;cases hv:dev G s.env x<;>rw[hv] at h r<;>try exact h.elim
 simp only[Rel] at r;obtain⟨xs,hp,hl⟩:=r;obtain⟨d,E,I⟩:=Kg h;obtain⟨y,J,L⟩:=hl.get E;refine pvI C D ?_ L I;have:xs[i]? =some y:=by simpa using J
 simp [execOp,he,hp,Instr.extract,this]
theorem Fz3 (y:Sim G N s a w) (C:Da N o.dst=true) {op:UnOp} {t:TypeId} {x:Operand} (hx:Ca N x=true) (he:o.op= .unOp op t x)
  (h:dUn o.dst op (dev G s.env x) K s):PV P o s a w K:=by
 have r:=Br y hx;cases hv:dev G s.env x<;>rw[hv] at h r<;>cases op<;>(try exact h.elim)<;>simp only[Rel] at r<;>simp only[dUn] at h
 ·exact pvI y C (by simp [execOp,he,r,Op.unary];rfl) (by simp [Rel]) h
 ·exact pvI y C (by simp [execOp,he,r,Op.unary,Op.intArith];rfl) (by simp [Rel]) h
 ·exact pvI y C (by simp [execOp,he,r,Op.unary,Op.intBits];rfl) (by simp [Rel]) h
theorem Dt7 (y:Sim G N s a w) (D:Da N o.dst=true) {C t:TypeId} {x:Operand} (hx:Ca N x=true) (he:o.op= .convert C t x)
  (h:Ak0 o.dst (P.underlying C) (P.underlying t) (dev G s.env x) K s):PV P o s a w K:=by
 have r:=Br y hx;cases hs:P.underlying C with
 | none=>rw[hs] at h;cases P.underlying t<;>exact h.elim
 | some ds=>
  cases ht:P.underlying t with
  | none=>rw[hs,ht] at h;exact h.elim
  | some E=>
   rw[hs,ht] at h;cases E<;>(try exact h.elim)
   case int k=>
    cases hv:dev G s.env x<;>rw[hv] at h r<;>(try exact h.elim);simp only[Rel] at r
    rename_i J I
    refine pvI y D (x:= .int k (k.wrap I)) ?_ ?_ h
    ·simp [execOp,he,r,convert,run_underlying hs,run_underlying ht,Conv.intToInt]
    ·simp [Rel]
   case string=>
    cases hv:dev G s.env x<;>rw[hv] at h r<;>(try exact h.elim);simp only[Rel] at r;refine pvI y D (x:=a.eval x) ?_ ?_ h
    ·simp [execOp,he,r,convert,run_underlying hs,run_underlying ht]
    ·rw[r];simp [Rel]
theorem Cz {op:BinOp} {t:TypeId} {x y:Operand} {u v:Value} (h: ∀t' z,u= .agg t'->v= .agg z->False) (h2:u= .nilIface->v= .nilIface->False):eqGuard op t x y u v=pure ():=by
 unfold eqGuard;cases op<;>(try rfl)<;>(cases u<;>(try rfl)<;>cases v<;>(try rfl))<;>first | exact(h2 rfl rfl).elim | exact(h _ _ rfl rfl).elim
theorem Ej9 (D:Sim G N s a w) (E:Da N o.dst=true) {op:BinOp} {t t':TypeId} {x y:Operand} (he:o.op= .binOp op t x y t') {k k':IntKind} {m n:Int} (hx:a.eval x= .int k m) (I:a.eval y= .int k' n)
  (h:Dm7 op k k' m n o.dst K s (Gt op)):PV P o s a w K:=by
 have hg:eqGuard op t x y (.int k m) (.int k' n)=pure ():=Cz (by simp) (by simp);cases op<;>simp only[Gt,Dm7,Bd3,Ca7] at h
 case shl=>
  obtain⟨h0,C⟩:=h;refine pvI D E (x:= .int k (k.wrap (m*2^(min n.toNat k.bits)))) ?_ (by simp [Rel]) C;simp only[execOp,he,hx,I,hg,binOp,Op.shift,if_neg (Int.not_lt.2 h0)];rfl
 case shr=>
  obtain⟨h0,C⟩:=h;refine pvI D E (x:= .int k (m.fdiv (2^(min n.toNat k.bits)))) ?_ (by simp [Rel]) C;simp only[execOp,he,hx,I,hg,binOp,Op.shift,if_neg (Int.not_lt.2 h0)];rfl
 case quo=>
  obtain⟨rfl,h0,C⟩:=h;refine pvI D E (x:= .int k (k.wrap (m.tdiv n))) ?_ (by simp [Rel]) C;simp [execOp,he,hx,I,hg,binOp,Op.intDiv,h0]
 case rem=>
  obtain⟨rfl,h0,C⟩:=h;refine pvI D E (x:= .int k (m.tmod n)) ?_ (by simp [Rel]) C;simp [execOp,he,hx,I,hg,binOp,Op.intDiv,h0]
 all_goals
  obtain⟨rfl,C⟩:=h;first | refine Wq D E ?_ C | refine Bd7 D E ?_ C
  ·simp [execOp,he,hx,I,hg,binOp,Op.intArith,Op.intBits,Op.intCmp,bne,Int.not_le,Int.not_lt]<;>(try (rw[Bool.eq_iff_iff];simp))
theorem As3 (l:List UInt8):(ByteArray.mk ⟨l⟩).toList=l:=by
 have h: ∀(n i:Nat) (r:List UInt8),l.length-i=n->i<=l.length->ByteArray.toList.loop ⟨⟨l⟩⟩ i r=r.reverse++l.drop i:=by
  intro n
  induction n with
  | zero=>
   intro i r hn hi;have:i=l.length:=by omega
   subst this;unfold ByteArray.toList.loop;simp [ByteArray.size]
  | succ n ih=>
   intro i r hn hi;have y:i<l.length:=by omega
   unfold ByteArray.toList.loop;simp only[ByteArray.size,List.size_toArray,y,if_true];rw[ih (i+1) _ (by omega) (by omega)];have:ByteArray.get! ⟨⟨l⟩⟩ i=l[i]:=by simp [ByteArray.get!,y]
   rw[this,List.drop_eq_getElem_cons y];simp
 have:=h l.length 0 [] (by simp) (by omega);simpa [ByteArray.toList] using this
theorem Dt8 (l m:List UInt8):(ByteArray.mk ⟨l⟩)++(ByteArray.mk ⟨m⟩)=ByteArray.mk ⟨l++m⟩:=by
 apply ByteArray.ext;simp
theorem Ek0 (C:Sim G N s a w) (D:Da N o.dst=true) {op:BinOp} {t t':TypeId} {x y:Operand} (he:o.op= .binOp op t x y t') {l m:List UInt8} (hx:a.eval x= .string ⟨⟨l⟩⟩) (E:a.eval y= .string ⟨⟨m⟩⟩)
  (h:Aj9 l m o.dst K s op):PV P o s a w K:=by
 have hg:eqGuard op t x y (.string ⟨⟨l⟩⟩) (.string ⟨⟨m⟩⟩)=pure ():=Cz (by simp) (by simp);have I: ∀l:List UInt8,(ByteArray.mk ⟨l⟩).size=l.length:=fun l=>rfl;cases op<;>simp only[Aj9] at h<;>try exact h.elim
 case add=>
  obtain⟨h0,J⟩:=h;refine pvI C D (x:= .string ⟨⟨l++m⟩⟩) ?_ (by simp [Rel]) J;simp only[execOp,he,hx,E,hg,binOp,Op.stringOp,I];rw[if_neg (by simp [IntKind.max,IntKind.signed,IntKind.bits];omega),Dt8];rfl
 all_goals
  refine Bd7 C D ?_ h
  ·simp [execOp,he,hx,E,hg,binOp,Op.stringOp,As3]<;>(try (rw[Bool.eq_iff_iff];simp))
theorem Ak8 {t:TypeId} {x y:Value} {b:Bool} (h:(Op.equal t x y).run P w= .ok b w) {op:BinOp} {n:Bool} (C:Tu op=some n) (hx: ∀k n,x≠ .int k n) (hs: ∀l,x≠ .string l) (hf: ∀k n,x≠ .float k n) (D: ∀k n m,x≠ .complex k n m):
  (binOp op t x y).run P w= .ok (.bool (if n then !b else b)) w:=by
 cases op<;>simp [Tu] at C<;>subst C
 ·have:binOp .eql t x y=(do pure (.bool (←Op.equal t x y))):=by
   cases x<;>first | rfl | exact absurd rfl (hx _ _) | exact absurd rfl (hs _) | exact absurd rfl (hf _ _) | exact absurd rfl (D _ _ _)
  rw[this];simp [h]
 ·have:binOp .neq t x y=(do pure (.bool (!(←Op.equal t x y)))):=by
   cases x<;>first | rfl | exact absurd rfl (hx _ _) | exact absurd rfl (hs _) | exact absurd rfl (hf _ _) | exact absurd rfl (D _ _ _)
  rw[this];simp [h]
theorem As4 {dst:Option Nat} {n b:Option Bool} (h:Sr dst n b K s): ∃n' b',n=some n'/\b=some b'/\Bs dst (.bool (if n' then !b' else b')) K s:=by
 cases n with
 | none=>exact h.elim
 | some n=>cases b with
  | none=>cases n<;>exact h.elim
  | some b=>cases n<;>exact⟨_,b,rfl,rfl,h⟩
theorem Bv1 {x y:Option Bool} {b:Bool} (h:Fy6 x y=some b): ∃p q,x=some p/\y=some q/\b=(p&&q):=by
 cases x with
 | none=>cases h
 | some p=>cases y with
  | none=>cases p<;>cases h
  | some q=>
   refine⟨p,q,rfl,rfl, ?_⟩;cases p<;>cases h<;>rfl
theorem Ak9 {H:Ac} {t:TypeId} {C:Bool} (E:Dy P t=some C) {cs:List DVal} {xs:Array Value} (hr:Az w H cs xs.toList) {off:Nat}
  (D:C=false->(Jh (P.cellsOf t) off cs (some C))≠ []):
  ∃y,(part t xs off).run P w= .ok y w/\Az w H (Jh (P.cellsOf t) off cs (some C)) (if C then y.cells.toList else [y])/\(C=true-> ∃ys,y= .agg ys):=by
 cases C with
 | true=>
  have hi:=Ui E;refine⟨.agg (xs.extract off (off+P.cellsOf t)),by simp [part,Nx E,Dd hi], ?_,fun _=>⟨_,rfl⟩⟩;have:(xs.extract off (off+P.cellsOf t)).toList=(xs.toList.drop off).take (P.cellsOf t):=by simp [Array.toList_extract,List.extract]
  simp only[Jh,if_true,Value.cells,this];exact(hr.drop off).take _
 | false=>
  have D:=D rfl;simp only[Jh] at D⊢
  have J:off<cs.length:=by
   rcases Nat.lt_or_ge off cs.length with h | h
   ·exact h
   ·rw[List.drop_eq_nil_of_le h] at D;simp at D
  have L:=hr.length;have I:off<xs.size:=by rw[<-Array.length_toList,<-L];exact J
  refine⟨xs[off],by simp [part,Nx E,Array.getElem?_eq_getElem I], ?_,fun h=>by cases h⟩;have h2:=(hr.drop off).take 1;have:(xs.toList.drop off).take 1= [xs[off]]:=by
   rw[List.drop_eq_getElem_cons (by simpa using I)];simp
  rw[this] at h2;simpa using h2
theorem Ae5 {n:Nat} {t:TypeId} {C:List DVal} {b:Bool} (y:Dy P t≠some true) (h:Ar5 P n t [] C=some b):False:=by
 cases n with
 | zero=>cases h
 | succ n=>
  simp only[Ar5] at h;unfold Dy at y;cases hu:P.underlying t with
  | none=>rw[hu] at h;cases h
  | some d=>
   rw[hu] at h y;cases d<;>simp [Ae4,Ck2,Dm5,Dm6] at h y
theorem Bg4 {n:Nat} {t:TypeId} {xs:List DVal} {b:Bool} (y:Dy P t≠some true) (h:Ar5 P n t xs []=some b):False:=by
 cases n with
 | zero=>cases h
 | succ n=>
  simp only[Ar5] at h;unfold Dy at y;cases hu:P.underlying t with
  | none=>rw[hu] at h;cases h
  | some d=>
   rw[hu] at h y;cases d<;>simp at y<;>simp only[Ae4,Ck2,Dm5,Dm6] at h<;>first | cases h | (split at h<;>simp_all)
theorem Ps {H:Ac}: ∀(n d:Nat),n<=d-> ∀(t:TypeId) (xs L:List DVal) (x y:Value) (J:Bool) (b:Bool),Dy P t=some J->
  Az w H xs (if J then x.cells.toList else [x])->Az w H L (if J then y.cells.toList else [y])->(J=true-> ∃c,x= .agg c)->(J=true-> ∃c,y= .agg c)->Ar5 P n t xs L=some b->
  (Op.equalIn d t x y).run P w= .ok b w
 | 0,_,_,_,_,_,_,_,_,_,_,_,_,_,_,h=>by cases h
 | n+1,0,hnd,_,_,_,_,_,_,_,_,_,_,_,_,_=>by omega
 | n+1,d+1,hnd,t,xs,L,x,y,J,b,hag,hx,C,gx,gy,h=>by
  simp only[Ar5] at h;cases hu:P.underlying t with
  | none=>rw[hu] at h;cases h
  | some W=>
   rw[hu] at h;have D:=hag;unfold Dy at D;rw[hu] at D;have step: ∀(u:TypeId) (off:Nat) (r:Bool) (E I:Array Value),x= .agg E->y= .agg I->J=true->Ar5 P n u (Jh (P.cellsOf u) off xs (Dy P u)) (Jh (P.cellsOf u) off L (Dy P u))=some r->
     ∃p q,(part u E off).run P w= .ok p w/\(part u I off).run P w= .ok q w/\(Op.equalIn d u p q).run P w= .ok r w:=by
    intro u off r E I ex X Y hr;subst ex;subst X;subst Y;simp only[if_true,Value.cells] at hx C;cases hau:Dy P u with
    | none=>
     rw[hau] at hr;exact(Ae5 (by rw[hau];simp) hr).elim
    | some Z=>
     rw[hau] at hr;obtain⟨p,hp,aa,ab⟩:=Ak9 (w:=w) hau hx (off:=off) (fun e he=>by subst e;rw[he] at hr;exact Ae5 (by rw[hau];simp) hr);obtain⟨q,hq,ac,ad⟩:=Ak9 (w:=w) hau C (off:=off) (fun e he=>by subst e;rw[he] at hr;exact Bg4 (by rw[hau];simp) hr);exact⟨p,q,hp,hq,Ps n d (by omega) u _ _ p q Z r hau aa ac ab ad hr⟩
   cases W<;>try (cases h;done)
   case bool=>
    simp at D;subst D;simp only[Ae4] at h;unfold Ck2 at h;split at h<;>try (cases h;done)
    simp only[Bool.false_eq_true,if_false,Az,Rel] at hx C;obtain⟨_,_,hx,rfl,rfl⟩:=hx;obtain⟨_,_,C,rfl,rfl⟩:=C;simp only[List.cons.injEq,and_true] at hx C;subst hx;subst C;cases h;rw[run_equalIn_bool w d t _ _ hu];congr 1
   case int k=>
    simp at D;subst D;simp only[Ae4] at h;unfold Dm5 at h;split at h<;>try (cases h;done)
    split at h<;>try (cases h;done)
    rename_i hk
    subst hk;simp only[Bool.false_eq_true,if_false,Az,Rel] at hx C;obtain⟨_,_,hx,rfl,rfl⟩:=hx;obtain⟨_,_,C,rfl,rfl⟩:=C;simp only[List.cons.injEq,and_true] at hx C;subst hx;subst C;cases h;simp only[Op.equalIn,Sem.run_bind,run_underlying hu,Result.andThen_ok,if_true,Sem.run_pure];congr 1
   case string=>
    simp at D;subst D;simp only[Ae4] at h;unfold Dm6 at h;split at h<;>try (cases h;done)
    simp only[Bool.false_eq_true,if_false,Az,Rel] at hx C;obtain⟨_,_,hx,rfl,rfl⟩:=hx;obtain⟨_,_,C,rfl,rfl⟩:=C;simp only[List.cons.injEq,and_true] at hx C;subst hx;subst C;cases h;rw[run_equalIn_string (w:=w) d t _ _ hu];congr 1;rw[Bool.eq_iff_iff,As3,As3];simp
   case struct fs=>
    simp at D;subst D;obtain⟨E,rfl⟩:=gx rfl;obtain⟨I,rfl⟩:=gy rfl;have M:P.fieldsOf t=fs:=by simp [Program.fieldsOf,hu]
    simp only[Ae4] at h;cases hst:P.stoodInHeld t with
    | true=>rw[hst] at h;cases h
    | false=>
     rw[hst] at h;simp only[Fv2] at h;rw[run_equalIn_struct w d t E I (by rw[hu,M]) hst,M];generalize fs.toList=l at h;clear M hu hst
     induction l generalizing b with
     | nil=>simp only[Dm4] at h;cases h;simp [Op.eqFields]
     | cons f l ih=>
      simp only[Dm4] at h;split at h<;>try (cases h;done)
      rename_i hn
      obtain⟨p',O,h1,h2,rfl⟩:=Bv1 h;obtain⟨p,q,S,U,V⟩:=step f.type f.offset p' E I rfl rfl rfl h1;have:=ih O h2;simp only[Op.eqFields,if_pos hn,Sem.run_bind,S,U,V,Result.andThen_ok];cases p'
      ·simp
      ·simpa using this
   case array m e=>
    simp at D;subst D;obtain⟨E,rfl⟩:=gx rfl;obtain⟨I,rfl⟩:=gy rfl;simp only[Ae4] at h;cases hie:P.info? e with
    | none=>rw[hie] at h;cases h
    | some ie=>
     rw[run_equalIn_array w d E I hu hie];rw[hie] at h;simp only[Option.isSome_some,if_true] at h;generalize List.range m=l at h;clear hu
     induction l generalizing b with
     | nil=>simp only[Ck1] at h;cases h;simp [Op.eqItems]
     | cons f l ih=>
      simp only[Ck1] at h;obtain⟨p',O,h1,h2,rfl⟩:=Bv1 h;obtain⟨p,q,S,U,V⟩:=step e (f*P.cellsOf e) p' E I rfl rfl rfl h1;have:=ih O h2;simp only[Op.eqItems,Sem.run_bind,S,U,V,Result.andThen_ok];cases p'
      ·simp
      ·simpa using this
theorem Bs4 {op:BinOp} {t:TypeId} {x y:Operand} (h:(Ig x || Ig y)=true):eqGuard op t x y .nilIface .nilIface=pure ():=by
 unfold eqGuard;cases x<;>cases y<;>simp [Ig] at h<;>cases op<;>rfl
theorem Fv6 {b:Bool} {op:BinOp} {t:TypeId} {x y:Operand} {C D:Value} (E:Sim G N s a w) (I:Da N o.dst=true) {t':TypeId} (he:o.op= .binOp op t x y t') (hx:a.eval x=C) (J:a.eval y=D)
  (L:eqGuard op t x y C D=pure ()) (hr:(Op.equal t C D).run P w= .ok b w) (h1: ∀k n,C≠ .int k n) (h2: ∀l,C≠ .string l) (h3: ∀k n,C≠ .float k n) (M: ∀k n m,C≠ .complex k n m)
  (h:Sr o.dst (Tu op) (some b) K s):PV P o s a w K:=by
 obtain⟨n,b',hn,hb,O⟩:=As4 h;cases hb;have:=Ak8 (P:=P) hr hn h1 h2 h3 M;refine Bd7 E I (b:=if n then !b else b) ?_ O;simp [execOp,he,hx,J,L,this]
set_option maxHeartbeats 400000 in
theorem Fz4 (M:Sim G N s a w) (O:Da N o.dst=true) {op:BinOp} {t t':TypeId} {x y:Operand} (he:o.op= .binOp op t x y t') {J L:DVal} (C:Rel w s.heap J (a.eval x)) (D:Rel w s.heap L (a.eval y))
  (h:Sr o.dst (Tu op) (Yj (Ig x || Ig y) (P.underlying t) J L) K s):PV P o s a w K:=by
 obtain⟨n,b,hn,hb,hK⟩:=As4 h;rw[hb] at h;unfold Yj at hb;have key: ∀E I,a.eval x=E->a.eval y=I->eqGuard op t x y E I=pure ()->(∀d,(Op.equalIn (d+1) t E I).run P w= .ok b w)->(∀k n,E≠ .int k n)->(∀l,E≠ .string l)->(∀k n,E≠ .float k n)->(∀k n m,E≠ .complex k n m)->PV P o s a w K:=
  fun E I e1 S U V W X Y Z=>Fv6 M O he e1 S U (V 9999) W X Y Z h
 split at hb<;>(try (cases hb;done))<;>simp only[Rel] at C D
 case h_1 hu=>exact key _ _ C D (Cz (by simp) (by simp)) (by cases hb;exact fun d=>run_equalIn_bool w d t _ _ hu) (by simp) (by simp) (by simp) (by simp)
 case h_2 hu=>exact key _ _ C D (Cz (by simp) (by simp)) (by cases hb;intro d;simp [Op.equalIn,run_underlying hu]) (by simp) (by simp) (by simp) (by simp)
 case h_3 hu=>exact key _ _ C D (Cz (by simp) (by simp)) (by cases hb;intro d;simp [Op.equalIn,run_underlying hu]) (by simp) (by simp) (by simp) (by simp)
 case h_4 hu=>
  obtain⟨_,_,_,D,_⟩:=D;exact key _ _ C D (Cz (by simp) (by simp)) (by cases hb;intro d;simp [Op.equalIn,run_underlying hu]) (by simp) (by simp) (by simp) (by simp)
 case h_5 hu=>exact key _ _ C D (Cz (by simp) (by simp)) (by cases hb;intro d;simp [Op.equalIn,run_underlying hu]) (by simp) (by simp) (by simp) (by simp)
 case h_6 hu=>
  obtain⟨_,_,_,C,_⟩:=C;exact key _ _ C D (Cz (by simp) (by simp)) (by cases hb;intro d;simp [Op.equalIn,run_underlying hu]) (by simp) (by simp) (by simp) (by simp)
 case h_7 hu=>
  obtain⟨_,D,_⟩:=D;exact key _ _ C D (Cz (by simp) (by simp)) (by cases hb;intro d;simp [Op.equalIn,run_underlying hu]) (by simp) (by simp) (by simp) (by simp)
 case h_8 hu=>
  obtain⟨_,C,_⟩:=C;exact key _ _ C D (Cz (by simp) (by simp)) (by cases hb;intro d;simp [Op.equalIn,run_underlying hu]) (by simp) (by simp) (by simp) (by simp)
 case h_9 hu=>
  split at hb<;>(try (cases hb;done))
  rename_i hc
  exact key _ _ C D (Bs4 hc) (by cases hb;intro d;simp [Op.equalIn,run_underlying hu]) (by simp) (by simp) (by simp) (by simp)
 case h_10 hu=>exact key _ _ C D (Cz (by simp) (by simp)) (by cases hb;intro d;simp [Op.equalIn,run_underlying hu]) (by simp) (by simp) (by simp) (by simp)
 case h_11 hu=>
  obtain⟨_,_,C,_⟩:=C;exact key _ _ C D (Cz (by simp) (by simp)) (by cases hb;intro d;simp [Op.equalIn,run_underlying hu]) (by simp) (by simp) (by simp) (by simp)
 case h_12 hu=>
  obtain⟨_,_,D,_⟩:=D;exact key _ _ C D (Cz (by simp) (by simp)) (by cases hb;intro d;simp [Op.equalIn,run_underlying hu]) (by simp) (by simp) (by simp) (by simp)
 case h_13 hu=>exact key _ _ C D (Cz (by simp) (by simp)) (by cases hb;intro d;simp [Op.equalIn,run_underlying hu]) (by simp) (by simp) (by simp) (by simp)
 case h_14 hu=>
  obtain⟨_,_,C,_⟩:=C;exact key _ _ C D (Cz (by simp) (by simp)) (by cases hb;intro d;simp [Op.equalIn,run_underlying hu]) (by simp) (by simp) (by simp) (by simp)
 case h_15 hu=>
  obtain⟨_,_,D,_⟩:=D;exact key _ _ C D (Cz (by simp) (by simp)) (by cases hb;intro d;simp [Op.equalIn,run_underlying hu]) (by simp) (by simp) (by simp) (by simp)
theorem Dn8 (E:Sim G N s a w) (I:Da N o.dst=true) {op:BinOp} {t t':TypeId} {x y:Operand} (hx:Ca N x=true) (M:Ca N y=true) (he:o.op= .binOp op t x y t')
  (h:Rg P t (Ig x || Ig y) op o.dst (dev G s.env x) (dev G s.env y) K s):PV P o s a w K:=by
 have C:=Br E hx;have D:=Br E M;generalize dev G s.env x=dx at h C;generalize dev G s.env y=dy at h D;unfold Rg at h;split at h
 ·simp only[Rel] at C D;exact Ej9 E I he C D h
 ·simp only[Rel] at C D;exact Ek0 E I he C D h
 ·rename_i xs ys
  obtain⟨hag,hge,h⟩:=h;simp only[Rel] at C D;obtain⟨J,O,S⟩:=C;obtain⟨L,U,V⟩:=D;obtain⟨n,b,hn,hb,W⟩:=As4 h;have X:=Ps (w:=w) (H:=s.heap) 6 10000 (by omega) t _ _ (.agg J) (.agg L) true b hag (by simpa [Value.cells] using S) (by simpa [Value.cells] using V) (fun _=>⟨_,rfl⟩) (fun _=>⟨_,rfl⟩) hb;have Y:(eqGuard op t x y (.agg J) (.agg L)).run P w= .ok () w:=by
   unfold eqGuard;cases op<;>simp [program,Sem.run,hge]
  have Z:=Ak8 (P:=P) (w:=w) (t:=t) (x:= .agg J) (y:= .agg L) (b:=b) X hn (by simp) (by simp) (by simp) (by simp);refine Bd7 E I (b:=if n then !b else b) ?_ W;simp [execOp,he,O,U,Y,Z]
 ·exact Fz4 E I he C D h
theorem As5 {t e:TypeId} (y:P.underlying t=some (.slice e)) (d:Nat) {h:Option Addr} {n cap:Nat}:(Op.equalIn (d+1) t (.slice h n cap) (.slice none 0 0)).run P w= .ok h.isNone w:=by
 cases h<;>simp [Op.equalIn,run_underlying y]
theorem Fz5 (C:Sim G N s a w) (D:Da N o.dst=true) {op:BinOp} {t t':TypeId} {x y:Operand} (hx:Ca N x=true) (I:Ca N y=true) (he:o.op= .binOp op t x y t')
  (h:Ax9 P t (Ig x || Ig y) op o.dst (Ji y) (dev G s.env x) (dev G s.env y) K s):PV P o s a w K:=by
 cases hn:Ji y with
 | false=>
  rw[hn,Uh] at h;exact Dn8 C D hx I he h
 | true=>
  rw[hn] at h;by_cases hv: ∃cs n,dev G s.env x= .vslice cs n
  ·obtain⟨cs,n,hv⟩:=hv;have E:=Br C hx;rw[hv] at h E;simp only[Ax9] at h;obtain⟨ht,h⟩:=h;simp only[Rel] at E;obtain⟨J,cap,L,hle,hcs⟩:=E;have M:a.eval y= .slice none 0 0:=by
    unfold Ji at hn;split at hn<;>first | rfl | cases hn
   cases hu:P.underlying t with
   | none=>rw[hu] at ht;cases ht
   | some d=>
    rw[hu] at ht;cases d<;>first | (cases ht;done) | skip
    refine Fv6 C D he L M (b:=J.isNone) (Cz (by simp) (by simp)) ?_ (by simp) (by simp) (by simp) (by simp) (h J.isNone ?_)
    ·exact As5 hu 9999
    ·intro hc;rcases hcs with hcs | ⟨b,o',xs,rfl,_⟩
     ·exact(hc hcs).elim
     ·rfl
  ·refine Dn8 C D hx I he ?_;revert h hv;generalize dev G s.env x=dx;intro h hv;cases dx<;>first | exact h | exact(hv ⟨_,_,rfl⟩).elim
end
end Go.Dl
-- THE DATA LEVEL, PART Q: further operatio
namespace Go.Dl
open Go
section
variable {P:Program} {G:Nat->DVal} {N:Fr}
variable {o:Oper} {s:DS} {a:Act} {w:World} {K:DK} {Qx:Exit->Act->World->Prop}
theorem Qm (n:Nat) (h:List DVal):(Cc n h).length=n*h.length:=by
 unfold Cc
 induction n with
 | zero=>simp
 | succ n ih=>simp [List.replicate_succ,ih,Nat.succ_mul];omega
theorem Ek1 (n:Nat) (y:List DVal) (i:Nat) (hi:i<n*y.length):(Cc n y)[i]? =y[i%y.length]? :=by
 induction n generalizing i with
 | zero=>simp at hi
 | succ n ih=>
  have hr:Cc (n+1) y=y++Cc n y:=by simp [Cc,List.replicate_succ]
  rw[hr];by_cases h:i<y.length
  ·rw[List.getElem?_append_left h,Nat.mod_eq_of_lt h]
  ·have e:(n+1)*y.length=n*y.length+y.length:=Nat.succ_mul _ _;rw[List.getElem?_append_right (by omega),ih (i-y.length) (by omega)];congr 1;exact(Nat.mod_eq_sub_mod (by omega)).symm
theorem Ac2 {H:Ac} {C:List DVal} {vs:Array Value} (h:Az w H C vs.toList) (n m:Nat) (hm:m=n*C.length):
  Az w H (Cc n C) ((Array.range m).map (vs[· %vs.size]!)).toList:=by
 have hl:=h.length;refine Az.mk (by simp [Qm,hm]) fun i d x h1 h2=> ?_;have hi:i<m:=by
  rcases Nat.lt_or_ge i m with h' | h'
  ·exact h'
  ·rw[List.getElem?_eq_none (by rw[Qm];omega)] at h1;cases h1
 have hz:0<C.length:=by
  rcases Nat.eq_zero_or_pos C.length with e | e
  ·rw[e] at hm;simp at hm;omega
  ·exact e
 rw[Ek1 n C i (by omega)] at h1;obtain⟨y,D,hr⟩:=h.get h1;have E:vs.size=C.length:=by rw[hl];simp
 have:x=y:=by
  have h3:((Array.range m).map (vs[· %vs.size]!)).toList[i]? =some (vs[i%vs.size]!):=by simp [hi]
  rw[h3] at h2;cases h2;have I:i%vs.size<vs.size:=Nat.mod_lt _ (by omega);have:vs.toList[i%C.length]? =some (vs[i%vs.size]!):=by
   rw[<-E];simp [I]
  rw[this] at D;cases D;rfl
 subst this;exact hr
theorem Dt9 (vs:List Value): ∀(j off:Nat) (c:Array Value),off+j+vs.length<=c.size->
  ((vs.zipIdx j).foldl (fun cs (p:Value×Nat)=>cs.setIfInBounds (off+p.2) p.1) c).toList=c.toList.take (off+j)++vs++c.toList.drop (off+j+vs.length):=by
 induction vs with
 | nil=>intro j off c _;simp
 | cons v vs ih=>
  intro j off c h;simp only[jA] at h;simp only[List.zipIdx_cons,List.foldl_cons];rw[ih (j+1) off _ (by simp;omega)];have y:off+j<c.toList.length:=by simp;omega
  rw[Array.toList_setIfInBounds,jA,<-Nat.add_assoc];have e1:(c.toList.set (off+j) v).take (off+j+1)=c.toList.take (off+j)++ [v]:=by
   rw[List.take_set,List.take_succ_eq_append_getElem y,List.set_append_right _ _ (by simp;omega)];have C:off+j-min (off+j) c.size=0:=by omega
   simp [C]
  have D:(c.toList.set (off+j) v).drop (off+j+1+vs.length)=c.toList.drop (off+j+(vs.length+1)):=by
   rw[List.drop_set,if_pos (by omega)];congr 1;omega
  rw[e1,D];simp
theorem Za {H:Ac} (y:Nat->Option (Nat×Nat)): ∀(parts:List (Nat×DVal)) (vs:List (Nat×Value)) (cs:List DVal) (c:Array Value) (out:List DVal),
  Az w H cs c.toList->parts.length=vs.length->(∀(j:Nat) (i:Nat) (d:DVal),parts[j]? =some (i,d)-> ∃v,vs[j]? =some (i,v)/\Az w H d.cells v.cells.toList)->
  Xy y cs parts=some out-> ∃c',Instr.fill y c vs=some c'/\Az w H out c'.toList
 | [],[],cs,c,out,hc,_,_,h=>by
  simp only[Xy] at h;cases h;exact⟨c,rfl,hc⟩
 | [],_::_,_,_,_,_,hl,_,_=>by simp at hl
 | _::_,[],_,_,_,_,hl,_,_=>by simp at hl
 | (i,d)::parts,(i',v)::vs,cs,c,out,hc,hl,hp,h=>by
  obtain⟨v',C,hr⟩:=hp 0 i d rfl;simp at C;obtain⟨rfl,rfl⟩:=C;simp only[Xy] at h;cases hpl:y i' with
  | none=>rw[hpl] at h;cases h
  | some os=>
   obtain⟨off,size⟩:=os;rw[hpl] at h;simp only at h;split at h
   ·rename_i hle
    obtain⟨I,hle⟩:=hle;have D:=hr.length;have E:=hc.length;have J:v.cells.size=d.cells.length:=by rw[D];simp
    have hcs:cs.length=c.size:=by rw[E];simp
    have hf:(v.cells.zipIdx.foldl (fun cs (p:Value×Nat)=>cs.setIfInBounds (off+p.2) p.1) c).toList=c.toList.take off++v.cells.toList++c.toList.drop (off+v.cells.toList.length):=by
     have:=Dt9 v.cells.toList 0 off c (by simp;omega);rw[<-Array.foldl_toList,Array.toList_zipIdx];simpa using this
    obtain⟨c',h1,h2⟩:=Za y parts vs (cs.take off++d.cells++cs.drop (off+d.cells.length)) (v.cells.zipIdx.foldl (fun cs (p:Value×Nat)=>cs.setIfInBounds (off+p.2) p.1) c) out
     (by rw[hf,<-D];exact((hc.take off).append hr).append (hc.drop _)) (by simpa using hl) (fun j i d hj=>hp (j+1) i d (by simpa using hj)) h
    refine⟨c', ?_,h2⟩;simp only[Instr.fill,hpl];rw[if_neg (by simp only[Bool.or_eq_true,decide_eq_true_eq,not_or];omega)];exact h1
   ·cases h
theorem Wr {y:Nat->Option (Nat×Nat)}: ∀ {parts:List (Nat×DVal)} {cs out:List DVal},Xy y cs parts=some out->out.length=cs.length
 | [],cs,out,h=>by simp only[Xy] at h;cases h;rfl
 | (i,d)::parts,cs,out,h=>by
  simp only[Xy] at h;cases hpl:y i with
  | none=>rw[hpl] at h;cases h
  | some os=>
   rw[hpl] at h;simp only at h;split at h
   ·rename_i hle
    rw[Wr h];simp;omega
   ·cases h
theorem As6 {s:DS} (C:Sim G N s a w): ∀(y:List (Nat×Operand)),(y.all fun p=>Ca N p.2)=true->
  (Ms G s.env y).length=(y.map fun p=>(p.1,a.eval p.2)).length/\
  ∀(j i:Nat) (d:DVal),(Ms G s.env y)[j]? =some (i,d)-> ∃v,(y.map fun p=>(p.1,a.eval p.2))[j]? =some (i,v)/\Az w s.heap d.cells v.cells.toList
 | [],_=>⟨rfl,by simp [Ms]⟩
 | (i,x)::y,h=>by
  simp only[List.all_cons,jF] at h;obtain⟨h1,h2⟩:=As6 C y h.2;refine⟨by simpa [Ms] using h1,fun j D d hj=> ?_⟩;cases j with
  | zero=>
   simp [Ms] at hj;obtain⟨rfl,rfl⟩:=hj;exact⟨_,rfl,Mf (Br C h.1)⟩
  | succ j=>simpa using h2 j D d (by simpa [Ms] using hj)
theorem Cl0 {t:TypeId} {z:DVal} (h:Bm P t=some z): ∃v,(∀w,(zeroValue t).run P w= .ok v w)/\(∀(w:World) (H:Ac),Az w H z.cells v.cells.toList):=by
 unfold Bm at h;cases hi:P.info? t with
 | none=>simp [hi] at h
 | some i=>
  cases hz:i.zero with
  | none=>simp [hi,hz] at h
  | some v=>
   simp [hi,hz] at h;subst h;exact⟨v,fun w=>by simp [zeroValue,Ry hi,hz],fun w H=>Mf (Gu w H v)⟩
theorem Bb9 {fs:List Field} (h:fs.all (fun f=>(P.info? f.type).isSome)=true):
  (fs.mapM (fun f=>(do pure (f.offset,<-sizeOf f.type):Sem (Nat×Nat)))).run P w= .ok (fs.map fun f=>(f.offset,P.cellsOf f.type)) w:=by
 induction fs with
 | nil=>simp
 | cons f fs ih=>
  simp only[List.all_cons,jF] at h;simp only[List.mapM_cons,Sem.run_bind,Dd h.1,Result.andThen_ok,Sem.run_pure,ih h.2,jN]
theorem Ff7 (D:Sim G N s a w) (M:Da N o.dst=true) {t:TypeId} {y:Array (Nat×Operand)} (hp:(y.toList.all fun p=>Ca N p.2)=true) (he:o.op= .build t y)
  (h:Ca4 P o.dst (Ew P t) (P.underlying t) (Bm P t) (Ms G s.env y.toList) K s):o.wp P a w (Ik G N K s w) Qx:=by
 obtain⟨hl,hpr⟩:=As6 D y.toList hp;cases hb:Ew P t with
 | false=>rw[hb] at h;exact h.elim
 | true=>
  rw[hb] at h;cases hz:Bm P t with
  | none=>rw[hz] at h;cases hu:P.underlying t with
   | none=>rw[hu] at h;exact h.elim
   | some E=>rw[hu] at h;cases E<;>exact h.elim
  | some z=>
   obtain⟨v,hv,O⟩:=Cl0 hz;rw[hz] at h;have S:(y.map fun p=>(p.1,a.eval p.2)).toList=y.toList.map fun p=>(p.1,a.eval p.2):=by simp
   cases hu:P.underlying t with
   | none=>rw[hu] at h;exact h.elim
   | some E=>
    rw[hu] at h;unfold Ew at hb;rw[hu] at hb;cases E<;>try exact h.elim
    case struct fs=>
     obtain⟨d,C,I⟩:=Kg h;simp only[Option.map_eq_some_iff] at C;obtain⟨out,J,rfl⟩:=C;obtain⟨c',h1,h2⟩:=Za _ _ _ _ _ _ (O w s.heap) hl hpr J;refine Ko D M (x:= .agg c') ?_ (by simp only[Rel];exact⟨c',rfl,h2⟩) I;have hm:(fs.mapM (fun f=>(do pure (f.offset,<-sizeOf f.type):Sem (Nat×Nat)))).run P w= .ok (fs.map fun f=>(f.offset,P.cellsOf f.type)) w:=by
      rw[Array.mapM_eq_mapM_toList];simp only[Sem.run_map,Bb9 (w:=w) hb,Result.andThen_ok];congr 1;apply Array.ext';simp
     have L:(fun i=>(fs.map fun f=>(f.offset,P.cellsOf f.type))[i]?)=Cx8 P fs:=by
      funext i;simp [Cx8]
     simp only[execOp,he,Instr.build,Sem.run_bind,hv,run_underlying hu,Result.andThen_ok,hm,L,S,h1];simp
    case array n e=>
     obtain⟨d,C,I⟩:=Kg h;simp only[Option.map_eq_some_iff] at C;obtain⟨out,J,rfl⟩:=C;obtain⟨c',h1,h2⟩:=Za _ _ _ _ _ _ (O w s.heap) hl hpr J;refine Ko D M (x:= .agg c') ?_ (by simp only[Rel];exact⟨c',rfl,h2⟩) I;have L:(fun i=>some (i*P.cellsOf e,P.cellsOf e))=Bf1 (P.cellsOf e):=rfl;simp only[execOp,he,Instr.build,Sem.run_bind,hv,run_underlying hu,Result.andThen_ok,Dd hb,L,S,h1];simp
theorem Cb4 (D:Sim G N s a w) (E:Da N o.dst=true) {t:TypeId} {n:Nat} {y:Array (Nat×Operand)} (hp:(y.toList.all fun p=>Ca N p.2)=true) (he:o.op= .buildSlice t n y)
  (h:Ue P n o.dst (P.underlying t) (Ms G s.env y.toList) K s):o.wp P a w (Ik G N K s w) Qx:=by
 obtain⟨hl,hpr⟩:=As6 D y.toList hp;have I:(y.map fun p=>(p.1,a.eval p.2)).toList=y.toList.map fun p=>(p.1,a.eval p.2):=by simp
 cases hu:P.underlying t with
 | none=>rw[hu] at h;exact h.elim
 | some M=>
  rw[hu] at h;cases M<;>try exact h.elim
  rename_i e
  simp only[Ue] at h;cases hz:Bm P e with
  | none=>rw[hz] at h;exact h.elim
  | some z=>
   obtain⟨v,hv,J⟩:=Cl0 hz;rw[hz] at h;obtain⟨hle,C,h⟩:=h;cases hf:Xy (Bf1 (P.cellsOf e)) (Cc n z.cells) (Ms G s.env y.toList) with
   | none=>rw[hf] at h;exact h.elim
   | some out=>
    rw[hf] at h;have hie:(P.info? e).isSome=true:=by
     unfold Bm at hz;cases hi:P.info? e with
     | none=>simp [hi] at hz
     | some i=>rfl
    have hb:=Ac2 (J w s.heap) n (n*P.cellsOf e) (by rw[C]);have S:v.cells.size=P.cellsOf e:=by rw[<-C,(J w s.heap).length];simp
    have L:(fun i=>some (i*P.cellsOf e,P.cellsOf e))=Bf1 (P.cellsOf e):=rfl;by_cases h0:n*P.cellsOf e=0
    ·have O:Az w s.heap (Cc n z.cells) ((Array.range (n*P.cellsOf e)).map ((#[]:Array Value)[· %(#[]:Array Value).size]!)).toList:=by
      rw[h0] at hb⊢;simpa using hb
     obtain⟨c',h1,h2⟩:=Za _ _ _ _ _ _ O hl hpr hf;refine Ak7 D E (c:=c') (n:=w.drawn) (Nat.le_refl n) (Nat.le_refl n) (by rw[<-Array.length_toList,<-h2.length,Wr hf,Qm,C];omega) ?_ h2 (List.prefix_refl _) h;simp only[execOp,he,Instr.buildSlice,Sem.run_bind,run_underlying hu,Result.andThen_ok,Dd hie];rw[if_neg (by simp;omega)];simp only[h0] at h1;simp only[L,I,h0,if_true,Sem.run_bind,Sem.run_pure,Result.andThen_ok,h1];simp [newRow];rfl
    ·obtain⟨c',h1,h2⟩:=Za _ _ _ _ _ _ hb hl hpr hf;refine Ak7 D E (c:=c') (n:=w.drawn) (Nat.le_refl n) (Nat.le_refl n) (by rw[<-Array.length_toList,<-h2.length,Wr hf,Qm,C];omega) ?_ h2 (List.prefix_refl _) h;simp only[execOp,he,Instr.buildSlice,Sem.run_bind,run_underlying hu,Result.andThen_ok,Dd hie];rw[if_neg (by simp;omega)];simp only[L,I,h0,if_false];simp [hv,h1,newRow];rfl
end
section
variable {P:Program} {G:Nat->DVal} {N:Fr}
variable {o:Oper} {s:DS} {a:Act} {w:World} {K:DK} {Qx:Exit->Act->World->Prop}
theorem Cl1 (C:Sim G N s a w) (E:Da N o.dst=true) {t:TypeId} {x:Operand} {f:Nat} (hx:Ca N x=true) (he:o.op= .fieldAddr t x f)
  (h:Su P f (dev G s.env x) o.dst (P.underlying t) K s):PV P o s a w K:=by
 have r:=Br C hx;cases hu:P.underlying t with
 | none=>rw[hu] at h;exact h.elim
 | some L=>
  rw[hu] at h;cases L<;>try exact h.elim
  rename_i fs
  simp only[Su] at h;cases hf:fs[f]? with
  | none=>rw[hf] at h;exact h.elim
  | some D=>
   rw[hf] at h;obtain⟨I,h⟩:=h;obtain⟨d,y,J⟩:=Kg h;have hi:(P.info? D.type).isSome=true:=by
    cases hi:P.info? D.type with
    | none=>simp [Program.cellsOf,hi] at I
    | some i=>rfl
   have key: ∀b off,a.eval x= .pointer (some ⟨b,off,none⟩)->(execOp a.eval o).run P w= .ok (.value (.pointer (some ⟨b,off+D.offset,none⟩))) w:=by
    intro b off hp;simp [execOp,he,hp,Instr.fieldAt,run_underlying hu,hf,Instr.sureAddr,fieldPlace,Dd hi,Nat.pos_iff_ne_zero.1 I,Me]
   cases hv:dev G s.env x<;>rw[hv] at y r<;>simp only[Bd4] at y<;>try (cases y;done)
   case vptr cs off=>
    cases y;simp only[Rel] at r;obtain⟨b,o',xs,hp,hc,hl⟩:=r;refine pvI C E (key _ _ hp) ?_ J;simp only[Rel];exact⟨b,o',xs,by rw[Nat.add_assoc],hc,hl⟩
   case optr r0 off=>
    cases y;simp only[Rel] at r;exact pvI C E (key _ _ r) (by simp [Rel]) J
theorem Dn9 {size:Nat} {y:Option Bool} {t:TypeId} (C:Dy P t=y) (D:P.cellsOf t=size) {cs:List DVal} {xs:Array Value} {H:Ac} (hr:Az w H cs xs.toList) {off:Nat} {dst:Option Nat}
  (h:Ck3 size cs off dst y K s): ∃d x,(part t xs off).run P w= .ok x w/\Rel w H d x/\Bs dst d K s:=by
 subst D;cases y with
 | none=>exact h.elim
 | some y=>
  cases y with
  | true=>
   refine⟨_, .agg (xs.extract off (off+P.cellsOf t)),by simp [part,Nx C,Dd (Ui C)], ?_,h⟩;have:(xs.extract off (off+P.cellsOf t)).toList=(xs.toList.drop off).take (P.cellsOf t):=by simp [Array.toList_extract,List.extract]
   simp only[Rel];exact⟨_,rfl,by rw[this];exact(hr.drop off).take _⟩
  | false=>
   obtain⟨d,hd,E⟩:=Kg h;obtain⟨x,hx,I⟩:=hr.get hd;have:xs[off]? =some x:=by simpa using hx
   exact⟨d,x,by simp [part,Nx C,this],I,E⟩
theorem Ff8 (C:Sim G N s a w) (D:Da N o.dst=true) {t:TypeId} {x:Operand} {f:Nat} (hx:Ca N x=true) (he:o.op= .field t x f)
  (h:Bf3 P f o.dst (P.underlying t) (dev G s.env x) K s):PV P o s a w K:=by
 have r:=Br C hx;cases hu:P.underlying t with
 | none=>rw[hu] at h;exact h.elim
 | some E=>
  rw[hu] at h;cases E<;>try (cases dev G s.env x<;>exact h.elim)
  rename_i fs
  cases hv:dev G s.env x<;>rw[hv] at h r<;>try exact h.elim
  rename_i cs
  simp only[Bf3] at h;simp only[Rel] at r;obtain⟨xs,hp,hl⟩:=r;cases hf:fs[f]? with
  | none=>rw[hf] at h;exact h.elim
  | some M=>
   rw[hf] at h;obtain⟨d,y,I,J,L⟩:=Dn9 (w:=w) rfl rfl hl h;refine pvI C D ?_ J L;simp [execOp,he,hp,Instr.field,run_underlying hu,hf,asAgg,I]
theorem Cl2 (D:Sim G N s a w) (J:Da N o.dst=true) {t:TypeId} {x i:Operand} (hx:Ca N x=true) (hi:Ca N i=true) (he:o.op= .indexAddr t x i)
  (h:Sv P o.dst (P.underlying t) (dev G s.env x) (dev G s.env i) K s):PV P o s a w K:=by
 have y:=Br D hx;have C:=Br D hi;generalize hu:P.underlying t=u at h;generalize dev G s.env x=dx at h y;generalize dev G s.env i=di at h C;unfold Sv at h;split at h
 ·rename_i e cs len k n
  obtain⟨hie,h0,I,hle,E⟩:=h;simp only[Rel] at y C;obtain⟨S,cap,hp,M,hc⟩:=y;rcases hc with rfl | ⟨b,o',xs,rfl,hc,hl⟩
  ·simp at hle
  ·refine pvI D J (x:= .pointer (some ⟨b,o'+n.toNat*P.cellsOf e,none⟩)) ?_ (by simp only[Rel];exact⟨b,o',xs,rfl,hc,hl⟩) E;simp [execOp,he,hp,C,Instr.indexAt,asIntOf,run_underlying hu,Dd hie,h0,I,Me]
 ·rename_i e _ r0 off len lo k n
  obtain⟨hie,h0,I,E⟩:=h;simp only[Rel] at y C;obtain⟨o',cap,hp,hlo,M,O,_⟩:=y;have:o'=off:=by rcases O with e | e<;>omega
  subst this;refine pvI D J (x:= .pointer (some ⟨r0,o'+n.toNat*P.cellsOf e,none⟩)) ?_ (by simp [Rel]) E;simp [execOp,he,hp,C,Instr.indexAt,asIntOf,run_underlying hu,Dd hie,h0,I,Me]
 ·rename_i m e k n
  obtain⟨hie,h0,I,h⟩:=h;simp only[Rel] at C;obtain⟨d,L,E⟩:=Kg h;have key: ∀b off,a.eval x= .pointer (some ⟨b,off,none⟩)->(execOp a.eval o).run P w= .ok (.value (.pointer (some ⟨b,off+n.toNat*P.cellsOf e,none⟩))) w:=by
   intro b off hp;simp [execOp,he,hp,C,Instr.indexAt,asIntOf,run_underlying hu,Dd hie,Instr.sureAddr,h0,I,Me]
  cases dx<;>simp only[Bd4] at L<;>try (cases L;done)
  case vptr cs off=>
   cases L;simp only[Rel] at y;obtain⟨b,o',xs,hp,hc,hl⟩:=y;refine pvI D J (key _ _ hp) ?_ E;simp only[Rel];exact⟨b,o',xs,by rw[Nat.add_assoc],hc,hl⟩
  case optr r0 off=>
   cases L;simp only[Rel] at y;exact pvI D J (key _ _ y) (by simp [Rel]) E
 ·exact h.elim
theorem Ff9 (E:Sim G N s a w) (L:Da N o.dst=true) {t:TypeId} {x i:Operand} (hx:Ca N x=true) (hi:Ca N i=true) (he:o.op= .index t x i)
  (h:Bf4 P o.dst (P.underlying t) (dev G s.env x) (dev G s.env i) K s):PV P o s a w K:=by
 have C:=Br E hx;have D:=Br E hi;generalize hu:P.underlying t=u at h;generalize dev G s.env x=dx at h C;generalize dev G s.env i=di at h D;unfold Bf4 at h;split at h
 ·rename_i m e cs k n
  obtain⟨h0,I,h⟩:=h;simp only[Rel] at C D;obtain⟨xs,hp,hl⟩:=C;have hie:(P.info? e).isSome=true:=by
   cases hag:Dy P e with
   | none=>rw[hag] at h;exact h.elim
   | some b=>exact Ui hag
  obtain⟨d,y,O,S,J⟩:=Dn9 (w:=w) rfl rfl hl h;refine pvI E L ?_ S J;simp [execOp,he,hp,D,Instr.index,asIntOf,run_underlying hu,h0,I,Dd hie,O]
 ·rename_i l k n
  obtain⟨h0,h⟩:=h;obtain⟨d,M,J⟩:=Kg h;simp only[Option.map_eq_some_iff] at M;obtain⟨c,hc,rfl⟩:=M;simp only[Rel] at C D;refine pvI E L (x:= .int .u8 c.toNat) ?_ (by simp [Rel]) J;have hb:(ByteArray.mk ⟨l⟩)[n.toNat]? =some c:=by
   have I:n.toNat<l.length:=by
    rcases Nat.lt_or_ge n.toNat l.length with h' | h'
    ·exact h'
    ·rw[List.getElem?_eq_none h'] at hc;cases hc
   rw[List.getElem?_eq_getElem I] at hc;cases hc;have:n.toNat<(ByteArray.mk ⟨l⟩).size:=I;rw[getElem?_pos (ByteArray.mk ⟨l⟩) n.toNat this];rfl
  simp [execOp,he,C,D,Instr.index,asIntOf,run_underlying hu,h0,hb]
 ·exact h.elim
theorem Ny {t:TypeId} {z:DVal} (h:Bm P t=some z): ∃i v,P.info? t=some i/\i.zero=some v/\z=Fe v:=by
 unfold Bm at h;cases hi:P.info? t with
 | none=>simp [hi] at h
 | some i=>
  cases hz:i.zero with
  | none=>simp [hi,hz] at h
  | some v=>
   simp [hi,hz] at h;exact⟨i,v,rfl,hz,h.symm⟩
theorem Cl3 (C:Sim G N s a w) (I:Da N o.dst=true) {t:TypeId} {l c:Operand} (hl:Ca N l=true) (J:Ca N c=true) (he:o.op= .makeSlice t l c)
  (h:Wm P o.dst (P.underlying t) (dev G s.env l) (dev G s.env c) K s):o.wp P a w (Ik G N K s w) Qx:=by
 have D:=Br C hl;have E:=Br C J;generalize hu:P.underlying t=u at h;generalize dev G s.env l=dl at h D;generalize dev G s.env c=dc at h E;unfold Wm at h;split at h
 ·rename_i e k n k' m
  simp only[Rel] at D E;cases hz:Bm P e with
  | none=>rw[hz] at h;exact h.elim
  | some z=>
   rw[hz] at h;obtain⟨h0,hle,hb,hm,L,V,h⟩:=h;obtain⟨y,v,hie,M,rfl⟩:=Ny hz;have O:P.bytesOf e=y.bytes:=by simp [Program.bytesOf,hie]
   have hcs:P.cellsOf e=y.size:=by simp [Program.cellsOf,hie]
   rw[O] at hb;have S:Az w s.heap (Fe v).cells v.cells.toList:=Mf (Gu w s.heap v);have hr:=Ac2 S m.toNat (m.toNat*y.size) (by rw[L,hcs]);have U:=run_make (P:=P) w t e y v hu hie M k k' n m h0 hle (by rw[Int.mul_comm];omega) (by omega);exact Ak7 C I (n:=w.drawn) (Nat.le_refl _) (by omega) (by simp [hcs]) (by simp [execOp,he,D,E,U];rfl) hr (List.prefix_refl _) h
 ·exact h.elim
theorem Bg5 (h:Sim G N s a w) {x:Option Operand} (hx:(match x with | some x=>Ca N x | none=>true)=true):
  (x=none/\Rh G s.env x=none)\/ ∃y,x=some y/\Rh G s.env x=some (dev G s.env y)/\Rel w s.heap (dev G s.env y) (a.eval y):=by
 cases x with
 | none=>exact .inl ⟨rfl,rfl⟩
 | some y=>exact .inr ⟨y,rfl,rfl,Br h hx⟩
theorem Fo {k:IntKind} {n:Int} {y:Nat} {c:BoundsCode} (h0:0<=n) (h1:n<=y):(Instr.sliceBound (.int k n) y c).run P w= .ok n.toNat w:=by
 simp [Instr.sliceBound,asIntOf,h0,h1]
theorem Al0 (C:Sim G N s a w) {x:Option Operand} (hx:(match x with | some x=>Ca N x | none=>true)=true) {n:Int} (h:dLo (Rh G s.env x)=some n):
  (x=none/\n=0)\/ ∃y k,x=some y/\a.eval y= .int k n:=by
 rcases Bg5 C hx with⟨rfl,e⟩ | ⟨y,rfl,e,r⟩
 ·rw[e] at h;simp [dLo] at h;exact .inl ⟨rfl,h.symm⟩
 ·rw[e] at h
  cases hd:dev G s.env y<;>rw[hd] at h r<;>simp [dLo] at h
  subst h
  simp only[Rel] at r
  exact .inr ⟨y,_,rfl,r⟩
theorem Ek2 (C:Sim G N s a w) {x:Option Operand} (hx:(match x with | some x=>Ca N x | none=>true)=true) {l:Nat} {n:Int} (h:dHi l (Rh G s.env x)=some n):
  (x=none/\n=l)\/ ∃y k,x=some y/\a.eval y= .int k n:=by
 rcases Bg5 C hx with⟨rfl,e⟩ | ⟨y,rfl,e,r⟩
 ·rw[e] at h;simp [dHi] at h;exact .inl ⟨rfl,h.symm⟩
 ·rw[e] at h
  cases hd:dev G s.env y<;>rw[hd] at h r<;>simp [dHi] at h
  subst h
  simp only[Rel] at r
  exact .inr ⟨y,_,rfl,r⟩
theorem Nz (C:Sim G N s a w) {lo hi:Option Operand} (I:(match lo with | some x=>Ca N x | none=>true)=true) (J:(match hi with | some x=>Ca N x | none=>true)=true)
  {b:Bool} {len cap:Nat} {l h:Int} (L:dLo (Rh G s.env lo)=some l) (M:dHi len (Rh G s.env hi)=some h) (h0:0<=l) (h1:l<=h) (h2:h<=cap):
  (Instr.sliceBounds b len cap (lo.map a.eval) (hi.map a.eval) none).run P w= .ok (l.toNat,h.toNat,cap) w:=by
 rcases Al0 C I L with⟨rfl,rfl⟩ | ⟨y,k,rfl,D⟩<;>rcases Ek2 C J M with⟨rfl,rfl⟩ | ⟨z,k',rfl,E⟩
 ·simp [Instr.sliceBounds]
 ·simp [Instr.sliceBounds,E,Fo (P:=P) (w:=w) (k:=k') (n:=h) (y:=cap) (by omega) h2]
 ·simp [Instr.sliceBounds,D,Fo (P:=P) (w:=w) (k:=k) (n:=l) (y:=len) h0 h1]
 ·have:l<=(h.toNat:Int):=by omega
  simp [Instr.sliceBounds,D,E,Fo (P:=P) (w:=w) (k:=k') (n:=h) (y:=cap) (by omega) h2,Fo (P:=P) (w:=w) (k:=k) (n:=l) (y:=h.toNat) h0 this]
theorem Cl4 (D:Sim G N s a w) {lo hi C:Option Operand} (O:(match lo with | some x=>Ca N x | none=>true)=true) (S:(match hi with | some x=>Ca N x | none=>true)=true) (U:(match C with | some x=>Ca N x | none=>true)=true)
  {b:Bool} {len cap:Nat} {l h m:Int} (V:dLo (Rh G s.env lo)=some l) (W:hi≠none) (X:C≠none) (Y:dLo (Rh G s.env hi)=some h) (Z:dLo (Rh G s.env C)=some m) (h0:0<=l) (h1:l<=h) (h2:h<=m) (h3:m<=cap):
  (Instr.sliceBounds b len cap (lo.map a.eval) (hi.map a.eval) (C.map a.eval)).run P w= .ok (l.toNat,h.toNat,m.toNat) w:=by
 obtain⟨z,E,rfl,I⟩:=(Al0 D S Y).resolve_left (fun e=>W e.1)
 obtain⟨u,J,rfl,L⟩:=(Al0 D U Z).resolve_left (fun e=>X e.1)
 have M:h<=(m.toNat:Int):=by omega
 have r2:l<=(h.toNat:Int):=by omega
 rcases Al0 D O V with⟨rfl,rfl⟩ | ⟨y,k,rfl,ey⟩
 ·simp [Instr.sliceBounds,I,L,Fo (P:=P) (w:=w) (k:=J) (n:=m) (y:=cap) (by omega) h3,Fo (P:=P) (w:=w) (k:=E) (n:=h) (y:=m.toNat) (by omega) M]
 ·simp [Instr.sliceBounds,I,L,ey,Fo (P:=P) (w:=w) (k:=J) (n:=m) (y:=cap) (by omega) h3,Fo (P:=P) (w:=w) (k:=E) (n:=h) (y:=m.toNat) (by omega) M,Fo (P:=P) (w:=w) (k:=k) (n:=l) (y:=h.toNat) h0 r2]
theorem Dt5.le {r n m:Nat} (h:Dt5 w r n) (hm:m<=n):Dt5 w r m:=⟨h.1,fun k hk=>Nat.le_trans hm (h.2 k hk)⟩
theorem Fg0 (E:Sim G N s a w) (W:Da N o.dst=true) {t:TypeId} {x:Operand} {lo hi X:Option Operand} (hx:Ca N x=true)
  (Y:(match lo with | some x=>Ca N x | none=>true)=true) (Z:(match hi with | some x=>Ca N x | none=>true)=true) (af:(match X with | some x=>Ca N x | none=>true)=true) (he:o.op= .slice t x lo hi X)
  (h:Ar7 P (Rh G s.env lo) (Rh G s.env hi) o.dst (P.underlying t) (dev G s.env x) (Rh G s.env X) K s):PV P o s a w K:=by
 have I:=Br E hx
 generalize hu:P.underlying t=u at h
 generalize dev G s.env x=dx at h I
 generalize hm:Rh G s.env X=dm at h
 have aa:dm=none->X=none:=by
  intro e;subst e
  cases X with
  | none=>rfl
  | some y=>simp [Rh] at hm
 unfold Ar7 at h
 split at h
 ·-- a string
  rename_i l
  obtain rfl:=aa rfl
  simp only[Rel] at I
  unfold Ar6 at h
  split at h<;>try exact h.elim
  rename_i C D J L
  obtain⟨h0,h1,h2,M⟩:=h
  have hb:=Nz (P:=P) E Y Z (b:=false) (cap:=l.length) J L h0 h1 h2
  refine pvI E W (x:= .string ⟨⟨(l.drop C.toNat).take (D.toNat-C.toNat)⟩⟩) ?_ (by simp [Rel]) M
  have ag:(ByteArray.mk ⟨l⟩).size=l.length:=rfl
  have ah:(ByteArray.mk ⟨l⟩).extract C.toNat D.toNat=⟨⟨(l.drop C.toNat).take (D.toNat-C.toNat)⟩⟩:=by
   apply ByteArray.ext
   rw[ByteArray.data_extract]
   apply Array.ext'
   simp [Array.toList_extract,List.extract]
  simp [execOp,he,I,Instr.sliceAt,Instr.slice,run_underlying hu,ag,hb,ah]
 ·-- a nil slice
  rename_i e
  obtain rfl:=aa rfl
  obtain⟨hie,h⟩:=h
  simp only[Rel] at I
  unfold Ca9 at h
  split at h<;>try exact h.elim
  rename_i C D J L
  obtain⟨rfl,rfl,M⟩:=h
  have hb:=Nz (P:=P) E Y Z (b:=true) (cap:=0) J L (by omega) (by omega) (by omega)
  refine pvI E W (x:= .slice none 0 0) ?_ (by simp [Rel]) M
  simp [execOp,he,I,Instr.sliceAt,Instr.slice,run_underlying hu,hb,Dd hie]
 ·-- memory that lasts
  rename_i e cs len
  obtain rfl:=aa rfl
  obtain⟨hie,h⟩:=h
  simp only[Rel] at I
  obtain⟨ad,cap,hp,ac,hc⟩:=I
  unfold Ak1 at h
  split at h<;>try exact h.elim
  rename_i C D J L
  obtain⟨h0,h1,h2,M⟩:=h
  have hb:=Nz (P:=P) E Y Z (b:=true) (cap:=cap) J L h0 h1 (by omega)
  refine pvI E W (x:= .slice (if cap=C.toNat then ad else ad.map (·.add (C.toNat*P.cellsOf e))) (D.toNat-C.toNat) (cap-C.toNat)) ?_ ?_ M
  ·simp [execOp,he,hp,Instr.sliceAt,Instr.slice,run_underlying hu,hb,Dd hie]
  ·simp only[Rel]
   refine⟨_,_,rfl,by omega, ?_⟩
   by_cases O:cap=C.toNat
   ·have:D.toNat-C.toNat=0:=by omega
    rw[this];exact .inl (by simp)
   ·rw[if_neg O]
    rcases hc with rfl | ⟨b,o',xs,rfl,hc,hl⟩
    ·exact .inl (by simp)
    ·refine .inr ⟨b,o'+C.toNat*P.cellsOf e,(xs.drop (C.toNat*P.cellsOf e)).take ((D.toNat-C.toNat)*P.cellsOf e),by simp [Me], ?_,(hl.drop _).take _⟩
     rcases hc with rfl | ⟨g1,g2⟩
     ·exact .inl (by simp)
     ·exact .inr ⟨g1,(Rp.drop g2).take⟩
 ·-- a slice of the call's own
  rename_i e sz r0 off len ai
  obtain rfl:=aa rfl
  obtain⟨hie,rfl,h⟩:=h
  simp only[Rel] at I
  obtain⟨o',cap,hp,aj,ac,ab,V⟩:=I
  unfold Wn at h
  split at h<;>try exact h.elim
  rename_i C D S J L em
  cases em
  obtain⟨h0,h1,h2,h3,M⟩:=h
  have hb:=Nz (P:=P) E Y Z (b:=true) (cap:=cap) J L h0 h1 (by omega)
  refine pvI E W (x:= .slice (if cap=C.toNat then some ⟨r0,o',none⟩ else some ⟨r0,o'+C.toNat*P.cellsOf e,none⟩) (D.toNat-C.toNat) (cap-C.toNat)) ?_ ?_ M
  ·simp [execOp,he,hp,Instr.sliceAt,Instr.slice,run_underlying hu,hb,Dd hie,Me]
  ·simp only[Rel]
   have ae:(cap-C.toNat)*P.cellsOf e+C.toNat*P.cellsOf e=cap*P.cellsOf e:=by
    rw[<-Nat.add_mul];congr 1;omega
   by_cases O:cap=C.toNat
   ·exact⟨o',cap-C.toNat,by simp [O],by omega,by omega, .inl (by omega),V.le (by omega)⟩
   ·refine⟨o'+C.toNat*P.cellsOf e,cap-C.toNat,by simp [O],by omega,by omega, .inr ?_,V.le (by omega)⟩
    rcases ab with e1 | e1
    ·omega
    ·rw[e1]
 ·-- a slice of the call's own, with a third index
  rename_i e sz r0 off len ai m
  obtain⟨hie,rfl,ak,h⟩:=h
  simp only[Rel] at I
  obtain⟨o',cap,hp,aj,ac,ab,V⟩:=I
  unfold Wn at h
  split at h<;>try exact h.elim
  rename_i C D S J L em
  obtain⟨h0,h1,h2,h3,M⟩:=h
  have al:hi≠none:=by rintro rfl;simp [Rh] at ak
  have am:X≠none:=by rintro rfl;simp [Rh] at hm
  have hb:=Cl4 (P:=P) E Y Z af (b:=true) (len:=len) (cap:=cap) J al am L (by rw[hm];exact em) h0 h1 h2 (by omega)
  refine pvI E W (x:= .slice (if S.toNat=C.toNat then some ⟨r0,o',none⟩ else some ⟨r0,o'+C.toNat*P.cellsOf e,none⟩) (D.toNat-C.toNat) (S.toNat-C.toNat)) ?_ ?_ M
  ·simp [execOp,he,hp,Instr.sliceAt,Instr.slice,run_underlying hu,hb,Dd hie,Me]
  ·simp only[Rel]
   have ae:(S.toNat-C.toNat)*P.cellsOf e+C.toNat*P.cellsOf e=S.toNat*P.cellsOf e:=by
    rw[<-Nat.add_mul];congr 1;omega
   have ao:S.toNat*P.cellsOf e<=cap*P.cellsOf e:=Nat.mul_le_mul_right _ (by omega)
   by_cases O:S.toNat=C.toNat
   ·exact⟨o',S.toNat-C.toNat,by simp [O],by omega,by omega, .inl (by omega),V.le (by omega)⟩
   ·refine⟨o'+C.toNat*P.cellsOf e,S.toNat-C.toNat,by simp [O],by omega,by omega, .inr ?_,V.le (by omega)⟩
    rcases ab with e1 | e1
    ·omega
    ·rw[e1]
 ·-- an array of the call's own
  rename_i n e r0 off
  obtain rfl:=aa rfl
  obtain⟨hie,U,h⟩:=h
  simp only[Rel] at I
  have V:Dt5 w r0 (off+n*P.cellsOf e):=by
   cases hh:s.heap r0 with
   | none=>rw[hh] at U;exact U.elim
   | some ob=>
    cases ob with
    | loop=>rw[hh] at U;exact U.elim
    | iter=>rw[hh] at U;exact U.elim
    | map=>rw[hh] at U;exact U.elim
    | cells cs e'=>
     rw[hh] at U
     obtain⟨xs,c,fz,g1,g2,g3,g4⟩:=E.heap r0 _ hh
     refine⟨E.heap.lt (by simp [hh]),fun k hk=> ?_⟩
     rw[g1] at hk
     simp [Pk] at hk
     have:=g3.length
     have:=g2.length_le
     simp only[Array.length_toList] at this
     simp only[Fv4] at U
     omega
  unfold Wn at h
  split at h<;>try exact h.elim
  rename_i C D S J L em
  cases em
  obtain⟨h0,h1,h2,h3,M⟩:=h
  have hb:=Nz (P:=P) E Y Z (b:=false) (cap:=n) J L h0 h1 h2
  refine pvI E W (x:= .slice (some (if n=C.toNat then⟨r0,off,none⟩ else⟨r0,off+C.toNat*P.cellsOf e,none⟩)) (D.toNat-C.toNat) (n-C.toNat)) ?_ ?_ M
  ·simp [execOp,he,I,Instr.sliceAt,run_underlying hu,Instr.sureAddr,hb,Dd hie,Me]
  ·simp only[Rel]
   have ae:(n-C.toNat)*P.cellsOf e+C.toNat*P.cellsOf e=n*P.cellsOf e:=by
    rw[<-Nat.add_mul];congr 1;omega
   by_cases O:n=C.toNat
   ·exact⟨off,n-C.toNat,by simp [O],by omega,by omega, .inl (by omega),V.le (by omega)⟩
   ·exact⟨off+C.toNat*P.cellsOf e,n-C.toNat,by simp [O],by omega,by omega, .inr rfl,V.le (by omega)⟩
 ·-- an array in memory that lasts
  rename_i n e cs off
  obtain rfl:=aa rfl
  obtain⟨hie,hle,h⟩:=h
  simp only[Rel] at I
  obtain⟨b,o',xs,hp,hc,hl⟩:=I
  unfold Ak1 at h
  split at h<;>try exact h.elim
  rename_i C D J L
  obtain⟨h0,h1,h2,M⟩:=h
  have hb:=Nz (P:=P) E Y Z (b:=false) (cap:=n) J L h0 h1 h2
  refine pvI E W (x:= .slice (some (if n=C.toNat then⟨b,o'+off,none⟩ else⟨b,o'+off+C.toNat*P.cellsOf e,none⟩)) (D.toNat-C.toNat) (n-C.toNat)) ?_ ?_ M
  ·simp [execOp,he,hp,Instr.sliceAt,run_underlying hu,Instr.sureAddr,hb,Dd hie,Me]
  ·simp only[Rel]
   refine⟨_,_,rfl,by omega, ?_⟩
   by_cases O:n=C.toNat
   ·have:D.toNat-C.toNat=0:=by omega
    rw[this];exact .inl (by simp)
   ·rw[if_neg O]
    refine .inr ⟨b,o'+off+C.toNat*P.cellsOf e,((((xs.drop off).take (n*P.cellsOf e)).drop (C.toNat*P.cellsOf e)).take ((D.toNat-C.toNat)*P.cellsOf e)),rfl, ?_,(((hl.drop _).take _).drop _).take _⟩
    rcases hc with rfl | ⟨g1,g2⟩
    ·exact .inl (by simp)
    ·exact .inr ⟨g1,(Rp.drop (Rp.take (Rp.drop g2))).take⟩
 ·exact h.elim
end
end Go.Dl
