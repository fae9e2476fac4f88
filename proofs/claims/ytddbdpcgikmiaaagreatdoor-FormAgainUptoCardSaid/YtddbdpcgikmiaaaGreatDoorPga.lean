/- The data level and the contracts of the functions that are reached (part 1). -/
import Derived.Shelf.Lays
import Derived.Shelf.Strings.Fields
import Derived.Shelf.Strings.Repeat
import Derived.Test.YtddbdpcgikmiaaaGreatDoorProg
import Derived.WalkKit
import Derived.OwnWalk
import Derived.RangeFuncNested
import Derived.RangeFuncCalls
import Derived.TacticsIn
import Derived.OrdersIn
set_option linter.unusedSimpArgs false
set_option linter.unusedVariables false
set_option linter.unusedSectionVars false
attribute [go_sem ↓] reduceIte
theorem jA {α : Type _} {a : α} {l : List α} : (a::l).length = l.length+1 := rfl
theorem jB {α : Type _} : ([] : List α).length = 0 := rfl
theorem jC {α : Type _} {a b : List α} : (a++b).length = a.length+b.length := List.length_append
theorem jD (n : Nat) : (n:Int).toNat = n := rfl
theorem jE {α : Type _} {a : α} {l : List α} {i : Nat} : (a::l).drop (i+1) = l.drop i := rfl
theorem jF (a b : Bool) : ((a && b) = true) = (a = true ∧ b = true) := Bool.and_eq_true a b
theorem jG {α : Type _} (l : List α) : [] ++ l = l := rfl
theorem jH {α : Type _} (l : List α) : l ++ [] = l := List.append_nil l
theorem jI {α : Type _} {a : α} {l m : List α} : (a::l) ++ m = a::(l++m) := rfl
theorem jJ {α : Type _} {l : List α} : l.drop 0 = l := rfl
theorem jK {α : Type _} {β : Type _} {l : List α} (f : α → β) : (l.map f).length = l.length := List.length_map f
theorem jL {α : Type _} {i : Nat} : ([] : List α).drop i = [] := List.drop_nil
theorem jM {α : Type _} {a : α} {l : List α} {i : Nat} : (a::l).take (i+1) = a::l.take i := rfl
theorem jN {α : Type _} {β : Type _} {f : α → β} {a : α} {l : List α} : (a::l).map f = f a::l.map f := rfl
theorem jO {α : Type _} (a b c : List α) : a ++ b ++ c = a ++ (b ++ c) := List.append_assoc a b c
theorem jP {α : Type _} {β : Type _} {f : α → β} : ([] : List α).map f = [] := rfl
theorem jQ {α : Type _} {a : α} : [a].length = 1 := rfl
theorem jR {α : Type _} {l : List α} : l.take 0 = [] := List.take_zero
theorem jS (b : Bool) : (true && b) = b := Bool.true_and b
theorem jT (b : Bool) : (false && b) = false := Bool.false_and b
-- Bs
namespace Go.Proofs
open Go.Shelf
def Tryz.lays157_ren:Go.Shelf.Ren:=⟨fun | 157=>307 | 229=>321 | 199=>322 | 261=>326 | 311=>327 | 312=>328 | n=>n,fun | 9=>9 | 31=>54 | 3=>3 | 5=>5 | 4=>4 | 119=>332 | 0=>0 | 40=>334 | 152=>336 | 21=>21 | 154=>338 | 51=>273 | 141=>340 | 196=>344 | 193=>341 | 198=>347 | 49=>345 | 194=>342 | 201=>350 | 226=>352 | 46=>204 | 227=>353 | n=>n,fun | 0=>1 | 6=>2 | n=>n⟩
theorem Tryz.lays157:Go.Proofs.Lays.n157 Tryz.prog Tryz.lays157_ren:= {
  mixed:=by kernel_rfl
  f157:=Tryz.func307.trans (congrArg some (by kernel_rfl))
  f199:=Tryz.func322.trans (congrArg some (by kernel_rfl))
  f229:=Tryz.func321.trans (congrArg some (by kernel_rfl))
  f261:=Tryz.func326.trans (congrArg some (by kernel_rfl))
  f311:=Tryz.func327.trans (congrArg some (by kernel_rfl))
  f312:=Tryz.func328.trans (congrArg some (by kernel_rfl))
  t0:=Tryz.underlying0
  a0:=Tryz.isAgg0
  z0:=Tryz.sizeOf0
  v0:=Tryz.zeroValue0
  t3:=Tryz.underlying3
  a3:=Tryz.isAgg3
  z3:=Tryz.sizeOf3
  v3:=Tryz.zeroValue3
  t4:=Tryz.underlying4
  a4:=Tryz.isAgg4
  z4:=Tryz.sizeOf4
  v4:=Tryz.zeroValue4
  t5:=Tryz.underlying5
  a5:=Tryz.isAgg5
  z5:=Tryz.sizeOf5
  v5:=Tryz.zeroValue5
  t9:=Tryz.underlying9
  a9:=Tryz.isAgg9
  z9:=Tryz.sizeOf9
  v9:=Tryz.zeroValue9
  t21:=Tryz.underlying21
  a21:=Tryz.isAgg21
  z21:=Tryz.sizeOf21
  v21:=Tryz.zeroValue21
  t31:=Tryz.underlying54
  a31:=Tryz.isAgg54
  z31:=Tryz.sizeOf54
  v31:=Tryz.zeroValue54
  t40:=Tryz.underlying334
  a40:=Tryz.isAgg334
  z40:=Tryz.sizeOf334
  v40:=Tryz.zeroValue334
  t46:=Tryz.underlying204
  a46:=Tryz.isAgg204
  z46:=Tryz.sizeOf204
  v46:=Tryz.zeroValue204
  t49:=Tryz.underlying345
  a49:=Tryz.isAgg345
  z49:=Tryz.sizeOf345
  v49:=Tryz.zeroValue345
  t51:=Tryz.underlying273
  a51:=Tryz.isAgg273
  z51:=Tryz.sizeOf273
  v51:=Tryz.zeroValue273
  t119:=Tryz.underlying332
  a119:=Tryz.isAgg332
  z119:=Tryz.sizeOf332
  t141:=Tryz.underlying340
  a141:=Tryz.isAgg340
  z141:=Tryz.sizeOf340
  v141:=Tryz.zeroValue340
  t152:=Tryz.underlying336
  a152:=Tryz.isAgg336
  z152:=Tryz.sizeOf336
  v152:=Tryz.zeroValue336
  t154:=Tryz.underlying338
  a154:=Tryz.isAgg338
  z154:=Tryz.sizeOf338
  v154:=Tryz.zeroValue338
  t193:=Tryz.underlying341
  a193:=Tryz.isAgg341
  z193:=Tryz.sizeOf341
  v193:=Tryz.zeroValue341
  t194:=Tryz.underlying342
  a194:=Tryz.isAgg342
  z194:=Tryz.sizeOf342
  v194:=Tryz.zeroValue342
  t196:=Tryz.underlying344
  a196:=Tryz.isAgg344
  z196:=Tryz.sizeOf344
  v196:=Tryz.zeroValue344
  t198:=Tryz.underlying347
  a198:=Tryz.isAgg347
  z198:=Tryz.sizeOf347
  v198:=Tryz.zeroValue347
  t201:=Tryz.underlying350
  a201:=Tryz.isAgg350
  z201:=Tryz.sizeOf350
  v201:=Tryz.zeroValue350
  t226:=Tryz.underlying352
  a226:=Tryz.isAgg352
  z226:=Tryz.sizeOf352
  v226:=Tryz.zeroValue352
  t227:=Tryz.underlying353
  a227:=Tryz.isAgg353
  z227:=Tryz.sizeOf353
  v227:=Tryz.zeroValue353
  g0:=by kernel_rfl
  g6:=by kernel_rfl }
open Go.RowKit Go.Lib in
theorem Tryz.strings_Fields (s:ByteArray) (w:World) (hs:s.size<4294967281) (C: ∀(j:Nat) b,s.data.toList[j]? =some b->b.toNat<128) (D:Lib.TabIs Tryz.prog w "strings.asciiSpace" .u8 Lib.asciiSpaceTab):
  Calls Tryz.prog 307 #[.string s] w fun e w'=>
   e= .returned (.slice (some ⟨w.heap.size,0,none⟩) (Lib.fields s.data.toList).length (Lib.fields s.data.toList).length)/\w'=w.alloc (.cells ((Lib.fields s.data.toList).map fun l=>Value.string ⟨l.toArray⟩).toArray 9):=Any.strings_Fields Tryz.lays157 (by kernel_rfl) (by kernel_rfl) s w hs C D
end Go.Proofs
-- Da
namespace Go.Dl
open Go
attribute [go_sem] Nat.reduceEqDiff Nat.reduceAdd Nat.reduceMul Nat.reduceSub Nat.reduceLeDiff reduceCtorEq Int.reduceAdd Int.reduceSub Int.reduceMul Int.reduceNeg Int.reduceToNat List.reduceReplicate String.reduceEq
inductive DVal where
 | raw (v:Value)
 | bool (b:Bool)
 | int (k:IntKind) (n:Int)
 | str (s:List UInt8)
 | nilPtr
 | vptr (cs:List DVal) (off:Nat)
 | optr (r off:Nat)
 | nilSlice
 | vslice (cs:List DVal) (len:Nat)
 | oslice (sz r off len lo:Nat)
 | nilMap
 | omap (r:Nat)
 | func (fn:Fn) (first captured:List DVal)
 | nilFunc
 | iface (t:TypeId) (v:DVal)
 | nilIface
 | agg (cs:List DVal)
 | tuple (vs:List DVal)
 deriving Inhabited
def DVal.cells:DVal->List DVal
 | .agg cs=>cs
 | v=> [v]
def DVal.one:DVal->Bool
 | .agg _ | .tuple _=>false
 | .raw v=>v.oneCell'
 | _=>true
inductive DObj where
 | cells (cs:List DVal) (e:TypeId)
 /-- The record of a loop over an iterator: the slots as they were where it began (the record's own 'tmps' are not looked at). -/
 | loop (env:Nat->DVal) (n:Nat) (r:Loop)
 /-- A map: its entries, in the order in which they were laid. -/
 | map (es:List (DVal×DVal))
 /-- A walk through a string's characters. -/
 | iter (s:List UInt8) (pos:Nat)
abbrev Ac:=Nat->Option DObj
def upd {α:Type} (f:Nat->α) (i:Nat) (v:α):Nat->α:=fun j=>if j=i then v else f j
structure DS where
 env:Nat->DVal
 heap:Ac
inductive DExit where
 | normal
 | exit (id:Nat)
 | goto (l:Nat)
 | ret
 | panic (v:DVal)
inductive DEnd where
 | ret (v:DVal)
 | panic (v:DVal)
def Uv (w:World) (H:Ac) (b off:Nat) (xs:List Value):Prop:=
 xs= []\/(H b=none/\ ∀i x,xs[i]? =some x->w.cell? ⟨b,off+i,none⟩=some x)
def Qa:Option Obj->Option Nat
 | some (.cells c _ _)=>some c.size
 | _=>none
def Dy5 (w:World) (r n:Nat):Prop:=r<w.heap.size/\ ∀k,Qa w.heap[r]? =some k->n<=k
mutual
/-- The value of the data level describes the model's value. -/
def Rel (w:World) (H:Ac):DVal->Value->Prop
 | .raw x,v=>v=x/\x.oneCell'=true
 | .bool b,v=>v= .bool b
 | .int k n,v=>v= .int k n
 | .str s,v=>v= .string ⟨⟨s⟩⟩
 | .nilPtr,v=>v= .pointer none
 | .vptr cs off,v=> ∃b o xs,v= .pointer (some ⟨b,o+off,none⟩)/\Uv w H b o xs/\Az w H cs xs
 | .optr r off,v=>v= .pointer (some ⟨r,off,none⟩)
 | .nilSlice,v=>v= .slice none 0 0
 | .vslice cs len,v=> ∃a cap,v= .slice a len cap/\len<=cap/\(cs= []\/ ∃b o xs,a=some ⟨b,o,none⟩/\Uv w H b o xs/\Az w H cs xs)
 | .oslice sz r off len lo,v=> ∃o cap,v= .slice (some ⟨r,o,none⟩) len cap/\lo<=cap/\len<=cap/\(cap=0\/o=off)/\Dy5 w r (o+cap*sz)
 | .nilMap,v=>v= .map none
 | .omap r,v=>v= .map (some r)
 | .func fn first captured,v=> ∃xs ys,v= .func fn xs ys/\Az w H first xs.toList/\Az w H captured ys.toList
 | .nilFunc,v=>v= .nilFunc
 | .iface t d,v=> ∃x,v= .iface t x/\Rel w H d x
 | .nilIface,v=>v= .nilIface
 | .agg cs,v=> ∃xs,v= .agg xs/\Az w H cs xs.toList
 | .tuple cs,v=> ∃xs,v= .tuple xs/\Az w H cs xs.toList
def Az (w:World) (H:Ac):List DVal->List Value->Prop
 | [],xs=>xs= []
 | d::ds,xs=> ∃y ys,xs=y::ys/\Rel w H d y/\Az w H ds ys
end
def Zr (w:World) (H:Ac):List (DVal×DVal)->List MapEntry->Prop
 | [],ms=>ms= []
 | p::es,ms=> ∃m ms',ms=m::ms'/\Rel w H p.1 m.key/\Rel w H p.2 m.val/\Zr w H es ms'
def Ai8 (w:World) (H:Ac):DObj->Option Obj->Prop
 | .cells cs e,o=> ∃xs c fz,o=some (.cells c e fz)/\xs<+:c.toList/\Az w H cs xs/\ ∀i,i<c.size-> ¬(fz.1<=i/\i<fz.2)
 | .loop env n r,o=> ∃tmps,o=some (.loop { r with tmps:=tmps })/\tmps.size=n/\ ∀i,i<n->Rel w H (env i) (tmps.getD i undef)
 | .map es,o=> ∃ms clock,o=some (.map ms clock)/\Zr w H es ms.toList
 | .iter s pos,o=>o=some (.stringIter ⟨⟨s⟩⟩ pos)
def Bm (w:World) (H:Ac):Prop:= ∀r o,H r=some o->Ai8 w H o w.heap[r]?
structure Ext (H:Ac) (w:World) (H':Ac) (w':World):Prop where
 os:w'.os=w.os
 tape:w'.tape=w.tape
 output:w'.output=w.output
 size:w.heap.size<=w'.heap.size
 block: ∀b,b<w.heap.size->H b=none->w'.heap[b]? =w.heap[b]?
 own: ∀b,H' b≠none->H b≠none\/w.heap.size<=b
 keep: ∀b,b<w.heap.size->Qa w'.heap[b]? =Qa w.heap[b]?
 fz: ∀a,a.block<w.heap.size->H a.block=none->w'.frozen? a=w.frozen? a
structure GOk (G:Nat->DVal) (w:World) (H:Ac):Prop where
 rel: ∀g,Rel w H (G g) (.pointer (some ⟨g,0,none⟩))
 exact: ∀g cs,G g= .vptr cs 0->Qa w.heap[g]? =some cs.length
structure Base where
 b:Nat
 late:List Deferred
 still:Bool
structure Fr where
 n:Nat
 base:Base
instance:Coe Fr Nat:=⟨Fr.n⟩
def Dfs (w:World) (H:Ac) (B:Base) (ds:List Deferred):Prop:=
 ∃Ds:List Nat,ds=Ds.map (fun D=>({ target:= .collected D,args:= #[] }:Deferred))++B.late/\Ds.Nodup/\ ∀D∈Ds,(B.b<=D/\B.still=false)/\w.heap[D]? =some (.deferred (some []))/\H D=none
theorem Dfs.nil (w:World) (H:Ac) (B:Nat):Dfs w H ⟨B,[],false⟩ []:=⟨[],rfl,List.nodup_nil,by simp⟩
structure Sim (G:Nat->DVal) (N:Fr) (s:DS) (a:Act) (w:World):Prop where
 size:a.tmps.size=N.n
 defers:Dfs w s.heap N.base a.defers
 tmps: ∀i,i<N.n->Rel w s.heap (s.env i) (a.tmps.getD i undef)
 heap:Bm w s.heap
 glob:GOk G w s.heap
 base:N.base.b<=w.heap.size
inductive RelX (w:World) (H:Ac):DExit->Exit->Prop
 | normal:RelX w H .normal .normal
 | exit (id:Nat):RelX w H (.exit id) (.exit id)
 | goto (l:Nat):RelX w H (.goto l) (.goto l)
 | ret:RelX w H .ret .ret
 | panic (d:DVal) (v:Value):Rel w H d v->RelX w H (.panic d) (.panic [{ v,recovered:=false }])
inductive RelE (w:World) (H:Ac):DEnd->Ending->Prop
 | ret (d:DVal) (v:Value):Rel w H d v->RelE w H (.ret d) (.returned v)
 | panic (d:DVal) (v:Value):Rel w H d v->RelE w H (.panic d) (.panicked [{ v,recovered:=false }])
def Ag (P:Program) (G:Nat->DVal) (f:FuncId) (args:List DVal) (H:Ac) (R:DEnd->Ac->Prop):Prop:=
 (∀vs w,(callFunc f vs).run P w= .ok (.enter f vs) w)/\
 ∀(vs:List Value) (w:World),Az w H args vs->Bm w H->GOk G w H->
  Calls P f vs.toArray w fun e w'=> ∃e' H',R e' H'/\RelE w' H' e' e/\Bm w' H'/\Ext H w H' w'
def FOk (F:Fence):Prop:=F=Fence.wide\/ ∃l,F=Fence.wide.inRound l
def Bf8 (P:Program) (G:Nat->DVal) (l:Nat) (args:List DVal) (H:Ac) (R:DEnd->Ac->Prop):Prop:=
 ∀(F:Fence) (n:Nat),FOk F-> ∀(vs:List Value) (w:World),Az w H args vs->Bm w H->GOk G w H->
  YieldAt F n P l vs.toArray w fun e w'=> ∃e' H',R e' H'/\RelE w' H' e' e/\Bm w' H'/\Ext H w H' w'
section
variable {P:Program} {F:Fence} {n:Nat}
theorem FOk.fn (h:FOk F) (g:FuncId):F.fn g:=by
 rcases h with rfl | ⟨l,rfl⟩<;>trivial
theorem FOk.depth (h:FOk F):F.depth=none:=by
 rcases h with rfl | ⟨l,rfl⟩<;>rfl
theorem FOk.calls (h:FOk F) {f:FuncId} {args:Array Value} {w:World} {R:Ending->World->Prop} (C:Calls P f args w R):CallsIn F n P f args w R:=by
 rcases h with rfl | ⟨l,rfl⟩
 ·exact callsIn_wide.2 C
 ·exact CallsIn.inRound l (callsIn_wide.2 C)
theorem FOk.rows (h:FOk F) {row:String} {args:Array Value} {w:World} {R:Value->World->Prop} (C:Rows P row args w R):RowsIn F n P row args w R:=by
 have h0:RowsIn Fence.wide n P row args w R:=fun c cs _=>by
  obtain⟨v,w',hr,hs⟩:=C c cs;exact⟨v,w',hr,stepsIn_wide.2 hs⟩
 rcases h with rfl | ⟨l,rfl⟩
 ·exact h0
 ·exact h0
theorem FOk.oper (h:FOk F) {o:Oper} {a:Act} {w:World} {K:Act->World->Prop} {Q:Exit->Act->World->Prop} (C: ∀c,o.op≠ .defer c) (hw:o.wp P a w K Q):o.wpIn F n P a w K Q:=by
 refine⟨fun f _=>h.fn f, ?_⟩;rw[Oper.semAt_eq _ _ _ C];unfold Oper.wp at hw;have hdep:F.depth.isSome=true->1<=n:=by rw[h.depth];intro hh;cases hh
 generalize (execOp a.eval o).run P w=r at hw⊢
 cases r with
 | ok x w'=>
  cases x<;>simp only[Oper.upon,Oper.uponIn] at hw⊢ <;>first
   | exact hw
   | exact⟨hdep,h.calls (hw.mono fun e D he=>by cases e<;>exact he)⟩
   | exact⟨hdep,h.rows hw⟩
   | exact hw.elim
 | halt x w'=>cases x<;>simp only[Oper.upon,Oper.uponIn] at hw⊢ <;>first | exact hw | exact hw.elim
end
def DWp (P:Program) (G:Nat->DVal) (N:Nat) (c:Code) (Q:DExit->DS->Prop) (s:DS):Prop:=
 ∀(F:Fence) (n:Nat) (B:Base),FOk F-> ∀(a:Act) (w:World),Sim G ⟨N,B⟩ s a w->
  c.wpIn F n P (fun e a' w'=> ∃e' s',Q e' s'/\RelX w' s'.heap e' e/\Sim G ⟨N,B⟩ s' a' w'/\Ext s.heap w s'.heap w') a w
def Gq8 (P:Program) (G:Nat->DVal) (N:Nat) (c:Code) (Q:DExit->DS->Prop) (s:DS):Prop:=
 ∀(n:Nat) (B:Base),B.still=false-> ∀(a:Act) (w:World),Sim G ⟨N,B⟩ s a w->
  c.wpIn Fence.wide n P (fun e a' w'=> ∃e' s',Q e' s'/\RelX w' s'.heap e' e/\Sim G ⟨N,B⟩ s' a' w'/\Ext s.heap w s'.heap w') a w
structure Lasts (H:Ac) (w:World) (H':Ac) (w':World):Prop where
 cell: ∀b i x,H b=none->w.cell? ⟨b,i,none⟩=some x->H' b=none/\w'.cell? ⟨b,i,none⟩=some x
 size:w.heap.size<=w'.heap.size
 keep: ∀b,b<w.heap.size->Qa w'.heap[b]? =Qa w.heap[b]?
theorem Lasts.room {H H':Ac} {w w':World} (h:Lasts H w H' w') {r n:Nat} (hr:Dy5 w r n):Dy5 w' r n:=
 ⟨Nat.lt_of_lt_of_le hr.1 h.size,fun k hk=>hr.2 k (by rw[<-h.keep r hr.1];exact hk)⟩
theorem Fl3 {w:World} {b i:Nat} {x:Value} (h:w.cell? ⟨b,i,none⟩=some x):b<w.heap.size:=by
 unfold World.cell? at h;rcases Nat.lt_or_ge b w.heap.size with hl | hl
 ·exact hl
 ·simp [Array.getElem?_eq_none hl] at h
theorem Ext.lasts {H H':Ac} {w w':World} (h:Ext H w H' w'):Lasts H w H' w':=by
 refine⟨fun b i x hb hc=> ?_,h.size,h.keep⟩;have hl:=Fl3 hc;constructor
 ·cases e:H' b with
  | none=>rfl
  | some o=>
   rcases h.own b (by simp [e]) with h1 | h1
   ·exact(h1 hb).elim
   ·omega
 ·unfold World.cell? at hc⊢
  rw[h.block b hl hb];exact hc
theorem Dfs.ext {H H':Ac} {w w':World} {B:Base} {C:List Deferred} (h:Ext H w H' w') (J:Dfs w H B C):Dfs w' H' B C:=by
 obtain⟨L,h1,h2,h3⟩:=J;refine⟨L,h1,h2,fun D M=> ?_⟩;obtain⟨O,E,I⟩:=h3 D M;have hl:D<w.heap.size:=(Array.getElem?_eq_some_iff.1 E).1;refine⟨O,by rw[h.block D hl I];exact E, ?_⟩;cases e:H' D with
 | none=>rfl
 | some o=>
  rcases h.own D (by simp [e]) with k | k
  ·exact(k I).elim
  ·omega
theorem Dfs.less {H H':Ac} {w:World} {B:Base} {E:List Deferred} (I:Dfs w H B E) (h: ∀b,H' b≠none->H b≠none):Dfs w H' B E:=by
 obtain⟨J,h1,h2,h3⟩:=I;refine⟨J,h1,h2,fun D C=>⟨(h3 D C).1,(h3 D C).2.1, ?_⟩⟩;cases e:H' D with
 | none=>rfl
 | some o=>exact absurd (h3 D C).2.2 (h D (by simp [e]))
theorem Uv.lasts {H H':Ac} {w w':World} (h:Lasts H w H' w') {b o:Nat} {xs:List Value} (C:Uv w H b o xs):Uv w' H' b o xs:=by
 rcases C with rfl | ⟨h1,h2⟩
 ·exact .inl rfl
 ·cases xs with
  | nil=>exact .inl rfl
  | cons x xs=>
   refine .inr ⟨(h.cell b (o+0) x h1 (h2 0 x rfl)).1,fun i y D=>(h.cell b (o+i) y h1 (h2 i y D)).2⟩
mutual
theorem Rel.lasts {H H':Ac} {w w':World} (h:Lasts H w H' w'): ∀(d:DVal) (v:Value),Rel w H d v->Rel w' H' d v
 | .raw _,_,hr=>by simpa [Rel] using hr
 | .bool _,_,hr=>by simpa [Rel] using hr
 | .int _ _,_,hr=>by simpa [Rel] using hr
 | .str _,_,hr=>by simpa [Rel] using hr
 | .nilPtr,_,hr=>by simpa [Rel] using hr
 | .vptr cs off,v,hr=>by
  simp only[Rel] at hr⊢
  obtain⟨b,o,xs,rfl,hc,hl⟩:=hr
  exact⟨b,o,xs,rfl,hc.lasts h,Az.lasts h cs xs hl⟩
 | .optr _ _,_,hr=>by simpa [Rel] using hr
 | .nilSlice,_,hr=>by simpa [Rel] using hr
 | .vslice cs len,v,hr=>by
  simp only[Rel] at hr⊢
  obtain⟨a,cap,rfl,hle,hc⟩:=hr
  refine⟨a,cap,rfl,hle, ?_⟩
  rcases hc with hc | ⟨b,o,xs,rfl,hc,hl⟩
  ·exact .inl hc
  ·exact .inr ⟨b,o,xs,rfl,hc.lasts h,Az.lasts h cs xs hl⟩
 | .oslice sz r off len lo,v,hr=>by
  simp only[Rel] at hr⊢
  obtain⟨o,cap,e,h1,h2,h3,h4⟩:=hr
  exact⟨o,cap,e,h1,h2,h3,h.room h4⟩
 | .nilMap,_,hr=>by simpa [Rel] using hr
 | .omap _,_,hr=>by simpa [Rel] using hr
 | .func fn first captured,v,hr=>by
  simp only[Rel] at hr⊢
  obtain⟨xs,ys,rfl,h1,h2⟩:=hr
  exact⟨xs,ys,rfl,Az.lasts h first _ h1,Az.lasts h captured _ h2⟩
 | .nilFunc,_,hr=>by simpa [Rel] using hr
 | .iface t d,v,hr=>by
  simp only[Rel] at hr⊢
  obtain⟨x,rfl,h1⟩:=hr
  exact⟨x,rfl,Rel.lasts h d x h1⟩
 | .nilIface,_,hr=>by simpa [Rel] using hr
 | .agg cs,v,hr=>by
  simp only[Rel] at hr⊢
  obtain⟨xs,rfl,h1⟩:=hr
  exact⟨xs,rfl,Az.lasts h cs _ h1⟩
 | .tuple cs,v,hr=>by
  simp only[Rel] at hr⊢
  obtain⟨xs,rfl,h1⟩:=hr
  exact⟨xs,rfl,Az.lasts h cs _ h1⟩
theorem Az.lasts {H H':Ac} {w w':World} (h:Lasts H w H' w'): ∀(C:List DVal) (xs:List Value),Az w H C xs->Az w' H' C xs
 | [],_,hr=>by simpa [Az] using hr
 | d::C,xs,hr=>by
  simp only[Az] at hr⊢
  obtain⟨y,ys,rfl,h1,h2⟩:=hr
  exact⟨y,ys,rfl,Rel.lasts h d y h1,Az.lasts h C ys h2⟩
end
theorem Zr.lasts {H H':Ac} {w w':World} (h:Lasts H w H' w'): ∀ {es:List (DVal×DVal)} {ms:List MapEntry},Zr w H es ms->Zr w' H' es ms
 | [],_,hr=>hr
 | p::es,ms,hr=>by
  obtain⟨m,C,rfl,h1,h2,h3⟩:=hr;exact⟨m,C,rfl,Rel.lasts h _ _ h1,Rel.lasts h _ _ h2,Zr.lasts h h3⟩
theorem Ai8.lasts {H H':Ac} {w w':World} (h:Lasts H w H' w') {o:DObj} {x:Option Obj} (hr:Ai8 w H o x):Ai8 w' H' o x:=by
 cases o with
 | cells cs e=>
  obtain⟨xs,c,fz,h1,h2,h3,h4⟩:=hr;exact⟨xs,c,fz,h1,h2,Az.lasts h _ _ h3,h4⟩
 | loop env n r=>
  obtain⟨tmps,h1,h2,h3⟩:=hr;exact⟨tmps,h1,h2,fun i hi=>Rel.lasts h _ _ (h3 i hi)⟩
 | map es=>
  obtain⟨ms,c,h1,h2⟩:=hr;exact⟨ms,c,h1,h2.lasts h⟩
 | iter s pos=>exact hr
theorem Ai8.some {H:Ac} {w:World} {o:DObj} {x:Option Obj} (hr:Ai8 w H o x): ∃y,x=Option.some y:=by
 cases o with
 | cells cs e=>
  obtain⟨xs,c,fz,h1,h2,h3,h4⟩:=hr;exact⟨_,h1⟩
 | loop env n r=>
  obtain⟨tmps,h1,h2,h3⟩:=hr;exact⟨_,h1⟩
 | map es=>
  obtain⟨ms,c,h1,h2⟩:=hr;exact⟨_,h1⟩
 | iter s pos=>exact⟨_,hr⟩
theorem Ext.refl (H:Ac) (w:World):Ext H w H w:=⟨rfl,rfl,rfl,Nat.le_refl _,fun _ _ _=>rfl,fun _ h=> .inl h,fun _ _=>rfl,fun _ _ _=>rfl⟩
theorem Ext.trans {H H' C:Ac} {w w' D:World} (h:Ext H w H' w') (k:Ext H' w' C D):Ext H w C D:=by
 refine⟨k.os.trans h.os,k.tape.trans h.tape,k.output.trans h.output,Nat.le_trans h.size k.size,fun b hb hn=> ?_,fun b hb=> ?_,fun b hb=>by rw[k.keep b (Nat.lt_of_lt_of_le hb h.size),h.keep b hb],fun a ha hn=>by rw[k.fz a (Nat.lt_of_lt_of_le ha h.size) (by
  cases e:H' a.block with
  | none=>rfl
  | some o=>
   rcases h.own a.block (by simp [e]) with h1 | h1
   ·exact(h1 hn).elim
   ·omega),h.fz a ha hn]⟩
 ·have E:H' b=none:=by
   cases e:H' b with
   | none=>rfl
   | some o=>
    rcases h.own b (by simp [e]) with h1 | h1
    ·exact(h1 hn).elim
    ·omega
  rw[k.block b (Nat.lt_of_lt_of_le hb h.size) E,h.block b hb hn]
 ·rcases k.own b hb with h1 | h1
  ·exact h.own b h1
  ·exact .inr (Nat.le_trans h.size h1)
theorem Az.length {w:World} {H:Ac}: ∀ {C:List DVal} {xs:List Value},Az w H C xs->C.length=xs.length
 | [],_,h=>by simp only[Az] at h;subst h;rfl
 | d::C,xs,h=>by
  simp only[Az] at h;obtain⟨y,ys,rfl,_,h2⟩:=h;simp [Az.length h2]
theorem Az.get {w:World} {H:Ac}: ∀ {C:List DVal} {xs:List Value},Az w H C xs-> ∀ {i:Nat} {d:DVal},C[i]? =some d-> ∃x,xs[i]? =some x/\Rel w H d x
 | [],_,_,i,d,hd=>by simp at hd
 | d::C,xs,h,i,e,hd=>by
  simp only[Az] at h;obtain⟨y,ys,rfl,h1,h2⟩:=h;cases i with
  | zero=>simp at hd;subst hd;exact⟨y,rfl,h1⟩
  | succ i=>simp at hd;obtain⟨x,hx,hr⟩:=Az.get h2 hd;exact⟨x,by simpa using hx,hr⟩
theorem Az.mk {w:World} {H:Ac}: ∀ {C:List DVal} {xs:List Value},C.length=xs.length->(∀(i:Nat) (d:DVal) (x:Value),C[i]? =some d->xs[i]? =some x->Rel w H d x)->Az w H C xs
 | [],[],_,_=>by simp [Az]
 | [],_::_,h,_=>by simp at h
 | _::_,[],h,_=>by simp at h
 | d::C,x::xs,hl,h=>by
  simp only[Az];refine⟨x,xs,rfl,h 0 d x rfl rfl,Az.mk (by simpa using hl) fun i D E h1 h2=>h (i+1) D E (by simpa using h1) (by simpa using h2)⟩
theorem Az.append {w:World} {H:Ac}: ∀ {C es:List DVal} {xs D:List Value},Az w H C xs->Az w H es D->Az w H (C++es) (xs++D)
 | [],_,_,_,h,k=>by simp only[Az] at h;subst h;simpa using k
 | d::C,es,xs,D,h,k=>by
  simp only[Az] at h;obtain⟨y,E,rfl,h1,h2⟩:=h;simp only[jI,Az];exact⟨y,_,rfl,h1,Az.append h2 k⟩
theorem Az.take {w:World} {H:Ac} {C:List DVal} {xs:List Value} (h:Az w H C xs) (n:Nat):Az w H (C.take n) (xs.take n):=by
 have hl:=h.length;refine Az.mk (by simp [hl]) fun i d x h1 h2=> ?_;simp only[List.getElem?_take] at h1 h2;split at h1
 ·rename_i hi
  simp only[hi,if_true] at h2;obtain⟨y,D,hr⟩:=h.get h1;rw[h2] at D;cases D;exact hr
 ·simp at h1
theorem Az.drop {w:World} {H:Ac} {C:List DVal} {xs:List Value} (h:Az w H C xs) (n:Nat):Az w H (C.drop n) (xs.drop n):=by
 have hl:=h.length;refine Az.mk (by simp [hl]) fun i d x h1 h2=> ?_;simp only[List.getElem?_drop] at h1 h2;obtain⟨y,D,hr⟩:=h.get h1;rw[h2] at D;cases D;exact hr
theorem Rel.cells {w:World} {H:Ac} {d:DVal} {v:Value} (h:Rel w H d v):Az w H d.cells v.cells.toList:=by
 cases d<;>simp only[Rel,DVal.cells,Az] at h⊢
 case raw x=>obtain⟨rfl,h⟩:=h;cases v<;>simp_all [Value.cells,Value.oneCell']
 case agg cs=>obtain⟨xs,rfl,hl⟩:=h;simpa [Value.cells] using hl
 case func=>obtain⟨xs,ys,rfl,h1,h2⟩:=h;exact⟨_,_,rfl,⟨xs,ys,rfl,h1,h2⟩,rfl⟩
 case vptr=>obtain⟨b,o,xs,rfl,h1,h2⟩:=h;exact⟨_,_,rfl,⟨b,o,xs,rfl,h1,h2⟩,rfl⟩
 case vslice=>obtain⟨a,cap,rfl,h1,h2⟩:=h;exact⟨_,_,rfl,⟨a,cap,rfl,h1,h2⟩,rfl⟩
 case oslice=>obtain⟨o,cap,rfl,h1⟩:=h;exact⟨_,_,rfl,⟨o,cap,rfl,h1⟩,rfl⟩
 case iface=>obtain⟨x,rfl,h1⟩:=h;exact⟨_,_,rfl,⟨x,rfl,h1⟩,rfl⟩
 case tuple=>obtain⟨xs,rfl,h1⟩:=h;exact⟨_,_,rfl,⟨xs,rfl,h1⟩,rfl⟩
 all_goals (subst h;exact⟨_,_,rfl,rfl,rfl⟩)
mutual
def Fj:Value->DVal
 | .bool b=> .bool b
 | .int k n=> .int k n
 | .string ⟨⟨l⟩⟩=> .str l
 | .pointer none=> .nilPtr
 | .slice none 0 0=> .nilSlice
 | .map none=> .nilMap
 | .nilFunc=> .nilFunc
 | .nilIface=> .nilIface
 | .func fn ⟨a⟩ ⟨c⟩=> .func fn (Jv a) (Jv c)
 | .agg ⟨l⟩=> .agg (Jv l)
 | .tuple ⟨l⟩=> .tuple (Jv l)
 | v=> .raw v
def Jv:List Value->List DVal
 | []=> []
 | v::vs=>Fj v::Jv vs
end
def Hr (env:Nat->DVal) (dst:Option Nat) (v:DVal):Nat->DVal:=
 match dst with
 | some d=>upd env d v
 | none=>env
def Ez:DVal:= .tuple []
def dev (G:Nat->DVal) (env:Nat->DVal):Operand->DVal
 | .tmp t=>env t
 | .const v=>Fj v
 | .global g=>G g
 | .func f=> .func (.func f) [] []
def Hh (G:Nat->DVal) (env:Nat->DVal):List Operand->List DVal
 | []=> []
 | x::xs=>dev G env x::Hh G env xs
def Eb (P:Program) (t:TypeId):Option Bool:=
 match P.underlying t with
 | some (.struct _) | some (.array _ _)=>some true
 | some _=>some false
 | none=>none
def Ev (P:Program) (t:TypeId):Bool:=
 match P.underlying t with
 | some (.struct fs)=>fs.toList.all fun f=>(P.info? f.type).isSome
 | some (.array _ e)=>(P.info? e).isSome
 | _=>false
abbrev DK:=DS->Prop
def Cb (dst:Option Nat) (v:DVal) (K:DK) (s:DS):Prop:=K ⟨Hr s.env dst v,s.heap⟩
def Wi (dst:Option Nat):Option DVal->DK->DS->Prop
 | some v,K,s=>Cb dst v K s
 | none,_,_=>False
def Fz (cs:List DVal) (e:TypeId) (dst:Option Nat) (K:DK) (s:DS):Prop:=
 ∀r,s.heap r=none->K ⟨Hr s.env dst (.optr r 0),upd s.heap r (some (.cells cs e))⟩
def Bi1 (cs:List DVal) (e:TypeId) (sz len cap:Nat) (dst:Option Nat) (K:DK) (s:DS):Prop:=
 ∀r,s.heap r=none->K ⟨Hr s.env dst (.oslice sz r 0 len cap),upd s.heap r (some (.cells cs e))⟩
def Bn (P:Program) (t:TypeId):Option DVal:=((P.info? t).bind (·.zero)).map Fj
def Eo4 (e:TypeId) (dst:Option Nat):Option DVal->DK->DS->Prop
 | some z,K,s=>Fz z.cells e dst K s
 | none,_,_=>False
def Co0 (dst:Option Nat):DVal->DVal->DVal->DK->DS->Prop
 | .bool t,a,b,K,s=>Cb dst (if t then a else b) K s
 | _,_,_,_,_=>False
def Yx (place:Nat->Option (Nat×Nat)) (cells:List DVal):List (Nat×DVal)->Option (List DVal)
 | []=>some cells
 | (i,v)::rest=>
  match place i with
  | none=>none
  | some (off,size)=>
   if v.cells.length=size/\off+v.cells.length<=cells.length then Yx place (cells.take off++v.cells++cells.drop (off+v.cells.length)) rest else none
def Dc8 (P:Program) (fields:Array Field) (i:Nat):Option (Nat×Nat):=(fields[i]?).map fun f=>(f.offset,P.cellsOf f.type)
def Bi2 (size:Nat) (i:Nat):Option (Nat×Nat):=some (i*size,size)
def Ce6 (P:Program) (dst:Option Nat):Bool->Option TypeDesc->Option DVal->List (Nat×DVal)->DK->DS->Prop
 | true,some (.struct fields),some z,parts,K,s=>Wi dst ((Yx (Dc8 P fields) z.cells parts).map .agg) K s
 | true,some (.array _ e),some z,parts,K,s=>Wi dst ((Yx (Bi2 (P.cellsOf e)) z.cells parts).map .agg) K s
 | _,_,_,_,_,_=>False
def Cd (n:Nat) (zs:List DVal):List DVal:=(List.replicate n zs).flatten
def Dc9 (e:TypeId) (sz len:Nat) (dst:Option Nat):Option (List DVal)->DK->DS->Prop
 | some cs,K,s=>Bi1 cs e sz len len dst K s
 | none,_,_=>False
def An1 (e:TypeId) (size len:Nat) (dst:Option Nat):Option DVal->List (Nat×DVal)->DK->DS->Prop
 | some z,parts,K,s=>len*size<=16777216/\z.cells.length=size/\Dc9 e size len dst (Yx (Bi2 size) (Cd len z.cells) parts) K s
 | none,_,_,_=>False
def Uw (P:Program) (len:Nat) (dst:Option Nat):Option TypeDesc->List (Nat×DVal)->DK->DS->Prop
 | some (.slice e),parts,K,s=>An1 e (P.cellsOf e) len dst (Bn P e) parts K s
 | _,_,_,_=>False
def Bi3 (size:Nat) (dst:Option Nat):Option Bool->List DVal->Nat->DK->DS->Prop
 | some true,cs,off,K,s=>off+size<=cs.length/\Cb dst (.agg ((cs.drop off).take size)) K s
 | some false,cs,off,K,s=>Wi dst cs[off]? K s
 | none,_,_,_,_=>False
def Ce7 (size:Nat) (ag:Option Bool) (dst:Option Nat) (off:Nat):Option DObj->DK->DS->Prop
 | some (.cells cs _),K,s=>Bi3 size dst ag cs off K s
 | _,_,_=>False
def By1 (size:Nat) (ag:Option Bool) (dst:Option Nat):DVal->DK->DS->Prop
 | .vptr cs off,K,s=>Bi3 size dst ag cs off K s
 | .optr r off,K,s=>Ce7 size ag dst off (s.heap r) K s
 | _,_,_=>False
def Cn (cs:List DVal) (off:Nat) (vs:List DVal):List DVal:=cs.take off++vs++cs.drop (off+vs.length)
def Dq5 (size:Nat) (r off:Nat) (v:DVal):Option DObj->DK->DS->Prop
 | some (.cells cs e),K,s=>v.cells.length=size/\(v.cells.all (·.one))=true/\off+size<=cs.length/\
   K ⟨s.env,upd s.heap r (some (.cells (Cn cs off v.cells) e))⟩
 | _,_,_=>False
def Ce8 (size:Nat):Option Nat->DVal->DVal->DK->DS->Prop
 | none, .optr r off,v,K,s=>Dq5 size r off v (s.heap r) K s
 | _,_,_,_,_=>False
def Ae5 (dst:Option Nat):DVal->DK->DS->Prop
 | .vptr cs off,K,s=>Cb dst (.vptr cs off) K s
 | .optr r off,K,s=>Cb dst (.optr r off) K s
 | .func (.func f) a c,K,s=>Cb dst (.func (.func f) a c) K s
 | .iface t v,K,s=>Cb dst (.iface t v) K s
 | .omap r,K,s=>Cb dst (.omap r) K s
 | _,_,_=>False
def Zi (c:Bool):Option TypeDesc->DVal->DVal->Option Bool
 | some .bool, .bool a, .bool b=>some (a==b)
 | some (.pointer _), .nilPtr, .nilPtr=>some true
 | some (.pointer _), .nilPtr, .optr _ _=>some false
 | some (.pointer _), .nilPtr, .vptr _ _=>some false
 | some (.pointer _), .optr _ _, .nilPtr=>some false
 | some (.pointer _), .vptr _ _, .nilPtr=>some false
 | some (.interface _), .nilIface, .iface _ _=>some false
 | some (.interface _), .iface _ _, .nilIface=>some false
 | some (.interface _), .nilIface, .nilIface=>if c then some true else none
 | some (.func _ _ _), .nilFunc, .nilFunc=>some true
 | some (.func _ _ _), .func _ _ _, .nilFunc=>some false
 | some (.func _ _ _), .nilFunc, .func _ _ _=>some false
 | some (.slice _), .nilSlice, .nilSlice=>some true
 | some (.slice _), .oslice _ _ _ _ _, .nilSlice=>some false
 | some (.slice _), .nilSlice, .oslice _ _ _ _ _=>some false
 | _,_,_=>none
def Gf1:Option Bool->Option Bool->Option Bool
 | some true,b=>b
 | some false,some _=>some false
 | _,_=>none
def Ki (size off:Nat) (xs:List DVal):Option Bool->List DVal
 | some true=>(xs.drop off).take size
 | some false=>(xs.drop off).take 1
 | none=> []
def Gz9:DVal->DVal->Option Bool
 | .bool a, .bool b=>some (decide (a=b))
 | .int k a, .int k' b=>if k=k' then some (decide (a=b)) else none
 | .str a, .str b=>some (decide (a=b))
 | _,_=>none
def Dq6 (f:TypeId->Nat->Option Bool):List Field->Option Bool
 | []=>some true
 | x::fs=>if x.name≠ "_" then Gf1 (f x.type x.offset) (Dq6 f fs) else none
def Co1 (f:Nat->Option Bool):List Nat->Option Bool
 | []=>some true
 | i::is=>Gf1 (f i) (Co1 f is)
def Co2:List DVal->List DVal->Option Bool
 | [.bool a],[.bool b]=>some (decide (a=b))
 | _,_=>none
def Dq7:List DVal->List DVal->Option Bool
 | [.int k a],[.int k' b]=>if k=k' then some (decide (a=b)) else none
 | _,_=>none
def Dq8:List DVal->List DVal->Option Bool
 | [.str a],[.str b]=>some (decide (a=b))
 | _,_=>none
def Gb6 (P:Program) (f:TypeId->List DVal->List DVal->Option Bool) (fs:List Field) (xs ys:List DVal):Bool->Option Bool
 | true=>none
 | false=>Dq6 (fun u off=>f u (Ki (P.cellsOf u) off xs (Eb P u)) (Ki (P.cellsOf u) off ys (Eb P u))) fs
def Ah5 (P:Program) (f:TypeId->List DVal->List DVal->Option Bool) (t:TypeId) (xs ys:List DVal):Option TypeDesc->Option Bool
 | some .bool=>Co2 xs ys
 | some (.int _)=>Dq7 xs ys
 | some .string=>Dq8 xs ys
 | some (.struct fs)=>Gb6 P f fs.toList xs ys (P.stoodInHeld t)
 | some (.array m e)=>if(P.info? e).isSome then Co1 (fun i=>f e (Ki (P.cellsOf e) (i*P.cellsOf e) xs (Eb P e)) (Ki (P.cellsOf e) (i*P.cellsOf e) ys (Eb P e))) (List.range m) else none
 | _=>none
def Av3 (P:Program):Nat->TypeId->List DVal->List DVal->Option Bool
 | 0,_,_,_=>none
 | n+1,t,xs,ys=>Ah5 P (Av3 P n) t xs ys (P.underlying t)
def Bf9 (k:IntKind) (a b:Int) (dst:Option Nat) (K:DK) (s:DS):BinOp->Prop
 | .add=>Cb dst (.int k (k.wrap (a+b))) K s
 | .sub=>Cb dst (.int k (k.wrap (a-b))) K s
 | .mul=>Cb dst (.int k (k.wrap (a*b))) K s
 | .quo=>b≠0/\Cb dst (.int k (k.wrap (a.tdiv b))) K s
 | .rem=>b≠0/\Cb dst (.int k (a.tmod b)) K s
 | .and=>Cb dst (.int k (k.wrap (BitVec.ofInt k.bits a&&&BitVec.ofInt k.bits b).toNat)) K s
 | .or=>Cb dst (.int k (k.wrap (BitVec.ofInt k.bits a ||| BitVec.ofInt k.bits b).toNat)) K s
 | .xor=>Cb dst (.int k (k.wrap (BitVec.ofInt k.bits a^^^BitVec.ofInt k.bits b).toNat)) K s
 | .andNot=>Cb dst (.int k (k.wrap (BitVec.ofInt k.bits a&&& ~~~BitVec.ofInt k.bits b).toNat)) K s
 | .eql=>Cb dst (.bool (decide (a=b))) K s
 | .neq=>Cb dst (.bool (!decide (a=b))) K s
 | .lss=>Cb dst (.bool (decide (a<b))) K s
 | .leq=>Cb dst (.bool (decide (a<=b))) K s
 | .gtr=>Cb dst (.bool (decide (b<a))) K s
 | .geq=>Cb dst (.bool (decide (b<=a))) K s
 | _=>False
def Ce9 (k:IntKind) (a b:Int) (dst:Option Nat) (K:DK) (s:DS):BinOp->Prop
 | .shl=>0<=b/\Cb dst (.int k (k.wrap (a*2^(min b.toNat k.bits)))) K s
 | .shr=>0<=b/\Cb dst (.int k (a.fdiv (2^(min b.toNat k.bits)))) K s
 | _=>False
def An2 (a b:List UInt8) (dst:Option Nat) (K:DK) (s:DS):BinOp->Prop
 | .add=>a.length+b.length<=9223372036854775807/\Cb dst (.str (a++b)) K s
 | .eql=>Cb dst (.bool (decide (a=b))) K s
 | .neq=>Cb dst (.bool (!decide (a=b))) K s
 | .lss=>Cb dst (.bool (Go.Op.bytesLess a b)) K s
 | .leq=>Cb dst (.bool (Go.Op.bytesLess a b || decide (a=b))) K s
 | .gtr=>Cb dst (.bool (!(Go.Op.bytesLess a b || decide (a=b)))) K s
 | .geq=>Cb dst (.bool (!Go.Op.bytesLess a b)) K s
 | _=>False
def Un:BinOp->Option Bool
 | .eql=>some false
 | .neq=>some true
 | _=>none
def Tl (dst:Option Nat):Option Bool->Option Bool->DK->DS->Prop
 | some false,some b,K,s=>Cb dst (.bool b) K s
 | some true,some b,K,s=>Cb dst (.bool (!b)) K s
 | _,_,_,_=>False
def Gz:BinOp->Bool
 | .shl | .shr=>true
 | _=>false
def Dq9 (op:BinOp) (k k':IntKind) (a b:Int) (dst:Option Nat) (K:DK) (s:DS):Bool->Prop
 | true=>Ce9 k a b dst K s op
 | false=>k=k'/\Bf9 k a b dst K s op
def Ik:Operand->Bool
 | .const _=>true
 | _=>false
def Rx (P:Program) (t:TypeId) (c:Bool) (op:BinOp) (dst:Option Nat):DVal->DVal->DK->DS->Prop
 | .int k a, .int k' b,K,s=>Dq9 op k k' a b dst K s (Gz op)
 | .str a, .str b,K,s=>An2 a b dst K s op
 | .agg xs, .agg ys,K,s=>Eb P t=some true/\P.eqGuardType P.depth t=false/\Tl dst (Un op) (Av3 P 6 t xs ys) K s
 | x,y,K,s=>Tl dst (Un op) (Zi c (P.underlying t) x y) K s
def Kj:Operand->Bool
 | .const (.slice none 0 0)=>true
 | _=>false
def Gf2:Option TypeDesc->Bool
 | some (.slice _)=>true
 | _=>false
def Gb7 (cs:List DVal) (op:BinOp) (dst:Option Nat) (K:DK) (s:DS):Prop:= ∀b,(cs≠ []->b=false)->Tl dst (Un op) (some b) K s
def Bb2 (P:Program) (t:TypeId) (c:Bool) (op:BinOp) (dst:Option Nat):Bool->DVal->DVal->DK->DS->Prop
 | true, .vslice cs _,_,K,s=>Gf2 (P.underlying t)=true/\Gb7 cs op dst K s
 | _,x,y,K,s=>Rx P t c op dst x y K s
def dUn (dst:Option Nat):UnOp->DVal->DK->DS->Prop
 | .not, .bool b,K,s=>Cb dst (.bool (!b)) K s
 | .neg, .int k n,K,s=>Cb dst (.int k (k.wrap (0-n))) K s
 | .xor, .int k n,K,s=>Cb dst (.int k (k.wrap (BitVec.ofInt k.bits (if k.signed then-1 else k.max)^^^BitVec.ofInt k.bits n).toNat)) K s
 | _,_,_,_=>False
def An3 (dst:Option Nat):Option TypeDesc->Option TypeDesc->DVal->DK->DS->Prop
 | some _,some (.int k), .int _ n,K,s=>Cb dst (.int k (k.wrap n)) K s
 | some _,some .string, .str l,K,s=>Cb dst (.str l) K s
 | _,_,_,_,_=>False
def Zs:List DVal->Option (List UInt8)
 | []=>some []
 | .int .u8 n::ds=>(Zs ds).map (UInt8.ofNat n.toNat:: ·)
 | _=>none
def Gq9 (dst:Option Nat):Option (List UInt8)->DK->DS->Prop
 | some l,K,s=>Cb dst (.str l) K s
 | none,_,_=>False
def Dr0 (n off:Nat):Option DObj->Option (List DVal)
 | some (.cells cs _)=>if off+n<=cs.length then some ((cs.drop off).take n) else none
 | _=>none
def Ai9 (H:Ac):DVal->Option (List DVal)
 | .nilSlice=>some []
 | .vslice cs n=>if n<=cs.length then some (cs.take n) else none
 | .oslice _ r off n _=>Dr0 n off (H r)
 | _=>none
def Gf3 (P:Program) (e:TypeId) (x:DVal) (dst:Option Nat) (K:DK) (s:DS):Prop:=P.underlying e=some (.int .u8)/\Gq9 dst ((Ai9 s.heap x).bind Zs) K s
def Zt (P:Program) (dst:Option Nat):Option TypeDesc->Option TypeDesc->DVal->DK->DS->Prop
 | some (.slice e),some .string,x,K,s=>Gf3 P e x dst K s
 | a,b,x,K,s=>An3 dst a b x K s
def Cf0 (dst:Option Nat):Option TypeDesc->DVal->DK->DS->Prop
 | some .string, .str l,K,s=> ∀r,s.heap r=none->K ⟨Hr s.env dst (.optr r 0),upd s.heap r (some (.iter l 0))⟩
 | _,_,_,_=>False
def Tm (l:List UInt8) (pos:Nat):Nat×Nat:=Utf8.decode ⟨⟨l⟩⟩ pos
def Dd0 (r:Nat) (dst:Option Nat) (K:DK) (s:DS):Option DObj->Prop
 | some (.iter l pos)=>(pos<l.length->K ⟨Hr s.env dst (.tuple [.bool true, .int .i64 pos, .int .i32 (Tm l pos).1]),upd s.heap r (some (.iter l (pos+(Tm l pos).2)))⟩)/\
   (¬pos<l.length->Cb dst (.tuple [.bool false]) K s)
 | _=>False
def Dr1 (dst:Option Nat):Bool->DVal->DK->DS->Prop
 | true, .optr r 0,K,s=>Dd0 r dst K s (s.heap r)
 | _,_,_,_=>False
def Fk:Option TypeDesc->Bool
 | some (.interface _) | none=>false
 | _=>true
def Xh (t:TypeId) (x:DVal) (dst:Option Nat):Bool->DK->DS->Prop
 | true,K,s=>Cb dst (.iface t x) K s
 | false,_,_=>False
def Bb3 (e:TypeId) (size bytes:Nat) (l c:Int) (dst:Option Nat):Option DVal->DK->DS->Prop
 | some z,K,s=>0<=l/\l<=c/\c*(bytes:Int)<=35184372088832/\c<9223372036854775808/\z.cells.length=size/\0<size/\Bi1 (Cd c.toNat z.cells) e size l.toNat c.toNat dst K s
 | none,_,_=>False
def Xi (P:Program) (dst:Option Nat):Option TypeDesc->DVal->DVal->DK->DS->Prop
 | some (.slice e), .int _ l, .int _ c,K,s=>Bb3 e (P.cellsOf e) (P.bytesOf e) l c dst (Bn P e) K s
 | _,_,_,_,_=>False
def dLo:Option DVal->Option Int
 | none=>some 0
 | some (.int _ n)=>some n
 | _=>none
def dHi (len:Nat):Option DVal->Option Int
 | none=>some len
 | some (.int _ n)=>some n
 | _=>none
def Av4 (l:List UInt8) (dst:Option Nat) (K:DK) (s:DS):Option Int->Option Int->Prop
 | some lo,some hi=>0<=lo/\lo<=hi/\hi<=l.length/\Cb dst (.str ((l.drop lo.toNat).take (hi.toNat-lo.toNat))) K s
 | _,_=>False
def An4 (size:Nat) (cs:List DVal) (len:Nat) (dst:Option Nat) (K:DK) (s:DS):Option Int->Option Int->Prop
 | some lo,some hi=>0<=lo/\lo<=hi/\hi<=len/\Cb dst (.vslice ((cs.drop (lo.toNat*size)).take ((hi.toNat-lo.toNat)*size)) (hi.toNat-lo.toNat)) K s
 | _,_=>False
def Xj (size r off cap:Nat) (dst:Option Nat) (K:DK) (s:DS):Option Int->Option Int->Option Int->Prop
 | some lo,some hi,some mx=>0<=lo/\lo<=hi/\hi<=mx/\mx<=cap/\Cb dst (.oslice size r (off+lo.toNat*size) (hi.toNat-lo.toNat) (mx.toNat-lo.toNat)) K s
 | _,_,_=>False
def Cf1 (dst:Option Nat) (K:DK) (s:DS):Option Int->Option Int->Prop
 | some lo,some hi=>lo=0/\hi=0/\Cb dst .nilSlice K s
 | _,_=>False
def Gb8 (n:Nat):Option DObj->Prop
 | some (.cells cs _)=>n<=cs.length
 | _=>False
def Av5 (P:Program) (lo hi:Option DVal) (dst:Option Nat):Option TypeDesc->DVal->Option DVal->DK->DS->Prop
 | some .string, .str l,none,K,s=>Av4 l dst K s (dLo lo) (dHi l.length hi)
 | some (.slice e), .nilSlice,none,K,s=>(P.info? e).isSome=true/\Cf1 dst K s (dLo lo) (dHi 0 hi)
 | some (.slice e), .vslice cs len,none,K,s=>(P.info? e).isSome=true/\An4 (P.cellsOf e) cs len dst K s (dLo lo) (dHi len hi)
 | some (.slice e), .oslice sz r off len cap,none,K,s=>(P.info? e).isSome=true/\sz=P.cellsOf e/\Xj (P.cellsOf e) r off cap dst K s (dLo lo) (dHi len hi) (some cap)
 | some (.slice e), .oslice sz r off _ cap,some m,K,s=>(P.info? e).isSome=true/\sz=P.cellsOf e/\hi.isSome/\Xj (P.cellsOf e) r off cap dst K s (dLo lo) (dLo hi) (dLo (some m))
 | some (.array n e), .optr r off,none,K,s=>(P.info? e).isSome=true/\Gb8 (off+n*P.cellsOf e) (s.heap r)/\Xj (P.cellsOf e) r off n dst K s (dLo lo) (dHi n hi) (some n)
 | some (.array n e), .vptr cs off,none,K,s=>(P.info? e).isSome=true/\off+n*P.cellsOf e<=cs.length/\An4 (P.cellsOf e) ((cs.drop off).take (n*P.cellsOf e)) n dst K s (dLo lo) (dHi n hi)
 | _,_,_,_,_=>False
def Bg0 (n:Nat):DVal->Option DVal
 | .vptr cs off=>some (.vptr cs (off+n))
 | .optr r off=>some (.optr r (off+n))
 | _=>none
def Bb4 (P:Program) (x:DVal) (dst:Option Nat):Option Field->DK->DS->Prop
 | some f,K,s=>0<P.cellsOf f.type/\Wi dst (Bg0 f.offset x) K s
 | none,_,_=>False
def Tn (P:Program) (f:Nat) (x:DVal) (dst:Option Nat):Option TypeDesc->DK->DS->Prop
 | some (.struct fields),K,s=>Bb4 P x dst fields[f]? K s
 | _,_,_=>False
def Co3 (size:Nat) (cs:List DVal) (off:Nat) (dst:Option Nat):Option Bool->DK->DS->Prop
 | some true,K,s=>Cb dst (.agg ((cs.drop off).take size)) K s
 | some false,K,s=>Wi dst cs[off]? K s
 | none,_,_=>False
def Dr2 (P:Program) (cs:List DVal) (dst:Option Nat):Option Field->DK->DS->Prop
 | some f,K,s=>Co3 (P.cellsOf f.type) cs f.offset dst (Eb P f.type) K s
 | none,_,_=>False
def Bi4 (P:Program) (f:Nat) (dst:Option Nat):Option TypeDesc->DVal->DK->DS->Prop
 | some (.struct fields), .agg cs,K,s=>Dr2 P cs dst fields[f]? K s
 | _,_,_,_=>False
def To (P:Program) (dst:Option Nat):Option TypeDesc->DVal->DVal->DK->DS->Prop
 | some (.slice e), .vslice cs len, .int _ i,K,s=>(P.info? e).isSome=true/\0<=i/\i<len/\i.toNat*P.cellsOf e<cs.length/\Cb dst (.vptr cs (i.toNat*P.cellsOf e)) K s
 | some (.slice e), .oslice _ r off len _, .int _ i,K,s=>(P.info? e).isSome=true/\0<=i/\i<len/\Cb dst (.optr r (off+i.toNat*P.cellsOf e)) K s
 | some (.array n e),x, .int _ i,K,s=>(P.info? e).isSome=true/\0<=i/\i<n/\Wi dst (Bg0 (i.toNat*P.cellsOf e) x) K s
 | _,_,_,_,_=>False
def Bi5 (P:Program) (dst:Option Nat):Option TypeDesc->DVal->DVal->DK->DS->Prop
 | some (.array n e), .agg cs, .int _ i,K,s=>0<=i/\i<n/\Co3 (P.cellsOf e) cs (i.toNat*P.cellsOf e) dst (Eb P e) K s
 | some .string, .str l, .int _ i,K,s=>0<=i/\Wi dst (l[i.toNat]?.map fun b=> .int .u8 b.toNat) K s
 | _,_,_,_,_=>False
def An5 (i:Nat) (dst:Option Nat):DVal->DK->DS->Prop
 | .tuple vs,K,s=>Wi dst vs[i]? K s
 | _,_,_=>False
def Bi6 (dst:Option Nat):Option DVal->DK->DS->Prop
 | some z,K,s=>Cb dst (.tuple [z, .bool false]) K s
 | none,_,_=>False
def Av6 (v:DVal) (z:Option DVal) (dst:Option Nat):Bool->Bool->DK->DS->Prop
 | true,true,K,s=>Cb dst (.tuple [v, .bool true]) K s
 | true,false,K,s=>Bi6 dst z K s
 | false,true,K,s=>Cb dst v K s
 | false,false,_,_=>False
def Rm (P:Program) (asserted:TypeId) (commaOk:Bool) (dst:Option Nat):Bool->DVal->DK->DS->Prop
 | true, .iface t v,K,s=>Av6 v (Bn P asserted) dst commaOk (decide (t=asserted)) K s
 | true, .nilIface,K,s=>commaOk=true/\Bi6 dst (Bn P asserted) K s
 | _,_,_,_=>False
def dLen (dst:Option Nat):Option TypeDesc->DVal->DK->DS->Prop
 | some .string, .str l,K,s=>Cb dst (.int .i64 l.length) K s
 | some (.array n _),_,K,s=>Cb dst (.int .i64 n) K s
 | some (.slice _), .nilSlice,K,s=>Cb dst (.int .i64 0) K s
 | some (.slice _), .vslice _ n,K,s=>Cb dst (.int .i64 n) K s
 | some (.slice _), .oslice _ _ _ n _,K,s=>Cb dst (.int .i64 n) K s
 | _,_,_,_=>False
def Dd1 (P:Program) (x:DVal) (dst:Option Nat):List TypeId->DK->DS->Prop
 | [t],K,s=>dLen dst (P.underlying t) x K s
 | _,_,_=>False
def By2 (size n off:Nat):Option DObj->Option (Nat×List DVal)
 | some (.cells cs _)=>some (n,(cs.drop off).take (n*size))
 | _=>none
def Zu (size:Nat) (H:Ac):DVal->Option (Nat×List DVal)
 | .nilSlice=>some (0,[])
 | .vslice cs n=>some (n,cs.take (n*size))
 | .oslice _ r off n _=>By2 size n off (H r)
 | .str l=>some (l.length,l.map fun b=> .int .u8 b.toNat)
 | _=>none
def Tp (e:TypeId) (size bytes:Nat) (r off len lo:Nat) (n:Nat) (news:List DVal) (dst:Option Nat) (K:DK) (s:DS):Option DObj->Prop
 | some (.cells cs e')=>e'=e/\
  (len+n<=lo->off+(len+n)*size<=cs.length/\
    K ⟨Hr s.env dst (.oslice size r off (len+n) lo),upd s.heap r (some (.cells (Cn cs (off+len*size) news) e))⟩)/\
  (¬len+n<=lo->off+len*size<=cs.length/\(len+n)*bytes<=35184372088832/\
   ∀r' pre,upd s.heap r none r'=none->(off=0->pre= [])->
    K ⟨Hr s.env dst (.oslice size r' pre.length (len+n) (len+n)),upd (if len<=lo\/r'=r then upd s.heap r none else s.heap) r' (some (.cells (pre++(cs.drop off).take (len*size)++news) e))⟩)
 | _=>False
def Ql (e:TypeId) (size bytes:Nat) (n:Nat) (news:List DVal) (dst:Option Nat):DVal->DK->DS->Prop
 | .nilSlice,K,s=>(n=0->Cb dst .nilSlice K s)/\(n≠0->n*bytes<=35184372088832/\Bi1 news e size n n dst K s)
 | .oslice sz r off len lo,K,s=>sz=size/\Tp e size bytes r off len lo n news dst K s (s.heap r)
 | _,_,_=>False
def Co4 (e:TypeId) (size bytes:Nat) (x:DVal) (dst:Option Nat):Option (Nat×List DVal)->DK->DS->Prop
 | some (n,news),K,s=>news.length=n*size/\news.all (·.one)=true/\Ql e size bytes n news dst x K s
 | none,_,_=>False
def Av7:Option TypeDesc->Bool
 | some (.slice _)=>true
 | some .string=>true
 | _=>false
def Bg1 (P:Program) (u':Bool) (x y:DVal) (dst:Option Nat):Option TypeDesc->DK->DS->Prop
 | some (.slice e),K,s=>u'=true/\(Bn P e).isSome=true/\(Bn P e).all (fun z=>z.cells.length=P.cellsOf e)=true/\0<P.cellsOf e/\0<P.bytesOf e/\Co4 e (P.cellsOf e) (P.bytesOf e) x dst (Zu (P.cellsOf e) s.heap y) K s
 | _,_,_=>False
def Eo5 (dst:Option Nat):Option TypeDesc->DVal->DK->DS->Prop
 | some (.slice _), .nilSlice,K,s=>Cb dst (.int .i64 0) K s
 | some (.slice _), .vslice _ n,K,s=> ∀c:Nat,n<=c->Cb dst (.int .i64 c) K s
 | some (.slice _), .oslice _ _ _ n lo,K,s=> ∀c:Nat,n<=c->lo<=c->Cb dst (.int .i64 c) K s
 | _,_,_,_=>False
def Eo6 (P:Program) (x:DVal) (dst:Option Nat):List TypeId->DK->DS->Prop
 | [t],K,s=>Eo5 dst (P.underlying t) x K s
 | _,_,_=>False
def Bi7 (e:TypeId) (size bytes:Nat) (dst:Option Nat):DVal->DVal->Option DVal->DK->DS->Prop
 | .nilSlice, .int .i64 n,some z,K,s=>0<=n/\0<size/\(n=0->Cb dst .nilSlice K s)/\(n≠0->n*bytes<=35184372088832/\n<=35184372088832/\z.cells.length=size/\Bi1 (Cd n.toNat z.cells) e size n.toNat n.toNat dst K s)
 | _,_,_,_,_=>False
def Dr3 (size:Nat) (r off n:Nat) (dst:Option Nat) (K:DK) (s:DS) (z:List DVal):Option DObj->Prop
 | some (.cells cs e)=>z.length=size/\z.all (·.one)=true/\off+n*size<=cs.length/\K ⟨Hr s.env dst (.tuple []),upd s.heap r (some (.cells (Cn cs off (Cd n z)) e))⟩
 | _=>False
def Cf2 (size:Nat) (dst:Option Nat):Option DVal->DVal->DK->DS->Prop
 | some _, .nilSlice,K,s=>Cb dst (.tuple []) K s
 | some z, .oslice sz r off n lo,K,s=>sz=size/\n<=lo/\Dr3 size r off n dst K s z.cells (s.heap r)
 | _,_,_,_=>False
def Bi8 (P:Program) (dst:Option Nat):Option TypeDesc->DVal->DK->DS->Prop
 | some (.slice e),x,K,s=>Cf2 (P.cellsOf e) dst (Bn P e) x K s
 | _,_,_,_=>False
def Co5 (P:Program) (x:DVal) (dst:Option Nat):List TypeId->DK->DS->Prop
 | [t],K,s=>Bi8 P dst (P.underlying t) x K s
 | _,_,_=>False
def Qm:Option TypeDesc->Bool
 | some (.int _)=>true
 | _=>false
def An6 (P:Program) (x y:DVal) (dst:Option Nat):Option TypeDesc->DK->DS->Prop
 | some (.slice e),K,s=>Bi7 e (P.cellsOf e) (P.bytesOf e) dst x y (Bn P e) K s
 | _,_,_=>False
def An7 (P:Program) (x y:DVal) (dst:Option Nat):Bool->Bool->Option TypeDesc->DK->DS->Prop
 | true,_,t,K,s=>An6 P x y dst t K s
 | false,u',t,K,s=>Bg1 P u' x y dst t K s
def Av8 (P:Program) (x y:DVal) (dst:Option Nat):List TypeId->DK->DS->Prop
 | [t,t'],K,s=>An7 P x y dst (Qm (P.underlying t')) (Av7 (P.underlying t')) (P.underlying t) K s
 | _,_,_=>False
def Zj:DVal->DVal->Option Bool
 | .int k a, .int k' b=>if k=k' then some (decide (a=b)) else none
 | .str a, .str b=>some (decide (a=b))
 | .bool a, .bool b=>some (decide (a=b))
 | .agg [.bool a, .bool b], .agg [.bool c, .bool d]=>some (decide (a=c)&&decide (b=d))
 | _,_=>none
def Zv (i:Nat) (r:Option (Option Nat)):Option Bool->Option (Option Nat)
 | some true=>some (some i)
 | some false=>r
 | none=>none
def Np (k:DVal):List (DVal×DVal)->Nat->Option (Option Nat)
 | [],_=>some none
 | p::es,i=>Zv i (Np k es (i+1)) (Zj k p.1)
def Ux:Option TypeDesc->DVal->Bool
 | some (.int k), .int k' _=>decide (k=k')
 | some .string, .str _=>true
 | some .bool, .bool _=>true
 | _,_=>false
def Dr4:Option TypeDesc->Bool
 | some .bool=>true
 | _=>false
def By3 (P:Program):Option TypeDesc->Bool
 | some (.array 2 e)=>Dr4 (P.underlying e)&&(P.info? e).isSome&&P.cellsOf e==1
 | _=>false
def Zw (P:Program) (t:Option TypeDesc):DVal->Bool
 | .agg [.bool _, .bool _]=>By3 P t
 | k=>Ux t k
def Dr5 (es:List (DVal×DVal)) (k v:DVal):Option Nat->List (DVal×DVal)
 | some i=>es.set i (k,v)
 | none=>es++ [(k,v)]
def An8 (r:Nat) (es:List (DVal×DVal)) (k v:DVal) (K:DK) (s:DS):Option (Option Nat)->Prop
 | some i=>K ⟨s.env,upd s.heap r (some (.map (Dr5 es k v i)))⟩
 | none=>False
def Bi9 (r:Nat) (k v:DVal) (K:DK) (s:DS):Option DObj->Prop
 | some (.map es)=>v.one=true/\An8 r es k v K s (Np k es 0)
 | _=>False
def Ae6 (P:Program) (dst:Option Nat):Option TypeDesc->DVal->DVal->DVal->DK->DS->Prop
 | some (.map kt _), .omap r,k,v,K,s=>dst=none/\Zw P (P.underlying kt) k=true/\Bi9 r k v K s (s.heap r)
 | _,_,_,_,_,_=>False
def Dd2 (ok:Bool) (dst:Option Nat) (v:DVal) (b:Bool) (K:DK) (s:DS):Prop:=Cb dst (if ok then .tuple [v, .bool b] else v) K s
def Bj0 (es:List (DVal×DVal)) (ok:Bool) (dst:Option Nat):Option DVal->Option (Option Nat)->DK->DS->Prop
 | _,some (some i),K,s=> ∃p,es[i]? =some p/\Dd2 ok dst p.2 true K s
 | some z,some none,K,s=>Dd2 ok dst z false K s
 | _,_,_,_=>False
def Dd3 (z:Option DVal) (k:DVal) (ok:Bool) (dst:Option Nat):Option DObj->DK->DS->Prop
 | some (.map es),K,s=>Bj0 es ok dst z (Np k es 0) K s
 | _,_,_=>False
def Bg2 (P:Program) (ok:Bool) (dst:Option Nat):Option TypeDesc->DVal->DVal->DK->DS->Prop
 | some (.map kt e), .omap r,k,K,s=>Zw P (P.underlying kt) k=true/\Dd3 (Bn P e) k ok dst (s.heap r) K s
 | some (.map kt e), .nilMap,k,K,s=>Zw P (P.underlying kt) k=true/\Bj0 [] ok dst (Bn P e) (some none) K s
 | _,_,_,_,_=>False
def Co6 (es:List (DVal×DVal)):Option Nat->List (DVal×DVal)
 | some i=>es.eraseIdx i
 | none=>es
def Bj1 (r:Nat) (es:List (DVal×DVal)) (dst:Option Nat) (K:DK) (s:DS):Option (Option Nat)->Prop
 | some i=>K ⟨Hr s.env dst (.tuple []),upd s.heap r (some (.map (Co6 es i)))⟩
 | none=>False
def Bj2 (r:Nat) (k:DVal) (dst:Option Nat) (K:DK) (s:DS):Option DObj->Prop
 | some (.map es)=>Bj1 r es dst K s (Np k es 0)
 | _=>False
def An9 (P:Program) (dst:Option Nat):Option TypeDesc->DVal->DVal->DK->DS->Prop
 | some (.map kt _), .omap r,k,K,s=>Zw P (P.underlying kt) k=true/\Bj2 r k dst K s (s.heap r)
 | _,_,_,_,_=>False
def By4 (P:Program) (x k:DVal) (dst:Option Nat):List TypeId->DK->DS->Prop
 | t::_,K,s=>An9 P dst (P.underlying t) x k K s
 | _,_,_=>False
def Gb9 (dst:Option Nat) (K:DK) (s:DS):Prop:=
 ∀r,s.heap r=none->K ⟨Hr s.env dst (.omap r),upd s.heap r (some (.map []))⟩
def Zx (dst:Option Nat):Option TypeDesc->Option DVal->DK->DS->Prop
 | some (.map _ _),none,K,s=>Gb9 dst K s
 | some (.map _ _),some (.int _ _),K,s=>Gb9 dst K s
 | _,_,_,_=>False
def dMM (isMax:Bool):DVal->DVal->Option DVal
 | .int k x, .int _ y=>some (.int k (if isMax then(if y>x then y else x) else(if y<x then y else x)))
 | _,_=>none
def Zy (isMax:Bool):Option DVal->List DVal->Option DVal
 | a,[]=>a
 | some x,y::ys=>Zy isMax (dMM isMax x y) ys
 | none,_=>none
def Ae7 (isMax:Bool):List DVal->Option DVal
 | []=>none
 | x::rest=>Zy isMax (some x) rest
def Av9 (dst:Option Nat) (K:DK) (Q:DExit->DS->Prop) (env:Nat->DVal):DEnd->Ac->Prop
 | .ret v,H=>K ⟨Hr env dst v,H⟩
 | .panic v,H=>Q (.panic v) ⟨env,H⟩
def Bj3 (P:Program) (G:Nat->DVal) (args:List DVal) (dst:Option Nat) (Q:DExit->DS->Prop):DVal->DK->DS->Prop
 | .func (.func k) first captured,K,s=>Ag P G k (first++args++captured) s.heap (Av9 dst K Q s.env)
 | .func (.yield l) [] [],K,s=>Bf8 P G l args s.heap (Av9 dst K Q s.env)
 | _,_,_=>False
def Aj0 (Q:DExit->DS->Prop) (s:DS):DVal->Prop
 | .iface t v=>Q (.panic (.iface t v)) s
 | _=>False
def Nq (P:Program) (ts:List TypeId) (dst:Option Nat) (Q:DExit->DS->Prop):Builtin->List DVal->DK->DS->Prop
 | .len,[x],K,s=>Dd1 P x dst ts K s
 | .append,[x,y],K,s=>Av8 P x y dst ts K s
 | .cap,[x],K,s=>Eo6 P x dst ts K s
 | .clear,[x],K,s=>Co5 P x dst ts K s
 | .delete,[x,k],K,s=>By4 P x k dst ts K s
 | .min,xs,K,s=>Wi dst (Ae7 false xs) K s
 | .max,xs,K,s=>Wi dst (Ae7 true xs) K s
 | .panic,[x],_,s=>Aj0 Q s x
 | _,_,_,_=>False
def Xk (P:Program) (G:Nat->DVal) (c:Call) (dst:Option Nat) (K:DK) (Q:DExit->DS->Prop) (s:DS):Callee->Prop
 | .value f=>Bj3 P G (Hh G s.env c.args.toList) dst Q (dev G s.env f) K s
 | .builtin b=>Nq P c.argTypes.toList dst Q b (Hh G s.env c.args.toList) K s
 | .invoke _ _=>False
def Ni (G:Nat->DVal) (env:Nat->DVal):List (Nat×Operand)->List (Nat×DVal)
 | []=> []
 | (i,x)::ps=>(i,dev G env x)::Ni G env ps
def Ry (G:Nat->DVal) (env:Nat->DVal):Option Operand->Option DVal
 | some x=>some (dev G env x)
 | none=>none
def dop (P:Program) (G:Nat->DVal) (dst:Option Nat) (K:DK) (Q:DExit->DS->Prop) (s:DS):Op->Prop
 | .move x=>Cb dst (dev G s.env x) K s
 | .assign x=>Cb dst (dev G s.env x) K s
 | .pick c a b=>Co0 dst (dev G s.env c) (dev G s.env a) (dev G s.env b) K s
 | .alloc e=>Eo4 e dst (Bn P e) K s
 | .box e x=>Fz (dev G s.env x).cells e dst K s
 | .build t ps=>Ce6 P dst (Ev P t) (P.underlying t) (Bn P t) (Ni G s.env ps.toList) K s
 | .buildSlice t n ps=>Uw P n dst (P.underlying t) (Ni G s.env ps.toList) K s
 | .load t a=>By1 (P.cellsOf t) (Eb P t) dst (dev G s.env a) K s
 | .store t a x=>(P.info? t).isSome=true/\Ce8 (P.cellsOf t) dst (dev G s.env a) (dev G s.env x) K s
 | .nilCheck x=>Ae5 dst (dev G s.env x) K s
 | .binOp op t x y _=>Bb2 P t (Ik x || Ik y) op dst (Kj y) (dev G s.env x) (dev G s.env y) K s
 | .unOp op _ x=>dUn dst op (dev G s.env x) K s
 | .convert src t x=>Zt P dst (P.underlying src) (P.underlying t) (dev G s.env x) K s
 | .makeInterface t x=>Xh t (dev G s.env x) dst (Fk (P.underlying t)) K s
 | .makeFunc fn fs cs=>Cb dst (.func fn (Hh G s.env fs.toList) (Hh G s.env cs.toList)) K s
 | .makeMap t r=>Zx dst (P.underlying t) (Ry G s.env r) K s
 | .lookup t x k ok=>Bg2 P ok dst (P.underlying t) (dev G s.env x) (dev G s.env k) K s
 | .mapUpdate t m k x=>Ae6 P dst (P.underlying t) (dev G s.env m) (dev G s.env k) (dev G s.env x) K s
 | .insert t m k x=>Ae6 P dst (P.underlying t) (dev G s.env m) (dev G s.env k) (dev G s.env x) K s
 | .makeSlice t l c=>Xi P dst (P.underlying t) (dev G s.env l) (dev G s.env c) K s
 | .slice t x lo hi mx=>Av5 P (Ry G s.env lo) (Ry G s.env hi) dst (P.underlying t) (dev G s.env x) (Ry G s.env mx) K s
 | .fieldAddr t x f=>Tn P f (dev G s.env x) dst (P.underlying t) K s
 | .field t x f=>Bi4 P f dst (P.underlying t) (dev G s.env x) K s
 | .indexAddr t x i=>To P dst (P.underlying t) (dev G s.env x) (dev G s.env i) K s
 | .index t x i=>Bi5 P dst (P.underlying t) (dev G s.env x) (dev G s.env i) K s
 | .typeAssert x _ t ok=>Rm P t ok dst (Fk (P.underlying t)) (dev G s.env x) K s
 | .extract x i=>An5 i dst (dev G s.env x) K s
 | .panic x=>Aj0 Q s (dev G s.env x)
 | .range t x=>Cf0 dst (P.underlying t) (dev G s.env x) K s
 | .next x b=>Dr1 dst b (dev G s.env x) K s
 | .call c=>Xk P G c dst K Q s c.callee
 | _=>False
def Uy:List Oper->Nat->Option Nat
 | [],_=>none
 | o::_,0=>o.dst
 | _::r,n+1=>Uy r n
def Sl (P:Program) (G:Nat->DVal) (all:List Oper) (Q:DExit->DS->Prop):List Oper->DS->Prop
 | [],s=>Q .normal s
 | o::rest,s=>
  match o.guard with
  | none=>dop P G o.dst (Sl P G all Q rest) Q s o.op
  | some (j,b)=>match Uy all j with
   | some g=>match s.env g with
    | .bool v=>(v=b->dop P G o.dst (Sl P G all Q rest) Q s o.op)/\(v≠b->Cb o.dst Ez (Sl P G all Q rest) s)
    | .tuple []=>Cb o.dst Ez (Sl P G all Q rest) s
    | _=>False
   | none=>False
def Aw0 (P:Program) (G:Nat->DVal) (all:List Oper) (Q:DExit->DS->Prop) (dst:Option Nat) (op:Op) (rest:List Oper) (s:DS):Bool->DVal->Prop
 | true, .bool true=>dop P G dst (Sl P G all Q rest) Q s op
 | true, .bool false=>Cb dst Ez (Sl P G all Q rest) s
 | false, .bool true=>Cb dst Ez (Sl P G all Q rest) s
 | false, .bool false=>dop P G dst (Sl P G all Q rest) Q s op
 | true, .tuple []=>Cb dst Ez (Sl P G all Q rest) s
 | false, .tuple []=>Cb dst Ez (Sl P G all Q rest) s
 | _,_=>False
def Cf3 (P:Program) (G:Nat->DVal) (all:List Oper) (Q:DExit->DS->Prop) (dst:Option Nat) (op:Op) (rest:List Oper) (s:DS) (b:Bool):Option Nat->Prop
 | some g=>Aw0 P G all Q dst op rest s b (s.env g)
 | none=>False
def Bb5 (W:DK) (Q:DExit->DS->Prop):DExit->DS->Prop
 | .normal,s=>W s
 | .exit id,s=>Q (.exit id) s
 | .goto l,s=>Q (.goto l) s
 | .ret,s=>Q .ret s
 | .panic v,s=>Q (.panic v) s
def Cf4 (Q:DExit->DS->Prop) (s:DS) (id':Nat):Bool->Prop
 | true=>Q .normal s
 | false=>Q (.exit id') s
def Cf5 (id:Nat) (Q:DExit->DS->Prop):DExit->DS->Prop
 | .exit id',s=>Cf4 Q s id' (decide (id'=id))
 | .normal,s=>Q .normal s
 | .goto l,s=>Q (.goto l) s
 | .ret,s=>Q .ret s
 | .panic v,s=>Q (.panic v) s
def Dr6 (Q:DExit->DS->Prop):DExit->DS->Prop
 | .goto _,_=>False
 | .exit id,s=>Q (.exit id) s
 | .normal,s=>Q .normal s
 | .ret,s=>Q .ret s
 | .panic v,s=>Q (.panic v) s
def Co7 (X Y:DK) (s:DS):DVal->Prop
 | .bool true=>X s
 | .bool false=>Y s
 | _=>False
def Rz (G:Nat->DVal) (s s':DS):Prop:=
 ∀w,Bm w s.heap->GOk G w s.heap->Bm w s'.heap/\(∀b,s'.heap b≠none->s.heap b≠none)/\GOk G w s'.heap/\ ∀i x,Rel w s.heap (s.env i) x->Rel w s'.heap (s'.env i) x
def Dr7 (G:Nat->DVal) (body:(DExit->DS->Prop)->DK) (Q:DExit->DS->Prop) (s:DS):Prop:=
 ∃(ι:Type) (I:ι->DS->Prop) (μ:ι->Nat),(∃i s',Rz G s s'/\I i s')/\ ∀i s,I i s->body (Bb5 (fun s1=> ∃j s2,Rz G s1 s2/\I j s2/\μ j<μ i) Q) s
def dwp (P:Program) (G:Nat->DVal) (N:Nat):Code->(DExit->DS->Prop)->DS->Prop
 | .skip,Q,s=>Q .normal s
 | .label _,Q,s=>Q .normal s
 | .region _ ops false,Q,s=>Sl P G ops.toList Q ops.toList s
 | .region id ops true,Q,s=>DWp P G N (.region id ops true) Q s
 | .seq a b,Q,s=>dwp P G N a (Bb5 (dwp P G N b Q) Q) s
 | .cond c a b,Q,s=>Co7 (dwp P G N a Q) (dwp P G N b Q) s (dev G s.env c)
 | .block id c,Q,s=>dwp P G N c (Cf5 id Q) s
 | .loop c,Q,s=>Dr7 G (dwp P G N c) Q s
 | .exit id,Q,s=>Q (.exit id) s
 | .goto l,Q,s=>Q (.goto l) s
 | .ret,Q,s=>Q .ret s
 | .rangeFunc f ps asg body,Q,s=>Gq8 P G N (.rangeFunc f ps asg body) Q s
 | .scope c,Q,s=>dwp P G N c (Dr6 Q) s
 | .refuse _,_,_=>False
def Cc (N:Nat):Operand->Bool
 | .tmp t=>decide (t<N)
 | _=>true
def Lz (N:Nat) (o:Oper):Bool:=
 (match o.dst with | some d=>decide (d<N) | none=>true)&&o.op.operands.all (Cc N)
def Is (N:Nat):Code->Bool
 | .region _ ops _=>ops.all (Lz N)
 | .seq a b=>Is N a&&Is N b
 | .cond c a b=>Cc N c&&Is N a&&Is N b
 | .block _ c=>Is N c
 | .loop c=>Is N c
 | .scope c=>Is N c
 | .rangeFunc f _ a b=>Cc N f&&Is N a&&Is N b
 | _=>true
@[go_sem] theorem Gq3 (P:Program) (t:Option TypeDesc) (k:IntKind) (n:Int):Zw P t (.int k n)=Ux t (.int k n):=rfl
@[go_sem] theorem Gq4 (P:Program) (t:Option TypeDesc) (l:List UInt8):Zw P t (.str l)=Ux t (.str l):=rfl
@[go_sem] theorem Gf4 (P:Program) (t:Option TypeDesc) (b:Bool):Zw P t (.bool b)=Ux t (.bool b):=rfl
theorem Uz {P:Program} {s:DS} {t:TypeId} {c:Bool} {op:BinOp} {dst:Option Nat} {x y:DVal} {K:DK}:Bb2 P t c op dst false x y K s=Rx P t c op dst x y K s:=by cases x<;>rfl
section
variable {P:Program} {G:Nat->DVal} {N:Fr}
mutual
theorem Hd (w:World) (H:Ac): ∀v:Value,Rel w H (Fj v) v
 | .bool b=>by simp [Fj,Rel]
 | .int k n=>by simp [Fj,Rel]
 | .string ⟨⟨l⟩⟩=>by simp [Fj,Rel]
 | .pointer none=>by simp [Fj,Rel]
 | .pointer (some a)=>by simp [Fj,Rel,Value.oneCell']
 | .slice a n c=>by
  by_cases h:a=none/\n=0/\c=0
  ·obtain⟨rfl,rfl,rfl⟩:=h;simp [Fj,Rel]
  ·have:Fj (.slice a n c)= .raw (.slice a n c):=by
    cases a with
    | none=>cases n with
     | zero=>cases c with
      | zero=>simp at h
      | succ c=>rfl
     | succ n=>rfl
    | some a=>rfl
   rw[this];simp [Rel,Value.oneCell']
 | .map none=>by simp [Fj,Rel]
 | .map (some r)=>by simp [Fj,Rel,Value.oneCell']
 | .chan r=>by simp [Fj,Rel,Value.oneCell']
 | .float k b=>by simp [Fj,Rel,Value.oneCell']
 | .complex k a b=>by simp [Fj,Rel,Value.oneCell']
 | .nilFunc=>by simp [Fj,Rel]
 | .nilIface=>by simp [Fj,Rel]
 | .iface t v=>by simp [Fj,Rel,Value.oneCell']
 | .func fn ⟨a⟩ ⟨c⟩=>by
  simp only[Fj,Rel]
  exact⟨_,_,rfl,Tq w H a,Tq w H c⟩
 | .agg ⟨l⟩=>by
  simp only[Fj,Rel]
  exact⟨_,rfl,Tq w H l⟩
 | .tuple ⟨l⟩=>by
  simp only[Fj,Rel]
  exact⟨_,rfl,Tq w H l⟩
theorem Tq (w:World) (H:Ac): ∀vs:List Value,Az w H (Jv vs) vs
 | []=>by simp [Jv,Az]
 | v::vs=>by
  simp only[Jv,Az]
  exact⟨v,vs,rfl,Hd w H v,Tq w H vs⟩
end
theorem Xl (w:World) (H:Ac):Rel w H Ez undef:=by
 simp only[Ez,undef,Rel];exact⟨#[],rfl,by simp [Az]⟩
theorem Bs {s:DS} {a:Act} {w:World} (C:Sim G N s a w) {x:Operand} (hx:Cc N x=true):Rel w s.heap (dev G s.env x) (a.eval x):=by
 cases x with
 | tmp t=>exact C.tmps t (by simpa [Cc] using hx)
 | const v=>exact Hd w s.heap v
 | global g=>exact C.glob.rel g
 | func f=>
  simp only[dev,Act.eval,Rel];exact⟨#[], #[],rfl,by simp [Az],by simp [Az]⟩
theorem Tr {s:DS} {a:Act} {w:World} (C:Sim G N s a w): ∀ {xs:List Operand},xs.all (Cc N)=true->Az w s.heap (Hh G s.env xs) (xs.map a.eval)
 | [],_=>by simp [Hh,Az]
 | x::xs,h=>by
  simp only[List.all_cons,jF] at h;simp only[Hh,Az,jN];exact⟨_,_,rfl,Bs C h.1,Tr C h.2⟩
def Cz (N:Nat):Option Nat->Bool
 | some d=>decide (d<N)
 | none=>true
theorem GOk.lasts {H H':Ac} {w w':World} (h:Lasts H w H' w') (C:GOk G w H):GOk G w' H':=⟨fun g=>Rel.lasts h _ _ (C.rel g),fun g cs e=>by
 have k:=C.exact g cs e;rw[h.keep g ?_];exact k;rcases Nat.lt_or_ge g w.heap.size with hl | hl
 ·exact hl
 ·rw[Array.getElem?_eq_none hl] at k;cases k⟩
theorem Sim.ext {s:DS} {a:Act} {w w':World} {H':Ac} (C:Sim G N s a w) (D:Ext s.heap w H' w') (E:Bm w' H'):Sim G N ⟨s.env,H'⟩ a w':=
 ⟨C.size,C.defers.ext D,fun i hi=>Rel.lasts D.lasts _ _ (C.tmps i hi),E,C.glob.lasts D.lasts,Nat.le_trans C.base D.size⟩
theorem Sim.put {s:DS} {a:Act} {w:World} (C:Sim G N s a w) {dst:Option Nat} (E:Cz N dst=true) {v:DVal} {x:Value} (hv:Rel w s.heap v x):
  Sim G N ⟨Hr s.env dst v,s.heap⟩ (a.put dst x) w:=by
 cases dst with
 | none=>exact C
 | some d=>
  have I:d<N:=by simpa [Cz] using E
  refine⟨by simpa [Act.put] using C.size,by simpa [Act.put] using C.defers,fun i hi=> ?_,C.heap,C.glob,C.base⟩;have D:=C.size;simp only[Act.put,Hr,upd];by_cases e:i=d
  ·subst e;have:(a.tmps.setIfInBounds i x).getD i undef=x:=by simp [Array.getD,D,hi]
   rw[this,if_pos rfl];exact hv
  ·have h1:(a.tmps.setIfInBounds d x).getD i undef=a.tmps.getD i undef:=by
    simp [Array.getD,D,hi,Array.getElem_setIfInBounds,Ne.symm e]
   rw[h1,if_neg e];exact C.tmps i hi
def Io (G:Nat->DVal) (N:Fr) (K:DK) (s:DS) (w:World):Act->World->Prop:=
 fun a' w'=> ∃s',K s'/\Sim G N s' a' w'/\Ext s.heap w s'.heap w'
def Sg (G:Nat->DVal) (N:Fr) (Q:DExit->DS->Prop) (s:DS) (w:World):Exit->Act->World->Prop:=
 fun e a' w'=> ∃e' s',Q e' s'/\RelX w' s'.heap e' e/\Sim G N s' a' w'/\Ext s.heap w s'.heap w'
variable {o:Oper} {s:DS} {a:Act} {w:World} {K:DK} {Qx:Exit->Act->World->Prop}
theorem Je {w':World} {H':Ac} {v:DVal} {x:Value} (D:Sim G N s a w) (E:Cz N o.dst=true) (I:(execOp a.eval o).run P w= .ok (.value x) w')
  (C:Ext s.heap w H' w') (J:Bm w' H') (hv:Rel w' H' v x) (L:K ⟨Hr s.env o.dst v,H'⟩):o.wp P a w (Io G N K s w) Qx:=by
 unfold Oper.wp;rw[I];exact⟨_,L,(D.ext C J).put E hv,C⟩
theorem Ld {v:DVal} {x:Value} (C:Sim G N s a w) (D:Cz N o.dst=true) (E:(execOp a.eval o).run P w= .ok (.value x) w)
  (hv:Rel w s.heap v x) (I:Cb o.dst v K s):o.wp P a w (Io G N K s w) Qx:=
 Je C D E (Ext.refl _ _) C.heap hv I
def PV (P:Program) (o:Oper) (s:DS) (a:Act) (w:World) (K:DK):Prop:=
 ∃d x,(execOp a.eval o).run P w= .ok (.value x) w/\Rel w s.heap d x/\Cb o.dst d K s
theorem pvI {v:DVal} {x:Value} (_hS:Sim G N s a w) (_hd:Cz N o.dst=true) (C:(execOp a.eval o).run P w= .ok (.value x) w)
  (hv:Rel w s.heap v x) (D:Cb o.dst v K s):PV P o s a w K:=⟨v,x,C,hv,D⟩
theorem PV.wp (h:PV P o s a w K) (C:Sim G N s a w) (D:Cz N o.dst=true):o.wp P a w (Io G N K s w) Qx:=by
 obtain⟨d,x,h1,h2,h3⟩:=h;exact Ld C D h1 h2 h3
theorem Xm {k:IntKind} {n:Int} (C:Sim G N s a w) (D:Cz N o.dst=true) (E:(execOp a.eval o).run P w= .ok (.value (.int k n)) w) (I:Cb o.dst (.int k n) K s):PV P o s a w K:=
 pvI C D E (by simp [Rel]) I
theorem Bg3 {b:Bool} (C:Sim G N s a w) (D:Cz N o.dst=true) (E:(execOp a.eval o).run P w= .ok (.value (.bool b)) w) (I:Cb o.dst (.bool b) K s):PV P o s a w K:=
 pvI C D E (by simp [Rel]) I
theorem Ext.drawn {H:Ac} {w w':World} {H':Ac} (h:Ext H w H' w') (n:Nat):Ext H w H' { w' with drawn:=n }:=⟨h.os,h.tape,h.output,h.size,h.block,h.own,h.keep,fun a ha hn=>h.fz a ha hn⟩
theorem Co8 (H:Ac) (w:World) (n:Nat):Lasts H w H { w with drawn:=n }:=⟨fun b i x hb hc=>⟨hb,hc⟩,Nat.le_refl _,fun _ _=>rfl⟩
theorem Bm.drawn {w:World} {H:Ac} (n:Nat) (h:Bm w H):Bm { w with drawn:=n } H:=by
 intro r o ho;exact(h r o ho).lasts (Co8 H w n)
theorem Bm.lt {H:Ac} (C:Bm w H) {r:Nat} (h:H r≠none):r<w.heap.size:=by
 cases e:H r with
 | none=>exact(h e).elim
 | some o=>
  obtain⟨y,h1⟩:=(C r o e).some;rcases Nat.lt_or_ge r w.heap.size with hl | hl
  ·exact hl
  ·rw[Array.getElem?_eq_none hl] at h1;cases h1
theorem Bm.fresh {H:Ac} (C:Bm w H):H w.heap.size=none:=by
 cases e:H w.heap.size with
 | none=>rfl
 | some o=>exact absurd (C.lt (r:=w.heap.size) (by simp [e])) (by omega)
theorem Ae8 {H:Ac} (E:Bm w H) (c:Array Value) (e:TypeId) (o':Option DObj):Ext H w (upd H w.heap.size o') (w.alloc (.cells c e)):=by
 have C: ∀b,b<w.heap.size->(w.alloc (.cells c e)).heap[b]? =w.heap[b]? :=fun b hb=>by
  show(w.heap.push (.cells c e))[b]? =_;rw[Array.getElem?_push,if_neg (by omega)]
 refine⟨rfl,rfl,rfl,by simp,fun b hb _=>C b hb,fun b hb=> ?_,fun b hb=>by rw[C b hb],fun a _ _=> ?_⟩
 ·by_cases D:b=w.heap.size
  ·exact .inr (by omega)
  ·simp only[upd,if_neg D] at hb;exact .inl hb
 ·exact Go.RowKit.frozen?_alloc_cells w c e a
theorem Vw {H:Ac} (C:Bm w H) {cs:List DVal} {xs:List Value} (D:Az w H cs xs) (c:Array Value) (hx:xs<+:c.toList) (e:TypeId):
  Bm (w.alloc (.cells c e)) (upd H w.heap.size (some (.cells cs e))):=by
 have hE:=Ae8 C c e (some (.cells cs e));intro r o ho;by_cases hr:r=w.heap.size
 ·subst hr;simp only[upd,if_pos] at ho;cases ho;refine⟨xs,c,(0,0), ?_,hx,Az.lasts hE.lasts _ _ D,fun i _=>by simp⟩;show(w.heap.push _)[w.heap.size]? =_;simp
 ·simp only[upd,if_neg hr] at ho;have E:r<w.heap.size:=C.lt (by simp [ho]);have hb:(w.alloc (.cells c e)).heap[r]? =w.heap[r]? :=by
   show(w.heap.push _)[r]? =_;rw[Array.getElem?_push,if_neg (by omega)]
  rw[hb];exact(C r o ho).lasts hE.lasts
theorem Dr8 (C:Sim G N s a w) (D:Cz N o.dst=true) {cs:List DVal} {c:Array Value} {e:TypeId}
  (E:(execOp a.eval o).run P w= .ok (.value (.pointer (some ⟨w.heap.size,0,none⟩))) (w.alloc (.cells c e)))
  (I:Az w s.heap cs c.toList) (J:Fz cs e o.dst K s):o.wp P a w (Io G N K s w) Qx:=
 Je C D E (Ae8 C.heap _ _ _) (Vw C.heap I c (List.prefix_refl _) e) (by simp [Rel]) (J _ C.heap.fresh)
theorem Ao0 (C:Sim G N s a w) (E:Cz N o.dst=true) {cs:List DVal} {xs:List Value} {c:Array Value} {e:TypeId} {sz len lo cap n:Nat} (I:lo<=cap) (J:len<=cap) (S:cap*sz<=c.size)
  (L:(execOp a.eval o).run P w= .ok (.value (.slice (some ⟨w.heap.size,0,none⟩) len cap)) { w.alloc (.cells c e) with drawn:=n })
  (M:Az w s.heap cs xs) (hx:xs<+:c.toList) (O:Bi1 cs e sz len lo o.dst K s):o.wp P a w (Io G N K s w) Qx:=by
 refine Je C E L ((Ae8 C.heap _ _ _).drawn n) ((Vw C.heap M c hx e).drawn n) ?_ (O _ C.heap.fresh);simp only[Rel];refine⟨0,cap,rfl,I,J, .inr rfl, ?_⟩;constructor
 ·show w.heap.size<(w.alloc _).heap.size;simp
 ·intro k hk;have:(w.alloc (.cells c e)).heap[w.heap.size]? =some (.cells c e):=by
   show(w.heap.push _)[w.heap.size]? =_;simp
  have D:Qa (w.alloc (.cells c e)).heap[w.heap.size]? =some k:=hk;rw[this] at D;simp [Qa] at D;omega
theorem Mt (b off n:Nat):Addr.add ⟨b,off,none⟩ n=⟨b,off+n,none⟩:=by
 unfold Addr.add;split<;>simp_all
def Nr (w:World) (b off:Nat) (xs:List Value):Prop:= ∀i x,xs[i]? =some x->w.cell? ⟨b,off+i,none⟩=some x
theorem Uv.holds {H:Ac} {b off:Nat} {xs:List Value} (h:Uv w H b off xs):Nr w b off xs:=by
 rcases h with rfl | ⟨_,h⟩
 ·intro i x hx;simp at hx
 ·exact h
theorem Nr.drop {b off n:Nat} {xs:List Value} (h:Nr w b off xs):Nr w b (off+n) (xs.drop n):=by
 intro i x hx;rw[List.getElem?_drop] at hx;have:=h _ _ hx
 rwa [<-Nat.add_assoc] at this
theorem Nr.take {b off n:Nat} {xs:List Value} (h:Nr w b off xs):Nr w b off (xs.take n):=by
 intro i x hx;rw[List.getElem?_take] at hx;split at hx
 ·exact h _ _ hx
 ·cases hx
theorem Ge {b off:Nat} {xs:List Value} (h:Nr w b off xs):(loadCells ⟨b,off,none⟩ xs.length).run P w= .ok xs.toArray w:=
 run_loadCells_list w ⟨b,off,none⟩ xs fun j v hv=>by rw[Mt];exact h j v hv
theorem Bm.holds {H:Ac} (C:Bm w H) {r:Nat} {cs:List DVal} {e:TypeId} (hr:H r=some (.cells cs e)): ∃xs,Az w H cs xs/\Nr w r 0 xs:=by
 obtain⟨xs,c,fz,h1,h2,h3,_⟩:=C r _ hr;refine⟨xs,h3,fun i x hx=> ?_⟩;have hp:c.toList[i]? =some x:=by
  obtain⟨t,ht⟩:=h2;rw[<-ht,List.getElem?_append_left]
  ·exact hx
  ·rcases Nat.lt_or_ge i xs.length with hl | hl
   ·exact hl
   ·rw[List.getElem?_eq_none hl] at hx;cases hx
 simp only[World.cell?,h1,Nat.zero_add,Option.isSome_none,Bool.false_eq_true,if_false];simpa using hp
theorem Oi {t:TypeId} {b:Bool} (h:Eb P t=some b):(isAgg t).run P w= .ok b w:=by
 unfold Eb at h;cases hu:P.underlying t with
 | none=>simp [hu] at h
 | some d=>
  simp only[isAgg,Sem.run_bind,run_underlying hu,Result.andThen_ok];rw[hu] at h;cases d<;>simp at h<;>subst h<;>rfl
theorem Aj1 {t:TypeId} {d:TypeDesc} (h:P.underlying t=some d):(P.info? t).isSome=true:=by
 unfold Program.underlying at h;cases hi:P.info? t with
 | none=>simp [hi] at h
 | some i=>rfl
theorem Va {t:TypeId} {b:Bool} (h:Eb P t=some b):(P.info? t).isSome=true:=by
 unfold Eb at h;cases hu:P.underlying t with
 | none=>simp [hu] at h
 | some d=>exact Aj1 hu
theorem Dk {t:TypeId} (h:(P.info? t).isSome=true):(sizeOf t).run P w= .ok (P.cellsOf t) w:=by
 cases hi:P.info? t with
 | none=>simp [hi] at h
 | some i=>simp [sizeOf,typeInfo,program,hi,Program.cellsOf,Sem.run]
theorem Sm {t:TypeId} {i:TypeInfo} (h:P.info? t=some i):(typeInfo t).run P w= .ok i w:=by
 simp [typeInfo,program,h,Sem.run]
theorem Eo7 {t:TypeId} {z:DVal} (h:Bn P t=some z): ∃v,(zeroValue t).run P w= .ok v w/\z=Fj v:=by
 unfold Bn at h;cases hi:P.info? t with
 | none=>simp [hi] at h
 | some i=>
  cases hz:i.zero with
  | none=>simp [hi,hz] at h
  | some v=>
   simp [hi,hz] at h;exact⟨v,by simp [zeroValue,Sm hi,hz],h.symm⟩
theorem Yy {t:TypeId} (h:Eb P t=some true) {b off:Nat} {xs:List Value} (hx:Nr w b off xs) (hl:xs.length=P.cellsOf t):
  (loadVar t ⟨b,off,none⟩).run P w= .ok (.agg xs.toArray) w:=by
 simp only[loadVar,Sem.run_bind,Oi h,Result.andThen_ok,if_true];simp only[Dk (Va h),Result.andThen_ok,<-hl,Ge hx,Sem.run_bind,Sem.run_pure]
theorem Yz {t:TypeId} (h:Eb P t=some false) {b off:Nat} {x:Value} (hx:w.cell? ⟨b,off,none⟩=some x):
  (loadVar t ⟨b,off,none⟩).run P w= .ok x w:=by
 simp [loadVar,Oi h,hx]
end
section
variable {P:Program} {G:Nat->DVal} {N:Fr}
variable {o:Oper} {s:DS} {a:Act} {w:World} {K:DK} {Qx:Exit->Act->World->Prop}
theorem Kt {dst:Option Nat} {v:Option DVal} (h:Wi dst v K s): ∃d,v=some d/\Cb dst d K s:=by
 cases v with
 | none=>exact h.elim
 | some d=>exact⟨d,rfl,h⟩
theorem Gf5 (C:Sim G N s a w) (D:Cz N o.dst=true) {x:Operand} (hx:Cc N x=true) (he:o.op= .move x) (h:Cb o.dst (dev G s.env x) K s):PV P o s a w K:=
 pvI C D (by simp [execOp,he]) (Bs C hx) h
theorem Eo8 (C:Sim G N s a w) (D:Cz N o.dst=true) {x:Operand} (hx:Cc N x=true) (he:o.op= .assign x) (h:Cb o.dst (dev G s.env x) K s):PV P o s a w K:=
 pvI C D (by simp [execOp,he]) (Bs C hx) h
theorem Gf6 (C:Sim G N s a w) (D:Cz N o.dst=true) {c x y:Operand} (E:Cc N c=true) (hx:Cc N x=true) (I:Cc N y=true) (he:o.op= .pick c x y)
  (h:Co0 o.dst (dev G s.env c) (dev G s.env x) (dev G s.env y) K s):PV P o s a w K:=by
 have r:=Bs C E;cases hcv:dev G s.env c<;>rw[hcv] at h r<;>try exact h.elim
 rename_i t
 simp only[Rel] at r;simp only[Co0] at h;refine pvI C D (x:=if t then a.eval x else a.eval y) (by simp [execOp,he,r,asBool]) ?_ h;cases t
 ·exact Bs C I
 ·exact Bs C hx
theorem Mu {H:Ac} {d:DVal} {v:Value} (h:Rel w H d v):Az w H d.cells v.cells.toList:=Rel.cells h
theorem Fl4 (C:Sim G N s a w) (D:Cz N o.dst=true) {e:TypeId} (he:o.op= .alloc e) (h:Eo4 e o.dst (Bn P e) K s):o.wp P a w (Io G N K s w) Qx:=by
 cases hz:Bn P e with
 | none=>rw[hz] at h;exact h.elim
 | some z=>
  rw[hz] at h;obtain⟨v,hv,rfl⟩:=Eo7 (w:=w) hz;refine Dr8 C D (c:=v.cells) ?_ ?_ h
  ·simp [execOp,he,Instr.alloc,hv,newVar,newRow]
  ·exact Mu (Hd w s.heap v)
theorem Gr0 (C:Sim G N s a w) (D:Cz N o.dst=true) {e:TypeId} {x:Operand} (hx:Cc N x=true) (he:o.op= .box e x)
  (h:Fz (dev G s.env x).cells e o.dst K s):o.wp P a w (Io G N K s w) Qx:=
 Dr8 C D (c:=(a.eval x).cells) (by simp [execOp,he,Instr.box,newVar,newRow]) (Mu (Bs C hx)) h
theorem Dr9 {size:Nat} {C:Option Bool} {t:TypeId} (E:Eb P t=C) (I:P.cellsOf t=size) {b off:Nat} {cs:List DVal} {xs:List Value} {H:Ac} (hr:Az w H cs xs) (hh:Nr w b off xs) {i:Nat} {dst:Option Nat}
  (h:Bi3 size dst C cs i K s): ∃d x,(loadVar t ⟨b,off+i,none⟩).run P w= .ok x w/\Rel w H d x/\Cb dst d K s:=by
 subst I;cases C with
 | none=>exact h.elim
 | some C=>
  cases C with
  | true=>
   obtain⟨hle,D⟩:=h;have hx:Nr w b (off+i) ((xs.drop i).take (P.cellsOf t)):=hh.drop.take;have hl:((xs.drop i).take (P.cellsOf t)).length=P.cellsOf t:=by
    have:=hr.length;simp;omega
   refine⟨_,_,Yy E hx hl, ?_,D⟩;simp only[Rel];exact⟨_,rfl,(hr.drop i).take _⟩
  | false=>
   obtain⟨d,hd,D⟩:=Kt h;obtain⟨x,hx,J⟩:=hr.get hd;exact⟨d,x,Yz E (hh i x hx),J,D⟩
theorem Gf7 (C:Sim G N s a w) (J:Cz N o.dst=true) {t:TypeId} {x:Operand} (hx:Cc N x=true) (he:o.op= .load t x)
  (h:By1 (P.cellsOf t) (Eb P t) o.dst (dev G s.env x) K s):PV P o s a w K:=by
 have r:=Bs C hx;cases hv:dev G s.env x<;>rw[hv] at h r<;>try exact h.elim
 case vptr cs off=>
  simp only[Rel] at r;obtain⟨b,o',xs,hp,hc,hl⟩:=r;obtain⟨d,y,D,E,I⟩:=Dr9 (P:=P) (t:=t) rfl rfl hl hc.holds h;refine pvI C J ?_ E I;simp [execOp,he,hp,Instr.loadAt,Instr.sureAddr,D]
 case optr r0 off=>
  simp only[Rel] at r;simp only[By1] at h;cases hh:s.heap r0 with
  | none=>rw[hh] at h;exact h.elim
  | some ob=>
   rw[hh] at h;cases ob with
   | loop=>exact h.elim
   | iter=>exact h.elim
   | map=>exact h.elim
   | cells cs e=>
    obtain⟨xs,hl,L⟩:=C.heap.holds hh;obtain⟨d,y,D,E,I⟩:=Dr9 (P:=P) (t:=t) rfl rfl hl L h;refine pvI C J ?_ E I;simp only[Nat.zero_add] at D;simp [execOp,he,r,Instr.loadAt,Instr.sureAddr,D]
theorem Oe (r off:Nat) (e:TypeId) (fz:Nat×Nat): ∀(vs:List Value) (i:Nat) (c:Array Value) (w:World),w.heap[r]? =some (.cells c e fz)->off+i+vs.length<=c.size->
  (∀v∈vs,v.oneCell'=true)->(∀j,j<c.size-> ¬(fz.1<=j/\j<fz.2))->
  ∃(w':World) (C:Array Value),(storeCells ⟨r,off,none⟩ vs i).run P w= .ok () w'/\w'.heap[r]? =some (.cells C e fz)/\C.toList=c.toList.take (off+i)++vs++c.toList.drop (off+i+vs.length)/\
   (∀b,b≠r->w'.heap[b]? =w.heap[b]?)/\w'.heap.size=w.heap.size/\w'.os=w.os/\w'.tape=w.tape/\w'.output=w.output
 | [],i,c,w,hc,hl,_,_=>⟨w,c,by simp [storeCells],hc,by simp,fun _ _=>rfl,rfl,rfl,rfl,rfl⟩
 | v::vs,i,c,w,hc,hl,h1,hf=>by
  simp only[jA] at hl;have hi:off+i<c.size:=by omega
  have D:w.cell? ⟨r,off+i,none⟩=some c[off+i]:=by simp [World.cell?,hc,hi]
  have E:w.frozen? ⟨r,off+i,none⟩=false:=by
   have:=hf (off+i) hi;obtain⟨lo,aa⟩:=fz;simp [World.frozen?,hc];intro h2;have:=fun h3=>this ⟨h2,h3⟩;simp at this;omega
  have I:(w.setCell ⟨r,off+i,none⟩ v).heap[r]? =some (.cells (c.setIfInBounds (off+i) v) e fz):=by
   simp [World.setCell,Array.getElem?_modify,hc]
  obtain⟨w',C,J,L,M,O,S,U,V,W⟩:=Oe r off e fz vs (i+1) (c.setIfInBounds (off+i) v) _ I (by simp;omega) (fun u hu=>h1 u (List.mem_cons_of_mem _ hu)) (by simpa using hf);refine⟨w',C, ?_,L, ?_,fun b hb=> ?_,by rw[S];simp,U,V,W⟩
  ·simp only[storeCells,Sem.run_bind,Mt,run_store P w _ v _ (h1 v (List.mem_cons_self ..)),D,E];simpa using J
  ·rw[M];have X:off+i<c.toList.length:=by simpa using hi
   rw[Array.toList_setIfInBounds,jA,<-Nat.add_assoc];have e1:(c.toList.set (off+i) v).take (off+i+1)=c.toList.take (off+i)++ [v]:=by
    rw[List.take_set,List.take_succ_eq_append_getElem X,List.set_append_right _ _ (by simp;omega)];have Y:off+i-min (off+i) c.size=0:=by omega
    simp [Y]
   have Z:(c.toList.set (off+i) v).drop (off+i+1+vs.length)=c.toList.drop (off+i+(vs.length+1)):=by
    rw[List.drop_set,if_pos (by omega)];congr 1;omega
   rw[e1,Z];simp
  ·rw[O b hb];exact Go.RowKit.Below.heap_setCell _ _ _ _ hb
theorem Bj4 {H:Ac}: ∀ {C:List DVal} {xs:List Value},Az w H C xs->C.all (·.one)=true-> ∀x∈xs,x.oneCell'=true
 | [],_,h,_,x,hx=>by simp only[Az] at h;subst h;simp at hx
 | d::C,xs,h,h1,x,hx=>by
  simp only[Az] at h;obtain⟨y,ys,rfl,hr,hl⟩:=h;simp only[List.all_cons,jF] at h1;rcases List.mem_cons.1 hx with rfl | hx
  ·cases d<;>simp only[Rel,DVal.one] at hr h1<;>try (simp at h1;done)
   case raw v=>obtain⟨rfl,_⟩:=hr;exact h1.1
   case vptr=>obtain⟨_,_,_,rfl,_⟩:=hr;rfl
   case vslice=>obtain⟨_,_,rfl,_⟩:=hr;rfl
   case oslice=>obtain⟨_,_,rfl,_⟩:=hr;rfl
   case func=>obtain⟨_,_,rfl,_⟩:=hr;rfl
   case iface=>obtain⟨_,rfl,_⟩:=hr;rfl
   all_goals (subst hr;rfl)
  ·exact Bj4 hl h1.2 x hx
theorem Aw1 {H:Ac} (S:Bm w H) {r off:Nat} {cs D:List DVal} {e:TypeId} (hr:H r=some (.cells cs e)) {vs:List Value} (hv:Az w H D vs) (h1:D.all (·.one)=true) (ae:off+D.length<=cs.length):
  ∃w',(storeCells ⟨r,off,none⟩ vs 0).run P w= .ok () w'/\Bm w' (upd H r (some (.cells (Cn cs off D) e)))/\Ext H w (upd H r (some (.cells (Cn cs off D) e))) w':=by
 obtain⟨xs,c,fz,J,X,L,U⟩:=S r _ hr;obtain⟨V,W⟩:=X;have af:=L.length;have Y:=hv.length;have hcs:c.size=xs.length+V.length:=by rw[<-Array.length_toList,<-W];simp
 obtain⟨w',c',Z,M,O,E,ag,aa,ab,ac⟩:=Oe (P:=P) r off e fz vs 0 c w J (by omega) (Bj4 hv h1) U;have hE:Ext H w (upd H r (some (.cells (Cn cs off D) e))) w':=by
  have ad:c'.size=c.size:=by
   rw[<-Array.length_toList,O];simp;omega
  refine⟨aa,ab,ac,by omega,fun b hb hn=>E b (fun C=>by subst C;rw[hr] at hn;cases hn),fun b hb=> ?_,fun b hb=> ?_,fun a _ _=>by
   unfold World.frozen?;by_cases C:a.block=r
   ·rw[C,M,J]
   ·rw[E _ C]⟩
  rotate_left
  ·by_cases C:b=r
   ·subst C;rw[M,J];simp [Qa,ad]
   ·rw[E b C]
  by_cases C:b=r
  ·subst C;exact .inl (by rw[hr];simp)
  ·simp only[upd,if_neg C] at hb;exact .inl hb
 refine⟨w',Z,fun r' o' I=> ?_,hE⟩;by_cases C:r'=r
 ·subst C;simp only[upd,if_pos] at I;cases I;refine⟨xs.take off++vs++xs.drop (off+vs.length),c',fz,M, ?_, ?_, ?_⟩
  ·refine⟨V, ?_⟩;rw[O,<-W,Nat.add_zero,List.take_append_of_le_length (by omega),List.drop_append_of_le_length (by omega)];simp
  ·have e0:Cn cs off D=cs.take off++D++cs.drop (off+vs.length):=by unfold Cn;rw[Y]
   have e1:=((Az.lasts hE.lasts _ _ (L.take off)).append (Az.lasts hE.lasts _ _ hv)).append (Az.lasts hE.lasts _ _ (L.drop (off+vs.length)));rw[<-e0] at e1;exact e1
  ·have:c'.size=c.size:=by
    rw[<-Array.length_toList,O];simp;omega
   rw[this];exact U
 ·simp only[upd,if_neg C] at I;rw[E r' C];exact(S r' o' I).lasts hE.lasts
theorem Fl5 (C:Sim G N s a w) {t:TypeId} {x y:Operand} (hx:Cc N x=true) (E:Cc N y=true) (he:o.op= .store t x y)
  (h:(P.info? t).isSome=true/\Ce8 (P.cellsOf t) o.dst (dev G s.env x) (dev G s.env y) K s):o.wp P a w (Io G N K s w) Qx:=by
 obtain⟨hi,h⟩:=h;have r:=Bs C hx;have I:=Bs C E;cases hv:dev G s.env x<;>rw[hv] at h r<;>(try (cases hdst:o.dst<;>rw[hdst] at h<;>exact h.elim))
 rename_i r0 off
 cases hdst:o.dst with
 | some d=>rw[hdst] at h;exact h.elim
 | none=>
  rw[hdst] at h;simp only[Rel] at r;simp only[Ce8] at h;cases hh:s.heap r0 with
  | none=>rw[hh] at h;exact h.elim
  | some ob=>
   rw[hh] at h;cases ob with
   | loop=>exact h.elim
   | iter=>exact h.elim
   | map=>exact h.elim
   | cells cs e=>
    obtain⟨hl,h1,hle,J⟩:=h;have D:=Mu I;obtain⟨w',L,M,hE⟩:=Aw1 (P:=P) C.heap hh D h1 (off:=off) (by omega);have O:(a.eval y).cells.size=P.cellsOf t:=by rw[<-hl,D.length];simp
    unfold Oper.wp;have:(execOp a.eval o).run P w= .ok .skip w':=by
     simp [execOp,he,r,Instr.storeAt,Instr.sureAddr,storeVar,Dk hi,O,L]
    rw[this];show Io G N K s w (a.put o.dst undef) w';rw[hdst];exact⟨_,J,C.ext hE M,hE⟩
end
end Go.Dl
-- Dp
namespace Go.Dl
open Go
set_option maxHeartbeats 40000
section
variable {P:Program} {G:Nat->DVal} {N:Fr}
variable {o:Oper} {s:DS} {a:Act} {w:World} {K:DK} {Qx:Exit->Act->World->Prop}
theorem Dd4 (C:Sim G N s a w) (D:Cz N o.dst=true) {x:Operand} (hx:Cc N x=true) (he:o.op= .nilCheck x)
  (h:Ae5 o.dst (dev G s.env x) K s):PV P o s a w K:=by
 have r:=Bs C hx;have r':=r;cases hv:dev G s.env x<;>rw[hv] at h r r'<;>try exact h.elim
 case vptr cs off=>
  simp only[Rel] at r;obtain⟨b,o',xs,hp,hc,hl⟩:=r;exact pvI C D (x:=a.eval x) (by simp [execOp,he,hp]) r' h
 case optr r0 off=>
  simp only[Rel] at r;exact pvI C D (x:=a.eval x) (by simp [execOp,he,r]) r' h
 case omap r0=>
  simp only[Rel] at r;exact pvI C D (x:=a.eval x) (by simp [execOp,he,r]) r' h
 case iface t0 v0=>
  simp only[Rel] at r;obtain⟨E,hp,_⟩:=r;exact pvI C D (x:=a.eval x) (by simp [execOp,he,hp]) r' h
 case func fn f c=>
  simp only[Rel] at r;obtain⟨xs,ys,hp,_,_⟩:=r;cases fn<;>try exact h.elim
  exact pvI C D (x:=a.eval x) (by simp [execOp,he,hp]) r' h
theorem Dd5 (C:Sim G N s a w) (D:Cz N o.dst=true) {fn:Fn} {fs cs:Array Operand} (hf:fs.toList.all (Cc N)=true) (E:cs.toList.all (Cc N)=true) (he:o.op= .makeFunc fn fs cs)
  (h:Cb o.dst (.func fn (Hh G s.env fs.toList) (Hh G s.env cs.toList)) K s):PV P o s a w K:=by
 refine pvI C D (x:= .func fn (fs.map a.eval) (cs.map a.eval)) (by simp [execOp,he,Instr.makeFunc]) ?_ h;simp only[Rel];exact⟨_,_,rfl,by simpa using Tr C hf,by simpa using Tr C E⟩
theorem Co9 (C:Sim G N s a w) (D:Cz N o.dst=true) {t:TypeId} {x:Operand} (hx:Cc N x=true) (he:o.op= .makeInterface t x)
  (h:Xh t (dev G s.env x) o.dst (Fk (P.underlying t)) K s):PV P o s a w K:=by
 cases hn:Fk (P.underlying t) with
 | false=>rw[hn] at h;exact h.elim
 | true=>
  rw[hn] at h;cases hu:P.underlying t with
  | none=>rw[hu] at hn;simp [Fk] at hn
  | some d=>
   refine pvI C D (x:= .iface t (a.eval x)) ?_ ?_ h
   ·rw[hu] at hn;cases d<;>simp [Fk] at hn<;>simp [execOp,he,Instr.makeInterface,run_underlying hu]
   ·simp only[Rel];exact⟨_,rfl,Bs C hx⟩
theorem Dy6 (C:Sim G N s a w) (D:Cz N o.dst=true) {x:Operand} {i:Nat} (hx:Cc N x=true) (he:o.op= .extract x i)
  (h:An5 i o.dst (dev G s.env x) K s):PV P o s a w K:=by
 have r:=Bs C hx;cases hv:dev G s.env x<;>rw[hv] at h r<;>try exact h.elim
 simp only[Rel] at r;obtain⟨xs,hp,hl⟩:=r;obtain⟨d,E,I⟩:=Kt h;obtain⟨y,J,L⟩:=hl.get E;refine pvI C D ?_ L I;have:xs[i]? =some y:=by simpa using J
 simp [execOp,he,hp,Instr.extract,this]
theorem Gf8 (C:Sim G N s a w) (D:Cz N o.dst=true) {op:UnOp} {t:TypeId} {x:Operand} (hx:Cc N x=true) (he:o.op= .unOp op t x)
  (h:dUn o.dst op (dev G s.env x) K s):PV P o s a w K:=by
 have r:=Bs C hx;cases hv:dev G s.env x<;>rw[hv] at h r<;>cases op<;>(try exact h.elim)<;>simp only[Rel] at r<;>simp only[dUn] at h
 ·exact pvI C D (by simp [execOp,he,r,Op.unary];rfl) (by simp [Rel]) h
 ·exact pvI C D (by simp [execOp,he,r,Op.unary,Op.intArith];rfl) (by simp [Rel]) h
 ·exact pvI C D (by simp [execOp,he,r,Op.unary,Op.intBits];rfl) (by simp [Rel]) h
theorem Dy7 (C:Sim G N s a w) (E:Cz N o.dst=true) {D t:TypeId} {x:Operand} (hx:Cc N x=true) (he:o.op= .convert D t x)
  (h:An3 o.dst (P.underlying D) (P.underlying t) (dev G s.env x) K s):PV P o s a w K:=by
 have r:=Bs C hx;cases hs:P.underlying D with
 | none=>rw[hs] at h;cases P.underlying t<;>exact h.elim
 | some ds=>
  cases ht:P.underlying t with
  | none=>rw[hs,ht] at h;exact h.elim
  | some I=>
   rw[hs,ht] at h;cases I<;>(try exact h.elim)
   case int k=>
    cases hv:dev G s.env x<;>rw[hv] at h r<;>(try exact h.elim);simp only[Rel] at r
    rename_i L J
    refine pvI C E (x:= .int k (k.wrap J)) ?_ ?_ h
    ·simp [execOp,he,r,convert,run_underlying hs,run_underlying ht,Conv.intToInt]
    ·simp [Rel]
   case string=>
    cases hv:dev G s.env x<;>rw[hv] at h r<;>(try exact h.elim);simp only[Rel] at r;refine pvI C E (x:=a.eval x) ?_ ?_ h
    ·simp [execOp,he,r,convert,run_underlying hs,run_underlying ht]
    ·rw[r];simp [Rel]
theorem Cx {op:BinOp} {t:TypeId} {x y:Operand} {u v:Value} (h: ∀t' z,u= .agg t'->v= .agg z->False) (h2:u= .nilIface->v= .nilIface->False):eqGuard op t x y u v=pure ():=by
 unfold eqGuard;cases op<;>(try rfl)<;>(cases u<;>(try rfl)<;>cases v<;>(try rfl))<;>first | exact(h2 rfl rfl).elim | exact(h _ _ rfl rfl).elim
theorem Eo9 (D:Sim G N s a w) (E:Cz N o.dst=true) {op:BinOp} {t t':TypeId} {x y:Operand} (he:o.op= .binOp op t x y t') {k k':IntKind} {m n:Int} (hx:a.eval x= .int k m) (I:a.eval y= .int k' n)
  (h:Dq9 op k k' m n o.dst K s (Gz op)):PV P o s a w K:=by
 have hg:eqGuard op t x y (.int k m) (.int k' n)=pure ():=Cx (by simp) (by simp);cases op<;>simp only[Gz,Dq9,Bf9,Ce9] at h
 case shl=>
  obtain⟨h0,C⟩:=h;refine pvI D E (x:= .int k (k.wrap (m*2^(min n.toNat k.bits)))) ?_ (by simp [Rel]) C;simp only[execOp,he,hx,I,hg,binOp,Op.shift,if_neg (Int.not_lt.2 h0)];rfl
 case shr=>
  obtain⟨h0,C⟩:=h;refine pvI D E (x:= .int k (m.fdiv (2^(min n.toNat k.bits)))) ?_ (by simp [Rel]) C;simp only[execOp,he,hx,I,hg,binOp,Op.shift,if_neg (Int.not_lt.2 h0)];rfl
 case quo=>
  obtain⟨rfl,h0,C⟩:=h;refine pvI D E (x:= .int k (k.wrap (m.tdiv n))) ?_ (by simp [Rel]) C;simp [execOp,he,hx,I,hg,binOp,Op.intDiv,h0]
 case rem=>
  obtain⟨rfl,h0,C⟩:=h;refine pvI D E (x:= .int k (m.tmod n)) ?_ (by simp [Rel]) C;simp [execOp,he,hx,I,hg,binOp,Op.intDiv,h0]
 all_goals
  obtain⟨rfl,C⟩:=h;first | refine Xm D E ?_ C | refine Bg3 D E ?_ C
  ·simp [execOp,he,hx,I,hg,binOp,Op.intArith,Op.intBits,Op.intCmp,bne,Int.not_le,Int.not_lt]<;>(try (rw[Bool.eq_iff_iff];simp))
theorem Aw2 (l:List UInt8):(ByteArray.mk ⟨l⟩).toList=l:=by
 have h: ∀(n i:Nat) (r:List UInt8),l.length-i=n->i<=l.length->ByteArray.toList.loop ⟨⟨l⟩⟩ i r=r.reverse++l.drop i:=by
  intro n
  induction n with
  | zero=>
   intro i r hn hi;have:i=l.length:=by omega
   subst this;unfold ByteArray.toList.loop;simp [ByteArray.size]
  | succ n ih=>
   intro i r hn hi;have C:i<l.length:=by omega
   unfold ByteArray.toList.loop;simp only[ByteArray.size,List.size_toArray,C,if_true];rw[ih (i+1) _ (by omega) (by omega)];have:ByteArray.get! ⟨⟨l⟩⟩ i=l[i]:=by simp [ByteArray.get!,C]
   rw[this,List.drop_eq_getElem_cons C];simp
 have:=h l.length 0 [] (by simp) (by omega);simpa [ByteArray.toList] using this
theorem Dy8 (l m:List UInt8):(ByteArray.mk ⟨l⟩)++(ByteArray.mk ⟨m⟩)=ByteArray.mk ⟨l++m⟩:=by
 apply ByteArray.ext;simp
theorem Ep0 (C:Sim G N s a w) (D:Cz N o.dst=true) {op:BinOp} {t t':TypeId} {x y:Operand} (he:o.op= .binOp op t x y t') {l m:List UInt8} (hx:a.eval x= .string ⟨⟨l⟩⟩) (E:a.eval y= .string ⟨⟨m⟩⟩)
  (h:An2 l m o.dst K s op):PV P o s a w K:=by
 have hg:eqGuard op t x y (.string ⟨⟨l⟩⟩) (.string ⟨⟨m⟩⟩)=pure ():=Cx (by simp) (by simp);have I: ∀l:List UInt8,(ByteArray.mk ⟨l⟩).size=l.length:=fun l=>rfl;cases op<;>simp only[An2] at h<;>try exact h.elim
 case add=>
  obtain⟨h0,J⟩:=h;refine pvI C D (x:= .string ⟨⟨l++m⟩⟩) ?_ (by simp [Rel]) J;simp only[execOp,he,hx,E,hg,binOp,Op.stringOp,I];rw[if_neg (by simp [IntKind.max,IntKind.signed,IntKind.bits];omega),Dy8];rfl
 all_goals
  refine Bg3 C D ?_ h
  ·simp [execOp,he,hx,E,hg,binOp,Op.stringOp,Aw2]<;>(try (rw[Bool.eq_iff_iff];simp))
theorem Ao1 {t:TypeId} {x y:Value} {b:Bool} (h:(Op.equal t x y).run P w= .ok b w) {op:BinOp} {n:Bool} (C:Un op=some n) (hx: ∀k n,x≠ .int k n) (hs: ∀l,x≠ .string l) (hf: ∀k n,x≠ .float k n) (D: ∀k n m,x≠ .complex k n m):
  (binOp op t x y).run P w= .ok (.bool (if n then !b else b)) w:=by
 cases op<;>simp [Un] at C<;>subst C
 ·have:binOp .eql t x y=(do pure (.bool (←Op.equal t x y))):=by
   cases x<;>first | rfl | exact absurd rfl (hx _ _) | exact absurd rfl (hs _) | exact absurd rfl (hf _ _) | exact absurd rfl (D _ _ _)
  rw[this];simp [h]
 ·have:binOp .neq t x y=(do pure (.bool (!(←Op.equal t x y)))):=by
   cases x<;>first | rfl | exact absurd rfl (hx _ _) | exact absurd rfl (hs _) | exact absurd rfl (hf _ _) | exact absurd rfl (D _ _ _)
  rw[this];simp [h]
theorem Aw3 {dst:Option Nat} {n b:Option Bool} (h:Tl dst n b K s): ∃n' b',n=some n'/\b=some b'/\Cb dst (.bool (if n' then !b' else b')) K s:=by
 cases n with
 | none=>exact h.elim
 | some n=>cases b with
  | none=>cases n<;>exact h.elim
  | some b=>cases n<;>exact⟨_,b,rfl,rfl,h⟩
theorem By5 {x y:Option Bool} {b:Bool} (h:Gf1 x y=some b): ∃p q,x=some p/\y=some q/\b=(p&&q):=by
 cases x with
 | none=>cases h
 | some p=>cases y with
  | none=>cases p<;>cases h
  | some q=>
   refine⟨p,q,rfl,rfl, ?_⟩;cases p<;>cases h<;>rfl
theorem Ao2 {H:Ac} {t:TypeId} {C:Bool} (E:Eb P t=some C) {cs:List DVal} {xs:Array Value} (hr:Az w H cs xs.toList) {off:Nat}
  (D:C=false->(Ki (P.cellsOf t) off cs (some C))≠ []):
  ∃y,(part t xs off).run P w= .ok y w/\Az w H (Ki (P.cellsOf t) off cs (some C)) (if C then y.cells.toList else [y])/\(C=true-> ∃ys,y= .agg ys):=by
 cases C with
 | true=>
  have hi:=Va E;refine⟨.agg (xs.extract off (off+P.cellsOf t)),by simp [part,Oi E,Dk hi], ?_,fun _=>⟨_,rfl⟩⟩;have:(xs.extract off (off+P.cellsOf t)).toList=(xs.toList.drop off).take (P.cellsOf t):=by simp [Array.toList_extract,List.extract]
  simp only[Ki,if_true,Value.cells,this];exact(hr.drop off).take _
 | false=>
  have D:=D rfl;simp only[Ki] at D⊢
  have J:off<cs.length:=by
   rcases Nat.lt_or_ge off cs.length with h | h
   ·exact h
   ·rw[List.drop_eq_nil_of_le h] at D;simp at D
  have L:=hr.length;have I:off<xs.size:=by rw[<-Array.length_toList,<-L];exact J
  refine⟨xs[off],by simp [part,Oi E,Array.getElem?_eq_getElem I], ?_,fun h=>by cases h⟩;have h2:=(hr.drop off).take 1;have:(xs.toList.drop off).take 1= [xs[off]]:=by
   rw[List.drop_eq_getElem_cons (by simpa using I)];simp
  rw[this] at h2;simpa using h2
theorem Ah6 {n:Nat} {t:TypeId} {D:List DVal} {b:Bool} (C:Eb P t≠some true) (h:Av3 P n t [] D=some b):False:=by
 cases n with
 | zero=>cases h
 | succ n=>
  simp only[Av3] at h;unfold Eb at C;cases hu:P.underlying t with
  | none=>rw[hu] at h;cases h
  | some d=>
   rw[hu] at h C;cases d<;>simp [Ah5,Co2,Dq7,Dq8] at h C
theorem Bj5 {n:Nat} {t:TypeId} {xs:List DVal} {b:Bool} (C:Eb P t≠some true) (h:Av3 P n t xs []=some b):False:=by
 cases n with
 | zero=>cases h
 | succ n=>
  simp only[Av3] at h;unfold Eb at C;cases hu:P.underlying t with
  | none=>rw[hu] at h;cases h
  | some d=>
   rw[hu] at h C;cases d<;>simp at C<;>simp only[Ah5,Co2,Dq7,Dq8] at h<;>first | cases h | (split at h<;>simp_all)
theorem Qn {H:Ac}: ∀(n d:Nat),n<=d-> ∀(t:TypeId) (xs L:List DVal) (x y:Value) (J:Bool) (b:Bool),Eb P t=some J->
  Az w H xs (if J then x.cells.toList else [x])->Az w H L (if J then y.cells.toList else [y])->(J=true-> ∃c,x= .agg c)->(J=true-> ∃c,y= .agg c)->Av3 P n t xs L=some b->
  (Op.equalIn d t x y).run P w= .ok b w
 | 0,_,_,_,_,_,_,_,_,_,_,_,_,_,_,h=>by cases h
 | n+1,0,hnd,_,_,_,_,_,_,_,_,_,_,_,_,_=>by omega
 | n+1,d+1,hnd,t,xs,L,x,y,J,b,hag,hx,C,gx,gy,h=>by
  simp only[Av3] at h;cases hu:P.underlying t with
  | none=>rw[hu] at h;cases h
  | some W=>
   rw[hu] at h;have D:=hag;unfold Eb at D;rw[hu] at D;have step: ∀(u:TypeId) (off:Nat) (r:Bool) (E I:Array Value),x= .agg E->y= .agg I->J=true->Av3 P n u (Ki (P.cellsOf u) off xs (Eb P u)) (Ki (P.cellsOf u) off L (Eb P u))=some r->
     ∃p q,(part u E off).run P w= .ok p w/\(part u I off).run P w= .ok q w/\(Op.equalIn d u p q).run P w= .ok r w:=by
    intro u off r E I ex X Y hr;subst ex;subst X;subst Y;simp only[if_true,Value.cells] at hx C;cases hau:Eb P u with
    | none=>
     rw[hau] at hr;exact(Ah6 (by rw[hau];simp) hr).elim
    | some Z=>
     rw[hau] at hr;obtain⟨p,hp,aa,ab⟩:=Ao2 (w:=w) hau hx (off:=off) (fun e he=>by subst e;rw[he] at hr;exact Ah6 (by rw[hau];simp) hr);obtain⟨q,hq,ac,ad⟩:=Ao2 (w:=w) hau C (off:=off) (fun e he=>by subst e;rw[he] at hr;exact Bj5 (by rw[hau];simp) hr);exact⟨p,q,hp,hq,Qn n d (by omega) u _ _ p q Z r hau aa ac ab ad hr⟩
   cases W<;>try (cases h;done)
   case bool=>
    simp at D;subst D;simp only[Ah5] at h;unfold Co2 at h;split at h<;>try (cases h;done)
    simp only[Bool.false_eq_true,if_false,Az,Rel] at hx C;obtain⟨_,_,hx,rfl,rfl⟩:=hx;obtain⟨_,_,C,rfl,rfl⟩:=C;simp only[List.cons.injEq,and_true] at hx C;subst hx;subst C;cases h;rw[run_equalIn_bool w d t _ _ hu];congr 1
   case int k=>
    simp at D;subst D;simp only[Ah5] at h;unfold Dq7 at h;split at h<;>try (cases h;done)
    split at h<;>try (cases h;done)
    rename_i hk
    subst hk;simp only[Bool.false_eq_true,if_false,Az,Rel] at hx C;obtain⟨_,_,hx,rfl,rfl⟩:=hx;obtain⟨_,_,C,rfl,rfl⟩:=C;simp only[List.cons.injEq,and_true] at hx C;subst hx;subst C;cases h;simp only[Op.equalIn,Sem.run_bind,run_underlying hu,Result.andThen_ok,if_true,Sem.run_pure];congr 1
   case string=>
    simp at D;subst D;simp only[Ah5] at h;unfold Dq8 at h;split at h<;>try (cases h;done)
    simp only[Bool.false_eq_true,if_false,Az,Rel] at hx C;obtain⟨_,_,hx,rfl,rfl⟩:=hx;obtain⟨_,_,C,rfl,rfl⟩:=C;simp only[List.cons.injEq,and_true] at hx C;subst hx;subst C;cases h;rw[run_equalIn_string (w:=w) d t _ _ hu];congr 1;rw[Bool.eq_iff_iff,Aw2,Aw2];simp
   case struct fs=>
    simp at D;subst D;obtain⟨E,rfl⟩:=gx rfl;obtain⟨I,rfl⟩:=gy rfl;have M:P.fieldsOf t=fs:=by simp [Program.fieldsOf,hu]
    simp only[Ah5] at h;cases hst:P.stoodInHeld t with
    | true=>rw[hst] at h;cases h
    | false=>
     rw[hst] at h;simp only[Gb6] at h;rw[run_equalIn_struct w d t E I (by rw[hu,M]) hst,M];generalize fs.toList=l at h;clear M hu hst
     induction l generalizing b with
     | nil=>simp only[Dq6] at h;cases h;simp [Op.eqFields]
     | cons f l ih=>
      simp only[Dq6] at h;split at h<;>try (cases h;done)
      rename_i hn
      obtain⟨p',O,h1,h2,rfl⟩:=By5 h;obtain⟨p,q,S,U,V⟩:=step f.type f.offset p' E I rfl rfl rfl h1;have:=ih O h2;simp only[Op.eqFields,if_pos hn,Sem.run_bind,S,U,V,Result.andThen_ok];cases p'
      ·simp
      ·simpa using this
   case array m e=>
    simp at D;subst D;obtain⟨E,rfl⟩:=gx rfl;obtain⟨I,rfl⟩:=gy rfl;simp only[Ah5] at h;cases hie:P.info? e with
    | none=>rw[hie] at h;cases h
    | some ie=>
     rw[run_equalIn_array w d E I hu hie];rw[hie] at h;simp only[Option.isSome_some,if_true] at h;generalize List.range m=l at h;clear hu
     induction l generalizing b with
     | nil=>simp only[Co1] at h;cases h;simp [Op.eqItems]
     | cons f l ih=>
      simp only[Co1] at h;obtain⟨p',O,h1,h2,rfl⟩:=By5 h;obtain⟨p,q,S,U,V⟩:=step e (f*P.cellsOf e) p' E I rfl rfl rfl h1;have:=ih O h2;simp only[Op.eqItems,Sem.run_bind,S,U,V,Result.andThen_ok];cases p'
      ·simp
      ·simpa using this
theorem Bw0 {op:BinOp} {t:TypeId} {x y:Operand} (h:(Ik x || Ik y)=true):eqGuard op t x y .nilIface .nilIface=pure ():=by
 unfold eqGuard;cases x<;>cases y<;>simp [Ik] at h<;>cases op<;>rfl
theorem Gc0 {b:Bool} {op:BinOp} {t:TypeId} {x y:Operand} {C D:Value} (E:Sim G N s a w) (I:Cz N o.dst=true) {t':TypeId} (he:o.op= .binOp op t x y t') (hx:a.eval x=C) (J:a.eval y=D)
  (L:eqGuard op t x y C D=pure ()) (hr:(Op.equal t C D).run P w= .ok b w) (h1: ∀k n,C≠ .int k n) (h2: ∀l,C≠ .string l) (h3: ∀k n,C≠ .float k n) (M: ∀k n m,C≠ .complex k n m)
  (h:Tl o.dst (Un op) (some b) K s):PV P o s a w K:=by
 obtain⟨n,b',hn,hb,O⟩:=Aw3 h;cases hb;have:=Ao1 (P:=P) hr hn h1 h2 h3 M;refine Bg3 E I (b:=if n then !b else b) ?_ O;simp [execOp,he,hx,J,L,this]
set_option maxHeartbeats 400000 in
theorem Gf9 (M:Sim G N s a w) (O:Cz N o.dst=true) {op:BinOp} {t t':TypeId} {x y:Operand} (he:o.op= .binOp op t x y t') {J L:DVal} (C:Rel w s.heap J (a.eval x)) (D:Rel w s.heap L (a.eval y))
  (h:Tl o.dst (Un op) (Zi (Ik x || Ik y) (P.underlying t) J L) K s):PV P o s a w K:=by
 obtain⟨n,b,hn,hb,hK⟩:=Aw3 h;rw[hb] at h;unfold Zi at hb;have key: ∀E I,a.eval x=E->a.eval y=I->eqGuard op t x y E I=pure ()->(∀d,(Op.equalIn (d+1) t E I).run P w= .ok b w)->(∀k n,E≠ .int k n)->(∀l,E≠ .string l)->(∀k n,E≠ .float k n)->(∀k n m,E≠ .complex k n m)->PV P o s a w K:=
  fun E I e1 S U V W X Y Z=>Gc0 M O he e1 S U (V 9999) W X Y Z h
 split at hb<;>(try (cases hb;done))<;>simp only[Rel] at C D
 case h_1 hu=>exact key _ _ C D (Cx (by simp) (by simp)) (by cases hb;exact fun d=>run_equalIn_bool w d t _ _ hu) (by simp) (by simp) (by simp) (by simp)
 case h_2 hu=>exact key _ _ C D (Cx (by simp) (by simp)) (by cases hb;intro d;simp [Op.equalIn,run_underlying hu]) (by simp) (by simp) (by simp) (by simp)
 case h_3 hu=>exact key _ _ C D (Cx (by simp) (by simp)) (by cases hb;intro d;simp [Op.equalIn,run_underlying hu]) (by simp) (by simp) (by simp) (by simp)
 case h_4 hu=>
  obtain⟨_,_,_,D,_⟩:=D;exact key _ _ C D (Cx (by simp) (by simp)) (by cases hb;intro d;simp [Op.equalIn,run_underlying hu]) (by simp) (by simp) (by simp) (by simp)
 case h_5 hu=>exact key _ _ C D (Cx (by simp) (by simp)) (by cases hb;intro d;simp [Op.equalIn,run_underlying hu]) (by simp) (by simp) (by simp) (by simp)
 case h_6 hu=>
  obtain⟨_,_,_,C,_⟩:=C;exact key _ _ C D (Cx (by simp) (by simp)) (by cases hb;intro d;simp [Op.equalIn,run_underlying hu]) (by simp) (by simp) (by simp) (by simp)
 case h_7 hu=>
  obtain⟨_,D,_⟩:=D;exact key _ _ C D (Cx (by simp) (by simp)) (by cases hb;intro d;simp [Op.equalIn,run_underlying hu]) (by simp) (by simp) (by simp) (by simp)
 case h_8 hu=>
  obtain⟨_,C,_⟩:=C;exact key _ _ C D (Cx (by simp) (by simp)) (by cases hb;intro d;simp [Op.equalIn,run_underlying hu]) (by simp) (by simp) (by simp) (by simp)
 case h_9 hu=>
  split at hb<;>(try (cases hb;done))
  rename_i hc
  exact key _ _ C D (Bw0 hc) (by cases hb;intro d;simp [Op.equalIn,run_underlying hu]) (by simp) (by simp) (by simp) (by simp)
 case h_10 hu=>exact key _ _ C D (Cx (by simp) (by simp)) (by cases hb;intro d;simp [Op.equalIn,run_underlying hu]) (by simp) (by simp) (by simp) (by simp)
 case h_11 hu=>
  obtain⟨_,_,C,_⟩:=C;exact key _ _ C D (Cx (by simp) (by simp)) (by cases hb;intro d;simp [Op.equalIn,run_underlying hu]) (by simp) (by simp) (by simp) (by simp)
 case h_12 hu=>
  obtain⟨_,_,D,_⟩:=D;exact key _ _ C D (Cx (by simp) (by simp)) (by cases hb;intro d;simp [Op.equalIn,run_underlying hu]) (by simp) (by simp) (by simp) (by simp)
 case h_13 hu=>exact key _ _ C D (Cx (by simp) (by simp)) (by cases hb;intro d;simp [Op.equalIn,run_underlying hu]) (by simp) (by simp) (by simp) (by simp)
 case h_14 hu=>
  obtain⟨_,_,C,_⟩:=C;exact key _ _ C D (Cx (by simp) (by simp)) (by cases hb;intro d;simp [Op.equalIn,run_underlying hu]) (by simp) (by simp) (by simp) (by simp)
 case h_15 hu=>
  obtain⟨_,_,D,_⟩:=D;exact key _ _ C D (Cx (by simp) (by simp)) (by cases hb;intro d;simp [Op.equalIn,run_underlying hu]) (by simp) (by simp) (by simp) (by simp)
theorem Ds0 (E:Sim G N s a w) (I:Cz N o.dst=true) {op:BinOp} {t t':TypeId} {x y:Operand} (hx:Cc N x=true) (M:Cc N y=true) (he:o.op= .binOp op t x y t')
  (h:Rx P t (Ik x || Ik y) op o.dst (dev G s.env x) (dev G s.env y) K s):PV P o s a w K:=by
 have C:=Bs E hx;have D:=Bs E M;generalize dev G s.env x=dx at h C;generalize dev G s.env y=dy at h D;unfold Rx at h;split at h
 ·simp only[Rel] at C D;exact Eo9 E I he C D h
 ·simp only[Rel] at C D;exact Ep0 E I he C D h
 ·rename_i xs ys
  obtain⟨hag,hge,h⟩:=h;simp only[Rel] at C D;obtain⟨J,O,S⟩:=C;obtain⟨L,U,V⟩:=D;obtain⟨n,b,hn,hb,W⟩:=Aw3 h;have X:=Qn (w:=w) (H:=s.heap) 6 10000 (by omega) t _ _ (.agg J) (.agg L) true b hag (by simpa [Value.cells] using S) (by simpa [Value.cells] using V) (fun _=>⟨_,rfl⟩) (fun _=>⟨_,rfl⟩) hb;have Y:(eqGuard op t x y (.agg J) (.agg L)).run P w= .ok () w:=by
   unfold eqGuard;cases op<;>simp [program,Sem.run,hge]
  have Z:=Ao1 (P:=P) (w:=w) (t:=t) (x:= .agg J) (y:= .agg L) (b:=b) X hn (by simp) (by simp) (by simp) (by simp);refine Bg3 E I (b:=if n then !b else b) ?_ W;simp [execOp,he,O,U,Y,Z]
 ·exact Gf9 E I he C D h
theorem Aw4 {t e:TypeId} (D:P.underlying t=some (.slice e)) (d:Nat) {C:Option Addr} {n cap:Nat}:(Op.equalIn (d+1) t (.slice C n cap) (.slice none 0 0)).run P w= .ok C.isNone w:=by
 cases C<;>simp [Op.equalIn,run_underlying D]
theorem Gg0 (C:Sim G N s a w) (D:Cz N o.dst=true) {op:BinOp} {t t':TypeId} {x y:Operand} (hx:Cc N x=true) (I:Cc N y=true) (he:o.op= .binOp op t x y t')
  (h:Bb2 P t (Ik x || Ik y) op o.dst (Kj y) (dev G s.env x) (dev G s.env y) K s):PV P o s a w K:=by
 cases hn:Kj y with
 | false=>
  rw[hn,Uz] at h;exact Ds0 C D hx I he h
 | true=>
  rw[hn] at h;by_cases hv: ∃cs n,dev G s.env x= .vslice cs n
  ·obtain⟨cs,n,hv⟩:=hv;have E:=Bs C hx;rw[hv] at h E;simp only[Bb2] at h;obtain⟨ht,h⟩:=h;simp only[Rel] at E;obtain⟨J,cap,L,hle,hcs⟩:=E;have M:a.eval y= .slice none 0 0:=by
    unfold Kj at hn;split at hn<;>first | rfl | cases hn
   cases hu:P.underlying t with
   | none=>rw[hu] at ht;cases ht
   | some d=>
    rw[hu] at ht;cases d<;>first | (cases ht;done) | skip
    refine Gc0 C D he L M (b:=J.isNone) (Cx (by simp) (by simp)) ?_ (by simp) (by simp) (by simp) (by simp) (h J.isNone ?_)
    ·exact Aw4 hu 9999
    ·intro hc;rcases hcs with hcs | ⟨b,o',xs,rfl,_⟩
     ·exact(hc hcs).elim
     ·rfl
  ·refine Ds0 C D hx I he ?_;revert h hv;generalize dev G s.env x=dx;intro h hv;cases dx<;>first | exact h | exact(hv ⟨_,_,rfl⟩).elim
end
end Go.Dl
-- Dq
namespace Go.Dl
open Go
section
variable {P:Program} {G:Nat->DVal} {N:Fr}
variable {o:Oper} {s:DS} {a:Act} {w:World} {K:DK} {Qx:Exit->Act->World->Prop}
theorem Rn (n:Nat) (C:List DVal):(Cd n C).length=n*C.length:=by
 unfold Cd
 induction n with
 | zero=>simp
 | succ n ih=>simp [List.replicate_succ,ih,Nat.succ_mul];omega
theorem Ep1 (n:Nat) (C:List DVal) (i:Nat) (hi:i<n*C.length):(Cd n C)[i]? =C[i%C.length]? :=by
 induction n generalizing i with
 | zero=>simp at hi
 | succ n ih=>
  have hr:Cd (n+1) C=C++Cd n C:=by simp [Cd,List.replicate_succ]
  rw[hr];by_cases h:i<C.length
  ·rw[List.getElem?_append_left h,Nat.mod_eq_of_lt h]
  ·have e:(n+1)*C.length=n*C.length+C.length:=Nat.succ_mul _ _;rw[List.getElem?_append_right (by omega),ih (i-C.length) (by omega)];congr 1;exact(Nat.mod_eq_sub_mod (by omega)).symm
theorem Ae9 {H:Ac} {C:List DVal} {vs:Array Value} (h:Az w H C vs.toList) (n m:Nat) (hm:m=n*C.length):
  Az w H (Cd n C) ((Array.range m).map (vs[· %vs.size]!)).toList:=by
 have hl:=h.length;refine Az.mk (by simp [Rn,hm]) fun i d x h1 h2=> ?_;have hi:i<m:=by
  rcases Nat.lt_or_ge i m with h' | h'
  ·exact h'
  ·rw[List.getElem?_eq_none (by rw[Rn];omega)] at h1;cases h1
 have hz:0<C.length:=by
  rcases Nat.eq_zero_or_pos C.length with e | e
  ·rw[e] at hm;simp at hm;omega
  ·exact e
 rw[Ep1 n C i (by omega)] at h1;obtain⟨y,D,hr⟩:=h.get h1;have E:vs.size=C.length:=by rw[hl];simp
 have:x=y:=by
  have h3:((Array.range m).map (vs[· %vs.size]!)).toList[i]? =some (vs[i%vs.size]!):=by simp [hi]
  rw[h3] at h2;cases h2;have I:i%vs.size<vs.size:=Nat.mod_lt _ (by omega);have:vs.toList[i%C.length]? =some (vs[i%vs.size]!):=by
   rw[<-E];simp [I]
  rw[this] at D;cases D;rfl
 subst this;exact hr
theorem Dy9 (vs:List Value): ∀(j off:Nat) (c:Array Value),off+j+vs.length<=c.size->
  ((vs.zipIdx j).foldl (fun cs (p:Value×Nat)=>cs.setIfInBounds (off+p.2) p.1) c).toList=c.toList.take (off+j)++vs++c.toList.drop (off+j+vs.length):=by
 induction vs with
 | nil=>intro j off c _;simp
 | cons v vs ih=>
  intro j off c h;simp only[jA] at h;simp only[List.zipIdx_cons,List.foldl_cons];rw[ih (j+1) off _ (by simp;omega)];have C:off+j<c.toList.length:=by simp;omega
  rw[Array.toList_setIfInBounds,jA,<-Nat.add_assoc];have e1:(c.toList.set (off+j) v).take (off+j+1)=c.toList.take (off+j)++ [v]:=by
   rw[List.take_set,List.take_succ_eq_append_getElem C,List.set_append_right _ _ (by simp;omega)];have D:off+j-min (off+j) c.size=0:=by omega
   simp [D]
  have E:(c.toList.set (off+j) v).drop (off+j+1+vs.length)=c.toList.drop (off+j+(vs.length+1)):=by
   rw[List.drop_set,if_pos (by omega)];congr 1;omega
  rw[e1,E];simp
theorem Zz {H:Ac} (C:Nat->Option (Nat×Nat)): ∀(parts:List (Nat×DVal)) (vs:List (Nat×Value)) (cs:List DVal) (c:Array Value) (out:List DVal),
  Az w H cs c.toList->parts.length=vs.length->(∀(j:Nat) (i:Nat) (d:DVal),parts[j]? =some (i,d)-> ∃v,vs[j]? =some (i,v)/\Az w H d.cells v.cells.toList)->
  Yx C cs parts=some out-> ∃c',Instr.fill C c vs=some c'/\Az w H out c'.toList
 | [],[],cs,c,out,hc,_,_,h=>by
  simp only[Yx] at h;cases h;exact⟨c,rfl,hc⟩
 | [],_::_,_,_,_,_,hl,_,_=>by simp at hl
 | _::_,[],_,_,_,_,hl,_,_=>by simp at hl
 | (i,d)::parts,(i',v)::vs,cs,c,out,hc,hl,hp,h=>by
  obtain⟨v',D,hr⟩:=hp 0 i d rfl;simp at D;obtain⟨rfl,rfl⟩:=D;simp only[Yx] at h;cases hpl:C i' with
  | none=>rw[hpl] at h;cases h
  | some os=>
   obtain⟨off,size⟩:=os;rw[hpl] at h;simp only at h;split at h
   ·rename_i hle
    obtain⟨J,hle⟩:=hle;have E:=hr.length;have I:=hc.length;have L:v.cells.size=d.cells.length:=by rw[E];simp
    have hcs:cs.length=c.size:=by rw[I];simp
    have hf:(v.cells.zipIdx.foldl (fun cs (p:Value×Nat)=>cs.setIfInBounds (off+p.2) p.1) c).toList=c.toList.take off++v.cells.toList++c.toList.drop (off+v.cells.toList.length):=by
     have:=Dy9 v.cells.toList 0 off c (by simp;omega);rw[<-Array.foldl_toList,Array.toList_zipIdx];simpa using this
    obtain⟨c',h1,h2⟩:=Zz C parts vs (cs.take off++d.cells++cs.drop (off+d.cells.length)) (v.cells.zipIdx.foldl (fun cs (p:Value×Nat)=>cs.setIfInBounds (off+p.2) p.1) c) out
     (by rw[hf,<-E];exact((hc.take off).append hr).append (hc.drop _)) (by simpa using hl) (fun j i d hj=>hp (j+1) i d (by simpa using hj)) h
    refine⟨c', ?_,h2⟩;simp only[Instr.fill,hpl];rw[if_neg (by simp only[Bool.or_eq_true,decide_eq_true_eq,not_or];omega)];exact h1
   ·cases h
theorem Xn {C:Nat->Option (Nat×Nat)}: ∀ {parts:List (Nat×DVal)} {cs out:List DVal},Yx C cs parts=some out->out.length=cs.length
 | [],cs,out,h=>by simp only[Yx] at h;cases h;rfl
 | (i,d)::parts,cs,out,h=>by
  simp only[Yx] at h;cases hpl:C i with
  | none=>rw[hpl] at h;cases h
  | some os=>
   rw[hpl] at h;simp only at h;split at h
   ·rename_i hle
    rw[Xn h];simp;omega
   ·cases h
theorem Aw5 {s:DS} (D:Sim G N s a w): ∀(C:List (Nat×Operand)),(C.all fun p=>Cc N p.2)=true->
  (Ni G s.env C).length=(C.map fun p=>(p.1,a.eval p.2)).length/\
  ∀(j i:Nat) (d:DVal),(Ni G s.env C)[j]? =some (i,d)-> ∃v,(C.map fun p=>(p.1,a.eval p.2))[j]? =some (i,v)/\Az w s.heap d.cells v.cells.toList
 | [],_=>⟨rfl,by simp [Ni]⟩
 | (i,x)::C,h=>by
  simp only[List.all_cons,jF] at h;obtain⟨h1,h2⟩:=Aw5 D C h.2;refine⟨by simpa [Ni] using h1,fun j E d hj=> ?_⟩;cases j with
  | zero=>
   simp [Ni] at hj;obtain⟨rfl,rfl⟩:=hj;exact⟨_,rfl,Mu (Bs D h.1)⟩
  | succ j=>simpa using h2 j E d (by simpa [Ni] using hj)
theorem Cp0 {t:TypeId} {z:DVal} (h:Bn P t=some z): ∃v,(∀w,(zeroValue t).run P w= .ok v w)/\(∀(w:World) (H:Ac),Az w H z.cells v.cells.toList):=by
 unfold Bn at h;cases hi:P.info? t with
 | none=>simp [hi] at h
 | some i=>
  cases hz:i.zero with
  | none=>simp [hi,hz] at h
  | some v=>
   simp [hi,hz] at h;subst h;exact⟨v,fun w=>by simp [zeroValue,Sm hi,hz],fun w H=>Mu (Hd w H v)⟩
theorem Bf2 {fs:List Field} (h:fs.all (fun f=>(P.info? f.type).isSome)=true):
  (fs.mapM (fun f=>(do pure (f.offset,<-sizeOf f.type):Sem (Nat×Nat)))).run P w= .ok (fs.map fun f=>(f.offset,P.cellsOf f.type)) w:=by
 induction fs with
 | nil=>simp
 | cons f fs ih=>
  simp only[List.all_cons,jF] at h;simp only[List.mapM_cons,Sem.run_bind,Dk h.1,Result.andThen_ok,Sem.run_pure,ih h.2,jN]
theorem Fl6 (E:Sim G N s a w) (O:Cz N o.dst=true) {t:TypeId} {C:Array (Nat×Operand)} (hp:(C.toList.all fun p=>Cc N p.2)=true) (he:o.op= .build t C)
  (h:Ce6 P o.dst (Ev P t) (P.underlying t) (Bn P t) (Ni G s.env C.toList) K s):o.wp P a w (Io G N K s w) Qx:=by
 obtain⟨hl,hpr⟩:=Aw5 E C.toList hp;cases hb:Ev P t with
 | false=>rw[hb] at h;exact h.elim
 | true=>
  rw[hb] at h;cases hz:Bn P t with
  | none=>rw[hz] at h;cases hu:P.underlying t with
   | none=>rw[hu] at h;exact h.elim
   | some I=>rw[hu] at h;cases I<;>exact h.elim
  | some z=>
   obtain⟨v,hv,S⟩:=Cp0 hz;rw[hz] at h;have U:(C.map fun p=>(p.1,a.eval p.2)).toList=C.toList.map fun p=>(p.1,a.eval p.2):=by simp
   cases hu:P.underlying t with
   | none=>rw[hu] at h;exact h.elim
   | some I=>
    rw[hu] at h;unfold Ev at hb;rw[hu] at hb;cases I<;>try exact h.elim
    case struct fs=>
     obtain⟨d,D,J⟩:=Kt h;simp only[Option.map_eq_some_iff] at D;obtain⟨out,L,rfl⟩:=D;obtain⟨c',h1,h2⟩:=Zz _ _ _ _ _ _ (S w s.heap) hl hpr L;refine Ld E O (x:= .agg c') ?_ (by simp only[Rel];exact⟨c',rfl,h2⟩) J;have hm:(fs.mapM (fun f=>(do pure (f.offset,<-sizeOf f.type):Sem (Nat×Nat)))).run P w= .ok (fs.map fun f=>(f.offset,P.cellsOf f.type)) w:=by
      rw[Array.mapM_eq_mapM_toList];simp only[Sem.run_map,Bf2 (w:=w) hb,Result.andThen_ok];congr 1;apply Array.ext';simp
     have M:(fun i=>(fs.map fun f=>(f.offset,P.cellsOf f.type))[i]?)=Dc8 P fs:=by
      funext i;simp [Dc8]
     simp only[execOp,he,Instr.build,Sem.run_bind,hv,run_underlying hu,Result.andThen_ok,hm,M,U,h1];simp
    case array n e=>
     obtain⟨d,D,J⟩:=Kt h;simp only[Option.map_eq_some_iff] at D;obtain⟨out,L,rfl⟩:=D;obtain⟨c',h1,h2⟩:=Zz _ _ _ _ _ _ (S w s.heap) hl hpr L;refine Ld E O (x:= .agg c') ?_ (by simp only[Rel];exact⟨c',rfl,h2⟩) J;have M:(fun i=>some (i*P.cellsOf e,P.cellsOf e))=Bi2 (P.cellsOf e):=rfl;simp only[execOp,he,Instr.build,Sem.run_bind,hv,run_underlying hu,Result.andThen_ok,Dk hb,M,U,h1];simp
theorem Cf6 (E:Sim G N s a w) (I:Cz N o.dst=true) {t:TypeId} {n:Nat} {C:Array (Nat×Operand)} (hp:(C.toList.all fun p=>Cc N p.2)=true) (he:o.op= .buildSlice t n C)
  (h:Uw P n o.dst (P.underlying t) (Ni G s.env C.toList) K s):o.wp P a w (Io G N K s w) Qx:=by
 obtain⟨hl,hpr⟩:=Aw5 E C.toList hp;have J:(C.map fun p=>(p.1,a.eval p.2)).toList=C.toList.map fun p=>(p.1,a.eval p.2):=by simp
 cases hu:P.underlying t with
 | none=>rw[hu] at h;exact h.elim
 | some O=>
  rw[hu] at h;cases O<;>try exact h.elim
  rename_i e
  simp only[Uw] at h;cases hz:Bn P e with
  | none=>rw[hz] at h;exact h.elim
  | some z=>
   obtain⟨v,hv,L⟩:=Cp0 hz;rw[hz] at h;obtain⟨hle,D,h⟩:=h;cases hf:Yx (Bi2 (P.cellsOf e)) (Cd n z.cells) (Ni G s.env C.toList) with
   | none=>rw[hf] at h;exact h.elim
   | some out=>
    rw[hf] at h;have hie:(P.info? e).isSome=true:=by
     unfold Bn at hz;cases hi:P.info? e with
     | none=>simp [hi] at hz
     | some i=>rfl
    have hb:=Ae9 (L w s.heap) n (n*P.cellsOf e) (by rw[D]);have U:v.cells.size=P.cellsOf e:=by rw[<-D,(L w s.heap).length];simp
    have M:(fun i=>some (i*P.cellsOf e,P.cellsOf e))=Bi2 (P.cellsOf e):=rfl;by_cases h0:n*P.cellsOf e=0
    ·have S:Az w s.heap (Cd n z.cells) ((Array.range (n*P.cellsOf e)).map ((#[]:Array Value)[· %(#[]:Array Value).size]!)).toList:=by
      rw[h0] at hb⊢;simpa using hb
     obtain⟨c',h1,h2⟩:=Zz _ _ _ _ _ _ S hl hpr hf;refine Ao0 E I (c:=c') (n:=w.drawn) (Nat.le_refl n) (Nat.le_refl n) (by rw[<-Array.length_toList,<-h2.length,Xn hf,Rn,D];omega) ?_ h2 (List.prefix_refl _) h;simp only[execOp,he,Instr.buildSlice,Sem.run_bind,run_underlying hu,Result.andThen_ok,Dk hie];rw[if_neg (by simp;omega)];simp only[h0] at h1;simp only[M,J,h0,if_true,Sem.run_bind,Sem.run_pure,Result.andThen_ok,h1];simp [newRow];rfl
    ·obtain⟨c',h1,h2⟩:=Zz _ _ _ _ _ _ hb hl hpr hf;refine Ao0 E I (c:=c') (n:=w.drawn) (Nat.le_refl n) (Nat.le_refl n) (by rw[<-Array.length_toList,<-h2.length,Xn hf,Rn,D];omega) ?_ h2 (List.prefix_refl _) h;simp only[execOp,he,Instr.buildSlice,Sem.run_bind,run_underlying hu,Result.andThen_ok,Dk hie];rw[if_neg (by simp;omega)];simp only[M,J,h0,if_false];simp [hv,h1,newRow];rfl
end
section
variable {P:Program} {G:Nat->DVal} {N:Fr}
variable {o:Oper} {s:DS} {a:Act} {w:World} {K:DK} {Qx:Exit->Act->World->Prop}
theorem Cp1 (D:Sim G N s a w) (I:Cz N o.dst=true) {t:TypeId} {x:Operand} {f:Nat} (hx:Cc N x=true) (he:o.op= .fieldAddr t x f)
  (h:Tn P f (dev G s.env x) o.dst (P.underlying t) K s):PV P o s a w K:=by
 have r:=Bs D hx;cases hu:P.underlying t with
 | none=>rw[hu] at h;exact h.elim
 | some M=>
  rw[hu] at h;cases M<;>try exact h.elim
  rename_i fs
  simp only[Tn] at h;cases hf:fs[f]? with
  | none=>rw[hf] at h;exact h.elim
  | some E=>
   rw[hf] at h;obtain⟨J,h⟩:=h;obtain⟨d,C,L⟩:=Kt h;have hi:(P.info? E.type).isSome=true:=by
    cases hi:P.info? E.type with
    | none=>simp [Program.cellsOf,hi] at J
    | some i=>rfl
   have key: ∀b off,a.eval x= .pointer (some ⟨b,off,none⟩)->(execOp a.eval o).run P w= .ok (.value (.pointer (some ⟨b,off+E.offset,none⟩))) w:=by
    intro b off hp;simp [execOp,he,hp,Instr.fieldAt,run_underlying hu,hf,Instr.sureAddr,fieldPlace,Dk hi,Nat.pos_iff_ne_zero.1 J,Mt]
   cases hv:dev G s.env x<;>rw[hv] at C r<;>simp only[Bg0] at C<;>try (cases C;done)
   case vptr cs off=>
    cases C;simp only[Rel] at r;obtain⟨b,o',xs,hp,hc,hl⟩:=r;refine pvI D I (key _ _ hp) ?_ L;simp only[Rel];exact⟨b,o',xs,by rw[Nat.add_assoc],hc,hl⟩
   case optr r0 off=>
    cases C;simp only[Rel] at r;exact pvI D I (key _ _ r) (by simp [Rel]) L
theorem Ds1 {size:Nat} {C:Option Bool} {t:TypeId} (D:Eb P t=C) (E:P.cellsOf t=size) {cs:List DVal} {xs:Array Value} {H:Ac} (hr:Az w H cs xs.toList) {off:Nat} {dst:Option Nat}
  (h:Co3 size cs off dst C K s): ∃d x,(part t xs off).run P w= .ok x w/\Rel w H d x/\Cb dst d K s:=by
 subst E;cases C with
 | none=>exact h.elim
 | some C=>
  cases C with
  | true=>
   refine⟨_, .agg (xs.extract off (off+P.cellsOf t)),by simp [part,Oi D,Dk (Va D)], ?_,h⟩;have:(xs.extract off (off+P.cellsOf t)).toList=(xs.toList.drop off).take (P.cellsOf t):=by simp [Array.toList_extract,List.extract]
   simp only[Rel];exact⟨_,rfl,by rw[this];exact(hr.drop off).take _⟩
  | false=>
   obtain⟨d,hd,I⟩:=Kt h;obtain⟨x,hx,J⟩:=hr.get hd;have:xs[off]? =some x:=by simpa using hx
   exact⟨d,x,by simp [part,Oi D,this],J,I⟩
theorem Fl7 (C:Sim G N s a w) (D:Cz N o.dst=true) {t:TypeId} {x:Operand} {f:Nat} (hx:Cc N x=true) (he:o.op= .field t x f)
  (h:Bi4 P f o.dst (P.underlying t) (dev G s.env x) K s):PV P o s a w K:=by
 have r:=Bs C hx;cases hu:P.underlying t with
 | none=>rw[hu] at h;exact h.elim
 | some E=>
  rw[hu] at h;cases E<;>try (cases dev G s.env x<;>exact h.elim)
  rename_i fs
  cases hv:dev G s.env x<;>rw[hv] at h r<;>try exact h.elim
  rename_i cs
  simp only[Bi4] at h;simp only[Rel] at r;obtain⟨xs,hp,hl⟩:=r;cases hf:fs[f]? with
  | none=>rw[hf] at h;exact h.elim
  | some M=>
   rw[hf] at h;obtain⟨d,y,I,J,L⟩:=Ds1 (w:=w) rfl rfl hl h;refine pvI C D ?_ J L;simp [execOp,he,hp,Instr.field,run_underlying hu,hf,asAgg,I]
theorem Cp2 (E:Sim G N s a w) (L:Cz N o.dst=true) {t:TypeId} {x i:Operand} (hx:Cc N x=true) (hi:Cc N i=true) (he:o.op= .indexAddr t x i)
  (h:To P o.dst (P.underlying t) (dev G s.env x) (dev G s.env i) K s):PV P o s a w K:=by
 have C:=Bs E hx;have D:=Bs E hi;generalize hu:P.underlying t=u at h;generalize dev G s.env x=dx at h C;generalize dev G s.env i=di at h D;unfold To at h;split at h
 ·rename_i e cs len k n
  obtain⟨hie,h0,J,hle,I⟩:=h;simp only[Rel] at C D;obtain⟨U,cap,hp,O,hc⟩:=C;rcases hc with rfl | ⟨b,o',xs,rfl,hc,hl⟩
  ·simp at hle
  ·refine pvI E L (x:= .pointer (some ⟨b,o'+n.toNat*P.cellsOf e,none⟩)) ?_ (by simp only[Rel];exact⟨b,o',xs,rfl,hc,hl⟩) I;simp [execOp,he,hp,D,Instr.indexAt,asIntOf,run_underlying hu,Dk hie,h0,J,Mt]
 ·rename_i e _ r0 off len lo k n
  obtain⟨hie,h0,J,I⟩:=h;simp only[Rel] at C D;obtain⟨o',cap,hp,hlo,O,S,_⟩:=C;have:o'=off:=by rcases S with e | e<;>omega
  subst this;refine pvI E L (x:= .pointer (some ⟨r0,o'+n.toNat*P.cellsOf e,none⟩)) ?_ (by simp [Rel]) I;simp [execOp,he,hp,D,Instr.indexAt,asIntOf,run_underlying hu,Dk hie,h0,J,Mt]
 ·rename_i m e k n
  obtain⟨hie,h0,J,h⟩:=h;simp only[Rel] at D;obtain⟨d,M,I⟩:=Kt h;have key: ∀b off,a.eval x= .pointer (some ⟨b,off,none⟩)->(execOp a.eval o).run P w= .ok (.value (.pointer (some ⟨b,off+n.toNat*P.cellsOf e,none⟩))) w:=by
   intro b off hp;simp [execOp,he,hp,D,Instr.indexAt,asIntOf,run_underlying hu,Dk hie,Instr.sureAddr,h0,J,Mt]
  cases dx<;>simp only[Bg0] at M<;>try (cases M;done)
  case vptr cs off=>
   cases M;simp only[Rel] at C;obtain⟨b,o',xs,hp,hc,hl⟩:=C;refine pvI E L (key _ _ hp) ?_ I;simp only[Rel];exact⟨b,o',xs,by rw[Nat.add_assoc],hc,hl⟩
  case optr r0 off=>
   cases M;simp only[Rel] at C;exact pvI E L (key _ _ C) (by simp [Rel]) I
 ·exact h.elim
theorem Fl8 (E:Sim G N s a w) (L:Cz N o.dst=true) {t:TypeId} {x i:Operand} (hx:Cc N x=true) (hi:Cc N i=true) (he:o.op= .index t x i)
  (h:Bi5 P o.dst (P.underlying t) (dev G s.env x) (dev G s.env i) K s):PV P o s a w K:=by
 have C:=Bs E hx;have D:=Bs E hi;generalize hu:P.underlying t=u at h;generalize dev G s.env x=dx at h C;generalize dev G s.env i=di at h D;unfold Bi5 at h;split at h
 ·rename_i m e cs k n
  obtain⟨h0,I,h⟩:=h;simp only[Rel] at C D;obtain⟨xs,hp,hl⟩:=C;have hie:(P.info? e).isSome=true:=by
   cases hag:Eb P e with
   | none=>rw[hag] at h;exact h.elim
   | some b=>exact Va hag
  obtain⟨d,y,O,S,J⟩:=Ds1 (w:=w) rfl rfl hl h;refine pvI E L ?_ S J;simp [execOp,he,hp,D,Instr.index,asIntOf,run_underlying hu,h0,I,Dk hie,O]
 ·rename_i l k n
  obtain⟨h0,h⟩:=h;obtain⟨d,M,J⟩:=Kt h;simp only[Option.map_eq_some_iff] at M;obtain⟨c,hc,rfl⟩:=M;simp only[Rel] at C D;refine pvI E L (x:= .int .u8 c.toNat) ?_ (by simp [Rel]) J;have hb:(ByteArray.mk ⟨l⟩)[n.toNat]? =some c:=by
   have I:n.toNat<l.length:=by
    rcases Nat.lt_or_ge n.toNat l.length with h' | h'
    ·exact h'
    ·rw[List.getElem?_eq_none h'] at hc;cases hc
   rw[List.getElem?_eq_getElem I] at hc;cases hc;have:n.toNat<(ByteArray.mk ⟨l⟩).size:=I;rw[getElem?_pos (ByteArray.mk ⟨l⟩) n.toNat this];rfl
  simp [execOp,he,C,D,Instr.index,asIntOf,run_underlying hu,h0,hb]
 ·exact h.elim
theorem Oj {t:TypeId} {z:DVal} (h:Bn P t=some z): ∃i v,P.info? t=some i/\i.zero=some v/\z=Fj v:=by
 unfold Bn at h;cases hi:P.info? t with
 | none=>simp [hi] at h
 | some i=>
  cases hz:i.zero with
  | none=>simp [hi,hz] at h
  | some v=>
   simp [hi,hz] at h;exact⟨i,v,rfl,hz,h.symm⟩
theorem Cp3 (D:Sim G N s a w) (J:Cz N o.dst=true) {t:TypeId} {l c:Operand} (hl:Cc N l=true) (L:Cc N c=true) (he:o.op= .makeSlice t l c)
  (h:Xi P o.dst (P.underlying t) (dev G s.env l) (dev G s.env c) K s):o.wp P a w (Io G N K s w) Qx:=by
 have E:=Bs D hl;have I:=Bs D L;generalize hu:P.underlying t=u at h;generalize dev G s.env l=dl at h E;generalize dev G s.env c=dc at h I;unfold Xi at h;split at h
 ·rename_i e k n k' m
  simp only[Rel] at E I;cases hz:Bn P e with
  | none=>rw[hz] at h;exact h.elim
  | some z=>
   rw[hz] at h;obtain⟨h0,hle,hb,hm,M,W,h⟩:=h;obtain⟨C,v,hie,O,rfl⟩:=Oj hz;have S:P.bytesOf e=C.bytes:=by simp [Program.bytesOf,hie]
   have hcs:P.cellsOf e=C.size:=by simp [Program.cellsOf,hie]
   rw[S] at hb;have U:Az w s.heap (Fj v).cells v.cells.toList:=Mu (Hd w s.heap v);have hr:=Ae9 U m.toNat (m.toNat*C.size) (by rw[M,hcs]);have V:=run_make (P:=P) w t e C v hu hie O k k' n m h0 hle (by rw[Int.mul_comm];omega) (by omega);exact Ao0 D J (n:=w.drawn) (Nat.le_refl _) (by omega) (by simp [hcs]) (by simp [execOp,he,E,I,V];rfl) hr (List.prefix_refl _) h
 ·exact h.elim
theorem Bj6 (C:Sim G N s a w) {x:Option Operand} (hx:(match x with | some x=>Cc N x | none=>true)=true):
  (x=none/\Ry G s.env x=none)\/ ∃y,x=some y/\Ry G s.env x=some (dev G s.env y)/\Rel w s.heap (dev G s.env y) (a.eval y):=by
 cases x with
 | none=>exact .inl ⟨rfl,rfl⟩
 | some y=>exact .inr ⟨y,rfl,rfl,Bs C hx⟩
theorem Ga {k:IntKind} {n:Int} {y:Nat} {c:BoundsCode} (h0:0<=n) (h1:n<=y):(Instr.sliceBound (.int k n) y c).run P w= .ok n.toNat w:=by
 simp [Instr.sliceBound,asIntOf,h0,h1]
theorem Ao3 (C:Sim G N s a w) {x:Option Operand} (hx:(match x with | some x=>Cc N x | none=>true)=true) {n:Int} (h:dLo (Ry G s.env x)=some n):
  (x=none/\n=0)\/ ∃y k,x=some y/\a.eval y= .int k n:=by
 rcases Bj6 C hx with⟨rfl,e⟩ | ⟨y,rfl,e,r⟩
 ·rw[e] at h;simp [dLo] at h;exact .inl ⟨rfl,h.symm⟩
 ·rw[e] at h
  cases hd:dev G s.env y<;>rw[hd] at h r<;>simp [dLo] at h
  subst h
  simp only[Rel] at r
  exact .inr ⟨y,_,rfl,r⟩
theorem Ep2 (C:Sim G N s a w) {x:Option Operand} (hx:(match x with | some x=>Cc N x | none=>true)=true) {l:Nat} {n:Int} (h:dHi l (Ry G s.env x)=some n):
  (x=none/\n=l)\/ ∃y k,x=some y/\a.eval y= .int k n:=by
 rcases Bj6 C hx with⟨rfl,e⟩ | ⟨y,rfl,e,r⟩
 ·rw[e] at h;simp [dHi] at h;exact .inl ⟨rfl,h.symm⟩
 ·rw[e] at h
  cases hd:dev G s.env y<;>rw[hd] at h r<;>simp [dHi] at h
  subst h
  simp only[Rel] at r
  exact .inr ⟨y,_,rfl,r⟩
theorem Ok (C:Sim G N s a w) {lo hi:Option Operand} (I:(match lo with | some x=>Cc N x | none=>true)=true) (J:(match hi with | some x=>Cc N x | none=>true)=true)
  {b:Bool} {len cap:Nat} {l h:Int} (L:dLo (Ry G s.env lo)=some l) (M:dHi len (Ry G s.env hi)=some h) (h0:0<=l) (h1:l<=h) (h2:h<=cap):
  (Instr.sliceBounds b len cap (lo.map a.eval) (hi.map a.eval) none).run P w= .ok (l.toNat,h.toNat,cap) w:=by
 rcases Ao3 C I L with⟨rfl,rfl⟩ | ⟨y,k,rfl,D⟩<;>rcases Ep2 C J M with⟨rfl,rfl⟩ | ⟨z,k',rfl,E⟩
 ·simp [Instr.sliceBounds]
 ·simp [Instr.sliceBounds,E,Ga (P:=P) (w:=w) (k:=k') (n:=h) (y:=cap) (by omega) h2]
 ·simp [Instr.sliceBounds,D,Ga (P:=P) (w:=w) (k:=k) (n:=l) (y:=len) h0 h1]
 ·have:l<=(h.toNat:Int):=by omega
  simp [Instr.sliceBounds,D,E,Ga (P:=P) (w:=w) (k:=k') (n:=h) (y:=cap) (by omega) h2,Ga (P:=P) (w:=w) (k:=k) (n:=l) (y:=h.toNat) h0 this]
theorem Cp4 (D:Sim G N s a w) {lo hi C:Option Operand} (O:(match lo with | some x=>Cc N x | none=>true)=true) (S:(match hi with | some x=>Cc N x | none=>true)=true) (U:(match C with | some x=>Cc N x | none=>true)=true)
  {b:Bool} {len cap:Nat} {l h m:Int} (V:dLo (Ry G s.env lo)=some l) (W:hi≠none) (X:C≠none) (Y:dLo (Ry G s.env hi)=some h) (Z:dLo (Ry G s.env C)=some m) (h0:0<=l) (h1:l<=h) (h2:h<=m) (h3:m<=cap):
  (Instr.sliceBounds b len cap (lo.map a.eval) (hi.map a.eval) (C.map a.eval)).run P w= .ok (l.toNat,h.toNat,m.toNat) w:=by
 obtain⟨z,E,rfl,I⟩:=(Ao3 D S Y).resolve_left (fun e=>W e.1)
 obtain⟨u,J,rfl,L⟩:=(Ao3 D U Z).resolve_left (fun e=>X e.1)
 have M:h<=(m.toNat:Int):=by omega
 have r2:l<=(h.toNat:Int):=by omega
 rcases Ao3 D O V with⟨rfl,rfl⟩ | ⟨y,k,rfl,ey⟩
 ·simp [Instr.sliceBounds,I,L,Ga (P:=P) (w:=w) (k:=J) (n:=m) (y:=cap) (by omega) h3,Ga (P:=P) (w:=w) (k:=E) (n:=h) (y:=m.toNat) (by omega) M]
 ·simp [Instr.sliceBounds,I,L,ey,Ga (P:=P) (w:=w) (k:=J) (n:=m) (y:=cap) (by omega) h3,Ga (P:=P) (w:=w) (k:=E) (n:=h) (y:=m.toNat) (by omega) M,Ga (P:=P) (w:=w) (k:=k) (n:=l) (y:=h.toNat) h0 r2]
theorem Dy5.le {r n m:Nat} (h:Dy5 w r n) (hm:m<=n):Dy5 w r m:=⟨h.1,fun k hk=>Nat.le_trans hm (h.2 k hk)⟩
theorem Fl9 (E:Sim G N s a w) (W:Cz N o.dst=true) {t:TypeId} {x:Operand} {lo hi X:Option Operand} (hx:Cc N x=true)
  (Y:(match lo with | some x=>Cc N x | none=>true)=true) (Z:(match hi with | some x=>Cc N x | none=>true)=true) (af:(match X with | some x=>Cc N x | none=>true)=true) (he:o.op= .slice t x lo hi X)
  (h:Av5 P (Ry G s.env lo) (Ry G s.env hi) o.dst (P.underlying t) (dev G s.env x) (Ry G s.env X) K s):PV P o s a w K:=by
 have I:=Bs E hx
 generalize hu:P.underlying t=u at h
 generalize dev G s.env x=dx at h I
 generalize hm:Ry G s.env X=dm at h
 have aa:dm=none->X=none:=by
  intro e;subst e
  cases X with
  | none=>rfl
  | some y=>simp [Ry] at hm
 unfold Av5 at h
 split at h
 ·-- a string
  rename_i l
  obtain rfl:=aa rfl
  simp only[Rel] at I
  unfold Av4 at h
  split at h<;>try exact h.elim
  rename_i C D J L
  obtain⟨h0,h1,h2,M⟩:=h
  have hb:=Ok (P:=P) E Y Z (b:=false) (cap:=l.length) J L h0 h1 h2
  refine pvI E W (x:= .string ⟨⟨(l.drop C.toNat).take (D.toNat-C.toNat)⟩⟩) ?_ (by simp [Rel]) M
  have ag:(ByteArray.mk ⟨l⟩).size=l.length:=rfl
  have ah:(ByteArray.mk ⟨l⟩).extract C.toNat D.toNat=⟨⟨(l.drop C.toNat).take (D.toNat-C.toNat)⟩⟩:=by
   apply ByteArray.ext
   rw[ByteArray.data_extract]
   apply Array.ext'
   simp [Array.toList_extract,List.extract]
  simp [execOp,he,I,Instr.sliceAt,Instr.slice,run_underlying hu,ag,hb,ah]
 ·-- a nil slice
  rename_i e
  obtain rfl:=aa rfl
  obtain⟨hie,h⟩:=h
  simp only[Rel] at I
  unfold Cf1 at h
  split at h<;>try exact h.elim
  rename_i C D J L
  obtain⟨rfl,rfl,M⟩:=h
  have hb:=Ok (P:=P) E Y Z (b:=true) (cap:=0) J L (by omega) (by omega) (by omega)
  refine pvI E W (x:= .slice none 0 0) ?_ (by simp [Rel]) M
  simp [execOp,he,I,Instr.sliceAt,Instr.slice,run_underlying hu,hb,Dk hie]
 ·-- memory that lasts
  rename_i e cs len
  obtain rfl:=aa rfl
  obtain⟨hie,h⟩:=h
  simp only[Rel] at I
  obtain⟨ad,cap,hp,ac,hc⟩:=I
  unfold An4 at h
  split at h<;>try exact h.elim
  rename_i C D J L
  obtain⟨h0,h1,h2,M⟩:=h
  have hb:=Ok (P:=P) E Y Z (b:=true) (cap:=cap) J L h0 h1 (by omega)
  refine pvI E W (x:= .slice (if cap=C.toNat then ad else ad.map (·.add (C.toNat*P.cellsOf e))) (D.toNat-C.toNat) (cap-C.toNat)) ?_ ?_ M
  ·simp [execOp,he,hp,Instr.sliceAt,Instr.slice,run_underlying hu,hb,Dk hie]
  ·simp only[Rel]
   refine⟨_,_,rfl,by omega, ?_⟩
   by_cases O:cap=C.toNat
   ·have:D.toNat-C.toNat=0:=by omega
    rw[this];exact .inl (by simp)
   ·rw[if_neg O]
    rcases hc with rfl | ⟨b,o',xs,rfl,hc,hl⟩
    ·exact .inl (by simp)
    ·refine .inr ⟨b,o'+C.toNat*P.cellsOf e,(xs.drop (C.toNat*P.cellsOf e)).take ((D.toNat-C.toNat)*P.cellsOf e),by simp [Mt], ?_,(hl.drop _).take _⟩
     rcases hc with rfl | ⟨g1,g2⟩
     ·exact .inl (by simp)
     ·exact .inr ⟨g1,(Nr.drop g2).take⟩
 ·-- a slice of the call's own
  rename_i e sz r0 off len ai
  obtain rfl:=aa rfl
  obtain⟨hie,rfl,h⟩:=h
  simp only[Rel] at I
  obtain⟨o',cap,hp,aj,ac,ab,V⟩:=I
  unfold Xj at h
  split at h<;>try exact h.elim
  rename_i C D S J L em
  cases em
  obtain⟨h0,h1,h2,h3,M⟩:=h
  have hb:=Ok (P:=P) E Y Z (b:=true) (cap:=cap) J L h0 h1 (by omega)
  refine pvI E W (x:= .slice (if cap=C.toNat then some ⟨r0,o',none⟩ else some ⟨r0,o'+C.toNat*P.cellsOf e,none⟩) (D.toNat-C.toNat) (cap-C.toNat)) ?_ ?_ M
  ·simp [execOp,he,hp,Instr.sliceAt,Instr.slice,run_underlying hu,hb,Dk hie,Mt]
  ·simp only[Rel]
   have ae:(cap-C.toNat)*P.cellsOf e+C.toNat*P.cellsOf e=cap*P.cellsOf e:=by
    rw[<-Nat.add_mul];congr 1;omega
   by_cases O:cap=C.toNat
   ·exact⟨o',cap-C.toNat,by simp [O],by omega,by omega, .inl (by omega),V.le (by omega)⟩
   ·refine⟨o'+C.toNat*P.cellsOf e,cap-C.toNat,by simp [O],by omega,by omega, .inr ?_,V.le (by omega)⟩
    rcases ab with e1 | e1
    ·omega
    ·rw[e1]
 ·-- a slice of the call's own, with a third index
  rename_i e sz r0 off len ai m
  obtain⟨hie,rfl,ak,h⟩:=h
  simp only[Rel] at I
  obtain⟨o',cap,hp,aj,ac,ab,V⟩:=I
  unfold Xj at h
  split at h<;>try exact h.elim
  rename_i C D S J L em
  obtain⟨h0,h1,h2,h3,M⟩:=h
  have al:hi≠none:=by rintro rfl;simp [Ry] at ak
  have am:X≠none:=by rintro rfl;simp [Ry] at hm
  have hb:=Cp4 (P:=P) E Y Z af (b:=true) (len:=len) (cap:=cap) J al am L (by rw[hm];exact em) h0 h1 h2 (by omega)
  refine pvI E W (x:= .slice (if S.toNat=C.toNat then some ⟨r0,o',none⟩ else some ⟨r0,o'+C.toNat*P.cellsOf e,none⟩) (D.toNat-C.toNat) (S.toNat-C.toNat)) ?_ ?_ M
  ·simp [execOp,he,hp,Instr.sliceAt,Instr.slice,run_underlying hu,hb,Dk hie,Mt]
  ·simp only[Rel]
   have ae:(S.toNat-C.toNat)*P.cellsOf e+C.toNat*P.cellsOf e=S.toNat*P.cellsOf e:=by
    rw[<-Nat.add_mul];congr 1;omega
   have ao:S.toNat*P.cellsOf e<=cap*P.cellsOf e:=Nat.mul_le_mul_right _ (by omega)
   by_cases O:S.toNat=C.toNat
   ·exact⟨o',S.toNat-C.toNat,by simp [O],by omega,by omega, .inl (by omega),V.le (by omega)⟩
   ·refine⟨o'+C.toNat*P.cellsOf e,S.toNat-C.toNat,by simp [O],by omega,by omega, .inr ?_,V.le (by omega)⟩
    rcases ab with e1 | e1
    ·omega
    ·rw[e1]
 ·-- an array of the call's own
  rename_i n e r0 off
  obtain rfl:=aa rfl
  obtain⟨hie,U,h⟩:=h
  simp only[Rel] at I
  have V:Dy5 w r0 (off+n*P.cellsOf e):=by
   cases hh:s.heap r0 with
   | none=>rw[hh] at U;exact U.elim
   | some ob=>
    cases ob with
    | loop=>rw[hh] at U;exact U.elim
    | iter=>rw[hh] at U;exact U.elim
    | map=>rw[hh] at U;exact U.elim
    | cells cs e'=>
     rw[hh] at U
     obtain⟨xs,c,fz,g1,g2,g3,g4⟩:=E.heap r0 _ hh
     refine⟨E.heap.lt (by simp [hh]),fun k hk=> ?_⟩
     rw[g1] at hk
     simp [Qa] at hk
     have:=g3.length
     have:=g2.length_le
     simp only[Array.length_toList] at this
     simp only[Gb8] at U
     omega
  unfold Xj at h
  split at h<;>try exact h.elim
  rename_i C D S J L em
  cases em
  obtain⟨h0,h1,h2,h3,M⟩:=h
  have hb:=Ok (P:=P) E Y Z (b:=false) (cap:=n) J L h0 h1 h2
  refine pvI E W (x:= .slice (some (if n=C.toNat then⟨r0,off,none⟩ else⟨r0,off+C.toNat*P.cellsOf e,none⟩)) (D.toNat-C.toNat) (n-C.toNat)) ?_ ?_ M
  ·simp [execOp,he,I,Instr.sliceAt,run_underlying hu,Instr.sureAddr,hb,Dk hie,Mt]
  ·simp only[Rel]
   have ae:(n-C.toNat)*P.cellsOf e+C.toNat*P.cellsOf e=n*P.cellsOf e:=by
    rw[<-Nat.add_mul];congr 1;omega
   by_cases O:n=C.toNat
   ·exact⟨off,n-C.toNat,by simp [O],by omega,by omega, .inl (by omega),V.le (by omega)⟩
   ·exact⟨off+C.toNat*P.cellsOf e,n-C.toNat,by simp [O],by omega,by omega, .inr rfl,V.le (by omega)⟩
 ·-- an array in memory that lasts
  rename_i n e cs off
  obtain rfl:=aa rfl
  obtain⟨hie,hle,h⟩:=h
  simp only[Rel] at I
  obtain⟨b,o',xs,hp,hc,hl⟩:=I
  unfold An4 at h
  split at h<;>try exact h.elim
  rename_i C D J L
  obtain⟨h0,h1,h2,M⟩:=h
  have hb:=Ok (P:=P) E Y Z (b:=false) (cap:=n) J L h0 h1 h2
  refine pvI E W (x:= .slice (some (if n=C.toNat then⟨b,o'+off,none⟩ else⟨b,o'+off+C.toNat*P.cellsOf e,none⟩)) (D.toNat-C.toNat) (n-C.toNat)) ?_ ?_ M
  ·simp [execOp,he,hp,Instr.sliceAt,run_underlying hu,Instr.sureAddr,hb,Dk hie,Mt]
  ·simp only[Rel]
   refine⟨_,_,rfl,by omega, ?_⟩
   by_cases O:n=C.toNat
   ·have:D.toNat-C.toNat=0:=by omega
    rw[this];exact .inl (by simp)
   ·rw[if_neg O]
    refine .inr ⟨b,o'+off+C.toNat*P.cellsOf e,((((xs.drop off).take (n*P.cellsOf e)).drop (C.toNat*P.cellsOf e)).take ((D.toNat-C.toNat)*P.cellsOf e)),rfl, ?_,(((hl.drop _).take _).drop _).take _⟩
    rcases hc with rfl | ⟨g1,g2⟩
    ·exact .inl (by simp)
    ·exact .inr ⟨g1,(Nr.drop (Nr.take (Nr.drop g2))).take⟩
 ·exact h.elim
end
end Go.Dl
