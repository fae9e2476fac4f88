/- The data level and the contracts of the functions that are reached (part 1). -/
import Derived.Shelf.Lays
import Derived.Shelf.Strings.Fields
import Derived.Shelf.Strings.Repeat
import Derived.Test.YtddbdpcgikmiaaaGreatDoorProg
import Derived.WalkKit
import Derived.OwnWalk
import Derived.RangeFuncNested
import Derived.RangeFuncCalls
import Derived.TacticsIn
import Derived.OrdersIn
set_option linter.unusedSimpArgs false
set_option linter.unusedVariables false
set_option linter.unusedSectionVars false
attribute [go_sem ↓] reduceIte
theorem jA {α : Type _} {a : α} {l : List α} : (a::l).length = l.length+1 := rfl
theorem jB {α : Type _} : ([] : List α).length = 0 := rfl
theorem jC {α : Type _} {a b : List α} : (a++b).length = a.length+b.length := List.length_append
theorem jD (n : Nat) : (n:Int).toNat = n := rfl
theorem jE {α : Type _} {a : α} {l : List α} {i : Nat} : (a::l).drop (i+1) = l.drop i := rfl
theorem jF (a b : Bool) : ((a && b) = true) = (a = true ∧ b = true) := Bool.and_eq_true a b
theorem jG {α : Type _} (l : List α) : [] ++ l = l := rfl
theorem jH {α : Type _} (l : List α) : l ++ [] = l := List.append_nil l
theorem jI {α : Type _} {a : α} {l m : List α} : (a::l) ++ m = a::(l++m) := rfl
theorem jJ {α : Type _} {l : List α} : l.drop 0 = l := rfl
theorem jK {α : Type _} {β : Type _} {l : List α} (f : α → β) : (l.map f).length = l.length := List.length_map f
theorem jL {α : Type _} {i : Nat} : ([] : List α).drop i = [] := List.drop_nil
theorem jM {α : Type _} {a : α} {l : List α} {i : Nat} : (a::l).take (i+1) = a::l.take i := rfl
theorem jN {α : Type _} {β : Type _} {f : α → β} {a : α} {l : List α} : (a::l).map f = f a::l.map f := rfl
theorem jO {α : Type _} (a b c : List α) : a ++ b ++ c = a ++ (b ++ c) := List.append_assoc a b c
theorem jP {α : Type _} {β : Type _} {f : α → β} : ([] : List α).map f = [] := rfl
theorem jQ {α : Type _} {a : α} : [a].length = 1 := rfl
theorem jR {α : Type _} {l : List α} : l.take 0 = [] := List.take_zero
theorem jS (b : Bool) : (true && b) = b := Bool.true_and b
theorem jT (b : Bool) : (false && b) = false := Bool.false_and b
-- The library functions of this seat, by the shelf (printed by shelfpick.py out of what the shelf's tools wrote at the seat).
namespace Go.Proofs
open Go.Shelf
def Tryz.lays157_ren:Go.Shelf.Ren:=⟨fun | 157=>307 | 229=>321 | 199=>322 | 261=>326 | 311=>327 | 312=>328 | n=>n,fun | 9=>9 | 31=>54 | 3=>3 | 5=>5 | 4=>4 | 119=>332 | 0=>0 | 40=>334 | 152=>336 | 21=>21 | 154=>338 | 51=>273 | 141=>340 | 196=>344 | 193=>341 | 198=>347 | 49=>345 | 194=>342 | 201=>350 | 226=>352 | 46=>204 | 227=>353 | n=>n,fun | 0=>1 | 6=>2 | n=>n⟩
theorem Tryz.lays157:Go.Proofs.Lays.n157 Tryz.prog Tryz.lays157_ren:= {
  mixed:=by kernel_rfl
  f157:=Tryz.func307.trans (congrArg some (by kernel_rfl))
  f199:=Tryz.func322.trans (congrArg some (by kernel_rfl))
  f229:=Tryz.func321.trans (congrArg some (by kernel_rfl))
  f261:=Tryz.func326.trans (congrArg some (by kernel_rfl))
  f311:=Tryz.func327.trans (congrArg some (by kernel_rfl))
  f312:=Tryz.func328.trans (congrArg some (by kernel_rfl))
  t0:=Tryz.underlying0
  a0:=Tryz.isAgg0
  z0:=Tryz.sizeOf0
  v0:=Tryz.zeroValue0
  t3:=Tryz.underlying3
  a3:=Tryz.isAgg3
  z3:=Tryz.sizeOf3
  v3:=Tryz.zeroValue3
  t4:=Tryz.underlying4
  a4:=Tryz.isAgg4
  z4:=Tryz.sizeOf4
  v4:=Tryz.zeroValue4
  t5:=Tryz.underlying5
  a5:=Tryz.isAgg5
  z5:=Tryz.sizeOf5
  v5:=Tryz.zeroValue5
  t9:=Tryz.underlying9
  a9:=Tryz.isAgg9
  z9:=Tryz.sizeOf9
  v9:=Tryz.zeroValue9
  t21:=Tryz.underlying21
  a21:=Tryz.isAgg21
  z21:=Tryz.sizeOf21
  v21:=Tryz.zeroValue21
  t31:=Tryz.underlying54
  a31:=Tryz.isAgg54
  z31:=Tryz.sizeOf54
  v31:=Tryz.zeroValue54
  t40:=Tryz.underlying334
  a40:=Tryz.isAgg334
  z40:=Tryz.sizeOf334
  v40:=Tryz.zeroValue334
  t46:=Tryz.underlying204
  a46:=Tryz.isAgg204
  z46:=Tryz.sizeOf204
  v46:=Tryz.zeroValue204
  t49:=Tryz.underlying345
  a49:=Tryz.isAgg345
  z49:=Tryz.sizeOf345
  v49:=Tryz.zeroValue345
  t51:=Tryz.underlying273
  a51:=Tryz.isAgg273
  z51:=Tryz.sizeOf273
  v51:=Tryz.zeroValue273
  t119:=Tryz.underlying332
  a119:=Tryz.isAgg332
  z119:=Tryz.sizeOf332
  t141:=Tryz.underlying340
  a141:=Tryz.isAgg340
  z141:=Tryz.sizeOf340
  v141:=Tryz.zeroValue340
  t152:=Tryz.underlying336
  a152:=Tryz.isAgg336
  z152:=Tryz.sizeOf336
  v152:=Tryz.zeroValue336
  t154:=Tryz.underlying338
  a154:=Tryz.isAgg338
  z154:=Tryz.sizeOf338
  v154:=Tryz.zeroValue338
  t193:=Tryz.underlying341
  a193:=Tryz.isAgg341
  z193:=Tryz.sizeOf341
  v193:=Tryz.zeroValue341
  t194:=Tryz.underlying342
  a194:=Tryz.isAgg342
  z194:=Tryz.sizeOf342
  v194:=Tryz.zeroValue342
  t196:=Tryz.underlying344
  a196:=Tryz.isAgg344
  z196:=Tryz.sizeOf344
  v196:=Tryz.zeroValue344
  t198:=Tryz.underlying347
  a198:=Tryz.isAgg347
  z198:=Tryz.sizeOf347
  v198:=Tryz.zeroValue347
  t201:=Tryz.underlying350
  a201:=Tryz.isAgg350
  z201:=Tryz.sizeOf350
  v201:=Tryz.zeroValue350
  t226:=Tryz.underlying352
  a226:=Tryz.isAgg352
  z226:=Tryz.sizeOf352
  v226:=Tryz.zeroValue352
  t227:=Tryz.underlying353
  a227:=Tryz.isAgg353
  z227:=Tryz.sizeOf353
  v227:=Tryz.zeroValue353
  g0:=by kernel_rfl
  g6:=by kernel_rfl }
open Go.RowKit Go.Lib in
theorem Tryz.strings_Fields (s:ByteArray) (w:World) (hs:s.size<4294967281) (hascii: ∀(j:Nat) b,s.data.toList[j]? =some b->b.toNat<128) (htab:Lib.TabIs Tryz.prog w "strings.asciiSpace" .u8 Lib.asciiSpaceTab):
  Calls Tryz.prog 307 #[.string s] w fun e w'=>
   e= .returned (.slice (some ⟨w.heap.size,0,none⟩) (Lib.fields s.data.toList).length (Lib.fields s.data.toList).length)/\w'=w.alloc (.cells ((Lib.fields s.data.toList).map fun l=>Value.string ⟨l.toArray⟩).toArray 9):=Any.strings_Fields Tryz.lays157 (by kernel_rfl) (by kernel_rfl) s w hs hascii htab
end Go.Proofs

-- THE DATA LEVEL, PART A: values that carry the memory they point to (a string, a slice that nobody writes any more, a pointer into one), states, and what it means that a state of this level describes a state of the model..
namespace Go.Dl
open Go
attribute [go_sem] Nat.reduceEqDiff Nat.reduceAdd Nat.reduceMul Nat.reduceSub Nat.reduceLeDiff reduceCtorEq Int.reduceAdd Int.reduceSub Int.reduceMul Int.reduceNeg Int.reduceToNat List.reduceReplicate String.reduceEq
inductive DVal where
 | raw (v:Value)
 | bool (b:Bool)
 | int (k:IntKind) (n:Int)
 | str (s:List UInt8)
 | nilPtr
 | vptr (cs:List DVal) (off:Nat)
 | optr (r off:Nat)
 | nilSlice
 | vslice (cs:List DVal) (len:Nat)
 | oslice (sz r off len lo:Nat)
 | nilMap
 | omap (r:Nat)
 | func (fn:Fn) (first captured:List DVal)
 | nilFunc
 | iface (t:TypeId) (v:DVal)
 | nilIface
 | agg (cs:List DVal)
 | tuple (vs:List DVal)
 deriving Inhabited
def DVal.cells:DVal->List DVal
 | .agg cs=>cs
 | v=> [v]
def DVal.one:DVal->Bool
 | .agg _ | .tuple _=>false
 | .raw v=>v.oneCell'
 | _=>true
inductive DObj where
 | cells (cs:List DVal) (e:TypeId)
 /-- The record of a loop over an iterator: the slots as they were where it began (the record's own 'tmps' are not looked at). -/
 | loop (env:Nat->DVal) (n:Nat) (r:Loop)
 /-- A map: its entries, in the order in which they were laid. -/
 | map (es:List (DVal×DVal))
 /-- A walk through a string's characters. -/
 | iter (s:List UInt8) (pos:Nat)
abbrev Ab:=Nat->Option DObj
def upd {α:Type} (f:Nat->α) (i:Nat) (v:α):Nat->α:=fun j=>if j=i then v else f j
structure DS where
 env:Nat->DVal
 heap:Ab
inductive DExit where
 | normal
 | exit (id:Nat)
 | goto (l:Nat)
 | ret
 | panic (v:DVal)
inductive DEnd where
 | ret (v:DVal)
 | panic (v:DVal)
def Mi (w:World) (H:Ab) (b off:Nat) (xs:List Value):Prop:=
 xs= []\/(H b=none/\ ∀i x,xs[i]? =some x->w.cell? ⟨b,off+i,none⟩=some x)
def Ji:Option Obj->Option Nat
 | some (.cells c _ _)=>some c.size
 | _=>none
def By5 (w:World) (r n:Nat):Prop:=r<w.heap.size/\ ∀k,Ji w.heap[r]? =some k->n<=k
mutual
/-- The value of the data level describes the model's value. -/
def Rel (w:World) (H:Ab):DVal->Value->Prop
 | .raw x,v=>v=x/\x.oneCell'=true
 | .bool b,v=>v= .bool b
 | .int k n,v=>v= .int k n
 | .str s,v=>v= .string ⟨⟨s⟩⟩
 | .nilPtr,v=>v= .pointer none
 | .vptr cs off,v=> ∃b o xs,v= .pointer (some ⟨b,o+off,none⟩)/\Mi w H b o xs/\An w H cs xs
 | .optr r off,v=>v= .pointer (some ⟨r,off,none⟩)
 | .nilSlice,v=>v= .slice none 0 0
 | .vslice cs len,v=> ∃a cap,v= .slice a len cap/\len<=cap/\(cs= []\/ ∃b o xs,a=some ⟨b,o,none⟩/\Mi w H b o xs/\An w H cs xs)
 | .oslice sz r off len lo,v=> ∃o cap,v= .slice (some ⟨r,o,none⟩) len cap/\lo<=cap/\len<=cap/\(cap=0\/o=off)/\By5 w r (o+cap*sz)
 | .nilMap,v=>v= .map none
 | .omap r,v=>v= .map (some r)
 | .func fn first captured,v=> ∃xs ys,v= .func fn xs ys/\An w H first xs.toList/\An w H captured ys.toList
 | .nilFunc,v=>v= .nilFunc
 | .iface t d,v=> ∃x,v= .iface t x/\Rel w H d x
 | .nilIface,v=>v= .nilIface
 | .agg cs,v=> ∃xs,v= .agg xs/\An w H cs xs.toList
 | .tuple cs,v=> ∃xs,v= .tuple xs/\An w H cs xs.toList
def An (w:World) (H:Ab):List DVal->List Value->Prop
 | [],xs=>xs= []
 | d::ds,xs=> ∃y ys,xs=y::ys/\Rel w H d y/\An w H ds ys
end
def Pr (w:World) (H:Ab):List (DVal×DVal)->List MapEntry->Prop
 | [],ms=>ms= []
 | p::es,ms=> ∃m ms',ms=m::ms'/\Rel w H p.1 m.key/\Rel w H p.2 m.val/\Pr w H es ms'
def Sb (w:World) (H:Ab):DObj->Option Obj->Prop
 | .cells cs e,o=> ∃xs c fz,o=some (.cells c e fz)/\xs<+:c.toList/\An w H cs xs/\ ∀i,i<c.size-> ¬(fz.1<=i/\i<fz.2)
 | .loop env n r,o=> ∃tmps,o=some (.loop { r with tmps:=tmps })/\tmps.size=n/\ ∀i,i<n->Rel w H (env i) (tmps.getD i undef)
 | .map es,o=> ∃ms clock,o=some (.map ms clock)/\Pr w H es ms.toList
 | .iter s pos,o=>o=some (.stringIter ⟨⟨s⟩⟩ pos)
def Av (w:World) (H:Ab):Prop:= ∀r o,H r=some o->Sb w H o w.heap[r]?
structure Ext (H:Ab) (w:World) (H':Ab) (w':World):Prop where
 os:w'.os=w.os
 tape:w'.tape=w.tape
 output:w'.output=w.output
 size:w.heap.size<=w'.heap.size
 block: ∀b,b<w.heap.size->H b=none->w'.heap[b]? =w.heap[b]?
 own: ∀b,H' b≠none->H b≠none\/w.heap.size<=b
 keep: ∀b,b<w.heap.size->Ji w'.heap[b]? =Ji w.heap[b]?
 fz: ∀a,a.block<w.heap.size->H a.block=none->w'.frozen? a=w.frozen? a
structure GOk (G:Nat->DVal) (w:World) (H:Ab):Prop where
 rel: ∀g,Rel w H (G g) (.pointer (some ⟨g,0,none⟩))
 exact: ∀g cs,G g= .vptr cs 0->Ji w.heap[g]? =some cs.length
structure Base where
 b:Nat
 late:List Deferred
 still:Bool
structure Fr where
 n:Nat
 base:Base
instance:Coe Fr Nat:=⟨Fr.n⟩
def Dfs (w:World) (H:Ab) (B:Base) (ds:List Deferred):Prop:=
 ∃Ds:List Nat,ds=Ds.map (fun D=>({ target:= .collected D,args:= #[] }:Deferred))++B.late/\Ds.Nodup/\ ∀D∈Ds,(B.b<=D/\B.still=false)/\w.heap[D]? =some (.deferred (some []))/\H D=none
theorem Dfs.nil (w:World) (H:Ab) (B:Nat):Dfs w H ⟨B,[],false⟩ []:=⟨[],rfl,List.nodup_nil,by simp⟩
structure Sim (G:Nat->DVal) (N:Fr) (s:DS) (a:Act) (w:World):Prop where
 size:a.tmps.size=N.n
 defers:Dfs w s.heap N.base a.defers
 tmps: ∀i,i<N.n->Rel w s.heap (s.env i) (a.tmps.getD i undef)
 heap:Av w s.heap
 glob:GOk G w s.heap
 base:N.base.b<=w.heap.size
inductive RelX (w:World) (H:Ab):DExit->Exit->Prop
 | normal:RelX w H .normal .normal
 | exit (id:Nat):RelX w H (.exit id) (.exit id)
 | goto (l:Nat):RelX w H (.goto l) (.goto l)
 | ret:RelX w H .ret .ret
 | panic (d:DVal) (v:Value):Rel w H d v->RelX w H (.panic d) (.panic [{ v,recovered:=false }])
inductive RelE (w:World) (H:Ab):DEnd->Ending->Prop
 | ret (d:DVal) (v:Value):Rel w H d v->RelE w H (.ret d) (.returned v)
 | panic (d:DVal) (v:Value):Rel w H d v->RelE w H (.panic d) (.panicked [{ v,recovered:=false }])
def Ae (P:Program) (G:Nat->DVal) (f:FuncId) (args:List DVal) (H:Ab) (R:DEnd->Ab->Prop):Prop:=
 (∀vs w,(callFunc f vs).run P w= .ok (.enter f vs) w)/\
 ∀(vs:List Value) (w:World),An w H args vs->Av w H->GOk G w H->
  Calls P f vs.toArray w fun e w'=> ∃e' H',R e' H'/\RelE w' H' e' e/\Av w' H'/\Ext H w H' w'
def FOk (F:Fence):Prop:=F=Fence.wide\/ ∃l,F=Fence.wide.inRound l
def Yv (P:Program) (G:Nat->DVal) (l:Nat) (args:List DVal) (H:Ab) (R:DEnd->Ab->Prop):Prop:=
 ∀(F:Fence) (n:Nat),FOk F-> ∀(vs:List Value) (w:World),An w H args vs->Av w H->GOk G w H->
  YieldAt F n P l vs.toArray w fun e w'=> ∃e' H',R e' H'/\RelE w' H' e' e/\Av w' H'/\Ext H w H' w'
section
variable {P:Program} {F:Fence} {n:Nat}
theorem FOk.fn (h:FOk F) (g:FuncId):F.fn g:=by
 rcases h with rfl | ⟨l,rfl⟩<;>trivial
theorem FOk.depth (h:FOk F):F.depth=none:=by
 rcases h with rfl | ⟨l,rfl⟩<;>rfl
theorem FOk.calls (h:FOk F) {f:FuncId} {args:Array Value} {w:World} {R:Ending->World->Prop} (hc:Calls P f args w R):CallsIn F n P f args w R:=by
 rcases h with rfl | ⟨l,rfl⟩
 ·exact callsIn_wide.2 hc
 ·exact CallsIn.inRound l (callsIn_wide.2 hc)
theorem FOk.rows (h:FOk F) {row:String} {args:Array Value} {w:World} {R:Value->World->Prop} (hc:Rows P row args w R):RowsIn F n P row args w R:=by
 have h0:RowsIn Fence.wide n P row args w R:=fun c cs _=>by
  obtain⟨v,w',hr,hs⟩:=hc c cs;exact⟨v,w',hr,stepsIn_wide.2 hs⟩
 rcases h with rfl | ⟨l,rfl⟩
 ·exact h0
 ·exact h0
theorem FOk.oper (h:FOk F) {o:Oper} {a:Act} {w:World} {K:Act->World->Prop} {Q:Exit->Act->World->Prop} (hd: ∀c,o.op≠ .defer c) (hw:o.wp P a w K Q):o.wpIn F n P a w K Q:=by
 refine⟨fun f _=>h.fn f, ?_⟩;rw[Oper.semAt_eq _ _ _ hd];unfold Oper.wp at hw;have hdep:F.depth.isSome=true->1<=n:=by rw[h.depth];intro hh;cases hh
 generalize (execOp a.eval o).run P w=r at hw⊢
 cases r with
 | ok x w'=>
  cases x<;>simp only[Oper.upon,Oper.uponIn] at hw⊢ <;>first
   | exact hw
   | exact⟨hdep,h.calls (hw.mono fun e w'' he=>by cases e<;>exact he)⟩
   | exact⟨hdep,h.rows hw⟩
   | exact hw.elim
 | halt x w'=>cases x<;>simp only[Oper.upon,Oper.uponIn] at hw⊢ <;>first | exact hw | exact hw.elim
end
def DWp (P:Program) (G:Nat->DVal) (N:Nat) (c:Code) (Q:DExit->DS->Prop) (s:DS):Prop:=
 ∀(F:Fence) (n:Nat) (B:Base),FOk F-> ∀(a:Act) (w:World),Sim G ⟨N,B⟩ s a w->
  c.wpIn F n P (fun e a' w'=> ∃e' s',Q e' s'/\RelX w' s'.heap e' e/\Sim G ⟨N,B⟩ s' a' w'/\Ext s.heap w s'.heap w') a w
def Du2 (P:Program) (G:Nat->DVal) (N:Nat) (c:Code) (Q:DExit->DS->Prop) (s:DS):Prop:=
 ∀(n:Nat) (B:Base),B.still=false-> ∀(a:Act) (w:World),Sim G ⟨N,B⟩ s a w->
  c.wpIn Fence.wide n P (fun e a' w'=> ∃e' s',Q e' s'/\RelX w' s'.heap e' e/\Sim G ⟨N,B⟩ s' a' w'/\Ext s.heap w s'.heap w') a w
structure Lasts (H:Ab) (w:World) (H':Ab) (w':World):Prop where
 cell: ∀b i x,H b=none->w.cell? ⟨b,i,none⟩=some x->H' b=none/\w'.cell? ⟨b,i,none⟩=some x
 size:w.heap.size<=w'.heap.size
 keep: ∀b,b<w.heap.size->Ji w'.heap[b]? =Ji w.heap[b]?
theorem Lasts.room {H H':Ab} {w w':World} (h:Lasts H w H' w') {r n:Nat} (hr:By5 w r n):By5 w' r n:=
 ⟨Nat.lt_of_lt_of_le hr.1 h.size,fun k hk=>hr.2 k (by rw[<-h.keep r hr.1];exact hk)⟩
theorem Cz9 {w:World} {b i:Nat} {x:Value} (h:w.cell? ⟨b,i,none⟩=some x):b<w.heap.size:=by
 unfold World.cell? at h;rcases Nat.lt_or_ge b w.heap.size with hl | hl
 ·exact hl
 ·simp [Array.getElem?_eq_none hl] at h
theorem Ext.lasts {H H':Ab} {w w':World} (h:Ext H w H' w'):Lasts H w H' w':=by
 refine⟨fun b i x hb hc=> ?_,h.size,h.keep⟩;have hl:=Cz9 hc;constructor
 ·cases e:H' b with
  | none=>rfl
  | some o=>
   rcases h.own b (by simp [e]) with h1 | h1
   ·exact(h1 hb).elim
   ·omega
 ·unfold World.cell? at hc⊢
  rw[h.block b hl hb];exact hc
theorem Dfs.ext {H H':Ab} {w w':World} {B:Base} {ds:List Deferred} (h:Ext H w H' w') (hd:Dfs w H B ds):Dfs w' H' B ds:=by
 obtain⟨Ds,h1,h2,h3⟩:=hd;refine⟨Ds,h1,h2,fun D hD=> ?_⟩;obtain⟨g1,g2,g3⟩:=h3 D hD;have hl:D<w.heap.size:=(Array.getElem?_eq_some_iff.1 g2).1;refine⟨g1,by rw[h.block D hl g3];exact g2, ?_⟩;cases e:H' D with
 | none=>rfl
 | some o=>
  rcases h.own D (by simp [e]) with k | k
  ·exact(k g3).elim
  ·omega
theorem Dfs.less {H H':Ab} {w:World} {B:Base} {ds:List Deferred} (hd:Dfs w H B ds) (h: ∀b,H' b≠none->H b≠none):Dfs w H' B ds:=by
 obtain⟨Ds,h1,h2,h3⟩:=hd;refine⟨Ds,h1,h2,fun D hD=>⟨(h3 D hD).1,(h3 D hD).2.1, ?_⟩⟩;cases e:H' D with
 | none=>rfl
 | some o=>exact absurd (h3 D hD).2.2 (h D (by simp [e]))
theorem Mi.lasts {H H':Ab} {w w':World} (h:Lasts H w H' w') {b o:Nat} {xs:List Value} (hc:Mi w H b o xs):Mi w' H' b o xs:=by
 rcases hc with rfl | ⟨h1,h2⟩
 ·exact .inl rfl
 ·cases xs with
  | nil=>exact .inl rfl
  | cons x xs=>
   refine .inr ⟨(h.cell b (o+0) x h1 (h2 0 x rfl)).1,fun i y hy=>(h.cell b (o+i) y h1 (h2 i y hy)).2⟩
mutual
theorem Rel.lasts {H H':Ab} {w w':World} (h:Lasts H w H' w'): ∀(d:DVal) (v:Value),Rel w H d v->Rel w' H' d v
 | .raw _,_,hr=>by simpa [Rel] using hr
 | .bool _,_,hr=>by simpa [Rel] using hr
 | .int _ _,_,hr=>by simpa [Rel] using hr
 | .str _,_,hr=>by simpa [Rel] using hr
 | .nilPtr,_,hr=>by simpa [Rel] using hr
 | .vptr cs off,v,hr=>by
  simp only[Rel] at hr⊢
  obtain⟨b,o,xs,rfl,hc,hl⟩:=hr
  exact⟨b,o,xs,rfl,hc.lasts h,An.lasts h cs xs hl⟩
 | .optr _ _,_,hr=>by simpa [Rel] using hr
 | .nilSlice,_,hr=>by simpa [Rel] using hr
 | .vslice cs len,v,hr=>by
  simp only[Rel] at hr⊢
  obtain⟨a,cap,rfl,hle,hc⟩:=hr
  refine⟨a,cap,rfl,hle, ?_⟩
  rcases hc with hc | ⟨b,o,xs,rfl,hc,hl⟩
  ·exact .inl hc
  ·exact .inr ⟨b,o,xs,rfl,hc.lasts h,An.lasts h cs xs hl⟩
 | .oslice sz r off len lo,v,hr=>by
  simp only[Rel] at hr⊢
  obtain⟨o,cap,e,h1,h2,h3,h4⟩:=hr
  exact⟨o,cap,e,h1,h2,h3,h.room h4⟩
 | .nilMap,_,hr=>by simpa [Rel] using hr
 | .omap _,_,hr=>by simpa [Rel] using hr
 | .func fn first captured,v,hr=>by
  simp only[Rel] at hr⊢
  obtain⟨xs,ys,rfl,h1,h2⟩:=hr
  exact⟨xs,ys,rfl,An.lasts h first _ h1,An.lasts h captured _ h2⟩
 | .nilFunc,_,hr=>by simpa [Rel] using hr
 | .iface t d,v,hr=>by
  simp only[Rel] at hr⊢
  obtain⟨x,rfl,h1⟩:=hr
  exact⟨x,rfl,Rel.lasts h d x h1⟩
 | .nilIface,_,hr=>by simpa [Rel] using hr
 | .agg cs,v,hr=>by
  simp only[Rel] at hr⊢
  obtain⟨xs,rfl,h1⟩:=hr
  exact⟨xs,rfl,An.lasts h cs _ h1⟩
 | .tuple cs,v,hr=>by
  simp only[Rel] at hr⊢
  obtain⟨xs,rfl,h1⟩:=hr
  exact⟨xs,rfl,An.lasts h cs _ h1⟩
theorem An.lasts {H H':Ab} {w w':World} (h:Lasts H w H' w'): ∀(ds:List DVal) (xs:List Value),An w H ds xs->An w' H' ds xs
 | [],_,hr=>by simpa [An] using hr
 | d::ds,xs,hr=>by
  simp only[An] at hr⊢
  obtain⟨y,ys,rfl,h1,h2⟩:=hr
  exact⟨y,ys,rfl,Rel.lasts h d y h1,An.lasts h ds ys h2⟩
end
theorem Pr.lasts {H H':Ab} {w w':World} (h:Lasts H w H' w'): ∀ {es:List (DVal×DVal)} {ms:List MapEntry},Pr w H es ms->Pr w' H' es ms
 | [],_,hr=>hr
 | p::es,ms,hr=>by
  obtain⟨m,ms',rfl,h1,h2,h3⟩:=hr;exact⟨m,ms',rfl,Rel.lasts h _ _ h1,Rel.lasts h _ _ h2,Pr.lasts h h3⟩
theorem Sb.lasts {H H':Ab} {w w':World} (h:Lasts H w H' w') {o:DObj} {x:Option Obj} (hr:Sb w H o x):Sb w' H' o x:=by
 cases o with
 | cells cs e=>
  obtain⟨xs,c,fz,h1,h2,h3,h4⟩:=hr;exact⟨xs,c,fz,h1,h2,An.lasts h _ _ h3,h4⟩
 | loop env n r=>
  obtain⟨tmps,h1,h2,h3⟩:=hr;exact⟨tmps,h1,h2,fun i hi=>Rel.lasts h _ _ (h3 i hi)⟩
 | map es=>
  obtain⟨ms,c,h1,h2⟩:=hr;exact⟨ms,c,h1,h2.lasts h⟩
 | iter s pos=>exact hr
theorem Sb.some {H:Ab} {w:World} {o:DObj} {x:Option Obj} (hr:Sb w H o x): ∃y,x=Option.some y:=by
 cases o with
 | cells cs e=>
  obtain⟨xs,c,fz,h1,h2,h3,h4⟩:=hr;exact⟨_,h1⟩
 | loop env n r=>
  obtain⟨tmps,h1,h2,h3⟩:=hr;exact⟨_,h1⟩
 | map es=>
  obtain⟨ms,c,h1,h2⟩:=hr;exact⟨_,h1⟩
 | iter s pos=>exact⟨_,hr⟩
theorem Ext.refl (H:Ab) (w:World):Ext H w H w:=⟨rfl,rfl,rfl,Nat.le_refl _,fun _ _ _=>rfl,fun _ h=> .inl h,fun _ _=>rfl,fun _ _ _=>rfl⟩
theorem Ext.trans {H H' H'':Ab} {w w' w'':World} (h:Ext H w H' w') (k:Ext H' w' H'' w''):Ext H w H'' w'':=by
 refine⟨k.os.trans h.os,k.tape.trans h.tape,k.output.trans h.output,Nat.le_trans h.size k.size,fun b hb hn=> ?_,fun b hb=> ?_,fun b hb=>by rw[k.keep b (Nat.lt_of_lt_of_le hb h.size),h.keep b hb],fun a ha hn=>by rw[k.fz a (Nat.lt_of_lt_of_le ha h.size) (by
  cases e:H' a.block with
  | none=>rfl
  | some o=>
   rcases h.own a.block (by simp [e]) with h1 | h1
   ·exact(h1 hn).elim
   ·omega),h.fz a ha hn]⟩
 ·have hn':H' b=none:=by
   cases e:H' b with
   | none=>rfl
   | some o=>
    rcases h.own b (by simp [e]) with h1 | h1
    ·exact(h1 hn).elim
    ·omega
  rw[k.block b (Nat.lt_of_lt_of_le hb h.size) hn',h.block b hb hn]
 ·rcases k.own b hb with h1 | h1
  ·exact h.own b h1
  ·exact .inr (Nat.le_trans h.size h1)
theorem An.length {w:World} {H:Ab}: ∀ {ds:List DVal} {xs:List Value},An w H ds xs->ds.length=xs.length
 | [],_,h=>by simp only[An] at h;subst h;rfl
 | d::ds,xs,h=>by
  simp only[An] at h;obtain⟨y,ys,rfl,_,h2⟩:=h;simp [An.length h2]
theorem An.get {w:World} {H:Ab}: ∀ {ds:List DVal} {xs:List Value},An w H ds xs-> ∀ {i:Nat} {d:DVal},ds[i]? =some d-> ∃x,xs[i]? =some x/\Rel w H d x
 | [],_,_,i,d,hd=>by simp at hd
 | d::ds,xs,h,i,e,hd=>by
  simp only[An] at h;obtain⟨y,ys,rfl,h1,h2⟩:=h;cases i with
  | zero=>simp at hd;subst hd;exact⟨y,rfl,h1⟩
  | succ i=>simp at hd;obtain⟨x,hx,hr⟩:=An.get h2 hd;exact⟨x,by simpa using hx,hr⟩
theorem An.mk {w:World} {H:Ab}: ∀ {ds:List DVal} {xs:List Value},ds.length=xs.length->(∀(i:Nat) (d:DVal) (x:Value),ds[i]? =some d->xs[i]? =some x->Rel w H d x)->An w H ds xs
 | [],[],_,_=>by simp [An]
 | [],_::_,h,_=>by simp at h
 | _::_,[],h,_=>by simp at h
 | d::ds,x::xs,hl,h=>by
  simp only[An];refine⟨x,xs,rfl,h 0 d x rfl rfl,An.mk (by simpa using hl) fun i d' x' h1 h2=>h (i+1) d' x' (by simpa using h1) (by simpa using h2)⟩
theorem An.append {w:World} {H:Ab}: ∀ {ds es:List DVal} {xs ys:List Value},An w H ds xs->An w H es ys->An w H (ds++es) (xs++ys)
 | [],_,_,_,h,k=>by simp only[An] at h;subst h;simpa using k
 | d::ds,es,xs,ys,h,k=>by
  simp only[An] at h;obtain⟨y,ys',rfl,h1,h2⟩:=h;simp only[jI,An];exact⟨y,_,rfl,h1,An.append h2 k⟩
theorem An.take {w:World} {H:Ab} {ds:List DVal} {xs:List Value} (h:An w H ds xs) (n:Nat):An w H (ds.take n) (xs.take n):=by
 have hl:=h.length;refine An.mk (by simp [hl]) fun i d x h1 h2=> ?_;simp only[List.getElem?_take] at h1 h2;split at h1
 ·rename_i hi
  simp only[hi,if_true] at h2;obtain⟨y,hy,hr⟩:=h.get h1;rw[h2] at hy;cases hy;exact hr
 ·simp at h1
theorem An.drop {w:World} {H:Ab} {ds:List DVal} {xs:List Value} (h:An w H ds xs) (n:Nat):An w H (ds.drop n) (xs.drop n):=by
 have hl:=h.length;refine An.mk (by simp [hl]) fun i d x h1 h2=> ?_;simp only[List.getElem?_drop] at h1 h2;obtain⟨y,hy,hr⟩:=h.get h1;rw[h2] at hy;cases hy;exact hr
theorem Rel.cells {w:World} {H:Ab} {d:DVal} {v:Value} (h:Rel w H d v):An w H d.cells v.cells.toList:=by
 cases d<;>simp only[Rel,DVal.cells,An] at h⊢
 case raw x=>obtain⟨rfl,h⟩:=h;cases v<;>simp_all [Value.cells,Value.oneCell']
 case agg cs=>obtain⟨xs,rfl,hl⟩:=h;simpa [Value.cells] using hl
 case func=>obtain⟨xs,ys,rfl,h1,h2⟩:=h;exact⟨_,_,rfl,⟨xs,ys,rfl,h1,h2⟩,rfl⟩
 case vptr=>obtain⟨b,o,xs,rfl,h1,h2⟩:=h;exact⟨_,_,rfl,⟨b,o,xs,rfl,h1,h2⟩,rfl⟩
 case vslice=>obtain⟨a,cap,rfl,h1,h2⟩:=h;exact⟨_,_,rfl,⟨a,cap,rfl,h1,h2⟩,rfl⟩
 case oslice=>obtain⟨o,cap,rfl,h1⟩:=h;exact⟨_,_,rfl,⟨o,cap,rfl,h1⟩,rfl⟩
 case iface=>obtain⟨x,rfl,h1⟩:=h;exact⟨_,_,rfl,⟨x,rfl,h1⟩,rfl⟩
 case tuple=>obtain⟨xs,rfl,h1⟩:=h;exact⟨_,_,rfl,⟨xs,rfl,h1⟩,rfl⟩
 all_goals (subst h;exact⟨_,_,rfl,rfl,rfl⟩)
end Go.Dl

-- THE DATA LEVEL, PART B: what each operation, and each piece of code, asks and does at this level. Definitions alone.
namespace Go.Dl
open Go
mutual
def Cu:Value->DVal
 | .bool b=> .bool b
 | .int k n=> .int k n
 | .string ⟨⟨l⟩⟩=> .str l
 | .pointer none=> .nilPtr
 | .slice none 0 0=> .nilSlice
 | .map none=> .nilMap
 | .nilFunc=> .nilFunc
 | .nilIface=> .nilIface
 | .func fn ⟨a⟩ ⟨c⟩=> .func fn (Fq a) (Fq c)
 | .agg ⟨l⟩=> .agg (Fq l)
 | .tuple ⟨l⟩=> .tuple (Fq l)
 | v=> .raw v
def Fq:List Value->List DVal
 | []=> []
 | v::vs=>Cu v::Fq vs
end
def Ep (env:Nat->DVal) (dst:Option Nat) (v:DVal):Nat->DVal:=
 match dst with
 | some d=>upd env d v
 | none=>env
def Cr:DVal:= .tuple []
def dev (G:Nat->DVal) (env:Nat->DVal):Operand->DVal
 | .tmp t=>env t
 | .const v=>Cu v
 | .global g=>G g
 | .func f=> .func (.func f) [] []
def El (G:Nat->DVal) (env:Nat->DVal):List Operand->List DVal
 | []=> []
 | x::xs=>dev G env x::El G env xs
def Dv (P:Program) (t:TypeId):Option Bool:=
 match P.underlying t with
 | some (.struct _) | some (.array _ _)=>some true
 | some _=>some false
 | none=>none
def Ja (P:Program) (t:TypeId):Bool:=
 match P.underlying t with
 | some (.struct fs)=>fs.toList.all fun f=>(P.info? f.type).isSome
 | some (.array _ e)=>(P.info? e).isSome
 | _=>false
abbrev DK:=DS->Prop
def Bb (dst:Option Nat) (v:DVal) (K:DK) (s:DS):Prop:=K ⟨Ep s.env dst v,s.heap⟩
def Mz (dst:Option Nat):Option DVal->DK->DS->Prop
 | some v,K,s=>Bb dst v K s
 | none,_,_=>False
def Ak3 (cs:List DVal) (e:TypeId) (dst:Option Nat) (K:DK) (s:DS):Prop:=
 ∀r,s.heap r=none->K ⟨Ep s.env dst (.optr r 0),upd s.heap r (some (.cells cs e))⟩
def Zk (cs:List DVal) (e:TypeId) (sz len cap:Nat) (dst:Option Nat) (K:DK) (s:DS):Prop:=
 ∀r,s.heap r=none->K ⟨Ep s.env dst (.oslice sz r 0 len cap),upd s.heap r (some (.cells cs e))⟩
def Bm (P:Program) (t:TypeId):Option DVal:=((P.info? t).bind (·.zero)).map Cu
def Ck4 (e:TypeId) (dst:Option Nat):Option DVal->DK->DS->Prop
 | some z,K,s=>Ak3 z.cells e dst K s
 | none,_,_=>False
def Aw5 (dst:Option Nat):DVal->DVal->DVal->DK->DS->Prop
 | .bool t,a,b,K,s=>Bb dst (if t then a else b) K s
 | _,_,_,_,_=>False
def Ox (place:Nat->Option (Nat×Nat)) (cells:List DVal):List (Nat×DVal)->Option (List DVal)
 | []=>some cells
 | (i,v)::rest=>
  match place i with
  | none=>none
  | some (off,size)=>
   if v.cells.length=size/\off+v.cells.length<=cells.length then Ox place (cells.take off++v.cells++cells.drop (off+v.cells.length)) rest else none
def Bh3 (P:Program) (fields:Array Field) (i:Nat):Option (Nat×Nat):=(fields[i]?).map fun f=>(f.offset,P.cellsOf f.type)
def Zl (size:Nat) (i:Nat):Option (Nat×Nat):=some (i*size,size)
def Ap4 (P:Program) (dst:Option Nat):Bool->Option TypeDesc->Option DVal->List (Nat×DVal)->DK->DS->Prop
 | true,some (.struct fields),some z,parts,K,s=>Mz dst ((Ox (Bh3 P fields) z.cells parts).map .agg) K s
 | true,some (.array _ e),some z,parts,K,s=>Mz dst ((Ox (Zl (P.cellsOf e)) z.cells parts).map .agg) K s
 | _,_,_,_,_,_=>False
def Bj (n:Nat) (zs:List DVal):List DVal:=(List.replicate n zs).flatten
def Bh4 (e:TypeId) (sz len:Nat) (dst:Option Nat):Option (List DVal)->DK->DS->Prop
 | some cs,K,s=>Zk cs e sz len len dst K s
 | none,_,_=>False
def Tk (e:TypeId) (size len:Nat) (dst:Option Nat):Option DVal->List (Nat×DVal)->DK->DS->Prop
 | some z,parts,K,s=>len*size<=16777216/\z.cells.length=size/\Bh4 e size len dst (Ox (Zl size) (Bj len z.cells) parts) K s
 | none,_,_,_=>False
def Mj (P:Program) (len:Nat) (dst:Option Nat):Option TypeDesc->List (Nat×DVal)->DK->DS->Prop
 | some (.slice e),parts,K,s=>Tk e (P.cellsOf e) len dst (Bm P e) parts K s
 | _,_,_,_=>False
def Zm (size:Nat) (dst:Option Nat):Option Bool->List DVal->Nat->DK->DS->Prop
 | some true,cs,off,K,s=>off+size<=cs.length/\Bb dst (.agg ((cs.drop off).take size)) K s
 | some false,cs,off,K,s=>Mz dst cs[off]? K s
 | none,_,_,_,_=>False
def Ap5 (size:Nat) (ag:Option Bool) (dst:Option Nat) (off:Nat):Option DObj->DK->DS->Prop
 | some (.cells cs _),K,s=>Zm size dst ag cs off K s
 | _,_,_=>False
def Ak4 (size:Nat) (ag:Option Bool) (dst:Option Nat):DVal->DK->DS->Prop
 | .vptr cs off,K,s=>Zm size dst ag cs off K s
 | .optr r off,K,s=>Ap5 size ag dst off (s.heap r) K s
 | _,_,_=>False
def Cj (cs:List DVal) (off:Nat) (vs:List DVal):List DVal:=cs.take off++vs++cs.drop (off+vs.length)
def Bs3 (size:Nat) (r off:Nat) (v:DVal):Option DObj->DK->DS->Prop
 | some (.cells cs e),K,s=>v.cells.length=size/\(v.cells.all (·.one))=true/\off+size<=cs.length/\
   K ⟨s.env,upd s.heap r (some (.cells (Cj cs off v.cells) e))⟩
 | _,_,_=>False
def Ap6 (size:Nat):Option Nat->DVal->DVal->DK->DS->Prop
 | none, .optr r off,v,K,s=>Bs3 size r off v (s.heap r) K s
 | _,_,_,_,_=>False
def Rb (dst:Option Nat):DVal->DK->DS->Prop
 | .vptr cs off,K,s=>Bb dst (.vptr cs off) K s
 | .optr r off,K,s=>Bb dst (.optr r off) K s
 | .func (.func f) a c,K,s=>Bb dst (.func (.func f) a c) K s
 | .iface t v,K,s=>Bb dst (.iface t v) K s
 | .omap r,K,s=>Bb dst (.omap r) K s
 | _,_,_=>False
def Pg (c:Bool):Option TypeDesc->DVal->DVal->Option Bool
 | some .bool, .bool a, .bool b=>some (a==b)
 | some (.pointer _), .nilPtr, .nilPtr=>some true
 | some (.pointer _), .nilPtr, .optr _ _=>some false
 | some (.pointer _), .nilPtr, .vptr _ _=>some false
 | some (.pointer _), .optr _ _, .nilPtr=>some false
 | some (.pointer _), .vptr _ _, .nilPtr=>some false
 | some (.interface _), .nilIface, .iface _ _=>some false
 | some (.interface _), .iface _ _, .nilIface=>some false
 | some (.interface _), .nilIface, .nilIface=>if c then some true else none
 | some (.func _ _ _), .nilFunc, .nilFunc=>some true
 | some (.func _ _ _), .func _ _ _, .nilFunc=>some false
 | some (.func _ _ _), .nilFunc, .func _ _ _=>some false
 | some (.slice _), .nilSlice, .nilSlice=>some true
 | some (.slice _), .oslice _ _ _ _ _, .nilSlice=>some false
 | some (.slice _), .nilSlice, .oslice _ _ _ _ _=>some false
 | _,_,_=>none
def Dn4:Option Bool->Option Bool->Option Bool
 | some true,b=>b
 | some false,some _=>some false
 | _,_=>none
def Ft (size off:Nat) (xs:List DVal):Option Bool->List DVal
 | some true=>(xs.drop off).take size
 | some false=>(xs.drop off).take 1
 | none=> []
def Dz9:DVal->DVal->Option Bool
 | .bool a, .bool b=>some (decide (a=b))
 | .int k a, .int k' b=>if k=k' then some (decide (a=b)) else none
 | .str a, .str b=>some (decide (a=b))
 | _,_=>none
def Bs4 (f:TypeId->Nat->Option Bool):List Field->Option Bool
 | []=>some true
 | x::fs=>if x.name≠ "_" then Dn4 (f x.type x.offset) (Bs4 f fs) else none
def Aw6 (f:Nat->Option Bool):List Nat->Option Bool
 | []=>some true
 | i::is=>Dn4 (f i) (Aw6 f is)
def Aw7:List DVal->List DVal->Option Bool
 | [.bool a],[.bool b]=>some (decide (a=b))
 | _,_=>none
def Bs5:List DVal->List DVal->Option Bool
 | [.int k a],[.int k' b]=>if k=k' then some (decide (a=b)) else none
 | _,_=>none
def Bs6:List DVal->List DVal->Option Bool
 | [.str a],[.str b]=>some (decide (a=b))
 | _,_=>none
def Dj8 (P:Program) (f:TypeId->List DVal->List DVal->Option Bool) (fs:List Field) (xs ys:List DVal):Bool->Option Bool
 | true=>none
 | false=>Bs4 (fun u off=>f u (Ft (P.cellsOf u) off xs (Dv P u)) (Ft (P.cellsOf u) off ys (Dv P u))) fs
def Rp (P:Program) (f:TypeId->List DVal->List DVal->Option Bool) (t:TypeId) (xs ys:List DVal):Option TypeDesc->Option Bool
 | some .bool=>Aw7 xs ys
 | some (.int _)=>Bs5 xs ys
 | some .string=>Bs6 xs ys
 | some (.struct fs)=>Dj8 P f fs.toList xs ys (P.stoodInHeld t)
 | some (.array m e)=>if(P.info? e).isSome then Aw6 (fun i=>f e (Ft (P.cellsOf e) (i*P.cellsOf e) xs (Dv P e)) (Ft (P.cellsOf e) (i*P.cellsOf e) ys (Dv P e))) (List.range m) else none
 | _=>none
def Vl (P:Program):Nat->TypeId->List DVal->List DVal->Option Bool
 | 0,_,_,_=>none
 | n+1,t,xs,ys=>Rp P (Vl P n) t xs ys (P.underlying t)
def Yw (k:IntKind) (a b:Int) (dst:Option Nat) (K:DK) (s:DS):BinOp->Prop
 | .add=>Bb dst (.int k (k.wrap (a+b))) K s
 | .sub=>Bb dst (.int k (k.wrap (a-b))) K s
 | .mul=>Bb dst (.int k (k.wrap (a*b))) K s
 | .quo=>b≠0/\Bb dst (.int k (k.wrap (a.tdiv b))) K s
 | .rem=>b≠0/\Bb dst (.int k (a.tmod b)) K s
 | .and=>Bb dst (.int k (k.wrap (BitVec.ofInt k.bits a&&&BitVec.ofInt k.bits b).toNat)) K s
 | .or=>Bb dst (.int k (k.wrap (BitVec.ofInt k.bits a ||| BitVec.ofInt k.bits b).toNat)) K s
 | .xor=>Bb dst (.int k (k.wrap (BitVec.ofInt k.bits a^^^BitVec.ofInt k.bits b).toNat)) K s
 | .andNot=>Bb dst (.int k (k.wrap (BitVec.ofInt k.bits a&&& ~~~BitVec.ofInt k.bits b).toNat)) K s
 | .eql=>Bb dst (.bool (decide (a=b))) K s
 | .neq=>Bb dst (.bool (!decide (a=b))) K s
 | .lss=>Bb dst (.bool (decide (a<b))) K s
 | .leq=>Bb dst (.bool (decide (a<=b))) K s
 | .gtr=>Bb dst (.bool (decide (b<a))) K s
 | .geq=>Bb dst (.bool (decide (b<=a))) K s
 | _=>False
def Ap7 (k:IntKind) (a b:Int) (dst:Option Nat) (K:DK) (s:DS):BinOp->Prop
 | .shl=>0<=b/\Bb dst (.int k (k.wrap (a*2^(min b.toNat k.bits)))) K s
 | .shr=>0<=b/\Bb dst (.int k (a.fdiv (2^(min b.toNat k.bits)))) K s
 | _=>False
def Tl (a b:List UInt8) (dst:Option Nat) (K:DK) (s:DS):BinOp->Prop
 | .add=>a.length+b.length<=9223372036854775807/\Bb dst (.str (a++b)) K s
 | .eql=>Bb dst (.bool (decide (a=b))) K s
 | .neq=>Bb dst (.bool (!decide (a=b))) K s
 | .lss=>Bb dst (.bool (Go.Op.bytesLess a b)) K s
 | .leq=>Bb dst (.bool (Go.Op.bytesLess a b || decide (a=b))) K s
 | .gtr=>Bb dst (.bool (!(Go.Op.bytesLess a b || decide (a=b)))) K s
 | .geq=>Bb dst (.bool (!Go.Op.bytesLess a b)) K s
 | _=>False
def Mf:BinOp->Option Bool
 | .eql=>some false
 | .neq=>some true
 | _=>none
def Lk (dst:Option Nat):Option Bool->Option Bool->DK->DS->Prop
 | some false,some b,K,s=>Bb dst (.bool b) K s
 | some true,some b,K,s=>Bb dst (.bool (!b)) K s
 | _,_,_,_=>False
def Ei:BinOp->Bool
 | .shl | .shr=>true
 | _=>false
def Bs7 (op:BinOp) (k k':IntKind) (a b:Int) (dst:Option Nat) (K:DK) (s:DS):Bool->Prop
 | true=>Ap7 k a b dst K s op
 | false=>k=k'/\Yw k a b dst K s op
def Fa:Operand->Bool
 | .const _=>true
 | _=>false
def Km (P:Program) (t:TypeId) (c:Bool) (op:BinOp) (dst:Option Nat):DVal->DVal->DK->DS->Prop
 | .int k a, .int k' b,K,s=>Bs7 op k k' a b dst K s (Ei op)
 | .str a, .str b,K,s=>Tl a b dst K s op
 | .agg xs, .agg ys,K,s=>Dv P t=some true/\P.eqGuardType P.depth t=false/\Lk dst (Mf op) (Vl P 6 t xs ys) K s
 | x,y,K,s=>Lk dst (Mf op) (Pg c (P.underlying t) x y) K s
def Fu:Operand->Bool
 | .const (.slice none 0 0)=>true
 | _=>false
def Dn5:Option TypeDesc->Bool
 | some (.slice _)=>true
 | _=>false
def Dj9 (cs:List DVal) (op:BinOp) (dst:Option Nat) (K:DK) (s:DS):Prop:= ∀b,(cs≠ []->b=false)->Lk dst (Mf op) (some b) K s
def Xn (P:Program) (t:TypeId) (c:Bool) (op:BinOp) (dst:Option Nat):Bool->DVal->DVal->DK->DS->Prop
 | true, .vslice cs _,_,K,s=>Dn5 (P.underlying t)=true/\Dj9 cs op dst K s
 | _,x,y,K,s=>Km P t c op dst x y K s
def dUn (dst:Option Nat):UnOp->DVal->DK->DS->Prop
 | .not, .bool b,K,s=>Bb dst (.bool (!b)) K s
 | .neg, .int k n,K,s=>Bb dst (.int k (k.wrap (0-n))) K s
 | .xor, .int k n,K,s=>Bb dst (.int k (k.wrap (BitVec.ofInt k.bits (if k.signed then-1 else k.max)^^^BitVec.ofInt k.bits n).toNat)) K s
 | _,_,_,_=>False
def Tm (dst:Option Nat):Option TypeDesc->Option TypeDesc->DVal->DK->DS->Prop
 | some _,some (.int k), .int _ n,K,s=>Bb dst (.int k (k.wrap n)) K s
 | some _,some .string, .str l,K,s=>Bb dst (.str l) K s
 | _,_,_,_,_=>False
def Rq:List DVal->Option (List UInt8)
 | []=>some []
 | .int .u8 n::ds=>(Rq ds).map (UInt8.ofNat n.toNat:: ·)
 | _=>none
def Du3 (dst:Option Nat):Option (List UInt8)->DK->DS->Prop
 | some l,K,s=>Bb dst (.str l) K s
 | none,_,_=>False
def Bs8 (n off:Nat):Option DObj->Option (List DVal)
 | some (.cells cs _)=>if off+n<=cs.length then some ((cs.drop off).take n) else none
 | _=>none
def Sc (H:Ab):DVal->Option (List DVal)
 | .nilSlice=>some []
 | .vslice cs n=>if n<=cs.length then some (cs.take n) else none
 | .oslice _ r off n _=>Bs8 n off (H r)
 | _=>none
def Dn6 (P:Program) (e:TypeId) (x:DVal) (dst:Option Nat) (K:DK) (s:DS):Prop:=P.underlying e=some (.int .u8)/\Du3 dst ((Sc s.heap x).bind Rq) K s
def Ps (P:Program) (dst:Option Nat):Option TypeDesc->Option TypeDesc->DVal->DK->DS->Prop
 | some (.slice e),some .string,x,K,s=>Dn6 P e x dst K s
 | a,b,x,K,s=>Tm dst a b x K s
def Ap8 (dst:Option Nat):Option TypeDesc->DVal->DK->DS->Prop
 | some .string, .str l,K,s=> ∀r,s.heap r=none->K ⟨Ep s.env dst (.optr r 0),upd s.heap r (some (.iter l 0))⟩
 | _,_,_,_=>False
def Ll (l:List UInt8) (pos:Nat):Nat×Nat:=Utf8.decode ⟨⟨l⟩⟩ pos
def Bh5 (r:Nat) (dst:Option Nat) (K:DK) (s:DS):Option DObj->Prop
 | some (.iter l pos)=>(pos<l.length->K ⟨Ep s.env dst (.tuple [.bool true, .int .i64 pos, .int .i32 (Ll l pos).1]),upd s.heap r (some (.iter l (pos+(Ll l pos).2)))⟩)/\
   (¬pos<l.length->Bb dst (.tuple [.bool false]) K s)
 | _=>False
def Bs9 (dst:Option Nat):Bool->DVal->DK->DS->Prop
 | true, .optr r 0,K,s=>Bh5 r dst K s (s.heap r)
 | _,_,_,_=>False
def Cv:Option TypeDesc->Bool
 | some (.interface _) | none=>false
 | _=>true
def Nr (t:TypeId) (x:DVal) (dst:Option Nat):Bool->DK->DS->Prop
 | true,K,s=>Bb dst (.iface t x) K s
 | false,_,_=>False
def Xo (e:TypeId) (size bytes:Nat) (l c:Int) (dst:Option Nat):Option DVal->DK->DS->Prop
 | some z,K,s=>0<=l/\l<=c/\c*(bytes:Int)<=35184372088832/\c<9223372036854775808/\z.cells.length=size/\0<size/\Zk (Bj c.toNat z.cells) e size l.toNat c.toNat dst K s
 | none,_,_=>False
def Ns (P:Program) (dst:Option Nat):Option TypeDesc->DVal->DVal->DK->DS->Prop
 | some (.slice e), .int _ l, .int _ c,K,s=>Xo e (P.cellsOf e) (P.bytesOf e) l c dst (Bm P e) K s
 | _,_,_,_,_=>False
def dLo:Option DVal->Option Int
 | none=>some 0
 | some (.int _ n)=>some n
 | _=>none
def dHi (len:Nat):Option DVal->Option Int
 | none=>some len
 | some (.int _ n)=>some n
 | _=>none
def Vm (l:List UInt8) (dst:Option Nat) (K:DK) (s:DS):Option Int->Option Int->Prop
 | some lo,some hi=>0<=lo/\lo<=hi/\hi<=l.length/\Bb dst (.str ((l.drop lo.toNat).take (hi.toNat-lo.toNat))) K s
 | _,_=>False
def Tn (size:Nat) (cs:List DVal) (len:Nat) (dst:Option Nat) (K:DK) (s:DS):Option Int->Option Int->Prop
 | some lo,some hi=>0<=lo/\lo<=hi/\hi<=len/\Bb dst (.vslice ((cs.drop (lo.toNat*size)).take ((hi.toNat-lo.toNat)*size)) (hi.toNat-lo.toNat)) K s
 | _,_=>False
def Nu (size r off cap:Nat) (dst:Option Nat) (K:DK) (s:DS):Option Int->Option Int->Option Int->Prop
 | some lo,some hi,some mx=>0<=lo/\lo<=hi/\hi<=mx/\mx<=cap/\Bb dst (.oslice size r (off+lo.toNat*size) (hi.toNat-lo.toNat) (mx.toNat-lo.toNat)) K s
 | _,_,_=>False
def Ap9 (dst:Option Nat) (K:DK) (s:DS):Option Int->Option Int->Prop
 | some lo,some hi=>lo=0/\hi=0/\Bb dst .nilSlice K s
 | _,_=>False
def Dk0 (n:Nat):Option DObj->Prop
 | some (.cells cs _)=>n<=cs.length
 | _=>False
def Vn (P:Program) (lo hi:Option DVal) (dst:Option Nat):Option TypeDesc->DVal->Option DVal->DK->DS->Prop
 | some .string, .str l,none,K,s=>Vm l dst K s (dLo lo) (dHi l.length hi)
 | some (.slice e), .nilSlice,none,K,s=>(P.info? e).isSome=true/\Ap9 dst K s (dLo lo) (dHi 0 hi)
 | some (.slice e), .vslice cs len,none,K,s=>(P.info? e).isSome=true/\Tn (P.cellsOf e) cs len dst K s (dLo lo) (dHi len hi)
 | some (.slice e), .oslice sz r off len cap,none,K,s=>(P.info? e).isSome=true/\sz=P.cellsOf e/\Nu (P.cellsOf e) r off cap dst K s (dLo lo) (dHi len hi) (some cap)
 | some (.slice e), .oslice sz r off _ cap,some m,K,s=>(P.info? e).isSome=true/\sz=P.cellsOf e/\hi.isSome/\Nu (P.cellsOf e) r off cap dst K s (dLo lo) (dLo hi) (dLo (some m))
 | some (.array n e), .optr r off,none,K,s=>(P.info? e).isSome=true/\Dk0 (off+n*P.cellsOf e) (s.heap r)/\Nu (P.cellsOf e) r off n dst K s (dLo lo) (dHi n hi) (some n)
 | some (.array n e), .vptr cs off,none,K,s=>(P.info? e).isSome=true/\off+n*P.cellsOf e<=cs.length/\Tn (P.cellsOf e) ((cs.drop off).take (n*P.cellsOf e)) n dst K s (dLo lo) (dHi n hi)
 | _,_,_,_,_=>False
def Yx (n:Nat):DVal->Option DVal
 | .vptr cs off=>some (.vptr cs (off+n))
 | .optr r off=>some (.optr r (off+n))
 | _=>none
def Xp (P:Program) (x:DVal) (dst:Option Nat):Option Field->DK->DS->Prop
 | some f,K,s=>0<P.cellsOf f.type/\Mz dst (Yx f.offset x) K s
 | none,_,_=>False
def Lm (P:Program) (f:Nat) (x:DVal) (dst:Option Nat):Option TypeDesc->DK->DS->Prop
 | some (.struct fields),K,s=>Xp P x dst fields[f]? K s
 | _,_,_=>False
def Aw8 (size:Nat) (cs:List DVal) (off:Nat) (dst:Option Nat):Option Bool->DK->DS->Prop
 | some true,K,s=>Bb dst (.agg ((cs.drop off).take size)) K s
 | some false,K,s=>Mz dst cs[off]? K s
 | none,_,_=>False
def Bt0 (P:Program) (cs:List DVal) (dst:Option Nat):Option Field->DK->DS->Prop
 | some f,K,s=>Aw8 (P.cellsOf f.type) cs f.offset dst (Dv P f.type) K s
 | none,_,_=>False
def Zn (P:Program) (f:Nat) (dst:Option Nat):Option TypeDesc->DVal->DK->DS->Prop
 | some (.struct fields), .agg cs,K,s=>Bt0 P cs dst fields[f]? K s
 | _,_,_,_=>False
def Ln (P:Program) (dst:Option Nat):Option TypeDesc->DVal->DVal->DK->DS->Prop
 | some (.slice e), .vslice cs len, .int _ i,K,s=>(P.info? e).isSome=true/\0<=i/\i<len/\i.toNat*P.cellsOf e<cs.length/\Bb dst (.vptr cs (i.toNat*P.cellsOf e)) K s
 | some (.slice e), .oslice _ r off len _, .int _ i,K,s=>(P.info? e).isSome=true/\0<=i/\i<len/\Bb dst (.optr r (off+i.toNat*P.cellsOf e)) K s
 | some (.array n e),x, .int _ i,K,s=>(P.info? e).isSome=true/\0<=i/\i<n/\Mz dst (Yx (i.toNat*P.cellsOf e) x) K s
 | _,_,_,_,_=>False
def Zo (P:Program) (dst:Option Nat):Option TypeDesc->DVal->DVal->DK->DS->Prop
 | some (.array n e), .agg cs, .int _ i,K,s=>0<=i/\i<n/\Aw8 (P.cellsOf e) cs (i.toNat*P.cellsOf e) dst (Dv P e) K s
 | some .string, .str l, .int _ i,K,s=>0<=i/\Mz dst (l[i.toNat]?.map fun b=> .int .u8 b.toNat) K s
 | _,_,_,_,_=>False
def To (i:Nat) (dst:Option Nat):DVal->DK->DS->Prop
 | .tuple vs,K,s=>Mz dst vs[i]? K s
 | _,_,_=>False
def Zp (dst:Option Nat):Option DVal->DK->DS->Prop
 | some z,K,s=>Bb dst (.tuple [z, .bool false]) K s
 | none,_,_=>False
def Vo (v:DVal) (z:Option DVal) (dst:Option Nat):Bool->Bool->DK->DS->Prop
 | true,true,K,s=>Bb dst (.tuple [v, .bool true]) K s
 | true,false,K,s=>Zp dst z K s
 | false,true,K,s=>Bb dst v K s
 | false,false,_,_=>False
def Kg (P:Program) (asserted:TypeId) (commaOk:Bool) (dst:Option Nat):Bool->DVal->DK->DS->Prop
 | true, .iface t v,K,s=>Vo v (Bm P asserted) dst commaOk (decide (t=asserted)) K s
 | true, .nilIface,K,s=>commaOk=true/\Zp dst (Bm P asserted) K s
 | _,_,_,_=>False
def dLen (dst:Option Nat):Option TypeDesc->DVal->DK->DS->Prop
 | some .string, .str l,K,s=>Bb dst (.int .i64 l.length) K s
 | some (.array n _),_,K,s=>Bb dst (.int .i64 n) K s
 | some (.slice _), .nilSlice,K,s=>Bb dst (.int .i64 0) K s
 | some (.slice _), .vslice _ n,K,s=>Bb dst (.int .i64 n) K s
 | some (.slice _), .oslice _ _ _ n _,K,s=>Bb dst (.int .i64 n) K s
 | _,_,_,_=>False
def Bh6 (P:Program) (x:DVal) (dst:Option Nat):List TypeId->DK->DS->Prop
 | [t],K,s=>dLen dst (P.underlying t) x K s
 | _,_,_=>False
def Ak5 (size n off:Nat):Option DObj->Option (Nat×List DVal)
 | some (.cells cs _)=>some (n,(cs.drop off).take (n*size))
 | _=>none
def Pt (size:Nat) (H:Ab):DVal->Option (Nat×List DVal)
 | .nilSlice=>some (0,[])
 | .vslice cs n=>some (n,cs.take (n*size))
 | .oslice _ r off n _=>Ak5 size n off (H r)
 | .str l=>some (l.length,l.map fun b=> .int .u8 b.toNat)
 | _=>none
def Lo (e:TypeId) (size bytes:Nat) (r off len lo:Nat) (n:Nat) (news:List DVal) (dst:Option Nat) (K:DK) (s:DS):Option DObj->Prop
 | some (.cells cs e')=>e'=e/\
  (len+n<=lo->off+(len+n)*size<=cs.length/\
    K ⟨Ep s.env dst (.oslice size r off (len+n) lo),upd s.heap r (some (.cells (Cj cs (off+len*size) news) e))⟩)/\
  (¬len+n<=lo->off+len*size<=cs.length/\(len+n)*bytes<=35184372088832/\
   ∀r' pre,upd s.heap r none r'=none->(off=0->pre= [])->
    K ⟨Ep s.env dst (.oslice size r' pre.length (len+n) (len+n)),upd (if len<=lo\/r'=r then upd s.heap r none else s.heap) r' (some (.cells (pre++(cs.drop off).take (len*size)++news) e))⟩)
 | _=>False
def Jn (e:TypeId) (size bytes:Nat) (n:Nat) (news:List DVal) (dst:Option Nat):DVal->DK->DS->Prop
 | .nilSlice,K,s=>(n=0->Bb dst .nilSlice K s)/\(n≠0->n*bytes<=35184372088832/\Zk news e size n n dst K s)
 | .oslice sz r off len lo,K,s=>sz=size/\Lo e size bytes r off len lo n news dst K s (s.heap r)
 | _,_,_=>False
def Aw9 (e:TypeId) (size bytes:Nat) (x:DVal) (dst:Option Nat):Option (Nat×List DVal)->DK->DS->Prop
 | some (n,news),K,s=>news.length=n*size/\news.all (·.one)=true/\Jn e size bytes n news dst x K s
 | none,_,_=>False
def Vp:Option TypeDesc->Bool
 | some (.slice _)=>true
 | some .string=>true
 | _=>false
def Yy (P:Program) (u':Bool) (x y:DVal) (dst:Option Nat):Option TypeDesc->DK->DS->Prop
 | some (.slice e),K,s=>u'=true/\(Bm P e).isSome=true/\(Bm P e).all (fun z=>z.cells.length=P.cellsOf e)=true/\0<P.cellsOf e/\0<P.bytesOf e/\Aw9 e (P.cellsOf e) (P.bytesOf e) x dst (Pt (P.cellsOf e) s.heap y) K s
 | _,_,_=>False
def Ck5 (dst:Option Nat):Option TypeDesc->DVal->DK->DS->Prop
 | some (.slice _), .nilSlice,K,s=>Bb dst (.int .i64 0) K s
 | some (.slice _), .vslice _ n,K,s=> ∀c:Nat,n<=c->Bb dst (.int .i64 c) K s
 | some (.slice _), .oslice _ _ _ n lo,K,s=> ∀c:Nat,n<=c->lo<=c->Bb dst (.int .i64 c) K s
 | _,_,_,_=>False
def Ck6 (P:Program) (x:DVal) (dst:Option Nat):List TypeId->DK->DS->Prop
 | [t],K,s=>Ck5 dst (P.underlying t) x K s
 | _,_,_=>False
def Zq (e:TypeId) (size bytes:Nat) (dst:Option Nat):DVal->DVal->Option DVal->DK->DS->Prop
 | .nilSlice, .int .i64 n,some z,K,s=>0<=n/\0<size/\(n=0->Bb dst .nilSlice K s)/\(n≠0->n*bytes<=35184372088832/\n<=35184372088832/\z.cells.length=size/\Zk (Bj n.toNat z.cells) e size n.toNat n.toNat dst K s)
 | _,_,_,_,_=>False
def Bt1 (size:Nat) (r off n:Nat) (dst:Option Nat) (K:DK) (s:DS) (z:List DVal):Option DObj->Prop
 | some (.cells cs e)=>z.length=size/\z.all (·.one)=true/\off+n*size<=cs.length/\K ⟨Ep s.env dst (.tuple []),upd s.heap r (some (.cells (Cj cs off (Bj n z)) e))⟩
 | _=>False
def Aq0 (size:Nat) (dst:Option Nat):Option DVal->DVal->DK->DS->Prop
 | some _, .nilSlice,K,s=>Bb dst (.tuple []) K s
 | some z, .oslice sz r off n lo,K,s=>sz=size/\n<=lo/\Bt1 size r off n dst K s z.cells (s.heap r)
 | _,_,_,_=>False
def Zr (P:Program) (dst:Option Nat):Option TypeDesc->DVal->DK->DS->Prop
 | some (.slice e),x,K,s=>Aq0 (P.cellsOf e) dst (Bm P e) x K s
 | _,_,_,_=>False
def Ax0 (P:Program) (x:DVal) (dst:Option Nat):List TypeId->DK->DS->Prop
 | [t],K,s=>Zr P dst (P.underlying t) x K s
 | _,_,_=>False
def Jo:Option TypeDesc->Bool
 | some (.int _)=>true
 | _=>false
def Tp (P:Program) (x y:DVal) (dst:Option Nat):Option TypeDesc->DK->DS->Prop
 | some (.slice e),K,s=>Zq e (P.cellsOf e) (P.bytesOf e) dst x y (Bm P e) K s
 | _,_,_=>False
def Tq (P:Program) (x y:DVal) (dst:Option Nat):Bool->Bool->Option TypeDesc->DK->DS->Prop
 | true,_,t,K,s=>Tp P x y dst t K s
 | false,u',t,K,s=>Yy P u' x y dst t K s
def Vq (P:Program) (x y:DVal) (dst:Option Nat):List TypeId->DK->DS->Prop
 | [t,t'],K,s=>Tq P x y dst (Jo (P.underlying t')) (Vp (P.underlying t')) (P.underlying t) K s
 | _,_,_=>False
def Pu:DVal->DVal->Option Bool
 | .int k a, .int k' b=>if k=k' then some (decide (a=b)) else none
 | .str a, .str b=>some (decide (a=b))
 | .bool a, .bool b=>some (decide (a=b))
 | .agg [.bool a, .bool b], .agg [.bool c, .bool d]=>some (decide (a=c)&&decide (b=d))
 | _,_=>none
def Sd (i:Nat) (r:Option (Option Nat)):Option Bool->Option (Option Nat)
 | some true=>some (some i)
 | some false=>r
 | none=>none
def Jb (k:DVal):List (DVal×DVal)->Nat->Option (Option Nat)
 | [],_=>some none
 | p::es,i=>Sd i (Jb k es (i+1)) (Pu k p.1)
def Mk:Option TypeDesc->DVal->Bool
 | some (.int k), .int k' _=>decide (k=k')
 | some .string, .str _=>true
 | some .bool, .bool _=>true
 | _,_=>false
def Bt2:Option TypeDesc->Bool
 | some .bool=>true
 | _=>false
def Ak6 (P:Program):Option TypeDesc->Bool
 | some (.array 2 e)=>Bt2 (P.underlying e)&&(P.info? e).isSome&&P.cellsOf e==1
 | _=>false
def Pv (P:Program) (t:Option TypeDesc):DVal->Bool
 | .agg [.bool _, .bool _]=>Ak6 P t
 | k=>Mk t k
def Da0 (es:List (DVal×DVal)) (k v:DVal):Option Nat->List (DVal×DVal)
 | some i=>es.set i (k,v)
 | none=>es++ [(k,v)]
def Tr (r:Nat) (es:List (DVal×DVal)) (k v:DVal) (K:DK) (s:DS):Option (Option Nat)->Prop
 | some i=>K ⟨s.env,upd s.heap r (some (.map (Da0 es k v i)))⟩
 | none=>False
def Zs (r:Nat) (k v:DVal) (K:DK) (s:DS):Option DObj->Prop
 | some (.map es)=>v.one=true/\Tr r es k v K s (Jb k es 0)
 | _=>False
def Rc (P:Program) (dst:Option Nat):Option TypeDesc->DVal->DVal->DVal->DK->DS->Prop
 | some (.map kt _), .omap r,k,v,K,s=>dst=none/\Pv P (P.underlying kt) k=true/\Zs r k v K s (s.heap r)
 | _,_,_,_,_,_=>False
def Bh7 (ok:Bool) (dst:Option Nat) (v:DVal) (b:Bool) (K:DK) (s:DS):Prop:=Bb dst (if ok then .tuple [v, .bool b] else v) K s
def Zt (es:List (DVal×DVal)) (ok:Bool) (dst:Option Nat):Option DVal->Option (Option Nat)->DK->DS->Prop
 | _,some (some i),K,s=> ∃p,es[i]? =some p/\Bh7 ok dst p.2 true K s
 | some z,some none,K,s=>Bh7 ok dst z false K s
 | _,_,_,_=>False
def Bh8 (z:Option DVal) (k:DVal) (ok:Bool) (dst:Option Nat):Option DObj->DK->DS->Prop
 | some (.map es),K,s=>Zt es ok dst z (Jb k es 0) K s
 | _,_,_=>False
def Yz (P:Program) (ok:Bool) (dst:Option Nat):Option TypeDesc->DVal->DVal->DK->DS->Prop
 | some (.map kt e), .omap r,k,K,s=>Pv P (P.underlying kt) k=true/\Bh8 (Bm P e) k ok dst (s.heap r) K s
 | some (.map kt e), .nilMap,k,K,s=>Pv P (P.underlying kt) k=true/\Zt [] ok dst (Bm P e) (some none) K s
 | _,_,_,_,_=>False
def Ax1 (es:List (DVal×DVal)):Option Nat->List (DVal×DVal)
 | some i=>es.eraseIdx i
 | none=>es
def Zu (r:Nat) (es:List (DVal×DVal)) (dst:Option Nat) (K:DK) (s:DS):Option (Option Nat)->Prop
 | some i=>K ⟨Ep s.env dst (.tuple []),upd s.heap r (some (.map (Ax1 es i)))⟩
 | none=>False
def Zv (r:Nat) (k:DVal) (dst:Option Nat) (K:DK) (s:DS):Option DObj->Prop
 | some (.map es)=>Zu r es dst K s (Jb k es 0)
 | _=>False
def Ts (P:Program) (dst:Option Nat):Option TypeDesc->DVal->DVal->DK->DS->Prop
 | some (.map kt _), .omap r,k,K,s=>Pv P (P.underlying kt) k=true/\Zv r k dst K s (s.heap r)
 | _,_,_,_,_=>False
def Ak7 (P:Program) (x k:DVal) (dst:Option Nat):List TypeId->DK->DS->Prop
 | t::_,K,s=>Ts P dst (P.underlying t) x k K s
 | _,_,_=>False
def Dk1 (dst:Option Nat) (K:DK) (s:DS):Prop:=
 ∀r,s.heap r=none->K ⟨Ep s.env dst (.omap r),upd s.heap r (some (.map []))⟩
def Pw (dst:Option Nat):Option TypeDesc->Option DVal->DK->DS->Prop
 | some (.map _ _),none,K,s=>Dk1 dst K s
 | some (.map _ _),some (.int _ _),K,s=>Dk1 dst K s
 | _,_,_,_=>False
def dMM (isMax:Bool):DVal->DVal->Option DVal
 | .int k x, .int _ y=>some (.int k (if isMax then(if y>x then y else x) else(if y<x then y else x)))
 | _,_=>none
def Px (isMax:Bool):Option DVal->List DVal->Option DVal
 | a,[]=>a
 | some x,y::ys=>Px isMax (dMM isMax x y) ys
 | none,_=>none
def Re (isMax:Bool):List DVal->Option DVal
 | []=>none
 | x::rest=>Px isMax (some x) rest
def Bh9 (dst:Option Nat) (K:DK) (Q:DExit->DS->Prop) (env:Nat->DVal):DEnd->Ab->Prop
 | .ret v,H=>K ⟨Ep env dst v,H⟩
 | .panic v,H=>Q (.panic v) ⟨env,H⟩
def Zw (P:Program) (G:Nat->DVal) (args:List DVal) (dst:Option Nat) (Q:DExit->DS->Prop):DVal->DK->DS->Prop
 | .func (.func k) first captured,K,s=>Ae P G k (first++args++captured) s.heap (Bh9 dst K Q s.env)
 | .func (.yield l) [] [],K,s=>Yv P G l args s.heap (Bh9 dst K Q s.env)
 | _,_,_=>False
def Se (Q:DExit->DS->Prop) (s:DS):DVal->Prop
 | .iface t v=>Q (.panic (.iface t v)) s
 | _=>False
def Hv (P:Program) (ts:List TypeId) (dst:Option Nat) (Q:DExit->DS->Prop):Builtin->List DVal->DK->DS->Prop
 | .len,[x],K,s=>Bh6 P x dst ts K s
 | .append,[x,y],K,s=>Vq P x y dst ts K s
 | .cap,[x],K,s=>Ck6 P x dst ts K s
 | .clear,[x],K,s=>Ax0 P x dst ts K s
 | .delete,[x,k],K,s=>Ak7 P x k dst ts K s
 | .min,xs,K,s=>Mz dst (Re false xs) K s
 | .max,xs,K,s=>Mz dst (Re true xs) K s
 | .panic,[x],_,s=>Se Q s x
 | _,_,_,_=>False
def Nv (P:Program) (G:Nat->DVal) (c:Call) (dst:Option Nat) (K:DK) (Q:DExit->DS->Prop) (s:DS):Callee->Prop
 | .value f=>Zw P G (El G s.env c.args.toList) dst Q (dev G s.env f) K s
 | .builtin b=>Hv P c.argTypes.toList dst Q b (El G s.env c.args.toList) K s
 | .invoke _ _=>False
def Hq (G:Nat->DVal) (env:Nat->DVal):List (Nat×Operand)->List (Nat×DVal)
 | []=> []
 | (i,x)::ps=>(i,dev G env x)::Hq G env ps
def Kn (G:Nat->DVal) (env:Nat->DVal):Option Operand->Option DVal
 | some x=>some (dev G env x)
 | none=>none
def dop (P:Program) (G:Nat->DVal) (dst:Option Nat) (K:DK) (Q:DExit->DS->Prop) (s:DS):Op->Prop
 | .move x=>Bb dst (dev G s.env x) K s
 | .assign x=>Bb dst (dev G s.env x) K s
 | .pick c a b=>Aw5 dst (dev G s.env c) (dev G s.env a) (dev G s.env b) K s
 | .alloc e=>Ck4 e dst (Bm P e) K s
 | .box e x=>Ak3 (dev G s.env x).cells e dst K s
 | .build t ps=>Ap4 P dst (Ja P t) (P.underlying t) (Bm P t) (Hq G s.env ps.toList) K s
 | .buildSlice t n ps=>Mj P n dst (P.underlying t) (Hq G s.env ps.toList) K s
 | .load t a=>Ak4 (P.cellsOf t) (Dv P t) dst (dev G s.env a) K s
 | .store t a x=>(P.info? t).isSome=true/\Ap6 (P.cellsOf t) dst (dev G s.env a) (dev G s.env x) K s
 | .nilCheck x=>Rb dst (dev G s.env x) K s
 | .binOp op t x y _=>Xn P t (Fa x || Fa y) op dst (Fu y) (dev G s.env x) (dev G s.env y) K s
 | .unOp op _ x=>dUn dst op (dev G s.env x) K s
 | .convert src t x=>Ps P dst (P.underlying src) (P.underlying t) (dev G s.env x) K s
 | .makeInterface t x=>Nr t (dev G s.env x) dst (Cv (P.underlying t)) K s
 | .makeFunc fn fs cs=>Bb dst (.func fn (El G s.env fs.toList) (El G s.env cs.toList)) K s
 | .makeMap t r=>Pw dst (P.underlying t) (Kn G s.env r) K s
 | .lookup t x k ok=>Yz P ok dst (P.underlying t) (dev G s.env x) (dev G s.env k) K s
 | .mapUpdate t m k x=>Rc P dst (P.underlying t) (dev G s.env m) (dev G s.env k) (dev G s.env x) K s
 | .insert t m k x=>Rc P dst (P.underlying t) (dev G s.env m) (dev G s.env k) (dev G s.env x) K s
 | .makeSlice t l c=>Ns P dst (P.underlying t) (dev G s.env l) (dev G s.env c) K s
 | .slice t x lo hi mx=>Vn P (Kn G s.env lo) (Kn G s.env hi) dst (P.underlying t) (dev G s.env x) (Kn G s.env mx) K s
 | .fieldAddr t x f=>Lm P f (dev G s.env x) dst (P.underlying t) K s
 | .field t x f=>Zn P f dst (P.underlying t) (dev G s.env x) K s
 | .indexAddr t x i=>Ln P dst (P.underlying t) (dev G s.env x) (dev G s.env i) K s
 | .index t x i=>Zo P dst (P.underlying t) (dev G s.env x) (dev G s.env i) K s
 | .typeAssert x _ t ok=>Kg P t ok dst (Cv (P.underlying t)) (dev G s.env x) K s
 | .extract x i=>To i dst (dev G s.env x) K s
 | .panic x=>Se Q s (dev G s.env x)
 | .range t x=>Ap8 dst (P.underlying t) (dev G s.env x) K s
 | .next x b=>Bs9 dst b (dev G s.env x) K s
 | .call c=>Nv P G c dst K Q s c.callee
 | _=>False
def Ml:List Oper->Nat->Option Nat
 | [],_=>none
 | o::_,0=>o.dst
 | _::r,n+1=>Ml r n
def Ku (P:Program) (G:Nat->DVal) (all:List Oper) (Q:DExit->DS->Prop):List Oper->DS->Prop
 | [],s=>Q .normal s
 | o::rest,s=>
  match o.guard with
  | none=>dop P G o.dst (Ku P G all Q rest) Q s o.op
  | some (j,b)=>match Ml all j with
   | some g=>match s.env g with
    | .bool v=>(v=b->dop P G o.dst (Ku P G all Q rest) Q s o.op)/\(v≠b->Bb o.dst Cr (Ku P G all Q rest) s)
    | .tuple []=>Bb o.dst Cr (Ku P G all Q rest) s
    | _=>False
   | none=>False
def Vr (P:Program) (G:Nat->DVal) (all:List Oper) (Q:DExit->DS->Prop) (dst:Option Nat) (op:Op) (rest:List Oper) (s:DS):Bool->DVal->Prop
 | true, .bool true=>dop P G dst (Ku P G all Q rest) Q s op
 | true, .bool false=>Bb dst Cr (Ku P G all Q rest) s
 | false, .bool true=>Bb dst Cr (Ku P G all Q rest) s
 | false, .bool false=>dop P G dst (Ku P G all Q rest) Q s op
 | true, .tuple []=>Bb dst Cr (Ku P G all Q rest) s
 | false, .tuple []=>Bb dst Cr (Ku P G all Q rest) s
 | _,_=>False
def Aq1 (P:Program) (G:Nat->DVal) (all:List Oper) (Q:DExit->DS->Prop) (dst:Option Nat) (op:Op) (rest:List Oper) (s:DS) (b:Bool):Option Nat->Prop
 | some g=>Vr P G all Q dst op rest s b (s.env g)
 | none=>False
def Xq (W:DK) (Q:DExit->DS->Prop):DExit->DS->Prop
 | .normal,s=>W s
 | .exit id,s=>Q (.exit id) s
 | .goto l,s=>Q (.goto l) s
 | .ret,s=>Q .ret s
 | .panic v,s=>Q (.panic v) s
def Aq2 (Q:DExit->DS->Prop) (s:DS) (id':Nat):Bool->Prop
 | true=>Q .normal s
 | false=>Q (.exit id') s
def Aq3 (id:Nat) (Q:DExit->DS->Prop):DExit->DS->Prop
 | .exit id',s=>Aq2 Q s id' (decide (id'=id))
 | .normal,s=>Q .normal s
 | .goto l,s=>Q (.goto l) s
 | .ret,s=>Q .ret s
 | .panic v,s=>Q (.panic v) s
def Bt3 (Q:DExit->DS->Prop):DExit->DS->Prop
 | .goto _,_=>False
 | .exit id,s=>Q (.exit id) s
 | .normal,s=>Q .normal s
 | .ret,s=>Q .ret s
 | .panic v,s=>Q (.panic v) s
def Ax2 (X Y:DK) (s:DS):DVal->Prop
 | .bool true=>X s
 | .bool false=>Y s
 | _=>False
def Lq (G:Nat->DVal) (s s':DS):Prop:=
 ∀w,Av w s.heap->GOk G w s.heap->Av w s'.heap/\(∀b,s'.heap b≠none->s.heap b≠none)/\GOk G w s'.heap/\ ∀i x,Rel w s.heap (s.env i) x->Rel w s'.heap (s'.env i) x
def Bt4 (G:Nat->DVal) (body:(DExit->DS->Prop)->DK) (Q:DExit->DS->Prop) (s:DS):Prop:=
 ∃(ι:Type) (I:ι->DS->Prop) (μ:ι->Nat),(∃i s',Lq G s s'/\I i s')/\ ∀i s,I i s->body (Xq (fun s1=> ∃j s2,Lq G s1 s2/\I j s2/\μ j<μ i) Q) s
def dwp (P:Program) (G:Nat->DVal) (N:Nat):Code->(DExit->DS->Prop)->DS->Prop
 | .skip,Q,s=>Q .normal s
 | .label _,Q,s=>Q .normal s
 | .region _ ops false,Q,s=>Ku P G ops.toList Q ops.toList s
 | .region id ops true,Q,s=>DWp P G N (.region id ops true) Q s
 | .seq a b,Q,s=>dwp P G N a (Xq (dwp P G N b Q) Q) s
 | .cond c a b,Q,s=>Ax2 (dwp P G N a Q) (dwp P G N b Q) s (dev G s.env c)
 | .block id c,Q,s=>dwp P G N c (Aq3 id Q) s
 | .loop c,Q,s=>Bt4 G (dwp P G N c) Q s
 | .exit id,Q,s=>Q (.exit id) s
 | .goto l,Q,s=>Q (.goto l) s
 | .ret,Q,s=>Q .ret s
 | .rangeFunc f ps asg body,Q,s=>Du2 P G N (.rangeFunc f ps asg body) Q s
 | .scope c,Q,s=>dwp P G N c (Bt3 Q) s
 | .refuse _,_,_=>False
def Bf (N:Nat):Operand->Bool
 | .tmp t=>decide (t<N)
 | _=>true
def Gr (N:Nat) (o:Oper):Bool:=
 (match o.dst with | some d=>decide (d<N) | none=>true)&&o.op.operands.all (Bf N)
def Fe (N:Nat):Code->Bool
 | .region _ ops _=>ops.all (Gr N)
 | .seq a b=>Fe N a&&Fe N b
 | .cond c a b=>Bf N c&&Fe N a&&Fe N b
 | .block _ c=>Fe N c
 | .loop c=>Fe N c
 | .scope c=>Fe N c
 | .rangeFunc f _ a b=>Bf N f&&Fe N a&&Fe N b
 | _=>true
@[go_sem] theorem Du0 (P:Program) (t:Option TypeDesc) (k:IntKind) (n:Int):Pv P t (.int k n)=Mk t (.int k n):=rfl
@[go_sem] theorem Du1 (P:Program) (t:Option TypeDesc) (l:List UInt8):Pv P t (.str l)=Mk t (.str l):=rfl
@[go_sem] theorem Dn7 (P:Program) (t:Option TypeDesc) (b:Bool):Pv P t (.bool b)=Mk t (.bool b):=rfl
theorem Mm {P:Program} {s:DS} {t:TypeId} {c:Bool} {op:BinOp} {dst:Option Nat} {x y:DVal} {K:DK}:Xn P t c op dst false x y K s=Km P t c op dst x y K s:=by cases x<;>rfl
end Go.Dl

-- THE DATA LEVEL, PART S: what the data level says of an operation is true of the model's operation: the world, memory.
namespace Go.Dl
open Go
section
variable {P:Program} {G:Nat->DVal} {N:Fr}
mutual
theorem Ej (w:World) (H:Ab): ∀v:Value,Rel w H (Cu v) v
 | .bool b=>by simp [Cu,Rel]
 | .int k n=>by simp [Cu,Rel]
 | .string ⟨⟨l⟩⟩=>by simp [Cu,Rel]
 | .pointer none=>by simp [Cu,Rel]
 | .pointer (some a)=>by simp [Cu,Rel,Value.oneCell']
 | .slice a n c=>by
  by_cases h:a=none/\n=0/\c=0
  ·obtain⟨rfl,rfl,rfl⟩:=h;simp [Cu,Rel]
  ·have:Cu (.slice a n c)= .raw (.slice a n c):=by
    cases a with
    | none=>cases n with
     | zero=>cases c with
      | zero=>simp at h
      | succ c=>rfl
     | succ n=>rfl
    | some a=>rfl
   rw[this];simp [Rel,Value.oneCell']
 | .map none=>by simp [Cu,Rel]
 | .map (some r)=>by simp [Cu,Rel,Value.oneCell']
 | .chan r=>by simp [Cu,Rel,Value.oneCell']
 | .float k b=>by simp [Cu,Rel,Value.oneCell']
 | .complex k a b=>by simp [Cu,Rel,Value.oneCell']
 | .nilFunc=>by simp [Cu,Rel]
 | .nilIface=>by simp [Cu,Rel]
 | .iface t v=>by simp [Cu,Rel,Value.oneCell']
 | .func fn ⟨a⟩ ⟨c⟩=>by
  simp only[Cu,Rel]
  exact⟨_,_,rfl,Lr w H a,Lr w H c⟩
 | .agg ⟨l⟩=>by
  simp only[Cu,Rel]
  exact⟨_,rfl,Lr w H l⟩
 | .tuple ⟨l⟩=>by
  simp only[Cu,Rel]
  exact⟨_,rfl,Lr w H l⟩
theorem Lr (w:World) (H:Ab): ∀vs:List Value,An w H (Fq vs) vs
 | []=>by simp [Fq,An]
 | v::vs=>by
  simp only[Fq,An]
  exact⟨v,vs,rfl,Ej w H v,Lr w H vs⟩
end
theorem Nw (w:World) (H:Ab):Rel w H Cr undef:=by
 simp only[Cr,undef,Rel];exact⟨#[],rfl,by simp [An]⟩
theorem Ax {s:DS} {a:Act} {w:World} (hS:Sim G N s a w) {x:Operand} (hx:Bf N x=true):Rel w s.heap (dev G s.env x) (a.eval x):=by
 cases x with
 | tmp t=>exact hS.tmps t (by simpa [Bf] using hx)
 | const v=>exact Ej w s.heap v
 | global g=>exact hS.glob.rel g
 | func f=>
  simp only[dev,Act.eval,Rel];exact⟨#[], #[],rfl,by simp [An],by simp [An]⟩
theorem Ls {s:DS} {a:Act} {w:World} (hS:Sim G N s a w): ∀ {xs:List Operand},xs.all (Bf N)=true->An w s.heap (El G s.env xs) (xs.map a.eval)
 | [],_=>by simp [El,An]
 | x::xs,h=>by
  simp only[List.all_cons,jF] at h;simp only[El,An,jN];exact⟨_,_,rfl,Ax hS h.1,Ls hS h.2⟩
def Bu (N:Nat):Option Nat->Bool
 | some d=>decide (d<N)
 | none=>true
theorem GOk.lasts {H H':Ab} {w w':World} (h:Lasts H w H' w') (hg:GOk G w H):GOk G w' H':=⟨fun g=>Rel.lasts h _ _ (hg.rel g),fun g cs e=>by
 have k:=hg.exact g cs e;rw[h.keep g ?_];exact k;rcases Nat.lt_or_ge g w.heap.size with hl | hl
 ·exact hl
 ·rw[Array.getElem?_eq_none hl] at k;cases k⟩
theorem Sim.ext {s:DS} {a:Act} {w w':World} {H':Ab} (hS:Sim G N s a w) (hE:Ext s.heap w H' w') (hH:Av w' H'):Sim G N ⟨s.env,H'⟩ a w':=
 ⟨hS.size,hS.defers.ext hE,fun i hi=>Rel.lasts hE.lasts _ _ (hS.tmps i hi),hH,hS.glob.lasts hE.lasts,Nat.le_trans hS.base hE.size⟩
theorem Sim.put {s:DS} {a:Act} {w:World} (hS:Sim G N s a w) {dst:Option Nat} (hd:Bu N dst=true) {v:DVal} {x:Value} (hv:Rel w s.heap v x):
  Sim G N ⟨Ep s.env dst v,s.heap⟩ (a.put dst x) w:=by
 cases dst with
 | none=>exact hS
 | some d=>
  have hd':d<N:=by simpa [Bu] using hd
  refine⟨by simpa [Act.put] using hS.size,by simpa [Act.put] using hS.defers,fun i hi=> ?_,hS.heap,hS.glob,hS.base⟩;have hsz:=hS.size;simp only[Act.put,Ep,upd];by_cases e:i=d
  ·subst e;have:(a.tmps.setIfInBounds i x).getD i undef=x:=by simp [Array.getD,hsz,hi]
   rw[this,if_pos rfl];exact hv
  ·have h1:(a.tmps.setIfInBounds d x).getD i undef=a.tmps.getD i undef:=by
    simp [Array.getD,hsz,hi,Array.getElem_setIfInBounds,Ne.symm e]
   rw[h1,if_neg e];exact hS.tmps i hi
def Fd (G:Nat->DVal) (N:Fr) (K:DK) (s:DS) (w:World):Act->World->Prop:=
 fun a' w'=> ∃s',K s'/\Sim G N s' a' w'/\Ext s.heap w s'.heap w'
def Kp (G:Nat->DVal) (N:Fr) (Q:DExit->DS->Prop) (s:DS) (w:World):Exit->Act->World->Prop:=
 fun e a' w'=> ∃e' s',Q e' s'/\RelX w' s'.heap e' e/\Sim G N s' a' w'/\Ext s.heap w s'.heap w'
variable {o:Oper} {s:DS} {a:Act} {w:World} {K:DK} {Qx:Exit->Act->World->Prop}
theorem Fh {w':World} {H':Ab} {v:DVal} {x:Value} (hS:Sim G N s a w) (hd:Bu N o.dst=true) (hrun:(execOp a.eval o).run P w= .ok (.value x) w')
  (hE:Ext s.heap w H' w') (hH:Av w' H') (hv:Rel w' H' v x) (hK:K ⟨Ep s.env o.dst v,H'⟩):o.wp P a w (Fd G N K s w) Qx:=by
 unfold Oper.wp;rw[hrun];exact⟨_,hK,(hS.ext hE hH).put hd hv,hE⟩
theorem Gg {v:DVal} {x:Value} (hS:Sim G N s a w) (hd:Bu N o.dst=true) (hrun:(execOp a.eval o).run P w= .ok (.value x) w)
  (hv:Rel w s.heap v x) (hK:Bb o.dst v K s):o.wp P a w (Fd G N K s w) Qx:=
 Fh hS hd hrun (Ext.refl _ _) hS.heap hv hK
def PV (P:Program) (o:Oper) (s:DS) (a:Act) (w:World) (K:DK):Prop:=
 ∃d x,(execOp a.eval o).run P w= .ok (.value x) w/\Rel w s.heap d x/\Bb o.dst d K s
theorem pvI {v:DVal} {x:Value} (_hS:Sim G N s a w) (_hd:Bu N o.dst=true) (hrun:(execOp a.eval o).run P w= .ok (.value x) w)
  (hv:Rel w s.heap v x) (hK:Bb o.dst v K s):PV P o s a w K:=⟨v,x,hrun,hv,hK⟩
theorem PV.wp (h:PV P o s a w K) (hS:Sim G N s a w) (hd:Bu N o.dst=true):o.wp P a w (Fd G N K s w) Qx:=by
 obtain⟨d,x,h1,h2,h3⟩:=h;exact Gg hS hd h1 h2 h3
theorem Nx {k:IntKind} {n:Int} (hS:Sim G N s a w) (hd:Bu N o.dst=true) (hrun:(execOp a.eval o).run P w= .ok (.value (.int k n)) w) (hK:Bb o.dst (.int k n) K s):PV P o s a w K:=
 pvI hS hd hrun (by simp [Rel]) hK
theorem Za {b:Bool} (hS:Sim G N s a w) (hd:Bu N o.dst=true) (hrun:(execOp a.eval o).run P w= .ok (.value (.bool b)) w) (hK:Bb o.dst (.bool b) K s):PV P o s a w K:=
 pvI hS hd hrun (by simp [Rel]) hK
theorem Ext.drawn {H:Ab} {w w':World} {H':Ab} (h:Ext H w H' w') (n:Nat):Ext H w H' { w' with drawn:=n }:=⟨h.os,h.tape,h.output,h.size,h.block,h.own,h.keep,fun a ha hn=>h.fz a ha hn⟩
theorem Ax3 (H:Ab) (w:World) (n:Nat):Lasts H w H { w with drawn:=n }:=⟨fun b i x hb hc=>⟨hb,hc⟩,Nat.le_refl _,fun _ _=>rfl⟩
theorem Av.drawn {w:World} {H:Ab} (n:Nat) (h:Av w H):Av { w with drawn:=n } H:=by
 intro r o ho;exact(h r o ho).lasts (Ax3 H w n)
theorem Av.lt {H:Ab} (hH:Av w H) {r:Nat} (h:H r≠none):r<w.heap.size:=by
 cases e:H r with
 | none=>exact(h e).elim
 | some o=>
  obtain⟨y,h1⟩:=(hH r o e).some;rcases Nat.lt_or_ge r w.heap.size with hl | hl
  ·exact hl
  ·rw[Array.getElem?_eq_none hl] at h1;cases h1
theorem Av.fresh {H:Ab} (hH:Av w H):H w.heap.size=none:=by
 cases e:H w.heap.size with
 | none=>rfl
 | some o=>exact absurd (hH.lt (r:=w.heap.size) (by simp [e])) (by omega)
theorem Rf {H:Ab} (hH:Av w H) (c:Array Value) (e:TypeId) (o':Option DObj):Ext H w (upd H w.heap.size o') (w.alloc (.cells c e)):=by
 have hbl: ∀b,b<w.heap.size->(w.alloc (.cells c e)).heap[b]? =w.heap[b]? :=fun b hb=>by
  show(w.heap.push (.cells c e))[b]? =_;rw[Array.getElem?_push,if_neg (by omega)]
 refine⟨rfl,rfl,rfl,by simp,fun b hb _=>hbl b hb,fun b hb=> ?_,fun b hb=>by rw[hbl b hb],fun a _ _=> ?_⟩
 ·by_cases eb:b=w.heap.size
  ·exact .inr (by omega)
  ·simp only[upd,if_neg eb] at hb;exact .inl hb
 ·exact Go.RowKit.frozen?_alloc_cells w c e a
theorem Mx {H:Ab} (hH:Av w H) {cs:List DVal} {xs:List Value} (hc:An w H cs xs) (c:Array Value) (hx:xs<+:c.toList) (e:TypeId):
  Av (w.alloc (.cells c e)) (upd H w.heap.size (some (.cells cs e))):=by
 have hE:=Rf hH c e (some (.cells cs e));intro r o ho;by_cases hr:r=w.heap.size
 ·subst hr;simp only[upd,if_pos] at ho;cases ho;refine⟨xs,c,(0,0), ?_,hx,An.lasts hE.lasts _ _ hc,fun i _=>by simp⟩;show(w.heap.push _)[w.heap.size]? =_;simp
 ·simp only[upd,if_neg hr] at ho;have hlt:r<w.heap.size:=hH.lt (by simp [ho]);have hb:(w.alloc (.cells c e)).heap[r]? =w.heap[r]? :=by
   show(w.heap.push _)[r]? =_;rw[Array.getElem?_push,if_neg (by omega)]
  rw[hb];exact(hH r o ho).lasts hE.lasts
theorem Bt5 (hS:Sim G N s a w) (hd:Bu N o.dst=true) {cs:List DVal} {c:Array Value} {e:TypeId}
  (hrun:(execOp a.eval o).run P w= .ok (.value (.pointer (some ⟨w.heap.size,0,none⟩))) (w.alloc (.cells c e)))
  (hc:An w s.heap cs c.toList) (hK:Ak3 cs e o.dst K s):o.wp P a w (Fd G N K s w) Qx:=
 Fh hS hd hrun (Rf hS.heap _ _ _) (Mx hS.heap hc c (List.prefix_refl _) e) (by simp [Rel]) (hK _ hS.heap.fresh)
theorem Tt (hS:Sim G N s a w) (hd:Bu N o.dst=true) {cs:List DVal} {xs:List Value} {c:Array Value} {e:TypeId} {sz len lo cap n:Nat} (hlo:lo<=cap) (hlen:len<=cap) (hroom:cap*sz<=c.size)
  (hrun:(execOp a.eval o).run P w= .ok (.value (.slice (some ⟨w.heap.size,0,none⟩) len cap)) { w.alloc (.cells c e) with drawn:=n })
  (hc:An w s.heap cs xs) (hx:xs<+:c.toList) (hK:Zk cs e sz len lo o.dst K s):o.wp P a w (Fd G N K s w) Qx:=by
 refine Fh hS hd hrun ((Rf hS.heap _ _ _).drawn n) ((Mx hS.heap hc c hx e).drawn n) ?_ (hK _ hS.heap.fresh);simp only[Rel];refine⟨0,cap,rfl,hlo,hlen, .inr rfl, ?_⟩;constructor
 ·show w.heap.size<(w.alloc _).heap.size;simp
 ·intro k hk;have:(w.alloc (.cells c e)).heap[w.heap.size]? =some (.cells c e):=by
   show(w.heap.push _)[w.heap.size]? =_;simp
  have hk':Ji (w.alloc (.cells c e)).heap[w.heap.size]? =some k:=hk;rw[this] at hk';simp [Ji] at hk';omega
theorem He (b off n:Nat):Addr.add ⟨b,off,none⟩ n=⟨b,off+n,none⟩:=by
 unfold Addr.add;split<;>simp_all
def Kq (w:World) (b off:Nat) (xs:List Value):Prop:= ∀i x,xs[i]? =some x->w.cell? ⟨b,off+i,none⟩=some x
theorem Mi.holds {H:Ab} {b off:Nat} {xs:List Value} (h:Mi w H b off xs):Kq w b off xs:=by
 rcases h with rfl | ⟨_,h⟩
 ·intro i x hx;simp at hx
 ·exact h
theorem Kq.drop {b off n:Nat} {xs:List Value} (h:Kq w b off xs):Kq w b (off+n) (xs.drop n):=by
 intro i x hx;rw[List.getElem?_drop] at hx;have:=h _ _ hx
 rwa [<-Nat.add_assoc] at this
theorem Kq.take {b off n:Nat} {xs:List Value} (h:Kq w b off xs):Kq w b off (xs.take n):=by
 intro i x hx;rw[List.getElem?_take] at hx;split at hx
 ·exact h _ _ hx
 ·cases hx
theorem Di {b off:Nat} {xs:List Value} (h:Kq w b off xs):(loadCells ⟨b,off,none⟩ xs.length).run P w= .ok xs.toArray w:=
 run_loadCells_list w ⟨b,off,none⟩ xs fun j v hv=>by rw[He];exact h j v hv
theorem Av.holds {H:Ab} (hH:Av w H) {r:Nat} {cs:List DVal} {e:TypeId} (hr:H r=some (.cells cs e)): ∃xs,An w H cs xs/\Kq w r 0 xs:=by
 obtain⟨xs,c,fz,h1,h2,h3,_⟩:=hH r _ hr;refine⟨xs,h3,fun i x hx=> ?_⟩;have hp:c.toList[i]? =some x:=by
  obtain⟨t,ht⟩:=h2;rw[<-ht,List.getElem?_append_left]
  ·exact hx
  ·rcases Nat.lt_or_ge i xs.length with hl | hl
   ·exact hl
   ·rw[List.getElem?_eq_none hl] at hx;cases hx
 simp only[World.cell?,h1,Nat.zero_add,Option.isSome_none,Bool.false_eq_true,if_false];simpa using hp
theorem Ip {t:TypeId} {b:Bool} (h:Dv P t=some b):(isAgg t).run P w= .ok b w:=by
 unfold Dv at h;cases hu:P.underlying t with
 | none=>simp [hu] at h
 | some d=>
  simp only[isAgg,Sem.run_bind,run_underlying hu,Result.andThen_ok];rw[hu] at h;cases d<;>simp at h<;>subst h<;>rfl
theorem Sf {t:TypeId} {d:TypeDesc} (h:P.underlying t=some d):(P.info? t).isSome=true:=by
 unfold Program.underlying at h;cases hi:P.info? t with
 | none=>simp [hi] at h
 | some i=>rfl
theorem Mn {t:TypeId} {b:Bool} (h:Dv P t=some b):(P.info? t).isSome=true:=by
 unfold Dv at h;cases hu:P.underlying t with
 | none=>simp [hu] at h
 | some d=>exact Sf hu
theorem Bz {t:TypeId} (h:(P.info? t).isSome=true):(sizeOf t).run P w= .ok (P.cellsOf t) w:=by
 cases hi:P.info? t with
 | none=>simp [hi] at h
 | some i=>simp [sizeOf,typeInfo,program,hi,Program.cellsOf,Sem.run]
theorem Kv {t:TypeId} {i:TypeInfo} (h:P.info? t=some i):(typeInfo t).run P w= .ok i w:=by
 simp [typeInfo,program,h,Sem.run]
theorem Ck7 {t:TypeId} {z:DVal} (h:Bm P t=some z): ∃v,(zeroValue t).run P w= .ok v w/\z=Cu v:=by
 unfold Bm at h;cases hi:P.info? t with
 | none=>simp [hi] at h
 | some i=>
  cases hz:i.zero with
  | none=>simp [hi,hz] at h
  | some v=>
   simp [hi,hz] at h;exact⟨v,by simp [zeroValue,Kv hi,hz],h.symm⟩
theorem Oy {t:TypeId} (h:Dv P t=some true) {b off:Nat} {xs:List Value} (hx:Kq w b off xs) (hl:xs.length=P.cellsOf t):
  (loadVar t ⟨b,off,none⟩).run P w= .ok (.agg xs.toArray) w:=by
 simp only[loadVar,Sem.run_bind,Ip h,Result.andThen_ok,if_true];simp only[Bz (Mn h),Result.andThen_ok,<-hl,Di hx,Sem.run_bind,Sem.run_pure]
theorem Oz {t:TypeId} (h:Dv P t=some false) {b off:Nat} {x:Value} (hx:w.cell? ⟨b,off,none⟩=some x):
  (loadVar t ⟨b,off,none⟩).run P w= .ok x w:=by
 simp [loadVar,Ip h,hx]
end
end Go.Dl

-- THE DATA LEVEL, PART O: each operation: what the data level asks and does is true of the model's operation.
namespace Go.Dl
open Go
section
variable {P:Program} {G:Nat->DVal} {N:Fr}
variable {o:Oper} {s:DS} {a:Act} {w:World} {K:DK} {Qx:Exit->Act->World->Prop}
theorem Gb {dst:Option Nat} {v:Option DVal} (h:Mz dst v K s): ∃d,v=some d/\Bb dst d K s:=by
 cases v with
 | none=>exact h.elim
 | some d=>exact⟨d,rfl,h⟩
theorem Dn8 (hS:Sim G N s a w) (hd:Bu N o.dst=true) {x:Operand} (hx:Bf N x=true) (he:o.op= .move x) (h:Bb o.dst (dev G s.env x) K s):PV P o s a w K:=
 pvI hS hd (by simp [execOp,he]) (Ax hS hx) h
theorem Ck8 (hS:Sim G N s a w) (hd:Bu N o.dst=true) {x:Operand} (hx:Bf N x=true) (he:o.op= .assign x) (h:Bb o.dst (dev G s.env x) K s):PV P o s a w K:=
 pvI hS hd (by simp [execOp,he]) (Ax hS hx) h
theorem Dn9 (hS:Sim G N s a w) (hd:Bu N o.dst=true) {c x y:Operand} (hc:Bf N c=true) (hx:Bf N x=true) (hy:Bf N y=true) (he:o.op= .pick c x y)
  (h:Aw5 o.dst (dev G s.env c) (dev G s.env x) (dev G s.env y) K s):PV P o s a w K:=by
 have r:=Ax hS hc;cases hcv:dev G s.env c<;>rw[hcv] at h r<;>try exact h.elim
 rename_i t
 simp only[Rel] at r;simp only[Aw5] at h;refine pvI hS hd (x:=if t then a.eval x else a.eval y) (by simp [execOp,he,r,asBool]) ?_ h;cases t
 ·exact Ax hS hy
 ·exact Ax hS hx
theorem Hf {H:Ab} {d:DVal} {v:Value} (h:Rel w H d v):An w H d.cells v.cells.toList:=Rel.cells h
theorem Da1 (hS:Sim G N s a w) (hd:Bu N o.dst=true) {e:TypeId} (he:o.op= .alloc e) (h:Ck4 e o.dst (Bm P e) K s):o.wp P a w (Fd G N K s w) Qx:=by
 cases hz:Bm P e with
 | none=>rw[hz] at h;exact h.elim
 | some z=>
  rw[hz] at h;obtain⟨v,hv,rfl⟩:=Ck7 (w:=w) hz;refine Bt5 hS hd (c:=v.cells) ?_ ?_ h
  ·simp [execOp,he,Instr.alloc,hv,newVar,newRow]
  ·exact Hf (Ej w s.heap v)
theorem Du4 (hS:Sim G N s a w) (hd:Bu N o.dst=true) {e:TypeId} {x:Operand} (hx:Bf N x=true) (he:o.op= .box e x)
  (h:Ak3 (dev G s.env x).cells e o.dst K s):o.wp P a w (Fd G N K s w) Qx:=
 Bt5 hS hd (c:=(a.eval x).cells) (by simp [execOp,he,Instr.box,newVar,newRow]) (Hf (Ax hS hx)) h
theorem Bt6 {size:Nat} {ag:Option Bool} {t:TypeId} (hag:Dv P t=ag) (hsz:P.cellsOf t=size) {b off:Nat} {cs:List DVal} {xs:List Value} {H:Ab} (hr:An w H cs xs) (hh:Kq w b off xs) {i:Nat} {dst:Option Nat}
  (h:Zm size dst ag cs i K s): ∃d x,(loadVar t ⟨b,off+i,none⟩).run P w= .ok x w/\Rel w H d x/\Bb dst d K s:=by
 subst hsz;cases ag with
 | none=>exact h.elim
 | some ag=>
  cases ag with
  | true=>
   obtain⟨hle,hK⟩:=h;have hx:Kq w b (off+i) ((xs.drop i).take (P.cellsOf t)):=hh.drop.take;have hl:((xs.drop i).take (P.cellsOf t)).length=P.cellsOf t:=by
    have:=hr.length;simp;omega
   refine⟨_,_,Oy hag hx hl, ?_,hK⟩;simp only[Rel];exact⟨_,rfl,(hr.drop i).take _⟩
  | false=>
   obtain⟨d,hd,hK⟩:=Gb h;obtain⟨x,hx,hrel⟩:=hr.get hd;exact⟨d,x,Oz hag (hh i x hx),hrel,hK⟩
theorem Do0 (hS:Sim G N s a w) (hd:Bu N o.dst=true) {t:TypeId} {x:Operand} (hx:Bf N x=true) (he:o.op= .load t x)
  (h:Ak4 (P.cellsOf t) (Dv P t) o.dst (dev G s.env x) K s):PV P o s a w K:=by
 have r:=Ax hS hx;cases hv:dev G s.env x<;>rw[hv] at h r<;>try exact h.elim
 case vptr cs off=>
  simp only[Rel] at r;obtain⟨b,o',xs,hp,hc,hl⟩:=r;obtain⟨d,y,hrun,hrel,hK⟩:=Bt6 (P:=P) (t:=t) rfl rfl hl hc.holds h;refine pvI hS hd ?_ hrel hK;simp [execOp,he,hp,Instr.loadAt,Instr.sureAddr,hrun]
 case optr r0 off=>
  simp only[Rel] at r;simp only[Ak4] at h;cases hh:s.heap r0 with
  | none=>rw[hh] at h;exact h.elim
  | some ob=>
   rw[hh] at h;cases ob with
   | loop=>exact h.elim
   | iter=>exact h.elim
   | map=>exact h.elim
   | cells cs e=>
    obtain⟨xs,hl,hholds⟩:=hS.heap.holds hh;obtain⟨d,y,hrun,hrel,hK⟩:=Bt6 (P:=P) (t:=t) rfl rfl hl hholds h;refine pvI hS hd ?_ hrel hK;simp only[Nat.zero_add] at hrun;simp [execOp,he,r,Instr.loadAt,Instr.sureAddr,hrun]
theorem Ih (r off:Nat) (e:TypeId) (fz:Nat×Nat): ∀(vs:List Value) (i:Nat) (c:Array Value) (w:World),w.heap[r]? =some (.cells c e fz)->off+i+vs.length<=c.size->
  (∀v∈vs,v.oneCell'=true)->(∀j,j<c.size-> ¬(fz.1<=j/\j<fz.2))->
  ∃(w':World) (c':Array Value),(storeCells ⟨r,off,none⟩ vs i).run P w= .ok () w'/\w'.heap[r]? =some (.cells c' e fz)/\c'.toList=c.toList.take (off+i)++vs++c.toList.drop (off+i+vs.length)/\
   (∀b,b≠r->w'.heap[b]? =w.heap[b]?)/\w'.heap.size=w.heap.size/\w'.os=w.os/\w'.tape=w.tape/\w'.output=w.output
 | [],i,c,w,hc,hl,_,_=>⟨w,c,by simp [storeCells],hc,by simp,fun _ _=>rfl,rfl,rfl,rfl,rfl⟩
 | v::vs,i,c,w,hc,hl,h1,hf=>by
  simp only[jA] at hl;have hi:off+i<c.size:=by omega
  have hcell:w.cell? ⟨r,off+i,none⟩=some c[off+i]:=by simp [World.cell?,hc,hi]
  have hfr:w.frozen? ⟨r,off+i,none⟩=false:=by
   have:=hf (off+i) hi;obtain⟨lo,hi'⟩:=fz;simp [World.frozen?,hc];intro h2;have:=fun h3=>this ⟨h2,h3⟩;simp at this;omega
  have hset:(w.setCell ⟨r,off+i,none⟩ v).heap[r]? =some (.cells (c.setIfInBounds (off+i) v) e fz):=by
   simp [World.setCell,Array.getElem?_modify,hc]
  obtain⟨w',c',hrun,hheap,hlist,hother,hsize,hos,htape,hout⟩:=Ih r off e fz vs (i+1) (c.setIfInBounds (off+i) v) _ hset (by simp;omega) (fun u hu=>h1 u (List.mem_cons_of_mem _ hu)) (by simpa using hf);refine⟨w',c', ?_,hheap, ?_,fun b hb=> ?_,by rw[hsize];simp,hos,htape,hout⟩
  ·simp only[storeCells,Sem.run_bind,He,run_store P w _ v _ (h1 v (List.mem_cons_self ..)),hcell,hfr];simpa using hrun
  ·rw[hlist];have hci:off+i<c.toList.length:=by simpa using hi
   rw[Array.toList_setIfInBounds,jA,<-Nat.add_assoc];have e1:(c.toList.set (off+i) v).take (off+i+1)=c.toList.take (off+i)++ [v]:=by
    rw[List.take_set,List.take_succ_eq_append_getElem hci,List.set_append_right _ _ (by simp;omega)];have e0:off+i-min (off+i) c.size=0:=by omega
    simp [e0]
   have e2:(c.toList.set (off+i) v).drop (off+i+1+vs.length)=c.toList.drop (off+i+(vs.length+1)):=by
    rw[List.drop_set,if_pos (by omega)];congr 1;omega
   rw[e1,e2];simp
  ·rw[hother b hb];exact Go.RowKit.Below.heap_setCell _ _ _ _ hb
theorem Zx {H:Ab}: ∀ {ds:List DVal} {xs:List Value},An w H ds xs->ds.all (·.one)=true-> ∀x∈xs,x.oneCell'=true
 | [],_,h,_,x,hx=>by simp only[An] at h;subst h;simp at hx
 | d::ds,xs,h,h1,x,hx=>by
  simp only[An] at h;obtain⟨y,ys,rfl,hr,hl⟩:=h;simp only[List.all_cons,jF] at h1;rcases List.mem_cons.1 hx with rfl | hx
  ·cases d<;>simp only[Rel,DVal.one] at hr h1<;>try (simp at h1;done)
   case raw v=>obtain⟨rfl,_⟩:=hr;exact h1.1
   case vptr=>obtain⟨_,_,_,rfl,_⟩:=hr;rfl
   case vslice=>obtain⟨_,_,rfl,_⟩:=hr;rfl
   case oslice=>obtain⟨_,_,rfl,_⟩:=hr;rfl
   case func=>obtain⟨_,_,rfl,_⟩:=hr;rfl
   case iface=>obtain⟨_,rfl,_⟩:=hr;rfl
   all_goals (subst hr;rfl)
  ·exact Zx hl h1.2 x hx
theorem Vs {H:Ab} (hH:Av w H) {r off:Nat} {cs ds:List DVal} {e:TypeId} (hr:H r=some (.cells cs e)) {vs:List Value} (hv:An w H ds vs) (h1:ds.all (·.one)=true) (hle:off+ds.length<=cs.length):
  ∃w',(storeCells ⟨r,off,none⟩ vs 0).run P w= .ok () w'/\Av w' (upd H r (some (.cells (Cj cs off ds) e)))/\Ext H w (upd H r (some (.cells (Cj cs off ds) e))) w':=by
 obtain⟨xs,c,fz,g1,g2,g3,g4⟩:=hH r _ hr;obtain⟨tl,htl⟩:=g2;have hlx:=g3.length;have hlv:=hv.length;have hcs:c.size=xs.length+tl.length:=by rw[<-Array.length_toList,<-htl];simp
 obtain⟨w',c',hrun,hheap,hlist,hother,hsize,hos,htape,hout⟩:=Ih (P:=P) r off e fz vs 0 c w g1 (by omega) (Zx hv h1) g4;have hE:Ext H w (upd H r (some (.cells (Cj cs off ds) e))) w':=by
  have hcsz:c'.size=c.size:=by
   rw[<-Array.length_toList,hlist];simp;omega
  refine⟨hos,htape,hout,by omega,fun b hb hn=>hother b (fun hbr=>by subst hbr;rw[hr] at hn;cases hn),fun b hb=> ?_,fun b hb=> ?_,fun a _ _=>by
   unfold World.frozen?;by_cases hbr:a.block=r
   ·rw[hbr,hheap,g1]
   ·rw[hother _ hbr]⟩
  rotate_left
  ·by_cases hbr:b=r
   ·subst hbr;rw[hheap,g1];simp [Ji,hcsz]
   ·rw[hother b hbr]
  by_cases hbr:b=r
  ·subst hbr;exact .inl (by rw[hr];simp)
  ·simp only[upd,if_neg hbr] at hb;exact .inl hb
 refine⟨w',hrun,fun r' o' ho'=> ?_,hE⟩;by_cases hbr:r'=r
 ·subst hbr;simp only[upd,if_pos] at ho';cases ho';refine⟨xs.take off++vs++xs.drop (off+vs.length),c',fz,hheap, ?_, ?_, ?_⟩
  ·refine⟨tl, ?_⟩;rw[hlist,<-htl,Nat.add_zero,List.take_append_of_le_length (by omega),List.drop_append_of_le_length (by omega)];simp
  ·have e0:Cj cs off ds=cs.take off++ds++cs.drop (off+vs.length):=by unfold Cj;rw[hlv]
   have e1:=((An.lasts hE.lasts _ _ (g3.take off)).append (An.lasts hE.lasts _ _ hv)).append (An.lasts hE.lasts _ _ (g3.drop (off+vs.length)));rw[<-e0] at e1;exact e1
  ·have:c'.size=c.size:=by
    rw[<-Array.length_toList,hlist];simp;omega
   rw[this];exact g4
 ·simp only[upd,if_neg hbr] at ho';rw[hother r' hbr];exact(hH r' o' ho').lasts hE.lasts
theorem Da2 (hS:Sim G N s a w) {t:TypeId} {x y:Operand} (hx:Bf N x=true) (hy:Bf N y=true) (he:o.op= .store t x y)
  (h:(P.info? t).isSome=true/\Ap6 (P.cellsOf t) o.dst (dev G s.env x) (dev G s.env y) K s):o.wp P a w (Fd G N K s w) Qx:=by
 obtain⟨hi,h⟩:=h;have r:=Ax hS hx;have ry:=Ax hS hy;cases hv:dev G s.env x<;>rw[hv] at h r<;>(try (cases hdst:o.dst<;>rw[hdst] at h<;>exact h.elim))
 rename_i r0 off
 cases hdst:o.dst with
 | some d=>rw[hdst] at h;exact h.elim
 | none=>
  rw[hdst] at h;simp only[Rel] at r;simp only[Ap6] at h;cases hh:s.heap r0 with
  | none=>rw[hh] at h;exact h.elim
  | some ob=>
   rw[hh] at h;cases ob with
   | loop=>exact h.elim
   | iter=>exact h.elim
   | map=>exact h.elim
   | cells cs e=>
    obtain⟨hl,h1,hle,hK⟩:=h;have rc:=Hf ry;obtain⟨w',hrun,hH,hE⟩:=Vs (P:=P) hS.heap hh rc h1 (off:=off) (by omega);have hlen:(a.eval y).cells.size=P.cellsOf t:=by rw[<-hl,rc.length];simp
    unfold Oper.wp;have:(execOp a.eval o).run P w= .ok .skip w':=by
     simp [execOp,he,r,Instr.storeAt,Instr.sureAddr,storeVar,Bz hi,hlen,hrun]
    rw[this];show Fd G N K s w (a.put o.dst undef) w';rw[hdst];exact⟨_,hK,hS.ext hE hH,hE⟩
end
end Go.Dl

-- THE DATA LEVEL, PART P: further operations.
namespace Go.Dl
open Go
set_option maxHeartbeats 40000
section
variable {P:Program} {G:Nat->DVal} {N:Fr}
variable {o:Oper} {s:DS} {a:Act} {w:World} {K:DK} {Qx:Exit->Act->World->Prop}
theorem Bi0 (hS:Sim G N s a w) (hd:Bu N o.dst=true) {x:Operand} (hx:Bf N x=true) (he:o.op= .nilCheck x)
  (h:Rb o.dst (dev G s.env x) K s):PV P o s a w K:=by
 have r:=Ax hS hx;have r':=r;cases hv:dev G s.env x<;>rw[hv] at h r r'<;>try exact h.elim
 case vptr cs off=>
  simp only[Rel] at r;obtain⟨b,o',xs,hp,hc,hl⟩:=r;exact pvI hS hd (x:=a.eval x) (by simp [execOp,he,hp]) r' h
 case optr r0 off=>
  simp only[Rel] at r;exact pvI hS hd (x:=a.eval x) (by simp [execOp,he,r]) r' h
 case omap r0=>
  simp only[Rel] at r;exact pvI hS hd (x:=a.eval x) (by simp [execOp,he,r]) r' h
 case iface t0 v0=>
  simp only[Rel] at r;obtain⟨x0,hp,_⟩:=r;exact pvI hS hd (x:=a.eval x) (by simp [execOp,he,hp]) r' h
 case func fn f c=>
  simp only[Rel] at r;obtain⟨xs,ys,hp,_,_⟩:=r;cases fn<;>try exact h.elim
  exact pvI hS hd (x:=a.eval x) (by simp [execOp,he,hp]) r' h
theorem Bi1 (hS:Sim G N s a w) (hd:Bu N o.dst=true) {fn:Fn} {fs cs:Array Operand} (hf:fs.toList.all (Bf N)=true) (hc:cs.toList.all (Bf N)=true) (he:o.op= .makeFunc fn fs cs)
  (h:Bb o.dst (.func fn (El G s.env fs.toList) (El G s.env cs.toList)) K s):PV P o s a w K:=by
 refine pvI hS hd (x:= .func fn (fs.map a.eval) (cs.map a.eval)) (by simp [execOp,he,Instr.makeFunc]) ?_ h;simp only[Rel];exact⟨_,_,rfl,by simpa using Ls hS hf,by simpa using Ls hS hc⟩
theorem Ax4 (hS:Sim G N s a w) (hd:Bu N o.dst=true) {t:TypeId} {x:Operand} (hx:Bf N x=true) (he:o.op= .makeInterface t x)
  (h:Nr t (dev G s.env x) o.dst (Cv (P.underlying t)) K s):PV P o s a w K:=by
 cases hn:Cv (P.underlying t) with
 | false=>rw[hn] at h;exact h.elim
 | true=>
  rw[hn] at h;cases hu:P.underlying t with
  | none=>rw[hu] at hn;simp [Cv] at hn
  | some d=>
   refine pvI hS hd (x:= .iface t (a.eval x)) ?_ ?_ h
   ·rw[hu] at hn;cases d<;>simp [Cv] at hn<;>simp [execOp,he,Instr.makeInterface,run_underlying hu]
   ·simp only[Rel];exact⟨_,rfl,Ax hS hx⟩
theorem By6 (hS:Sim G N s a w) (hd:Bu N o.dst=true) {x:Operand} {i:Nat} (hx:Bf N x=true) (he:o.op= .extract x i)
  (h:To i o.dst (dev G s.env x) K s):PV P o s a w K:=by
 have r:=Ax hS hx;cases hv:dev G s.env x<;>rw[hv] at h r<;>try exact h.elim
 simp only[Rel] at r;obtain⟨xs,hp,hl⟩:=r;obtain⟨d,hd',hK⟩:=Gb h;obtain⟨y,hy,hrel⟩:=hl.get hd';refine pvI hS hd ?_ hrel hK;have:xs[i]? =some y:=by simpa using hy
 simp [execOp,he,hp,Instr.extract,this]
theorem Do1 (hS:Sim G N s a w) (hd:Bu N o.dst=true) {op:UnOp} {t:TypeId} {x:Operand} (hx:Bf N x=true) (he:o.op= .unOp op t x)
  (h:dUn o.dst op (dev G s.env x) K s):PV P o s a w K:=by
 have r:=Ax hS hx;cases hv:dev G s.env x<;>rw[hv] at h r<;>cases op<;>(try exact h.elim)<;>simp only[Rel] at r<;>simp only[dUn] at h
 ·exact pvI hS hd (by simp [execOp,he,r,Op.unary];rfl) (by simp [Rel]) h
 ·exact pvI hS hd (by simp [execOp,he,r,Op.unary,Op.intArith];rfl) (by simp [Rel]) h
 ·exact pvI hS hd (by simp [execOp,he,r,Op.unary,Op.intBits];rfl) (by simp [Rel]) h
theorem By7 (hS:Sim G N s a w) (hd:Bu N o.dst=true) {src t:TypeId} {x:Operand} (hx:Bf N x=true) (he:o.op= .convert src t x)
  (h:Tm o.dst (P.underlying src) (P.underlying t) (dev G s.env x) K s):PV P o s a w K:=by
 have r:=Ax hS hx;cases hs:P.underlying src with
 | none=>rw[hs] at h;cases P.underlying t<;>exact h.elim
 | some ds=>
  cases ht:P.underlying t with
  | none=>rw[hs,ht] at h;exact h.elim
  | some dt=>
   rw[hs,ht] at h;cases dt<;>(try exact h.elim)
   case int k=>
    cases hv:dev G s.env x<;>rw[hv] at h r<;>(try exact h.elim);simp only[Rel] at r
    rename_i k0 n0
    refine pvI hS hd (x:= .int k (k.wrap n0)) ?_ ?_ h
    ·simp [execOp,he,r,convert,run_underlying hs,run_underlying ht,Conv.intToInt]
    ·simp [Rel]
   case string=>
    cases hv:dev G s.env x<;>rw[hv] at h r<;>(try exact h.elim);simp only[Rel] at r;refine pvI hS hd (x:=a.eval x) ?_ ?_ h
    ·simp [execOp,he,r,convert,run_underlying hs,run_underlying ht]
    ·rw[r];simp [Rel]
theorem Bt {op:BinOp} {t:TypeId} {x y:Operand} {u v:Value} (h: ∀t' z,u= .agg t'->v= .agg z->False) (h2:u= .nilIface->v= .nilIface->False):eqGuard op t x y u v=pure ():=by
 unfold eqGuard;cases op<;>(try rfl)<;>(cases u<;>(try rfl)<;>cases v<;>(try rfl))<;>first | exact(h2 rfl rfl).elim | exact(h _ _ rfl rfl).elim
theorem Ck9 (hS:Sim G N s a w) (hd:Bu N o.dst=true) {op:BinOp} {t t':TypeId} {x y:Operand} (he:o.op= .binOp op t x y t') {k k':IntKind} {m n:Int} (hx:a.eval x= .int k m) (hy:a.eval y= .int k' n)
  (h:Bs7 op k k' m n o.dst K s (Ei op)):PV P o s a w K:=by
 have hg:eqGuard op t x y (.int k m) (.int k' n)=pure ():=Bt (by simp) (by simp);cases op<;>simp only[Ei,Bs7,Yw,Ap7] at h
 case shl=>
  obtain⟨h0,hK⟩:=h;refine pvI hS hd (x:= .int k (k.wrap (m*2^(min n.toNat k.bits)))) ?_ (by simp [Rel]) hK;simp only[execOp,he,hx,hy,hg,binOp,Op.shift,if_neg (Int.not_lt.2 h0)];rfl
 case shr=>
  obtain⟨h0,hK⟩:=h;refine pvI hS hd (x:= .int k (m.fdiv (2^(min n.toNat k.bits)))) ?_ (by simp [Rel]) hK;simp only[execOp,he,hx,hy,hg,binOp,Op.shift,if_neg (Int.not_lt.2 h0)];rfl
 case quo=>
  obtain⟨rfl,h0,hK⟩:=h;refine pvI hS hd (x:= .int k (k.wrap (m.tdiv n))) ?_ (by simp [Rel]) hK;simp [execOp,he,hx,hy,hg,binOp,Op.intDiv,h0]
 case rem=>
  obtain⟨rfl,h0,hK⟩:=h;refine pvI hS hd (x:= .int k (m.tmod n)) ?_ (by simp [Rel]) hK;simp [execOp,he,hx,hy,hg,binOp,Op.intDiv,h0]
 all_goals
  obtain⟨rfl,hK⟩:=h;first | refine Nx hS hd ?_ hK | refine Za hS hd ?_ hK
  ·simp [execOp,he,hx,hy,hg,binOp,Op.intArith,Op.intBits,Op.intCmp,bne,Int.not_le,Int.not_lt]<;>(try (rw[Bool.eq_iff_iff];simp))
theorem Vt (l:List UInt8):(ByteArray.mk ⟨l⟩).toList=l:=by
 have h: ∀(n i:Nat) (r:List UInt8),l.length-i=n->i<=l.length->ByteArray.toList.loop ⟨⟨l⟩⟩ i r=r.reverse++l.drop i:=by
  intro n
  induction n with
  | zero=>
   intro i r hn hi;have:i=l.length:=by omega
   subst this;unfold ByteArray.toList.loop;simp [ByteArray.size]
  | succ n ih=>
   intro i r hn hi;have hlt:i<l.length:=by omega
   unfold ByteArray.toList.loop;simp only[ByteArray.size,List.size_toArray,hlt,if_true];rw[ih (i+1) _ (by omega) (by omega)];have:ByteArray.get! ⟨⟨l⟩⟩ i=l[i]:=by simp [ByteArray.get!,hlt]
   rw[this,List.drop_eq_getElem_cons hlt];simp
 have:=h l.length 0 [] (by simp) (by omega);simpa [ByteArray.toList] using this
theorem By8 (l m:List UInt8):(ByteArray.mk ⟨l⟩)++(ByteArray.mk ⟨m⟩)=ByteArray.mk ⟨l++m⟩:=by
 apply ByteArray.ext;simp
theorem Cl0 (hS:Sim G N s a w) (hd:Bu N o.dst=true) {op:BinOp} {t t':TypeId} {x y:Operand} (he:o.op= .binOp op t x y t') {l m:List UInt8} (hx:a.eval x= .string ⟨⟨l⟩⟩) (hy:a.eval y= .string ⟨⟨m⟩⟩)
  (h:Tl l m o.dst K s op):PV P o s a w K:=by
 have hg:eqGuard op t x y (.string ⟨⟨l⟩⟩) (.string ⟨⟨m⟩⟩)=pure ():=Bt (by simp) (by simp);have hsz: ∀l:List UInt8,(ByteArray.mk ⟨l⟩).size=l.length:=fun l=>rfl;cases op<;>simp only[Tl] at h<;>try exact h.elim
 case add=>
  obtain⟨h0,hK⟩:=h;refine pvI hS hd (x:= .string ⟨⟨l++m⟩⟩) ?_ (by simp [Rel]) hK;simp only[execOp,he,hx,hy,hg,binOp,Op.stringOp,hsz];rw[if_neg (by simp [IntKind.max,IntKind.signed,IntKind.bits];omega),By8];rfl
 all_goals
  refine Za hS hd ?_ h
  ·simp [execOp,he,hx,hy,hg,binOp,Op.stringOp,Vt]<;>(try (rw[Bool.eq_iff_iff];simp))
theorem Tu {t:TypeId} {x y:Value} {b:Bool} (h:(Op.equal t x y).run P w= .ok b w) {op:BinOp} {n:Bool} (hop:Mf op=some n) (hx: ∀k n,x≠ .int k n) (hs: ∀l,x≠ .string l) (hf: ∀k n,x≠ .float k n) (hc: ∀k n m,x≠ .complex k n m):
  (binOp op t x y).run P w= .ok (.bool (if n then !b else b)) w:=by
 cases op<;>simp [Mf] at hop<;>subst hop
 ·have:binOp .eql t x y=(do pure (.bool (←Op.equal t x y))):=by
   cases x<;>first | rfl | exact absurd rfl (hx _ _) | exact absurd rfl (hs _) | exact absurd rfl (hf _ _) | exact absurd rfl (hc _ _ _)
  rw[this];simp [h]
 ·have:binOp .neq t x y=(do pure (.bool (!(←Op.equal t x y)))):=by
   cases x<;>first | rfl | exact absurd rfl (hx _ _) | exact absurd rfl (hs _) | exact absurd rfl (hf _ _) | exact absurd rfl (hc _ _ _)
  rw[this];simp [h]
theorem Vu {dst:Option Nat} {n b:Option Bool} (h:Lk dst n b K s): ∃n' b',n=some n'/\b=some b'/\Bb dst (.bool (if n' then !b' else b')) K s:=by
 cases n with
 | none=>exact h.elim
 | some n=>cases b with
  | none=>cases n<;>exact h.elim
  | some b=>cases n<;>exact⟨_,b,rfl,rfl,h⟩
theorem Ak8 {x y:Option Bool} {b:Bool} (h:Dn4 x y=some b): ∃p q,x=some p/\y=some q/\b=(p&&q):=by
 cases x with
 | none=>cases h
 | some p=>cases y with
  | none=>cases p<;>cases h
  | some q=>
   refine⟨p,q,rfl,rfl, ?_⟩;cases p<;>cases h<;>rfl
theorem Tv {H:Ab} {t:TypeId} {ag:Bool} (hag:Dv P t=some ag) {cs:List DVal} {xs:Array Value} (hr:An w H cs xs.toList) {off:Nat}
  (hne:ag=false->(Ft (P.cellsOf t) off cs (some ag))≠ []):
  ∃y,(part t xs off).run P w= .ok y w/\An w H (Ft (P.cellsOf t) off cs (some ag)) (if ag then y.cells.toList else [y])/\(ag=true-> ∃ys,y= .agg ys):=by
 cases ag with
 | true=>
  have hi:=Mn hag;refine⟨.agg (xs.extract off (off+P.cellsOf t)),by simp [part,Ip hag,Bz hi], ?_,fun _=>⟨_,rfl⟩⟩;have:(xs.extract off (off+P.cellsOf t)).toList=(xs.toList.drop off).take (P.cellsOf t):=by simp [Array.toList_extract,List.extract]
  simp only[Ft,if_true,Value.cells,this];exact(hr.drop off).take _
 | false=>
  have hne:=hne rfl;simp only[Ft] at hne⊢
  have hlt:off<cs.length:=by
   rcases Nat.lt_or_ge off cs.length with h | h
   ·exact h
   ·rw[List.drop_eq_nil_of_le h] at hne;simp at hne
  have hlx:=hr.length;have hlt':off<xs.size:=by rw[<-Array.length_toList,<-hlx];exact hlt
  refine⟨xs[off],by simp [part,Ip hag,Array.getElem?_eq_getElem hlt'], ?_,fun h=>by cases h⟩;have h2:=(hr.drop off).take 1;have:(xs.toList.drop off).take 1= [xs[off]]:=by
   rw[List.drop_eq_getElem_cons (by simpa using hlt')];simp
  rw[this] at h2;simpa using h2
theorem Rr {n:Nat} {t:TypeId} {ys:List DVal} {b:Bool} (hag:Dv P t≠some true) (h:Vl P n t [] ys=some b):False:=by
 cases n with
 | zero=>cases h
 | succ n=>
  simp only[Vl] at h;unfold Dv at hag;cases hu:P.underlying t with
  | none=>rw[hu] at h;cases h
  | some d=>
   rw[hu] at h hag;cases d<;>simp [Rp,Aw7,Bs5,Bs6] at h hag
theorem Zy {n:Nat} {t:TypeId} {xs:List DVal} {b:Bool} (hag:Dv P t≠some true) (h:Vl P n t xs []=some b):False:=by
 cases n with
 | zero=>cases h
 | succ n=>
  simp only[Vl] at h;unfold Dv at hag;cases hu:P.underlying t with
  | none=>rw[hu] at h;cases h
  | some d=>
   rw[hu] at h hag;cases d<;>simp at hag<;>simp only[Rp,Aw7,Bs5,Bs6] at h<;>first | cases h | (split at h<;>simp_all)
theorem Jp {H:Ab}: ∀(n d:Nat),n<=d-> ∀(t:TypeId) (xs ys:List DVal) (x y:Value) (ag:Bool) (b:Bool),Dv P t=some ag->
  An w H xs (if ag then x.cells.toList else [x])->An w H ys (if ag then y.cells.toList else [y])->(ag=true-> ∃c,x= .agg c)->(ag=true-> ∃c,y= .agg c)->Vl P n t xs ys=some b->
  (Op.equalIn d t x y).run P w= .ok b w
 | 0,_,_,_,_,_,_,_,_,_,_,_,_,_,_,h=>by cases h
 | n+1,0,hnd,_,_,_,_,_,_,_,_,_,_,_,_,_=>by omega
 | n+1,d+1,hnd,t,xs,ys,x,y,ag,b,hag,hx,hy,gx,gy,h=>by
  simp only[Vl] at h;cases hu:P.underlying t with
  | none=>rw[hu] at h;cases h
  | some td=>
   rw[hu] at h;have hag':=hag;unfold Dv at hag';rw[hu] at hag';have step: ∀(u:TypeId) (off:Nat) (r:Bool) (cx cy:Array Value),x= .agg cx->y= .agg cy->ag=true->Vl P n u (Ft (P.cellsOf u) off xs (Dv P u)) (Ft (P.cellsOf u) off ys (Dv P u))=some r->
     ∃p q,(part u cx off).run P w= .ok p w/\(part u cy off).run P w= .ok q w/\(Op.equalIn d u p q).run P w= .ok r w:=by
    intro u off r cx cy ex ey hagt hr;subst ex;subst ey;subst hagt;simp only[if_true,Value.cells] at hx hy;cases hau:Dv P u with
    | none=>
     rw[hau] at hr;exact(Rr (by rw[hau];simp) hr).elim
    | some au=>
     rw[hau] at hr;obtain⟨p,hp,hrp,hgp⟩:=Tv (w:=w) hau hx (off:=off) (fun e he=>by subst e;rw[he] at hr;exact Rr (by rw[hau];simp) hr);obtain⟨q,hq,hrq,hgq⟩:=Tv (w:=w) hau hy (off:=off) (fun e he=>by subst e;rw[he] at hr;exact Zy (by rw[hau];simp) hr);exact⟨p,q,hp,hq,Jp n d (by omega) u _ _ p q au r hau hrp hrq hgp hgq hr⟩
   cases td<;>try (cases h;done)
   case bool=>
    simp at hag';subst hag';simp only[Rp] at h;unfold Aw7 at h;split at h<;>try (cases h;done)
    simp only[Bool.false_eq_true,if_false,An,Rel] at hx hy;obtain⟨_,_,hx,rfl,rfl⟩:=hx;obtain⟨_,_,hy,rfl,rfl⟩:=hy;simp only[List.cons.injEq,and_true] at hx hy;subst hx;subst hy;cases h;rw[run_equalIn_bool w d t _ _ hu];congr 1
   case int k=>
    simp at hag';subst hag';simp only[Rp] at h;unfold Bs5 at h;split at h<;>try (cases h;done)
    split at h<;>try (cases h;done)
    rename_i hk
    subst hk;simp only[Bool.false_eq_true,if_false,An,Rel] at hx hy;obtain⟨_,_,hx,rfl,rfl⟩:=hx;obtain⟨_,_,hy,rfl,rfl⟩:=hy;simp only[List.cons.injEq,and_true] at hx hy;subst hx;subst hy;cases h;simp only[Op.equalIn,Sem.run_bind,run_underlying hu,Result.andThen_ok,if_true,Sem.run_pure];congr 1
   case string=>
    simp at hag';subst hag';simp only[Rp] at h;unfold Bs6 at h;split at h<;>try (cases h;done)
    simp only[Bool.false_eq_true,if_false,An,Rel] at hx hy;obtain⟨_,_,hx,rfl,rfl⟩:=hx;obtain⟨_,_,hy,rfl,rfl⟩:=hy;simp only[List.cons.injEq,and_true] at hx hy;subst hx;subst hy;cases h;rw[run_equalIn_string (w:=w) d t _ _ hu];congr 1;rw[Bool.eq_iff_iff,Vt,Vt];simp
   case struct fs=>
    simp at hag';subst hag';obtain⟨cx,rfl⟩:=gx rfl;obtain⟨cy,rfl⟩:=gy rfl;have hfs:P.fieldsOf t=fs:=by simp [Program.fieldsOf,hu]
    simp only[Rp] at h;cases hst:P.stoodInHeld t with
    | true=>rw[hst] at h;cases h
    | false=>
     rw[hst] at h;simp only[Dj8] at h;rw[run_equalIn_struct w d t cx cy (by rw[hu,hfs]) hst,hfs];generalize fs.toList=l at h;clear hfs hu hst
     induction l generalizing b with
     | nil=>simp only[Bs4] at h;cases h;simp [Op.eqFields]
     | cons f l ih=>
      simp only[Bs4] at h;split at h<;>try (cases h;done)
      rename_i hn
      obtain⟨p',q',h1,h2,rfl⟩:=Ak8 h;obtain⟨p,q,r1,r2,r3⟩:=step f.type f.offset p' cx cy rfl rfl rfl h1;have:=ih q' h2;simp only[Op.eqFields,if_pos hn,Sem.run_bind,r1,r2,r3,Result.andThen_ok];cases p'
      ·simp
      ·simpa using this
   case array m e=>
    simp at hag';subst hag';obtain⟨cx,rfl⟩:=gx rfl;obtain⟨cy,rfl⟩:=gy rfl;simp only[Rp] at h;cases hie:P.info? e with
    | none=>rw[hie] at h;cases h
    | some ie=>
     rw[run_equalIn_array w d cx cy hu hie];rw[hie] at h;simp only[Option.isSome_some,if_true] at h;generalize List.range m=l at h;clear hu
     induction l generalizing b with
     | nil=>simp only[Aw6] at h;cases h;simp [Op.eqItems]
     | cons f l ih=>
      simp only[Aw6] at h;obtain⟨p',q',h1,h2,rfl⟩:=Ak8 h;obtain⟨p,q,r1,r2,r3⟩:=step e (f*P.cellsOf e) p' cx cy rfl rfl rfl h1;have:=ih q' h2;simp only[Op.eqItems,Sem.run_bind,r1,r2,r3,Result.andThen_ok];cases p'
      ·simp
      ·simpa using this
theorem Ai4 {op:BinOp} {t:TypeId} {x y:Operand} (h:(Fa x || Fa y)=true):eqGuard op t x y .nilIface .nilIface=pure ():=by
 unfold eqGuard;cases x<;>cases y<;>simp [Fa] at h<;>cases op<;>rfl
theorem Dk2 {b:Bool} {op:BinOp} {t:TypeId} {x y:Operand} {xv yv:Value} (hS:Sim G N s a w) (hd:Bu N o.dst=true) {t':TypeId} (he:o.op= .binOp op t x y t') (hx:a.eval x=xv) (hy:a.eval y=yv)
  (hg:eqGuard op t x y xv yv=pure ()) (hr:(Op.equal t xv yv).run P w= .ok b w) (h1: ∀k n,xv≠ .int k n) (h2: ∀l,xv≠ .string l) (h3: ∀k n,xv≠ .float k n) (h4: ∀k n m,xv≠ .complex k n m)
  (h:Lk o.dst (Mf op) (some b) K s):PV P o s a w K:=by
 obtain⟨n,b',hn,hb,hK⟩:=Vu h;cases hb;have:=Tu (P:=P) hr hn h1 h2 h3 h4;refine Za hS hd (b:=if n then !b else b) ?_ hK;simp [execOp,he,hx,hy,hg,this]
set_option maxHeartbeats 400000 in
theorem Do2 (hS:Sim G N s a w) (hd:Bu N o.dst=true) {op:BinOp} {t t':TypeId} {x y:Operand} (he:o.op= .binOp op t x y t') {dx dy:DVal} (rx:Rel w s.heap dx (a.eval x)) (ry:Rel w s.heap dy (a.eval y))
  (h:Lk o.dst (Mf op) (Pg (Fa x || Fa y) (P.underlying t) dx dy) K s):PV P o s a w K:=by
 obtain⟨n,b,hn,hb,hK⟩:=Vu h;rw[hb] at h;unfold Pg at hb;have key: ∀xv yv,a.eval x=xv->a.eval y=yv->eqGuard op t x y xv yv=pure ()->(∀d,(Op.equalIn (d+1) t xv yv).run P w= .ok b w)->(∀k n,xv≠ .int k n)->(∀l,xv≠ .string l)->(∀k n,xv≠ .float k n)->(∀k n m,xv≠ .complex k n m)->PV P o s a w K:=
  fun xv yv e1 e2 e3 e4 e5 e6 e7 e8=>Dk2 hS hd he e1 e2 e3 (e4 9999) e5 e6 e7 e8 h
 split at hb<;>(try (cases hb;done))<;>simp only[Rel] at rx ry
 case h_1 hu=>exact key _ _ rx ry (Bt (by simp) (by simp)) (by cases hb;exact fun d=>run_equalIn_bool w d t _ _ hu) (by simp) (by simp) (by simp) (by simp)
 case h_2 hu=>exact key _ _ rx ry (Bt (by simp) (by simp)) (by cases hb;intro d;simp [Op.equalIn,run_underlying hu]) (by simp) (by simp) (by simp) (by simp)
 case h_3 hu=>exact key _ _ rx ry (Bt (by simp) (by simp)) (by cases hb;intro d;simp [Op.equalIn,run_underlying hu]) (by simp) (by simp) (by simp) (by simp)
 case h_4 hu=>
  obtain⟨_,_,_,ry,_⟩:=ry;exact key _ _ rx ry (Bt (by simp) (by simp)) (by cases hb;intro d;simp [Op.equalIn,run_underlying hu]) (by simp) (by simp) (by simp) (by simp)
 case h_5 hu=>exact key _ _ rx ry (Bt (by simp) (by simp)) (by cases hb;intro d;simp [Op.equalIn,run_underlying hu]) (by simp) (by simp) (by simp) (by simp)
 case h_6 hu=>
  obtain⟨_,_,_,rx,_⟩:=rx;exact key _ _ rx ry (Bt (by simp) (by simp)) (by cases hb;intro d;simp [Op.equalIn,run_underlying hu]) (by simp) (by simp) (by simp) (by simp)
 case h_7 hu=>
  obtain⟨_,ry,_⟩:=ry;exact key _ _ rx ry (Bt (by simp) (by simp)) (by cases hb;intro d;simp [Op.equalIn,run_underlying hu]) (by simp) (by simp) (by simp) (by simp)
 case h_8 hu=>
  obtain⟨_,rx,_⟩:=rx;exact key _ _ rx ry (Bt (by simp) (by simp)) (by cases hb;intro d;simp [Op.equalIn,run_underlying hu]) (by simp) (by simp) (by simp) (by simp)
 case h_9 hu=>
  split at hb<;>(try (cases hb;done))
  rename_i hc
  exact key _ _ rx ry (Ai4 hc) (by cases hb;intro d;simp [Op.equalIn,run_underlying hu]) (by simp) (by simp) (by simp) (by simp)
 case h_10 hu=>exact key _ _ rx ry (Bt (by simp) (by simp)) (by cases hb;intro d;simp [Op.equalIn,run_underlying hu]) (by simp) (by simp) (by simp) (by simp)
 case h_11 hu=>
  obtain⟨_,_,rx,_⟩:=rx;exact key _ _ rx ry (Bt (by simp) (by simp)) (by cases hb;intro d;simp [Op.equalIn,run_underlying hu]) (by simp) (by simp) (by simp) (by simp)
 case h_12 hu=>
  obtain⟨_,_,ry,_⟩:=ry;exact key _ _ rx ry (Bt (by simp) (by simp)) (by cases hb;intro d;simp [Op.equalIn,run_underlying hu]) (by simp) (by simp) (by simp) (by simp)
 case h_13 hu=>exact key _ _ rx ry (Bt (by simp) (by simp)) (by cases hb;intro d;simp [Op.equalIn,run_underlying hu]) (by simp) (by simp) (by simp) (by simp)
 case h_14 hu=>
  obtain⟨_,_,rx,_⟩:=rx;exact key _ _ rx ry (Bt (by simp) (by simp)) (by cases hb;intro d;simp [Op.equalIn,run_underlying hu]) (by simp) (by simp) (by simp) (by simp)
 case h_15 hu=>
  obtain⟨_,_,ry,_⟩:=ry;exact key _ _ rx ry (Bt (by simp) (by simp)) (by cases hb;intro d;simp [Op.equalIn,run_underlying hu]) (by simp) (by simp) (by simp) (by simp)
theorem Bt7 (hS:Sim G N s a w) (hd:Bu N o.dst=true) {op:BinOp} {t t':TypeId} {x y:Operand} (hx:Bf N x=true) (hy:Bf N y=true) (he:o.op= .binOp op t x y t')
  (h:Km P t (Fa x || Fa y) op o.dst (dev G s.env x) (dev G s.env y) K s):PV P o s a w K:=by
 have rx:=Ax hS hx;have ry:=Ax hS hy;generalize dev G s.env x=dx at h rx;generalize dev G s.env y=dy at h ry;unfold Km at h;split at h
 ·simp only[Rel] at rx ry;exact Ck9 hS hd he rx ry h
 ·simp only[Rel] at rx ry;exact Cl0 hS hd he rx ry h
 ·rename_i xs ys
  obtain⟨hag,hge,h⟩:=h;simp only[Rel] at rx ry;obtain⟨vx,hxv,rlx⟩:=rx;obtain⟨vy,hyv,rly⟩:=ry;obtain⟨n,b,hn,hb,hK⟩:=Vu h;have hrun:=Jp (w:=w) (H:=s.heap) 6 10000 (by omega) t _ _ (.agg vx) (.agg vy) true b hag (by simpa [Value.cells] using rlx) (by simpa [Value.cells] using rly) (fun _=>⟨_,rfl⟩) (fun _=>⟨_,rfl⟩) hb;have hgd:(eqGuard op t x y (.agg vx) (.agg vy)).run P w= .ok () w:=by
   unfold eqGuard;cases op<;>simp [program,Sem.run,hge]
  have hrb:=Tu (P:=P) (w:=w) (t:=t) (x:= .agg vx) (y:= .agg vy) (b:=b) hrun hn (by simp) (by simp) (by simp) (by simp);refine Za hS hd (b:=if n then !b else b) ?_ hK;simp [execOp,he,hxv,hyv,hgd,hrb]
 ·exact Do2 hS hd he rx ry h
theorem Vv {t e:TypeId} (hu:P.underlying t=some (.slice e)) (d:Nat) {ad:Option Addr} {n cap:Nat}:(Op.equalIn (d+1) t (.slice ad n cap) (.slice none 0 0)).run P w= .ok ad.isNone w:=by
 cases ad<;>simp [Op.equalIn,run_underlying hu]
theorem Do3 (hS:Sim G N s a w) (hd:Bu N o.dst=true) {op:BinOp} {t t':TypeId} {x y:Operand} (hx:Bf N x=true) (hy:Bf N y=true) (he:o.op= .binOp op t x y t')
  (h:Xn P t (Fa x || Fa y) op o.dst (Fu y) (dev G s.env x) (dev G s.env y) K s):PV P o s a w K:=by
 cases hn:Fu y with
 | false=>
  rw[hn,Mm] at h;exact Bt7 hS hd hx hy he h
 | true=>
  rw[hn] at h;by_cases hv: ∃cs n,dev G s.env x= .vslice cs n
  ·obtain⟨cs,n,hv⟩:=hv;have rx:=Ax hS hx;rw[hv] at h rx;simp only[Xn] at h;obtain⟨ht,h⟩:=h;simp only[Rel] at rx;obtain⟨ad,cap,hev,hle,hcs⟩:=rx;have hyv:a.eval y= .slice none 0 0:=by
    unfold Fu at hn;split at hn<;>first | rfl | cases hn
   cases hu:P.underlying t with
   | none=>rw[hu] at ht;cases ht
   | some d=>
    rw[hu] at ht;cases d<;>first | (cases ht;done) | skip
    refine Dk2 hS hd he hev hyv (b:=ad.isNone) (Bt (by simp) (by simp)) ?_ (by simp) (by simp) (by simp) (by simp) (h ad.isNone ?_)
    ·exact Vv hu 9999
    ·intro hc;rcases hcs with hcs | ⟨b,o',xs,rfl,_⟩
     ·exact(hc hcs).elim
     ·rfl
  ·refine Bt7 hS hd hx hy he ?_;revert h hv;generalize dev G s.env x=dx;intro h hv;cases dx<;>first | exact h | exact(hv ⟨_,_,rfl⟩).elim
end
end Go.Dl

-- THE DATA LEVEL, PART Q: further operations: structs, addresses, slices.
namespace Go.Dl
open Go
section
variable {P:Program} {G:Nat->DVal} {N:Fr}
variable {o:Oper} {s:DS} {a:Act} {w:World} {K:DK} {Qx:Exit->Act->World->Prop}
theorem Bs (n:Nat) (zs:List DVal):(Bj n zs).length=n*zs.length:=by
 unfold Bj
 induction n with
 | zero=>simp
 | succ n ih=>simp [List.replicate_succ,ih,Nat.succ_mul];omega
theorem Cl1 (n:Nat) (zs:List DVal) (i:Nat) (hi:i<n*zs.length):(Bj n zs)[i]? =zs[i%zs.length]? :=by
 induction n generalizing i with
 | zero=>simp at hi
 | succ n ih=>
  have hr:Bj (n+1) zs=zs++Bj n zs:=by simp [Bj,List.replicate_succ]
  rw[hr];by_cases h:i<zs.length
  ·rw[List.getElem?_append_left h,Nat.mod_eq_of_lt h]
  ·have e:(n+1)*zs.length=n*zs.length+zs.length:=Nat.succ_mul _ _;rw[List.getElem?_append_right (by omega),ih (i-zs.length) (by omega)];congr 1;exact(Nat.mod_eq_sub_mod (by omega)).symm
theorem Rg {H:Ab} {zs:List DVal} {vs:Array Value} (h:An w H zs vs.toList) (n m:Nat) (hm:m=n*zs.length):
  An w H (Bj n zs) ((Array.range m).map (vs[· %vs.size]!)).toList:=by
 have hl:=h.length;refine An.mk (by simp [Bs,hm]) fun i d x h1 h2=> ?_;have hi:i<m:=by
  rcases Nat.lt_or_ge i m with h' | h'
  ·exact h'
  ·rw[List.getElem?_eq_none (by rw[Bs];omega)] at h1;cases h1
 have hz:0<zs.length:=by
  rcases Nat.eq_zero_or_pos zs.length with e | e
  ·rw[e] at hm;simp at hm;omega
  ·exact e
 rw[Cl1 n zs i (by omega)] at h1;obtain⟨y,hy,hr⟩:=h.get h1;have hsz:vs.size=zs.length:=by rw[hl];simp
 have:x=y:=by
  have h3:((Array.range m).map (vs[· %vs.size]!)).toList[i]? =some (vs[i%vs.size]!):=by simp [hi]
  rw[h3] at h2;cases h2;have hlt:i%vs.size<vs.size:=Nat.mod_lt _ (by omega);have:vs.toList[i%zs.length]? =some (vs[i%vs.size]!):=by
   rw[<-hsz];simp [hlt]
  rw[this] at hy;cases hy;rfl
 subst this;exact hr
theorem By9 (vs:List Value): ∀(j off:Nat) (c:Array Value),off+j+vs.length<=c.size->
  ((vs.zipIdx j).foldl (fun cs (p:Value×Nat)=>cs.setIfInBounds (off+p.2) p.1) c).toList=c.toList.take (off+j)++vs++c.toList.drop (off+j+vs.length):=by
 induction vs with
 | nil=>intro j off c _;simp
 | cons v vs ih=>
  intro j off c h;simp only[jA] at h;simp only[List.zipIdx_cons,List.foldl_cons];rw[ih (j+1) off _ (by simp;omega)];have hci:off+j<c.toList.length:=by simp;omega
  rw[Array.toList_setIfInBounds,jA,<-Nat.add_assoc];have e1:(c.toList.set (off+j) v).take (off+j+1)=c.toList.take (off+j)++ [v]:=by
   rw[List.take_set,List.take_succ_eq_append_getElem hci,List.set_append_right _ _ (by simp;omega)];have e0:off+j-min (off+j) c.size=0:=by omega
   simp [e0]
  have e2:(c.toList.set (off+j) v).drop (off+j+1+vs.length)=c.toList.drop (off+j+(vs.length+1)):=by
   rw[List.drop_set,if_pos (by omega)];congr 1;omega
  rw[e1,e2];simp
theorem Py {H:Ab} (place:Nat->Option (Nat×Nat)): ∀(parts:List (Nat×DVal)) (vs:List (Nat×Value)) (cs:List DVal) (c:Array Value) (out:List DVal),
  An w H cs c.toList->parts.length=vs.length->(∀(j:Nat) (i:Nat) (d:DVal),parts[j]? =some (i,d)-> ∃v,vs[j]? =some (i,v)/\An w H d.cells v.cells.toList)->
  Ox place cs parts=some out-> ∃c',Instr.fill place c vs=some c'/\An w H out c'.toList
 | [],[],cs,c,out,hc,_,_,h=>by
  simp only[Ox] at h;cases h;exact⟨c,rfl,hc⟩
 | [],_::_,_,_,_,_,hl,_,_=>by simp at hl
 | _::_,[],_,_,_,_,hl,_,_=>by simp at hl
 | (i,d)::parts,(i',v)::vs,cs,c,out,hc,hl,hp,h=>by
  obtain⟨v',hv',hr⟩:=hp 0 i d rfl;simp at hv';obtain⟨rfl,rfl⟩:=hv';simp only[Ox] at h;cases hpl:place i' with
  | none=>rw[hpl] at h;cases h
  | some os=>
   obtain⟨off,size⟩:=os;rw[hpl] at h;simp only at h;split at h
   ·rename_i hle
    obtain⟨hsz,hle⟩:=hle;have hlr:=hr.length;have hlc:=hc.length;have hvs:v.cells.size=d.cells.length:=by rw[hlr];simp
    have hcs:cs.length=c.size:=by rw[hlc];simp
    have hf:(v.cells.zipIdx.foldl (fun cs (p:Value×Nat)=>cs.setIfInBounds (off+p.2) p.1) c).toList=c.toList.take off++v.cells.toList++c.toList.drop (off+v.cells.toList.length):=by
     have:=By9 v.cells.toList 0 off c (by simp;omega);rw[<-Array.foldl_toList,Array.toList_zipIdx];simpa using this
    obtain⟨c',h1,h2⟩:=Py place parts vs (cs.take off++d.cells++cs.drop (off+d.cells.length)) (v.cells.zipIdx.foldl (fun cs (p:Value×Nat)=>cs.setIfInBounds (off+p.2) p.1) c) out
     (by rw[hf,<-hlr];exact((hc.take off).append hr).append (hc.drop _)) (by simpa using hl) (fun j i d hj=>hp (j+1) i d (by simpa using hj)) h
    refine⟨c', ?_,h2⟩;simp only[Instr.fill,hpl];rw[if_neg (by simp only[Bool.or_eq_true,decide_eq_true_eq,not_or];omega)];exact h1
   ·cases h
theorem Ny {place:Nat->Option (Nat×Nat)}: ∀ {parts:List (Nat×DVal)} {cs out:List DVal},Ox place cs parts=some out->out.length=cs.length
 | [],cs,out,h=>by simp only[Ox] at h;cases h;rfl
 | (i,d)::parts,cs,out,h=>by
  simp only[Ox] at h;cases hpl:place i with
  | none=>rw[hpl] at h;cases h
  | some os=>
   rw[hpl] at h;simp only at h;split at h
   ·rename_i hle
    rw[Ny h];simp;omega
   ·cases h
theorem Vw {s:DS} (hS:Sim G N s a w): ∀(ps:List (Nat×Operand)),(ps.all fun p=>Bf N p.2)=true->
  (Hq G s.env ps).length=(ps.map fun p=>(p.1,a.eval p.2)).length/\
  ∀(j i:Nat) (d:DVal),(Hq G s.env ps)[j]? =some (i,d)-> ∃v,(ps.map fun p=>(p.1,a.eval p.2))[j]? =some (i,v)/\An w s.heap d.cells v.cells.toList
 | [],_=>⟨rfl,by simp [Hq]⟩
 | (i,x)::ps,h=>by
  simp only[List.all_cons,jF] at h;obtain⟨h1,h2⟩:=Vw hS ps h.2;refine⟨by simpa [Hq] using h1,fun j i' d hj=> ?_⟩;cases j with
  | zero=>
   simp [Hq] at hj;obtain⟨rfl,rfl⟩:=hj;exact⟨_,rfl,Hf (Ax hS h.1)⟩
  | succ j=>simpa using h2 j i' d (by simpa [Hq] using hj)
theorem Ax5 {t:TypeId} {z:DVal} (h:Bm P t=some z): ∃v,(∀w,(zeroValue t).run P w= .ok v w)/\(∀(w:World) (H:Ab),An w H z.cells v.cells.toList):=by
 unfold Bm at h;cases hi:P.info? t with
 | none=>simp [hi] at h
 | some i=>
  cases hz:i.zero with
  | none=>simp [hi,hz] at h
  | some v=>
   simp [hi,hz] at h;subst h;exact⟨v,fun w=>by simp [zeroValue,Kv hi,hz],fun w H=>Hf (Ej w H v)⟩
theorem Yo {fs:List Field} (h:fs.all (fun f=>(P.info? f.type).isSome)=true):
  (fs.mapM (fun f=>(do pure (f.offset,<-sizeOf f.type):Sem (Nat×Nat)))).run P w= .ok (fs.map fun f=>(f.offset,P.cellsOf f.type)) w:=by
 induction fs with
 | nil=>simp
 | cons f fs ih=>
  simp only[List.all_cons,jF] at h;simp only[List.mapM_cons,Sem.run_bind,Bz h.1,Result.andThen_ok,Sem.run_pure,ih h.2,jN]
theorem Da3 (hS:Sim G N s a w) (hd:Bu N o.dst=true) {t:TypeId} {ps:Array (Nat×Operand)} (hp:(ps.toList.all fun p=>Bf N p.2)=true) (he:o.op= .build t ps)
  (h:Ap4 P o.dst (Ja P t) (P.underlying t) (Bm P t) (Hq G s.env ps.toList) K s):o.wp P a w (Fd G N K s w) Qx:=by
 obtain⟨hl,hpr⟩:=Vw hS ps.toList hp;cases hb:Ja P t with
 | false=>rw[hb] at h;exact h.elim
 | true=>
  rw[hb] at h;cases hz:Bm P t with
  | none=>rw[hz] at h;cases hu:P.underlying t with
   | none=>rw[hu] at h;exact h.elim
   | some td=>rw[hu] at h;cases td<;>exact h.elim
  | some z=>
   obtain⟨v,hv,hvr⟩:=Ax5 hz;rw[hz] at h;have hmap:(ps.map fun p=>(p.1,a.eval p.2)).toList=ps.toList.map fun p=>(p.1,a.eval p.2):=by simp
   cases hu:P.underlying t with
   | none=>rw[hu] at h;exact h.elim
   | some td=>
    rw[hu] at h;unfold Ja at hb;rw[hu] at hb;cases td<;>try exact h.elim
    case struct fs=>
     obtain⟨d,hd',hK⟩:=Gb h;simp only[Option.map_eq_some_iff] at hd';obtain⟨out,hout,rfl⟩:=hd';obtain⟨c',h1,h2⟩:=Py _ _ _ _ _ _ (hvr w s.heap) hl hpr hout;refine Gg hS hd (x:= .agg c') ?_ (by simp only[Rel];exact⟨c',rfl,h2⟩) hK;have hm:(fs.mapM (fun f=>(do pure (f.offset,<-sizeOf f.type):Sem (Nat×Nat)))).run P w= .ok (fs.map fun f=>(f.offset,P.cellsOf f.type)) w:=by
      rw[Array.mapM_eq_mapM_toList];simp only[Sem.run_map,Yo (w:=w) hb,Result.andThen_ok];congr 1;apply Array.ext';simp
     have hplace:(fun i=>(fs.map fun f=>(f.offset,P.cellsOf f.type))[i]?)=Bh3 P fs:=by
      funext i;simp [Bh3]
     simp only[execOp,he,Instr.build,Sem.run_bind,hv,run_underlying hu,Result.andThen_ok,hm,hplace,hmap,h1];simp
    case array n e=>
     obtain⟨d,hd',hK⟩:=Gb h;simp only[Option.map_eq_some_iff] at hd';obtain⟨out,hout,rfl⟩:=hd';obtain⟨c',h1,h2⟩:=Py _ _ _ _ _ _ (hvr w s.heap) hl hpr hout;refine Gg hS hd (x:= .agg c') ?_ (by simp only[Rel];exact⟨c',rfl,h2⟩) hK;have hplace:(fun i=>some (i*P.cellsOf e,P.cellsOf e))=Zl (P.cellsOf e):=rfl;simp only[execOp,he,Instr.build,Sem.run_bind,hv,run_underlying hu,Result.andThen_ok,Bz hb,hplace,hmap,h1];simp
theorem Aq4 (hS:Sim G N s a w) (hd:Bu N o.dst=true) {t:TypeId} {n:Nat} {ps:Array (Nat×Operand)} (hp:(ps.toList.all fun p=>Bf N p.2)=true) (he:o.op= .buildSlice t n ps)
  (h:Mj P n o.dst (P.underlying t) (Hq G s.env ps.toList) K s):o.wp P a w (Fd G N K s w) Qx:=by
 obtain⟨hl,hpr⟩:=Vw hS ps.toList hp;have hmap:(ps.map fun p=>(p.1,a.eval p.2)).toList=ps.toList.map fun p=>(p.1,a.eval p.2):=by simp
 cases hu:P.underlying t with
 | none=>rw[hu] at h;exact h.elim
 | some td=>
  rw[hu] at h;cases td<;>try exact h.elim
  rename_i e
  simp only[Mj] at h;cases hz:Bm P e with
  | none=>rw[hz] at h;exact h.elim
  | some z=>
   obtain⟨v,hv,hvr⟩:=Ax5 hz;rw[hz] at h;obtain⟨hle,hzl,h⟩:=h;cases hf:Ox (Zl (P.cellsOf e)) (Bj n z.cells) (Hq G s.env ps.toList) with
   | none=>rw[hf] at h;exact h.elim
   | some out=>
    rw[hf] at h;have hie:(P.info? e).isSome=true:=by
     unfold Bm at hz;cases hi:P.info? e with
     | none=>simp [hi] at hz
     | some i=>rfl
    have hb:=Rg (hvr w s.heap) n (n*P.cellsOf e) (by rw[hzl]);have hvs:v.cells.size=P.cellsOf e:=by rw[<-hzl,(hvr w s.heap).length];simp
    have hplace:(fun i=>some (i*P.cellsOf e,P.cellsOf e))=Zl (P.cellsOf e):=rfl;by_cases h0:n*P.cellsOf e=0
    ·have hb0:An w s.heap (Bj n z.cells) ((Array.range (n*P.cellsOf e)).map ((#[]:Array Value)[· %(#[]:Array Value).size]!)).toList:=by
      rw[h0] at hb⊢;simpa using hb
     obtain⟨c',h1,h2⟩:=Py _ _ _ _ _ _ hb0 hl hpr hf;refine Tt hS hd (c:=c') (n:=w.drawn) (Nat.le_refl n) (Nat.le_refl n) (by rw[<-Array.length_toList,<-h2.length,Ny hf,Bs,hzl];omega) ?_ h2 (List.prefix_refl _) h;simp only[execOp,he,Instr.buildSlice,Sem.run_bind,run_underlying hu,Result.andThen_ok,Bz hie];rw[if_neg (by simp;omega)];simp only[h0] at h1;simp only[hplace,hmap,h0,if_true,Sem.run_bind,Sem.run_pure,Result.andThen_ok,h1];simp [newRow];rfl
    ·obtain⟨c',h1,h2⟩:=Py _ _ _ _ _ _ hb hl hpr hf;refine Tt hS hd (c:=c') (n:=w.drawn) (Nat.le_refl n) (Nat.le_refl n) (by rw[<-Array.length_toList,<-h2.length,Ny hf,Bs,hzl];omega) ?_ h2 (List.prefix_refl _) h;simp only[execOp,he,Instr.buildSlice,Sem.run_bind,run_underlying hu,Result.andThen_ok,Bz hie];rw[if_neg (by simp;omega)];simp only[hplace,hmap,h0,if_false];simp [hv,h1,newRow];rfl
end
end Go.Dl

-- THE DATA LEVEL, PART R: further operations: addresses, slices, append, calls.
namespace Go.Dl
open Go
section
variable {P:Program} {G:Nat->DVal} {N:Fr}
variable {o:Oper} {s:DS} {a:Act} {w:World} {K:DK} {Qx:Exit->Act->World->Prop}
theorem Ax6 (hS:Sim G N s a w) (hd:Bu N o.dst=true) {t:TypeId} {x:Operand} {f:Nat} (hx:Bf N x=true) (he:o.op= .fieldAddr t x f)
  (h:Lm P f (dev G s.env x) o.dst (P.underlying t) K s):PV P o s a w K:=by
 have r:=Ax hS hx;cases hu:P.underlying t with
 | none=>rw[hu] at h;exact h.elim
 | some td=>
  rw[hu] at h;cases td<;>try exact h.elim
  rename_i fs
  simp only[Lm] at h;cases hf:fs[f]? with
  | none=>rw[hf] at h;exact h.elim
  | some fd=>
   rw[hf] at h;obtain⟨hsz,h⟩:=h;obtain⟨d,hd',hK⟩:=Gb h;have hi:(P.info? fd.type).isSome=true:=by
    cases hi:P.info? fd.type with
    | none=>simp [Program.cellsOf,hi] at hsz
    | some i=>rfl
   have key: ∀b off,a.eval x= .pointer (some ⟨b,off,none⟩)->(execOp a.eval o).run P w= .ok (.value (.pointer (some ⟨b,off+fd.offset,none⟩))) w:=by
    intro b off hp;simp [execOp,he,hp,Instr.fieldAt,run_underlying hu,hf,Instr.sureAddr,fieldPlace,Bz hi,Nat.pos_iff_ne_zero.1 hsz,He]
   cases hv:dev G s.env x<;>rw[hv] at hd' r<;>simp only[Yx] at hd'<;>try (cases hd';done)
   case vptr cs off=>
    cases hd';simp only[Rel] at r;obtain⟨b,o',xs,hp,hc,hl⟩:=r;refine pvI hS hd (key _ _ hp) ?_ hK;simp only[Rel];exact⟨b,o',xs,by rw[Nat.add_assoc],hc,hl⟩
   case optr r0 off=>
    cases hd';simp only[Rel] at r;exact pvI hS hd (key _ _ r) (by simp [Rel]) hK
theorem Bt8 {size:Nat} {ag:Option Bool} {t:TypeId} (hag:Dv P t=ag) (hsz:P.cellsOf t=size) {cs:List DVal} {xs:Array Value} {H:Ab} (hr:An w H cs xs.toList) {off:Nat} {dst:Option Nat}
  (h:Aw8 size cs off dst ag K s): ∃d x,(part t xs off).run P w= .ok x w/\Rel w H d x/\Bb dst d K s:=by
 subst hsz;cases ag with
 | none=>exact h.elim
 | some ag=>
  cases ag with
  | true=>
   refine⟨_, .agg (xs.extract off (off+P.cellsOf t)),by simp [part,Ip hag,Bz (Mn hag)], ?_,h⟩;have:(xs.extract off (off+P.cellsOf t)).toList=(xs.toList.drop off).take (P.cellsOf t):=by simp [Array.toList_extract,List.extract]
   simp only[Rel];exact⟨_,rfl,by rw[this];exact(hr.drop off).take _⟩
  | false=>
   obtain⟨d,hd,hK⟩:=Gb h;obtain⟨x,hx,hrel⟩:=hr.get hd;have:xs[off]? =some x:=by simpa using hx
   exact⟨d,x,by simp [part,Ip hag,this],hrel,hK⟩
theorem Da4 (hS:Sim G N s a w) (hd:Bu N o.dst=true) {t:TypeId} {x:Operand} {f:Nat} (hx:Bf N x=true) (he:o.op= .field t x f)
  (h:Zn P f o.dst (P.underlying t) (dev G s.env x) K s):PV P o s a w K:=by
 have r:=Ax hS hx;cases hu:P.underlying t with
 | none=>rw[hu] at h;exact h.elim
 | some td=>
  rw[hu] at h;cases td<;>try (cases dev G s.env x<;>exact h.elim)
  rename_i fs
  cases hv:dev G s.env x<;>rw[hv] at h r<;>try exact h.elim
  rename_i cs
  simp only[Zn] at h;simp only[Rel] at r;obtain⟨xs,hp,hl⟩:=r;cases hf:fs[f]? with
  | none=>rw[hf] at h;exact h.elim
  | some fd=>
   rw[hf] at h;obtain⟨d,y,hrun,hrel,hK⟩:=Bt8 (w:=w) rfl rfl hl h;refine pvI hS hd ?_ hrel hK;simp [execOp,he,hp,Instr.field,run_underlying hu,hf,asAgg,hrun]
theorem Ax7 (hS:Sim G N s a w) (hd:Bu N o.dst=true) {t:TypeId} {x i:Operand} (hx:Bf N x=true) (hi:Bf N i=true) (he:o.op= .indexAddr t x i)
  (h:Ln P o.dst (P.underlying t) (dev G s.env x) (dev G s.env i) K s):PV P o s a w K:=by
 have rx:=Ax hS hx;have ri:=Ax hS hi;generalize hu:P.underlying t=u at h;generalize dev G s.env x=dx at h rx;generalize dev G s.env i=di at h ri;unfold Ln at h;split at h
 ·rename_i e cs len k n
  obtain⟨hie,h0,hlt,hle,hK⟩:=h;simp only[Rel] at rx ri;obtain⟨ad,cap,hp,hcap,hc⟩:=rx;rcases hc with rfl | ⟨b,o',xs,rfl,hc,hl⟩
  ·simp at hle
  ·refine pvI hS hd (x:= .pointer (some ⟨b,o'+n.toNat*P.cellsOf e,none⟩)) ?_ (by simp only[Rel];exact⟨b,o',xs,rfl,hc,hl⟩) hK;simp [execOp,he,hp,ri,Instr.indexAt,asIntOf,run_underlying hu,Bz hie,h0,hlt,He]
 ·rename_i e _ r0 off len lo k n
  obtain⟨hie,h0,hlt,hK⟩:=h;simp only[Rel] at rx ri;obtain⟨o',cap,hp,hlo,hcap,hoff,_⟩:=rx;have:o'=off:=by rcases hoff with e | e<;>omega
  subst this;refine pvI hS hd (x:= .pointer (some ⟨r0,o'+n.toNat*P.cellsOf e,none⟩)) ?_ (by simp [Rel]) hK;simp [execOp,he,hp,ri,Instr.indexAt,asIntOf,run_underlying hu,Bz hie,h0,hlt,He]
 ·rename_i m e k n
  obtain⟨hie,h0,hlt,h⟩:=h;simp only[Rel] at ri;obtain⟨d,hd',hK⟩:=Gb h;have key: ∀b off,a.eval x= .pointer (some ⟨b,off,none⟩)->(execOp a.eval o).run P w= .ok (.value (.pointer (some ⟨b,off+n.toNat*P.cellsOf e,none⟩))) w:=by
   intro b off hp;simp [execOp,he,hp,ri,Instr.indexAt,asIntOf,run_underlying hu,Bz hie,Instr.sureAddr,h0,hlt,He]
  cases dx<;>simp only[Yx] at hd'<;>try (cases hd';done)
  case vptr cs off=>
   cases hd';simp only[Rel] at rx;obtain⟨b,o',xs,hp,hc,hl⟩:=rx;refine pvI hS hd (key _ _ hp) ?_ hK;simp only[Rel];exact⟨b,o',xs,by rw[Nat.add_assoc],hc,hl⟩
  case optr r0 off=>
   cases hd';simp only[Rel] at rx;exact pvI hS hd (key _ _ rx) (by simp [Rel]) hK
 ·exact h.elim
theorem Da5 (hS:Sim G N s a w) (hd:Bu N o.dst=true) {t:TypeId} {x i:Operand} (hx:Bf N x=true) (hi:Bf N i=true) (he:o.op= .index t x i)
  (h:Zo P o.dst (P.underlying t) (dev G s.env x) (dev G s.env i) K s):PV P o s a w K:=by
 have rx:=Ax hS hx;have ri:=Ax hS hi;generalize hu:P.underlying t=u at h;generalize dev G s.env x=dx at h rx;generalize dev G s.env i=di at h ri;unfold Zo at h;split at h
 ·rename_i m e cs k n
  obtain⟨h0,hlt,h⟩:=h;simp only[Rel] at rx ri;obtain⟨xs,hp,hl⟩:=rx;have hie:(P.info? e).isSome=true:=by
   cases hag:Dv P e with
   | none=>rw[hag] at h;exact h.elim
   | some b=>exact Mn hag
  obtain⟨d,y,hrun,hrel,hK⟩:=Bt8 (w:=w) rfl rfl hl h;refine pvI hS hd ?_ hrel hK;simp [execOp,he,hp,ri,Instr.index,asIntOf,run_underlying hu,h0,hlt,Bz hie,hrun]
 ·rename_i l k n
  obtain⟨h0,h⟩:=h;obtain⟨d,hd',hK⟩:=Gb h;simp only[Option.map_eq_some_iff] at hd';obtain⟨c,hc,rfl⟩:=hd';simp only[Rel] at rx ri;refine pvI hS hd (x:= .int .u8 c.toNat) ?_ (by simp [Rel]) hK;have hb:(ByteArray.mk ⟨l⟩)[n.toNat]? =some c:=by
   have hlt:n.toNat<l.length:=by
    rcases Nat.lt_or_ge n.toNat l.length with h' | h'
    ·exact h'
    ·rw[List.getElem?_eq_none h'] at hc;cases hc
   rw[List.getElem?_eq_getElem hlt] at hc;cases hc;have:n.toNat<(ByteArray.mk ⟨l⟩).size:=hlt;rw[getElem?_pos (ByteArray.mk ⟨l⟩) n.toNat this];rfl
  simp [execOp,he,rx,ri,Instr.index,asIntOf,run_underlying hu,h0,hb]
 ·exact h.elim
theorem Iq {t:TypeId} {z:DVal} (h:Bm P t=some z): ∃i v,P.info? t=some i/\i.zero=some v/\z=Cu v:=by
 unfold Bm at h;cases hi:P.info? t with
 | none=>simp [hi] at h
 | some i=>
  cases hz:i.zero with
  | none=>simp [hi,hz] at h
  | some v=>
   simp [hi,hz] at h;exact⟨i,v,rfl,hz,h.symm⟩
theorem Ax8 (hS:Sim G N s a w) (hd:Bu N o.dst=true) {t:TypeId} {l c:Operand} (hl:Bf N l=true) (hc:Bf N c=true) (he:o.op= .makeSlice t l c)
  (h:Ns P o.dst (P.underlying t) (dev G s.env l) (dev G s.env c) K s):o.wp P a w (Fd G N K s w) Qx:=by
 have rl:=Ax hS hl;have rc:=Ax hS hc;generalize hu:P.underlying t=u at h;generalize dev G s.env l=dl at h rl;generalize dev G s.env c=dc at h rc;unfold Ns at h;split at h
 ·rename_i e k n k' m
  simp only[Rel] at rl rc;cases hz:Bm P e with
  | none=>rw[hz] at h;exact h.elim
  | some z=>
   rw[hz] at h;obtain⟨h0,hle,hb,hm,hzl,hpos,h⟩:=h;obtain⟨ie,v,hie,hiz,rfl⟩:=Iq hz;have hby:P.bytesOf e=ie.bytes:=by simp [Program.bytesOf,hie]
   have hcs:P.cellsOf e=ie.size:=by simp [Program.cellsOf,hie]
   rw[hby] at hb;have hvr:An w s.heap (Cu v).cells v.cells.toList:=Hf (Ej w s.heap v);have hr:=Rg hvr m.toNat (m.toNat*ie.size) (by rw[hzl,hcs]);have hrun:=run_make (P:=P) w t e ie v hu hie hiz k k' n m h0 hle (by rw[Int.mul_comm];omega) (by omega);exact Tt hS hd (n:=w.drawn) (Nat.le_refl _) (by omega) (by simp [hcs]) (by simp [execOp,he,rl,rc,hrun];rfl) hr (List.prefix_refl _) h
 ·exact h.elim
theorem Zz (hS:Sim G N s a w) {x:Option Operand} (hx:(match x with | some x=>Bf N x | none=>true)=true):
  (x=none/\Kn G s.env x=none)\/ ∃y,x=some y/\Kn G s.env x=some (dev G s.env y)/\Rel w s.heap (dev G s.env y) (a.eval y):=by
 cases x with
 | none=>exact .inl ⟨rfl,rfl⟩
 | some y=>exact .inr ⟨y,rfl,rfl,Ax hS hx⟩
theorem Db {k:IntKind} {n:Int} {y:Nat} {c:BoundsCode} (h0:0<=n) (h1:n<=y):(Instr.sliceBound (.int k n) y c).run P w= .ok n.toNat w:=by
 simp [Instr.sliceBound,asIntOf,h0,h1]
theorem Tw (hS:Sim G N s a w) {x:Option Operand} (hx:(match x with | some x=>Bf N x | none=>true)=true) {n:Int} (h:dLo (Kn G s.env x)=some n):
  (x=none/\n=0)\/ ∃y k,x=some y/\a.eval y= .int k n:=by
 rcases Zz hS hx with⟨rfl,e⟩ | ⟨y,rfl,e,r⟩
 ·rw[e] at h;simp [dLo] at h;exact .inl ⟨rfl,h.symm⟩
 ·rw[e] at h
  cases hd:dev G s.env y<;>rw[hd] at h r<;>simp [dLo] at h
  subst h
  simp only[Rel] at r
  exact .inr ⟨y,_,rfl,r⟩
theorem Cl2 (hS:Sim G N s a w) {x:Option Operand} (hx:(match x with | some x=>Bf N x | none=>true)=true) {l:Nat} {n:Int} (h:dHi l (Kn G s.env x)=some n):
  (x=none/\n=l)\/ ∃y k,x=some y/\a.eval y= .int k n:=by
 rcases Zz hS hx with⟨rfl,e⟩ | ⟨y,rfl,e,r⟩
 ·rw[e] at h;simp [dHi] at h;exact .inl ⟨rfl,h.symm⟩
 ·rw[e] at h
  cases hd:dev G s.env y<;>rw[hd] at h r<;>simp [dHi] at h
  subst h
  simp only[Rel] at r
  exact .inr ⟨y,_,rfl,r⟩
theorem Ir (hS:Sim G N s a w) {lo hi:Option Operand} (hlo:(match lo with | some x=>Bf N x | none=>true)=true) (hhi:(match hi with | some x=>Bf N x | none=>true)=true)
  {b:Bool} {len cap:Nat} {l h:Int} (el:dLo (Kn G s.env lo)=some l) (eh:dHi len (Kn G s.env hi)=some h) (h0:0<=l) (h1:l<=h) (h2:h<=cap):
  (Instr.sliceBounds b len cap (lo.map a.eval) (hi.map a.eval) none).run P w= .ok (l.toNat,h.toNat,cap) w:=by
 rcases Tw hS hlo el with⟨rfl,rfl⟩ | ⟨y,k,rfl,ey⟩<;>rcases Cl2 hS hhi eh with⟨rfl,rfl⟩ | ⟨z,k',rfl,ez⟩
 ·simp [Instr.sliceBounds]
 ·simp [Instr.sliceBounds,ez,Db (P:=P) (w:=w) (k:=k') (n:=h) (y:=cap) (by omega) h2]
 ·simp [Instr.sliceBounds,ey,Db (P:=P) (w:=w) (k:=k) (n:=l) (y:=len) h0 h1]
 ·have:l<=(h.toNat:Int):=by omega
  simp [Instr.sliceBounds,ey,ez,Db (P:=P) (w:=w) (k:=k') (n:=h) (y:=cap) (by omega) h2,Db (P:=P) (w:=w) (k:=k) (n:=l) (y:=h.toNat) h0 this]
theorem Ax9 (hS:Sim G N s a w) {lo hi mx:Option Operand} (hlo:(match lo with | some x=>Bf N x | none=>true)=true) (hhi:(match hi with | some x=>Bf N x | none=>true)=true) (hmx:(match mx with | some x=>Bf N x | none=>true)=true)
  {b:Bool} {len cap:Nat} {l h m:Int} (el:dLo (Kn G s.env lo)=some l) (nh:hi≠none) (nm:mx≠none) (eh:dLo (Kn G s.env hi)=some h) (em:dLo (Kn G s.env mx)=some m) (h0:0<=l) (h1:l<=h) (h2:h<=m) (h3:m<=cap):
  (Instr.sliceBounds b len cap (lo.map a.eval) (hi.map a.eval) (mx.map a.eval)).run P w= .ok (l.toNat,h.toNat,m.toNat) w:=by
 obtain⟨z,kz,rfl,ez⟩:=(Tw hS hhi eh).resolve_left (fun e=>nh e.1)
 obtain⟨u,ku,rfl,eu⟩:=(Tw hS hmx em).resolve_left (fun e=>nm e.1)
 have r1:h<=(m.toNat:Int):=by omega
 have r2:l<=(h.toNat:Int):=by omega
 rcases Tw hS hlo el with⟨rfl,rfl⟩ | ⟨y,k,rfl,ey⟩
 ·simp [Instr.sliceBounds,ez,eu,Db (P:=P) (w:=w) (k:=ku) (n:=m) (y:=cap) (by omega) h3,Db (P:=P) (w:=w) (k:=kz) (n:=h) (y:=m.toNat) (by omega) r1]
 ·simp [Instr.sliceBounds,ez,eu,ey,Db (P:=P) (w:=w) (k:=ku) (n:=m) (y:=cap) (by omega) h3,Db (P:=P) (w:=w) (k:=kz) (n:=h) (y:=m.toNat) (by omega) r1,Db (P:=P) (w:=w) (k:=k) (n:=l) (y:=h.toNat) h0 r2]
theorem By5.le {r n m:Nat} (h:By5 w r n) (hm:m<=n):By5 w r m:=⟨h.1,fun k hk=>Nat.le_trans hm (h.2 k hk)⟩
theorem Da6 (hS:Sim G N s a w) (hd:Bu N o.dst=true) {t:TypeId} {x:Operand} {lo hi mx:Option Operand} (hx:Bf N x=true)
  (hlo:(match lo with | some x=>Bf N x | none=>true)=true) (hhi:(match hi with | some x=>Bf N x | none=>true)=true) (hmx:(match mx with | some x=>Bf N x | none=>true)=true) (he:o.op= .slice t x lo hi mx)
  (h:Vn P (Kn G s.env lo) (Kn G s.env hi) o.dst (P.underlying t) (dev G s.env x) (Kn G s.env mx) K s):PV P o s a w K:=by
 have rx:=Ax hS hx
 generalize hu:P.underlying t=u at h
 generalize dev G s.env x=dx at h rx
 generalize hm:Kn G s.env mx=dm at h
 have hmn:dm=none->mx=none:=by
  intro e;subst e
  cases mx with
  | none=>rfl
  | some y=>simp [Kn] at hm
 unfold Vn at h
 split at h
 ·-- a string
  rename_i l
  obtain rfl:=hmn rfl
  simp only[Rel] at rx
  unfold Vm at h
  split at h<;>try exact h.elim
  rename_i lo' hi' el eh
  obtain⟨h0,h1,h2,hK⟩:=h
  have hb:=Ir (P:=P) hS hlo hhi (b:=false) (cap:=l.length) el eh h0 h1 h2
  refine pvI hS hd (x:= .string ⟨⟨(l.drop lo'.toNat).take (hi'.toNat-lo'.toNat)⟩⟩) ?_ (by simp [Rel]) hK
  have hsz:(ByteArray.mk ⟨l⟩).size=l.length:=rfl
  have hex:(ByteArray.mk ⟨l⟩).extract lo'.toNat hi'.toNat=⟨⟨(l.drop lo'.toNat).take (hi'.toNat-lo'.toNat)⟩⟩:=by
   apply ByteArray.ext
   rw[ByteArray.data_extract]
   apply Array.ext'
   simp [Array.toList_extract,List.extract]
  simp [execOp,he,rx,Instr.sliceAt,Instr.slice,run_underlying hu,hsz,hb,hex]
 ·-- a nil slice
  rename_i e
  obtain rfl:=hmn rfl
  obtain⟨hie,h⟩:=h
  simp only[Rel] at rx
  unfold Ap9 at h
  split at h<;>try exact h.elim
  rename_i lo' hi' el eh
  obtain⟨rfl,rfl,hK⟩:=h
  have hb:=Ir (P:=P) hS hlo hhi (b:=true) (cap:=0) el eh (by omega) (by omega) (by omega)
  refine pvI hS hd (x:= .slice none 0 0) ?_ (by simp [Rel]) hK
  simp [execOp,he,rx,Instr.sliceAt,Instr.slice,run_underlying hu,hb,Bz hie]
 ·-- memory that lasts
  rename_i e cs len
  obtain rfl:=hmn rfl
  obtain⟨hie,h⟩:=h
  simp only[Rel] at rx
  obtain⟨ad,cap,hp,hcap,hc⟩:=rx
  unfold Tn at h
  split at h<;>try exact h.elim
  rename_i lo' hi' el eh
  obtain⟨h0,h1,h2,hK⟩:=h
  have hb:=Ir (P:=P) hS hlo hhi (b:=true) (cap:=cap) el eh h0 h1 (by omega)
  refine pvI hS hd (x:= .slice (if cap=lo'.toNat then ad else ad.map (·.add (lo'.toNat*P.cellsOf e))) (hi'.toNat-lo'.toNat) (cap-lo'.toNat)) ?_ ?_ hK
  ·simp [execOp,he,hp,Instr.sliceAt,Instr.slice,run_underlying hu,hb,Bz hie]
  ·simp only[Rel]
   refine⟨_,_,rfl,by omega, ?_⟩
   by_cases hcl:cap=lo'.toNat
   ·have:hi'.toNat-lo'.toNat=0:=by omega
    rw[this];exact .inl (by simp)
   ·rw[if_neg hcl]
    rcases hc with rfl | ⟨b,o',xs,rfl,hc,hl⟩
    ·exact .inl (by simp)
    ·refine .inr ⟨b,o'+lo'.toNat*P.cellsOf e,(xs.drop (lo'.toNat*P.cellsOf e)).take ((hi'.toNat-lo'.toNat)*P.cellsOf e),by simp [He], ?_,(hl.drop _).take _⟩
     rcases hc with rfl | ⟨g1,g2⟩
     ·exact .inl (by simp)
     ·exact .inr ⟨g1,(Kq.drop g2).take⟩
 ·-- a slice of the call's own
  rename_i e sz r0 off len lo0
  obtain rfl:=hmn rfl
  obtain⟨hie,rfl,h⟩:=h
  simp only[Rel] at rx
  obtain⟨o',cap,hp,hlo0,hcap,hoff,hroom⟩:=rx
  unfold Nu at h
  split at h<;>try exact h.elim
  rename_i lo' hi' mx' el eh em
  cases em
  obtain⟨h0,h1,h2,h3,hK⟩:=h
  have hb:=Ir (P:=P) hS hlo hhi (b:=true) (cap:=cap) el eh h0 h1 (by omega)
  refine pvI hS hd (x:= .slice (if cap=lo'.toNat then some ⟨r0,o',none⟩ else some ⟨r0,o'+lo'.toNat*P.cellsOf e,none⟩) (hi'.toNat-lo'.toNat) (cap-lo'.toNat)) ?_ ?_ hK
  ·simp [execOp,he,hp,Instr.sliceAt,Instr.slice,run_underlying hu,hb,Bz hie,He]
  ·simp only[Rel]
   have hsub:(cap-lo'.toNat)*P.cellsOf e+lo'.toNat*P.cellsOf e=cap*P.cellsOf e:=by
    rw[<-Nat.add_mul];congr 1;omega
   by_cases hcl:cap=lo'.toNat
   ·exact⟨o',cap-lo'.toNat,by simp [hcl],by omega,by omega, .inl (by omega),hroom.le (by omega)⟩
   ·refine⟨o'+lo'.toNat*P.cellsOf e,cap-lo'.toNat,by simp [hcl],by omega,by omega, .inr ?_,hroom.le (by omega)⟩
    rcases hoff with e1 | e1
    ·omega
    ·rw[e1]
 ·-- a slice of the call's own, with a third index
  rename_i e sz r0 off len lo0 m
  obtain⟨hie,rfl,hhs,h⟩:=h
  simp only[Rel] at rx
  obtain⟨o',cap,hp,hlo0,hcap,hoff,hroom⟩:=rx
  unfold Nu at h
  split at h<;>try exact h.elim
  rename_i lo' hi' mx' el eh em
  obtain⟨h0,h1,h2,h3,hK⟩:=h
  have hhn:hi≠none:=by rintro rfl;simp [Kn] at hhs
  have hmn':mx≠none:=by rintro rfl;simp [Kn] at hm
  have hb:=Ax9 (P:=P) hS hlo hhi hmx (b:=true) (len:=len) (cap:=cap) el hhn hmn' eh (by rw[hm];exact em) h0 h1 h2 (by omega)
  refine pvI hS hd (x:= .slice (if mx'.toNat=lo'.toNat then some ⟨r0,o',none⟩ else some ⟨r0,o'+lo'.toNat*P.cellsOf e,none⟩) (hi'.toNat-lo'.toNat) (mx'.toNat-lo'.toNat)) ?_ ?_ hK
  ·simp [execOp,he,hp,Instr.sliceAt,Instr.slice,run_underlying hu,hb,Bz hie,He]
  ·simp only[Rel]
   have hsub:(mx'.toNat-lo'.toNat)*P.cellsOf e+lo'.toNat*P.cellsOf e=mx'.toNat*P.cellsOf e:=by
    rw[<-Nat.add_mul];congr 1;omega
   have hmc:mx'.toNat*P.cellsOf e<=cap*P.cellsOf e:=Nat.mul_le_mul_right _ (by omega)
   by_cases hcl:mx'.toNat=lo'.toNat
   ·exact⟨o',mx'.toNat-lo'.toNat,by simp [hcl],by omega,by omega, .inl (by omega),hroom.le (by omega)⟩
   ·refine⟨o'+lo'.toNat*P.cellsOf e,mx'.toNat-lo'.toNat,by simp [hcl],by omega,by omega, .inr ?_,hroom.le (by omega)⟩
    rcases hoff with e1 | e1
    ·omega
    ·rw[e1]
 ·-- an array of the call's own
  rename_i n e r0 off
  obtain rfl:=hmn rfl
  obtain⟨hie,hrm,h⟩:=h
  simp only[Rel] at rx
  have hroom:By5 w r0 (off+n*P.cellsOf e):=by
   cases hh:s.heap r0 with
   | none=>rw[hh] at hrm;exact hrm.elim
   | some ob=>
    cases ob with
    | loop=>rw[hh] at hrm;exact hrm.elim
    | iter=>rw[hh] at hrm;exact hrm.elim
    | map=>rw[hh] at hrm;exact hrm.elim
    | cells cs e'=>
     rw[hh] at hrm
     obtain⟨xs,c,fz,g1,g2,g3,g4⟩:=hS.heap r0 _ hh
     refine⟨hS.heap.lt (by simp [hh]),fun k hk=> ?_⟩
     rw[g1] at hk
     simp [Ji] at hk
     have:=g3.length
     have:=g2.length_le
     simp only[Array.length_toList] at this
     simp only[Dk0] at hrm
     omega
  unfold Nu at h
  split at h<;>try exact h.elim
  rename_i lo' hi' mx' el eh em
  cases em
  obtain⟨h0,h1,h2,h3,hK⟩:=h
  have hb:=Ir (P:=P) hS hlo hhi (b:=false) (cap:=n) el eh h0 h1 h2
  refine pvI hS hd (x:= .slice (some (if n=lo'.toNat then⟨r0,off,none⟩ else⟨r0,off+lo'.toNat*P.cellsOf e,none⟩)) (hi'.toNat-lo'.toNat) (n-lo'.toNat)) ?_ ?_ hK
  ·simp [execOp,he,rx,Instr.sliceAt,run_underlying hu,Instr.sureAddr,hb,Bz hie,He]
  ·simp only[Rel]
   have hsub:(n-lo'.toNat)*P.cellsOf e+lo'.toNat*P.cellsOf e=n*P.cellsOf e:=by
    rw[<-Nat.add_mul];congr 1;omega
   by_cases hcl:n=lo'.toNat
   ·exact⟨off,n-lo'.toNat,by simp [hcl],by omega,by omega, .inl (by omega),hroom.le (by omega)⟩
   ·exact⟨off+lo'.toNat*P.cellsOf e,n-lo'.toNat,by simp [hcl],by omega,by omega, .inr rfl,hroom.le (by omega)⟩
 ·-- an array in memory that lasts
  rename_i n e cs off
  obtain rfl:=hmn rfl
  obtain⟨hie,hle,h⟩:=h
  simp only[Rel] at rx
  obtain⟨b,o',xs,hp,hc,hl⟩:=rx
  unfold Tn at h
  split at h<;>try exact h.elim
  rename_i lo' hi' el eh
  obtain⟨h0,h1,h2,hK⟩:=h
  have hb:=Ir (P:=P) hS hlo hhi (b:=false) (cap:=n) el eh h0 h1 h2
  refine pvI hS hd (x:= .slice (some (if n=lo'.toNat then⟨b,o'+off,none⟩ else⟨b,o'+off+lo'.toNat*P.cellsOf e,none⟩)) (hi'.toNat-lo'.toNat) (n-lo'.toNat)) ?_ ?_ hK
  ·simp [execOp,he,hp,Instr.sliceAt,run_underlying hu,Instr.sureAddr,hb,Bz hie,He]
  ·simp only[Rel]
   refine⟨_,_,rfl,by omega, ?_⟩
   by_cases hcl:n=lo'.toNat
   ·have:hi'.toNat-lo'.toNat=0:=by omega
    rw[this];exact .inl (by simp)
   ·rw[if_neg hcl]
    refine .inr ⟨b,o'+off+lo'.toNat*P.cellsOf e,((((xs.drop off).take (n*P.cellsOf e)).drop (lo'.toNat*P.cellsOf e)).take ((hi'.toNat-lo'.toNat)*P.cellsOf e)),rfl, ?_,(((hl.drop _).take _).drop _).take _⟩
    rcases hc with rfl | ⟨g1,g2⟩
    ·exact .inl (by simp)
    ·exact .inr ⟨g1,(Kq.drop (Kq.take (Kq.drop g2))).take⟩
 ·exact h.elim
end
end Go.Dl
