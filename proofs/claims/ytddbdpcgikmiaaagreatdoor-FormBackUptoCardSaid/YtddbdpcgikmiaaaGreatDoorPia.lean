/- The data level and the contracts of the functions that are reached (part 1). -/
import Derived.Shelf.Lays
import Derived.Shelf.Strings.Fields
import Derived.Shelf.Strings.Repeat
import Derived.Test.YtddbdpcgikmiaaaGreatDoorProg
import Derived.WalkKit
import Derived.OwnWalk
import Derived.RangeFuncNested
import Derived.RangeFuncCalls
import Derived.TacticsIn
import Derived.OrdersIn
set_option linter.unusedSimpArgs false
set_option linter.unusedVariables false
set_option linter.unusedSectionVars false
set_option maxHeartbeats 400000000
attribute [go_sem ↓] reduceIte
theorem jA {α : Type _} {a : α} {l : List α} : (a::l).length = l.length+1 := rfl
theorem jB {α : Type _} : ([] : List α).length = 0 := rfl
theorem jC {α : Type _} {a b : List α} : (a++b).length = a.length+b.length := List.length_append
theorem jD (n : Nat) : (n:Int).toNat = n := rfl
theorem jE {α : Type _} {a : α} {l : List α} {i : Nat} : (a::l).drop (i+1) = l.drop i := rfl
theorem jF (a b : Bool) : ((a && b) = true) = (a = true ∧ b = true) := Bool.and_eq_true a b
theorem jG {α : Type _} (l : List α) : [] ++ l = l := rfl
theorem jH {α : Type _} (l : List α) : l ++ [] = l := List.append_nil l
theorem jI {α : Type _} {a : α} {l m : List α} : (a::l) ++ m = a::(l++m) := rfl
theorem jJ {α : Type _} {l : List α} : l.drop 0 = l := rfl
theorem jK {α : Type _} {β : Type _} {l : List α} (f : α → β) : (l.map f).length = l.length := List.length_map f
theorem jL {α : Type _} {i : Nat} : ([] : List α).drop i = [] := List.drop_nil
theorem jM {α : Type _} {a : α} {l : List α} {i : Nat} : (a::l).take (i+1) = a::l.take i := rfl
theorem jN {α : Type _} {β : Type _} {f : α → β} {a : α} {l : List α} : (a::l).map f = f a::l.map f := rfl
theorem jO {α : Type _} (a b c : List α) : a ++ b ++ c = a ++ (b ++ c) := List.append_assoc a b c
theorem jP {α : Type _} {β : Type _} {f : α → β} : ([] : List α).map f = [] := rfl
theorem jQ {α : Type _} {a : α} : [a].length = 1 := rfl
theorem jR {α : Type _} {l : List α} : l.take 0 = [] := List.take_zero
theorem jS (b : Bool) : (true && b) = b := Bool.true_and b
theorem jT (b : Bool) : (false && b) = false := Bool.false_and b
-- Bs
namespace Go.Proofs
open Go.Shelf
def Tryz.lays157_ren:Go.Shelf.Ren:=⟨λ| 157=>307| 229=>321| 199=>322| 261=>326| 311=>327| 312=>328|n=>n,λ| 9=>9| 31=>54| 3=>3| 5=>5| 4=>4| 119=>332| 0=>0| 40=>334| 152=>336| 21=>21| 154=>338| 51=>273| 141=>340| 196=>344| 193=>341| 198=>347| 49=>345| 194=>342| 201=>350| 226=>352| 46=>204| 227=>353|n=>n,λ| 0=>1| 6=>2|n=>n⟩
theorem Tryz.lays157:Go.Proofs.Lays.n157 Tryz.prog Tryz.lays157_ren:= {
  mixed:=by kernel_rfl
  f157:=Tryz.func307.trans (congrArg some (by kernel_rfl))
  f199:=Tryz.func322.trans (congrArg some (by kernel_rfl))
  f229:=Tryz.func321.trans (congrArg some (by kernel_rfl))
  f261:=Tryz.func326.trans (congrArg some (by kernel_rfl))
  f311:=Tryz.func327.trans (congrArg some (by kernel_rfl))
  f312:=Tryz.func328.trans (congrArg some (by kernel_rfl))
  t0:=Tryz.underlying0
  a0:=Tryz.isAgg0
  z0:=Tryz.sizeOf0
  v0:=Tryz.zeroValue0
  t3:=Tryz.underlying3
  a3:=Tryz.isAgg3
  z3:=Tryz.sizeOf3
  v3:=Tryz.zeroValue3
  t4:=Tryz.underlying4
  a4:=Tryz.isAgg4
  z4:=Tryz.sizeOf4
  v4:=Tryz.zeroValue4
  t5:=Tryz.underlying5
  a5:=Tryz.isAgg5
  z5:=Tryz.sizeOf5
  v5:=Tryz.zeroValue5
  t9:=Tryz.underlying9
  a9:=Tryz.isAgg9
  z9:=Tryz.sizeOf9
  v9:=Tryz.zeroValue9
  t21:=Tryz.underlying21
  a21:=Tryz.isAgg21
  z21:=Tryz.sizeOf21
  v21:=Tryz.zeroValue21
  t31:=Tryz.underlying54
  a31:=Tryz.isAgg54
  z31:=Tryz.sizeOf54
  v31:=Tryz.zeroValue54
  t40:=Tryz.underlying334
  a40:=Tryz.isAgg334
  z40:=Tryz.sizeOf334
  v40:=Tryz.zeroValue334
  t46:=Tryz.underlying204
  a46:=Tryz.isAgg204
  z46:=Tryz.sizeOf204
  v46:=Tryz.zeroValue204
  t49:=Tryz.underlying345
  a49:=Tryz.isAgg345
  z49:=Tryz.sizeOf345
  v49:=Tryz.zeroValue345
  t51:=Tryz.underlying273
  a51:=Tryz.isAgg273
  z51:=Tryz.sizeOf273
  v51:=Tryz.zeroValue273
  t119:=Tryz.underlying332
  a119:=Tryz.isAgg332
  z119:=Tryz.sizeOf332
  t141:=Tryz.underlying340
  a141:=Tryz.isAgg340
  z141:=Tryz.sizeOf340
  v141:=Tryz.zeroValue340
  t152:=Tryz.underlying336
  a152:=Tryz.isAgg336
  z152:=Tryz.sizeOf336
  v152:=Tryz.zeroValue336
  t154:=Tryz.underlying338
  a154:=Tryz.isAgg338
  z154:=Tryz.sizeOf338
  v154:=Tryz.zeroValue338
  t193:=Tryz.underlying341
  a193:=Tryz.isAgg341
  z193:=Tryz.sizeOf341
  v193:=Tryz.zeroValue341
  t194:=Tryz.underlying342
  a194:=Tryz.isAgg342
  z194:=Tryz.sizeOf342
  v194:=Tryz.zeroValue342
  t196:=Tryz.underlying344
  a196:=Tryz.isAgg344
  z196:=Tryz.sizeOf344
  v196:=Tryz.zeroValue344
  t198:=Tryz.underlying347
  a198:=Tryz.isAgg347
  z198:=Tryz.sizeOf347
  v198:=Tryz.zeroValue347
  t201:=Tryz.underlying350
  a201:=Tryz.isAgg350
  z201:=Tryz.sizeOf350
  v201:=Tryz.zeroValue350
  t226:=Tryz.underlying352
  a226:=Tryz.isAgg352
  z226:=Tryz.sizeOf352
  v226:=Tryz.zeroValue352
  t227:=Tryz.underlying353
  a227:=Tryz.isAgg353
  z227:=Tryz.sizeOf353
  v227:=Tryz.zeroValue353
  g0:=by kernel_rfl
  g6:=by kernel_rfl }
open Go.RowKit Go.Lib in
theorem Tryz.strings_Fields (s:ByteArray) (w:World) (hs:s.size<4294967281) (y: ∀(j:Nat) b,s.data.toList[j]? =some b->b.toNat<128) (C:Lib.TabIs Tryz.prog w "strings.asciiSpace" .u8 Lib.asciiSpaceTab):
  Calls Tryz.prog 307 #[.string s] w λe w'=>
   e= .returned (.slice (some ⟨w.heap.size,0,none⟩) (Lib.fields s.data.toList).length (Lib.fields s.data.toList).length)/\w'=w.alloc (.cells ((Lib.fields s.data.toList).map λl=>Value.string ⟨l.toArray⟩).toArray 9):=Any.strings_Fields Tryz.lays157 (by kernel_rfl) (by kernel_rfl) s w hs y C
end Go.Proofs
-- Da
namespace Go.Dl
open Go
attribute [go_sem] Nat.reduceEqDiff Nat.reduceAdd Nat.reduceMul Nat.reduceSub Nat.reduceLeDiff reduceCtorEq Int.reduceAdd Int.reduceSub Int.reduceMul Int.reduceNeg Int.reduceToNat List.reduceReplicate String.reduceEq
inductive DVal where
 |raw (v:Value)
 |bool (b:Bool)
 |int (k:IntKind) (n:Int)
 |str (s:List UInt8)
 |nilPtr
 |vptr (cs:List DVal) (off:Nat)
 |optr (r off:Nat)
 |nilSlice
 |vslice (cs:List DVal) (len:Nat)
 |oslice (sz r off len lo:Nat)
 |nilMap
 |omap (r:Nat)
 |func (fn:Fn) (first captured:List DVal)
 |nilFunc
 |iface (t:TypeId) (v:DVal)
 |nilIface
 |agg (cs:List DVal)
 |tuple (vs:List DVal)
 deriving Inhabited
def DVal.cells:DVal->List DVal
 | .agg cs=>cs
 |v=> [v]
def DVal.one:DVal->Bool
 | .agg _| .tuple _=>false
 | .raw v=>v.oneCell'
 |_=>true
inductive DObj where
 |cells (cs:List DVal) (e:TypeId)
 /-- The record of a loop over an iterator: the slots as they were where it began (the record's own 'tmps' are not looked at). -/
 |loop (env:Nat->DVal) (n:Nat) (r:Loop)
 /-- A map: its entries, in the order in which they were laid. -/
 |map (es:List (DVal×DVal))
 /-- A walk through a string's characters. -/
 |iter (s:List UInt8) (pos:Nat)
abbrev Ab:=Nat->Option DObj
def upd {α:Type} (f:Nat->α) (i:Nat) (v:α):Nat->α:=λj=>if j=i then v else f j
structure DS where
 env:Nat->DVal
 heap:Ab
inductive DExit where
 |normal
 |exit (id:Nat)
 |goto (l:Nat)
 |ret
 |panic (v:DVal)
inductive DEnd where
 |ret (v:DVal)
 |panic (v:DVal)
def Uu (w:World) (H:Ab) (b off:Nat) (xs:List Value):Prop:=
 xs= []\/(H b=none/\ ∀i x,xs[i]? =some x->w.cell? ⟨b,off+i,none⟩=some x)
def Pn:Option Obj->Option Nat
 |some (.cells c _ _)=>some c.size
 |_=>none
def Ei1 (w:World) (r n:Nat):Prop:=r<w.heap.size/\ ∀k,Pn w.heap[r]? =some k->n<=k
mutual
/-- The value of the data level describes the model's value. -/
def Rel (w:World) (H:Ab):DVal->Value->Prop
 | .raw x,v=>v=x/\x.oneCell'=true
 | .bool b,v=>v= .bool b
 | .int k n,v=>v= .int k n
 | .str s,v=>v= .string ⟨⟨s⟩⟩
 | .nilPtr,v=>v= .pointer none
 | .vptr cs off,v=> ∃b o xs,v= .pointer (some ⟨b,o+off,none⟩)/\Uu w H b o xs/\Ar w H cs xs
 | .optr r off,v=>v= .pointer (some ⟨r,off,none⟩)
 | .nilSlice,v=>v= .slice none 0 0
 | .vslice cs len,v=> ∃a cap,v= .slice a len cap/\len<=cap/\(cs= []\/ ∃b o xs,a=some ⟨b,o,none⟩/\Uu w H b o xs/\Ar w H cs xs)
 | .oslice sz r off len lo,v=> ∃o cap,v= .slice (some ⟨r,o,none⟩) len cap/\lo<=cap/\len<=cap/\(cap=0\/o=off)/\Ei1 w r (o+cap*sz)
 | .nilMap,v=>v= .map none
 | .omap r,v=>v= .map (some r)
 | .func fn first captured,v=> ∃xs ys,v= .func fn xs ys/\Ar w H first xs.toList/\Ar w H captured ys.toList
 | .nilFunc,v=>v= .nilFunc
 | .iface t d,v=> ∃x,v= .iface t x/\Rel w H d x
 | .nilIface,v=>v= .nilIface
 | .agg cs,v=> ∃xs,v= .agg xs/\Ar w H cs xs.toList
 | .tuple cs,v=> ∃xs,v= .tuple xs/\Ar w H cs xs.toList
def Ar (w:World) (H:Ab):List DVal->List Value->Prop
 | [],xs=>xs= []
 |d::ds,xs=> ∃y ys,xs=y::ys/\Rel w H d y/\Ar w H ds ys
end
def Ab7 (w:World) (H:Ab):List (DVal×DVal)->List MapEntry->Prop
 | [],ms=>ms= []
 |p::es,ms=> ∃m ms',ms=m::ms'/\Rel w H p.1 m.key/\Rel w H p.2 m.val/\Ab7 w H es ms'
def Am4 (w:World) (H:Ab):DObj->Option Obj->Prop
 | .cells cs e,o=> ∃xs c fz,o=some (.cells c e fz)/\xs<+:c.toList/\Ar w H cs xs/\ ∀i,i<c.size-> ¬(fz.1<=i/\i<fz.2)
 | .loop env n r,o=> ∃tmps,o=some (.loop { r with tmps:=tmps })/\tmps.size=n/\ ∀i,i<n->Rel w H (env i) (tmps.getD i undef)
 | .map es,o=> ∃ms clock,o=some (.map ms clock)/\Ab7 w H es ms.toList
 | .iter s pos,o=>o=some (.stringIter ⟨⟨s⟩⟩ pos)
def Bg (w:World) (H:Ab):Prop:= ∀r o,H r=some o->Am4 w H o w.heap[r]?
structure Ext (H:Ab) (w:World) (H':Ab) (w':World):Prop where
 os:w'.os=w.os
 tape:w'.tape=w.tape
 output:w'.output=w.output
 size:w.heap.size<=w'.heap.size
 block: ∀b,b<w.heap.size->H b=none->w'.heap[b]? =w.heap[b]?
 own: ∀b,H' b≠none->H b≠none\/w.heap.size<=b
 keep: ∀b,b<w.heap.size->Pn w'.heap[b]? =Pn w.heap[b]?
 fz: ∀a,a.block<w.heap.size->H a.block=none->w'.frozen? a=w.frozen? a
structure GOk (G:Nat->DVal) (w:World) (H:Ab):Prop where
 rel: ∀g,Rel w H (G g) (.pointer (some ⟨g,0,none⟩))
 exact: ∀g cs,G g= .vptr cs 0->Pn w.heap[g]? =some cs.length
structure Base where
 b:Nat
 late:List Deferred
 still:Bool
structure Fr where
 n:Nat
 base:Base
instance:Coe Fr Nat:=⟨Fr.n⟩
def Dfs (w:World) (H:Ab) (B:Base) (ds:List Deferred):Prop:=
 ∃Ds:List Nat,ds=Ds.map (λD=>({ target:= .collected D,args:= #[] }:Deferred))++B.late/\Ds.Nodup/\ ∀D∈Ds,(B.b<=D/\B.still=false)/\w.heap[D]? =some (.deferred (some []))/\H D=none
theorem Dfs.nil (w:World) (H:Ab) (B:Nat):Dfs w H ⟨B,[],false⟩ []:=⟨[],rfl,List.nodup_nil,by simp⟩
structure Sim (G:Nat->DVal) (N:Fr) (s:DS) (a:Act) (w:World):Prop where
 size:a.tmps.size=N.n
 defers:Dfs w s.heap N.base a.defers
 tmps: ∀i,i<N.n->Rel w s.heap (s.env i) (a.tmps.getD i undef)
 heap:Bg w s.heap
 glob:GOk G w s.heap
 base:N.base.b<=w.heap.size
inductive RelX (w:World) (H:Ab):DExit->Exit->Prop
 |normal:RelX w H .normal .normal
 |exit (id:Nat):RelX w H (.exit id) (.exit id)
 |goto (l:Nat):RelX w H (.goto l) (.goto l)
 |ret:RelX w H .ret .ret
 |panic (d:DVal) (v:Value):Rel w H d v->RelX w H (.panic d) (.panic [{ v,recovered:=false }])
inductive RelE (w:World) (H:Ab):DEnd->Ending->Prop
 |ret (d:DVal) (v:Value):Rel w H d v->RelE w H (.ret d) (.returned v)
 |panic (d:DVal) (v:Value):Rel w H d v->RelE w H (.panic d) (.panicked [{ v,recovered:=false }])
def Ad (P:Program) (G:Nat->DVal) (f:FuncId) (args:List DVal) (H:Ab) (R:DEnd->Ab->Prop):Prop:=
 (∀vs w,(callFunc f vs).run P w= .ok (.enter f vs) w)/\
 ∀(vs:List Value) (w:World),Ar w H args vs->Bg w H->GOk G w H->
  Calls P f vs.toArray w λe w'=> ∃e' H',R e' H'/\RelE w' H' e' e/\Bg w' H'/\Ext H w H' w'
def FOk (F:Fence):Prop:=F=Fence.wide\/ ∃l,F=Fence.wide.inRound l
def Bl1 (P:Program) (G:Nat->DVal) (l:Nat) (args:List DVal) (H:Ab) (R:DEnd->Ab->Prop):Prop:=
 ∀(F:Fence) (n:Nat),FOk F-> ∀(vs:List Value) (w:World),Ar w H args vs->Bg w H->GOk G w H->
  YieldAt F n P l vs.toArray w λe w'=> ∃e' H',R e' H'/\RelE w' H' e' e/\Bg w' H'/\Ext H w H' w'
section
variable {P:Program} {F:Fence} {n:Nat}
theorem FOk.fn (h:FOk F) (g:FuncId):F.fn g:=by
 rcases h with rfl|⟨l,rfl⟩<;>trivial
theorem FOk.depth (h:FOk F):F.depth=none:=by
 rcases h with rfl|⟨l,rfl⟩<;>rfl
theorem FOk.calls (h:FOk F) {f:FuncId} {args:Array Value} {w:World} {R:Ending->World->Prop} (y:Calls P f args w R):CallsIn F n P f args w R:=by
 rcases h with rfl|⟨l,rfl⟩
 ·exact callsIn_wide.2 y
 ·exact CallsIn.inRound l (callsIn_wide.2 y)
theorem FOk.rows (h:FOk F) {row:String} {args:Array Value} {w:World} {R:Value->World->Prop} (y:Rows P row args w R):RowsIn F n P row args w R:=by
 have h0:RowsIn Fence.wide n P row args w R:=λc cs _=>by
  obtain⟨v,w',hr,hs⟩:=y c cs;exact⟨v,w',hr,stepsIn_wide.2 hs⟩
 rcases h with rfl|⟨l,rfl⟩
 ·exact h0
 ·exact h0
theorem FOk.oper (h:FOk F) {o:Oper} {a:Act} {w:World} {K:Act->World->Prop} {Q:Exit->Act->World->Prop} (y: ∀c,o.op≠ .defer c) (hw:o.wp P a w K Q):o.wpIn F n P a w K Q:=by
 refine⟨λf _=>h.fn f, ?_⟩;rw[Oper.semAt_eq _ _ _ y];unfold Oper.wp at hw;have hdep:F.depth.isSome=true->1<=n:=by rw[h.depth];intro hh;cases hh
 generalize (execOp a.eval o).run P w=r at hw⊢
 cases r with
 |ok x w'=>
  cases x<;>simp only[Oper.upon,Oper.uponIn] at hw⊢ <;>first
   |exact hw
   |exact⟨hdep,h.calls (hw.mono λe C he=>by cases e<;>exact he)⟩
   |exact⟨hdep,h.rows hw⟩
   |exact hw.elim
 |halt x w'=>cases x<;>simp only[Oper.upon,Oper.uponIn] at hw⊢ <;>first|exact hw|exact hw.elim
end
def DWp (P:Program) (G:Nat->DVal) (N:Nat) (c:Code) (Q:DExit->DS->Prop) (s:DS):Prop:=
 ∀(F:Fence) (n:Nat) (B:Base),FOk F-> ∀(a:Act) (w:World),Sim G ⟨N,B⟩ s a w->
  c.wpIn F n P (λe a' w'=> ∃e' s',Q e' s'/\RelX w' s'.heap e' e/\Sim G ⟨N,B⟩ s' a' w'/\Ext s.heap w s'.heap w') a w
def Hb4 (P:Program) (G:Nat->DVal) (N:Nat) (c:Code) (Q:DExit->DS->Prop) (s:DS):Prop:=
 ∀(n:Nat) (B:Base),B.still=false-> ∀(a:Act) (w:World),Sim G ⟨N,B⟩ s a w->
  c.wpIn Fence.wide n P (λe a' w'=> ∃e' s',Q e' s'/\RelX w' s'.heap e' e/\Sim G ⟨N,B⟩ s' a' w'/\Ext s.heap w s'.heap w') a w
structure Lasts (H:Ab) (w:World) (H':Ab) (w':World):Prop where
 cell: ∀b i x,H b=none->w.cell? ⟨b,i,none⟩=some x->H' b=none/\w'.cell? ⟨b,i,none⟩=some x
 size:w.heap.size<=w'.heap.size
 keep: ∀b,b<w.heap.size->Pn w'.heap[b]? =Pn w.heap[b]?
theorem Lasts.room {H H':Ab} {w w':World} (h:Lasts H w H' w') {r n:Nat} (hr:Ei1 w r n):Ei1 w' r n:=
 ⟨Nat.lt_of_lt_of_le hr.1 h.size,λk hk=>hr.2 k (by rw[<-h.keep r hr.1];exact hk)⟩
theorem Fw0 {w:World} {b i:Nat} {x:Value} (h:w.cell? ⟨b,i,none⟩=some x):b<w.heap.size:=by
 unfold World.cell? at h;rcases Nat.lt_or_ge b w.heap.size with hl|hl
 ·exact hl
 ·simp [Array.getElem?_eq_none hl] at h
theorem Ext.lasts {H H':Ab} {w w':World} (h:Ext H w H' w'):Lasts H w H' w':=by
 refine⟨λb i x hb hc=> ?_,h.size,h.keep⟩;have hl:=Fw0 hc;constructor
 ·cases e:H' b with
  |none=>rfl
  |some o=>
   rcases h.own b (by simp [e]) with h1|h1
   ·exact(h1 hb).elim
   ·omega
 ·unfold World.cell? at hc⊢
  rw[h.block b hl hb];exact hc
theorem Dfs.ext {H H':Ab} {w w':World} {B:Base} {y:List Deferred} (h:Ext H w H' w') (I:Dfs w H B y):Dfs w' H' B y:=by
 obtain⟨J,h1,h2,h3⟩:=I;refine⟨J,h1,h2,λD L=> ?_⟩;obtain⟨M,C,E⟩:=h3 D L;have hl:D<w.heap.size:=(Array.getElem?_eq_some_iff.1 C).1;refine⟨M,by rw[h.block D hl E];exact C, ?_⟩;cases e:H' D with
 |none=>rfl
 |some o=>
  rcases h.own D (by simp [e]) with k|k
  ·exact(k E).elim
  ·omega
theorem Dfs.less {H H':Ab} {w:World} {B:Base} {C:List Deferred} (E:Dfs w H B C) (h: ∀b,H' b≠none->H b≠none):Dfs w H' B C:=by
 obtain⟨I,h1,h2,h3⟩:=E;refine⟨I,h1,h2,λD y=>⟨(h3 D y).1,(h3 D y).2.1, ?_⟩⟩;cases e:H' D with
 |none=>rfl
 |some o=>exact absurd (h3 D y).2.2 (h D (by simp [e]))
theorem Uu.lasts {H H':Ab} {w w':World} (h:Lasts H w H' w') {b o:Nat} {xs:List Value} (C:Uu w H b o xs):Uu w' H' b o xs:=by
 rcases C with rfl|⟨h1,h2⟩
 ·exact .inl rfl
 ·cases xs with
  |nil=>exact .inl rfl
  |cons x xs=>
   refine .inr ⟨(h.cell b (o+0) x h1 (h2 0 x rfl)).1,λi y D=>(h.cell b (o+i) y h1 (h2 i y D)).2⟩
mutual
theorem Rel.lasts {H H':Ab} {w w':World} (h:Lasts H w H' w'): ∀(d:DVal) (v:Value),Rel w H d v->Rel w' H' d v
 | .raw _,_,hr=>by simpa [Rel] using hr
 | .bool _,_,hr=>by simpa [Rel] using hr
 | .int _ _,_,hr=>by simpa [Rel] using hr
 | .str _,_,hr=>by simpa [Rel] using hr
 | .nilPtr,_,hr=>by simpa [Rel] using hr
 | .vptr cs off,v,hr=>by
  simp only[Rel] at hr⊢
  obtain⟨b,o,xs,rfl,hc,hl⟩:=hr
  exact⟨b,o,xs,rfl,hc.lasts h,Ar.lasts h cs xs hl⟩
 | .optr _ _,_,hr=>by simpa [Rel] using hr
 | .nilSlice,_,hr=>by simpa [Rel] using hr
 | .vslice cs len,v,hr=>by
  simp only[Rel] at hr⊢
  obtain⟨a,cap,rfl,hle,hc⟩:=hr
  refine⟨a,cap,rfl,hle, ?_⟩
  rcases hc with hc|⟨b,o,xs,rfl,hc,hl⟩
  ·exact .inl hc
  ·exact .inr ⟨b,o,xs,rfl,hc.lasts h,Ar.lasts h cs xs hl⟩
 | .oslice sz r off len lo,v,hr=>by
  simp only[Rel] at hr⊢
  obtain⟨o,cap,e,h1,h2,h3,h4⟩:=hr
  exact⟨o,cap,e,h1,h2,h3,h.room h4⟩
 | .nilMap,_,hr=>by simpa [Rel] using hr
 | .omap _,_,hr=>by simpa [Rel] using hr
 | .func fn first captured,v,hr=>by
  simp only[Rel] at hr⊢
  obtain⟨xs,ys,rfl,h1,h2⟩:=hr
  exact⟨xs,ys,rfl,Ar.lasts h first _ h1,Ar.lasts h captured _ h2⟩
 | .nilFunc,_,hr=>by simpa [Rel] using hr
 | .iface t d,v,hr=>by
  simp only[Rel] at hr⊢
  obtain⟨x,rfl,h1⟩:=hr
  exact⟨x,rfl,Rel.lasts h d x h1⟩
 | .nilIface,_,hr=>by simpa [Rel] using hr
 | .agg cs,v,hr=>by
  simp only[Rel] at hr⊢
  obtain⟨xs,rfl,h1⟩:=hr
  exact⟨xs,rfl,Ar.lasts h cs _ h1⟩
 | .tuple cs,v,hr=>by
  simp only[Rel] at hr⊢
  obtain⟨xs,rfl,h1⟩:=hr
  exact⟨xs,rfl,Ar.lasts h cs _ h1⟩
theorem Ar.lasts {H H':Ab} {w w':World} (h:Lasts H w H' w'): ∀(C:List DVal) (xs:List Value),Ar w H C xs->Ar w' H' C xs
 | [],_,hr=>by simpa [Ar] using hr
 |d::C,xs,hr=>by
  simp only[Ar] at hr⊢
  obtain⟨y,ys,rfl,h1,h2⟩:=hr
  exact⟨y,ys,rfl,Rel.lasts h d y h1,Ar.lasts h C ys h2⟩
end
theorem Ab7.lasts {H H':Ab} {w w':World} (h:Lasts H w H' w'): ∀ {es:List (DVal×DVal)} {ms:List MapEntry},Ab7 w H es ms->Ab7 w' H' es ms
 | [],_,hr=>hr
 |p::es,ms,hr=>by
  obtain⟨m,y,rfl,h1,h2,h3⟩:=hr;exact⟨m,y,rfl,Rel.lasts h _ _ h1,Rel.lasts h _ _ h2,Ab7.lasts h h3⟩
theorem Am4.lasts {H H':Ab} {w w':World} (h:Lasts H w H' w') {o:DObj} {x:Option Obj} (hr:Am4 w H o x):Am4 w' H' o x:=by
 cases o with
 |cells cs e=>
  obtain⟨xs,c,fz,h1,h2,h3,h4⟩:=hr;exact⟨xs,c,fz,h1,h2,Ar.lasts h _ _ h3,h4⟩
 |loop env n r=>
  obtain⟨tmps,h1,h2,h3⟩:=hr;exact⟨tmps,h1,h2,λi hi=>Rel.lasts h _ _ (h3 i hi)⟩
 |map es=>
  obtain⟨ms,c,h1,h2⟩:=hr;exact⟨ms,c,h1,h2.lasts h⟩
 |iter s pos=>exact hr
theorem Am4.some {H:Ab} {w:World} {o:DObj} {x:Option Obj} (hr:Am4 w H o x): ∃y,x=Option.some y:=by
 cases o with
 |cells cs e=>
  obtain⟨xs,c,fz,h1,h2,h3,h4⟩:=hr;exact⟨_,h1⟩
 |loop env n r=>
  obtain⟨tmps,h1,h2,h3⟩:=hr;exact⟨_,h1⟩
 |map es=>
  obtain⟨ms,c,h1,h2⟩:=hr;exact⟨_,h1⟩
 |iter s pos=>exact⟨_,hr⟩
theorem Ext.refl (H:Ab) (w:World):Ext H w H w:=⟨rfl,rfl,rfl,Nat.le_refl _,λ_ _ _=>rfl,λ_ h=> .inl h,λ_ _=>rfl,λ_ _ _=>rfl⟩
theorem Ext.trans {H H' y:Ab} {w w' C:World} (h:Ext H w H' w') (k:Ext H' w' y C):Ext H w y C:=by
 refine⟨k.os.trans h.os,k.tape.trans h.tape,k.output.trans h.output,Nat.le_trans h.size k.size,λb hb hn=> ?_,λb hb=> ?_,λb hb=>by rw[k.keep b (Nat.lt_of_lt_of_le hb h.size),h.keep b hb],λa ha hn=>by rw[k.fz a (Nat.lt_of_lt_of_le ha h.size) (by
  cases e:H' a.block with
  |none=>rfl
  |some o=>
   rcases h.own a.block (by simp [e]) with h1|h1
   ·exact(h1 hn).elim
   ·omega),h.fz a ha hn]⟩
 ·have D:H' b=none:=by
   cases e:H' b with
   |none=>rfl
   |some o=>
    rcases h.own b (by simp [e]) with h1|h1
    ·exact(h1 hn).elim
    ·omega
  rw[k.block b (Nat.lt_of_lt_of_le hb h.size) D,h.block b hb hn]
 ·rcases k.own b hb with h1|h1
  ·exact h.own b h1
  ·exact .inr (Nat.le_trans h.size h1)
theorem Ar.length {w:World} {H:Ab}: ∀ {C:List DVal} {xs:List Value},Ar w H C xs->C.length=xs.length
 | [],_,h=>by simp only[Ar] at h;subst h;rfl
 |d::C,xs,h=>by
  simp only[Ar] at h;obtain⟨y,ys,rfl,_,h2⟩:=h;simp [Ar.length h2]
theorem Ar.get {w:World} {H:Ab}: ∀ {C:List DVal} {xs:List Value},Ar w H C xs-> ∀ {i:Nat} {d:DVal},C[i]? =some d-> ∃x,xs[i]? =some x/\Rel w H d x
 | [],_,_,i,d,hd=>by simp at hd
 |d::C,xs,h,i,e,hd=>by
  simp only[Ar] at h;obtain⟨y,ys,rfl,h1,h2⟩:=h;cases i with
  |zero=>simp at hd;subst hd;exact⟨y,rfl,h1⟩
  |succ i=>simp at hd;obtain⟨x,hx,hr⟩:=Ar.get h2 hd;exact⟨x,by simpa using hx,hr⟩
theorem Ar.mk {w:World} {H:Ab}: ∀ {y:List DVal} {xs:List Value},y.length=xs.length->(∀(i:Nat) (d:DVal) (x:Value),y[i]? =some d->xs[i]? =some x->Rel w H d x)->Ar w H y xs
 | [],[],_,_=>by simp [Ar]
 | [],_::_,h,_=>by simp at h
 |_::_,[],h,_=>by simp at h
 |d::y,x::xs,hl,h=>by
  simp only[Ar];refine⟨x,xs,rfl,h 0 d x rfl rfl,Ar.mk (by simpa using hl) λi C D h1 h2=>h (i+1) C D (by simpa using h1) (by simpa using h2)⟩
theorem Ar.append {w:World} {H:Ab}: ∀ {C es:List DVal} {xs ys:List Value},Ar w H C xs->Ar w H es ys->Ar w H (C++es) (xs++ys)
 | [],_,_,_,h,k=>by simp only[Ar] at h;subst h;simpa using k
 |d::C,es,xs,ys,h,k=>by
  simp only[Ar] at h;obtain⟨y,D,rfl,h1,h2⟩:=h;simp only[jI,Ar];exact⟨y,_,rfl,h1,Ar.append h2 k⟩
theorem Ar.take {w:World} {H:Ab} {C:List DVal} {xs:List Value} (h:Ar w H C xs) (n:Nat):Ar w H (C.take n) (xs.take n):=by
 have hl:=h.length;refine Ar.mk (by simp [hl]) λi d x h1 h2=> ?_;simp only[List.getElem?_take] at h1 h2;split at h1
 ·rename_i hi
  simp only[hi,if_true] at h2;obtain⟨y,D,hr⟩:=h.get h1;rw[h2] at D;cases D;exact hr
 ·simp at h1
theorem Ar.drop {w:World} {H:Ab} {C:List DVal} {xs:List Value} (h:Ar w H C xs) (n:Nat):Ar w H (C.drop n) (xs.drop n):=by
 have hl:=h.length;refine Ar.mk (by simp [hl]) λi d x h1 h2=> ?_;simp only[List.getElem?_drop] at h1 h2;obtain⟨y,D,hr⟩:=h.get h1;rw[h2] at D;cases D;exact hr
theorem Rel.cells {w:World} {H:Ab} {d:DVal} {v:Value} (h:Rel w H d v):Ar w H d.cells v.cells.toList:=by
 cases d<;>simp only[Rel,DVal.cells,Ar] at h⊢
 case raw x=>obtain⟨rfl,h⟩:=h;cases v<;>simp_all [Value.cells,Value.oneCell']
 case agg cs=>obtain⟨xs,rfl,hl⟩:=h;simpa [Value.cells] using hl
 case func=>obtain⟨xs,ys,rfl,h1,h2⟩:=h;exact⟨_,_,rfl,⟨xs,ys,rfl,h1,h2⟩,rfl⟩
 case vptr=>obtain⟨b,o,xs,rfl,h1,h2⟩:=h;exact⟨_,_,rfl,⟨b,o,xs,rfl,h1,h2⟩,rfl⟩
 case vslice=>obtain⟨a,cap,rfl,h1,h2⟩:=h;exact⟨_,_,rfl,⟨a,cap,rfl,h1,h2⟩,rfl⟩
 case oslice=>obtain⟨o,cap,rfl,h1⟩:=h;exact⟨_,_,rfl,⟨o,cap,rfl,h1⟩,rfl⟩
 case iface=>obtain⟨x,rfl,h1⟩:=h;exact⟨_,_,rfl,⟨x,rfl,h1⟩,rfl⟩
 case tuple=>obtain⟨xs,rfl,h1⟩:=h;exact⟨_,_,rfl,⟨xs,rfl,h1⟩,rfl⟩
 all_goals (subst h;exact⟨_,_,rfl,rfl,rfl⟩)
mutual
def Fk:Value->DVal
 | .bool b=> .bool b
 | .int k n=> .int k n
 | .string ⟨⟨l⟩⟩=> .str l
 | .pointer none=> .nilPtr
 | .slice none 0 0=> .nilSlice
 | .map none=> .nilMap
 | .nilFunc=> .nilFunc
 | .nilIface=> .nilIface
 | .func fn ⟨a⟩ ⟨c⟩=> .func fn (Jd a) (Jd c)
 | .agg ⟨l⟩=> .agg (Jd l)
 | .tuple ⟨l⟩=> .tuple (Jd l)
 |v=> .raw v
def Jd:List Value->List DVal
 | []=> []
 |v::vs=>Fk v::Jd vs
end
def Hv (env:Nat->DVal) (dst:Option Nat) (v:DVal):Nat->DVal:=
 match dst with
 |some d=>upd env d v
 |none=>env
def Fg:DVal:= .tuple []
def dev (G:Nat->DVal) (env:Nat->DVal):Operand->DVal
 | .tmp t=>env t
 | .const v=>Fk v
 | .global g=>G g
 | .func f=> .func (.func f) [] []
def Hq (G:Nat->DVal) (env:Nat->DVal):List Operand->List DVal
 | []=> []
 |x::xs=>dev G env x::Hq G env xs
def Dz (P:Program) (t:TypeId):Option Bool:=
 match P.underlying t with
 |some (.struct _)|some (.array _ _)=>some true
 |some _=>some false
 |none=>none
def Fc (P:Program) (t:TypeId):Bool:=
 match P.underlying t with
 |some (.struct fs)=>fs.toList.all λf=>(P.info? f.type).isSome
 |some (.array _ e)=>(P.info? e).isSome
 |_=>false
abbrev DK:=DS->Prop
def Br (dst:Option Nat) (v:DVal) (K:DK) (s:DS):Prop:=K ⟨Hv s.env dst v,s.heap⟩
def Wl (dst:Option Nat):Option DVal->DK->DS->Prop
 |some v,K,s=>Br dst v K s
 |none,_,_=>False
def Dd (cs:List DVal) (e:TypeId) (dst:Option Nat) (K:DK) (s:DS):Prop:=
 ∀r,s.heap r=none->K ⟨Hv s.env dst (.optr r 0),upd s.heap r (some (.cells cs e))⟩
def Bn4 (cs:List DVal) (e:TypeId) (sz len cap:Nat) (dst:Option Nat) (K:DK) (s:DS):Prop:=
 ∀r,s.heap r=none->K ⟨Hv s.env dst (.oslice sz r 0 len cap),upd s.heap r (some (.cells cs e))⟩
def Bj (P:Program) (t:TypeId):Option DVal:=((P.info? t).bind (·.zero)).map Fk
def Ey8 (e:TypeId) (dst:Option Nat):Option DVal->DK->DS->Prop
 |some z,K,s=>Dd z.cells e dst K s
 |none,_,_=>False
def Cu9 (dst:Option Nat):DVal->DVal->DVal->DK->DS->Prop
 | .bool t,a,b,K,s=>Br dst (if t then a else b) K s
 |_,_,_,_,_=>False
def Zy (place:Nat->Option (Nat×Nat)) (cells:List DVal):List (Nat×DVal)->Option (List DVal)
 | []=>some cells
 |(i,v)::rest=>
  match place i with
  |none=>none
  |some (off,size)=>
   if v.cells.length=size/\off+v.cells.length<=cells.length then Zy place (cells.take off++v.cells++cells.drop (off+v.cells.length)) rest else none
def Dk3 (P:Program) (fields:Array Field) (i:Nat):Option (Nat×Nat):=(fields[i]?).map λf=>(f.offset,P.cellsOf f.type)
def Bn5 (size:Nat) (i:Nat):Option (Nat×Nat):=some (i*size,size)
def Ck8 (P:Program) (dst:Option Nat):Bool->Option TypeDesc->Option DVal->List (Nat×DVal)->DK->DS->Prop
 |true,some (.struct fields),some z,parts,K,s=>Wl dst ((Zy (Dk3 P fields) z.cells parts).map .agg) K s
 |true,some (.array _ e),some z,parts,K,s=>Wl dst ((Zy (Bn5 (P.cellsOf e)) z.cells parts).map .agg) K s
 |_,_,_,_,_,_=>False
def By (n:Nat) (zs:List DVal):List DVal:=(List.replicate n zs).flatten
def Dk4 (e:TypeId) (sz len:Nat) (dst:Option Nat):Option (List DVal)->DK->DS->Prop
 |some cs,K,s=>Bn4 cs e sz len len dst K s
 |none,_,_=>False
def Aq9 (e:TypeId) (size len:Nat) (dst:Option Nat):Option DVal->List (Nat×DVal)->DK->DS->Prop
 |some z,parts,K,s=>len*size<=16777216/\z.cells.length=size/\Dk4 e size len dst (Zy (Bn5 size) (By len z.cells) parts) K s
 |none,_,_,_=>False
def Uv (P:Program) (len:Nat) (dst:Option Nat):Option TypeDesc->List (Nat×DVal)->DK->DS->Prop
 |some (.slice e),parts,K,s=>Aq9 e (P.cellsOf e) len dst (Bj P e) parts K s
 |_,_,_,_=>False
def Bn6 (size:Nat) (dst:Option Nat):Option Bool->List DVal->Nat->DK->DS->Prop
 |some true,cs,off,K,s=>off+size<=cs.length/\Br dst (.agg ((cs.drop off).take size)) K s
 |some false,cs,off,K,s=>Wl dst cs[off]? K s
 |none,_,_,_,_=>False
def Ck9 (size:Nat) (ag:Option Bool) (dst:Option Nat) (off:Nat):Option DObj->DK->DS->Prop
 |some (.cells cs _),K,s=>Bn6 size dst ag cs off K s
 |_,_,_=>False
def Cd9 (size:Nat) (ag:Option Bool) (dst:Option Nat):DVal->DK->DS->Prop
 | .vptr cs off,K,s=>Bn6 size dst ag cs off K s
 | .optr r off,K,s=>Ck9 size ag dst off (s.heap r) K s
 |_,_,_=>False
def Di (cs:List DVal) (off:Nat) (vs:List DVal):List DVal:=cs.take off++vs++cs.drop (off+vs.length)
def Dz7 (size:Nat) (r off:Nat) (v:DVal):Option DObj->DK->DS->Prop
 |some (.cells cs e),K,s=>v.cells.length=size/\(v.cells.all (·.one))=true/\off+size<=cs.length/\
   K ⟨s.env,upd s.heap r (some (.cells (Di cs off v.cells) e))⟩
 |_,_,_=>False
def Cl0 (size:Nat):Option Nat->DVal->DVal->DK->DS->Prop
 |none,.optr r off,v,K,s=>Dz7 size r off v (s.heap r) K s
 |_,_,_,_,_=>False
def Ah6 (dst:Option Nat):DVal->DK->DS->Prop
 | .vptr cs off,K,s=>Br dst (.vptr cs off) K s
 | .optr r off,K,s=>Br dst (.optr r off) K s
 | .func (.func f) a c,K,s=>Br dst (.func (.func f) a c) K s
 | .iface t v,K,s=>Br dst (.iface t v) K s
 | .omap r,K,s=>Br dst (.omap r) K s
 |_,_,_=>False
def Aa9 (c:Bool):Option TypeDesc->DVal->DVal->Option Bool
 |some .bool,.bool a,.bool b=>some (a==b)
 |some (.pointer _),.nilPtr,.nilPtr=>some true
 |some (.pointer _),.nilPtr,.optr _ _=>some false
 |some (.pointer _),.nilPtr,.vptr _ _=>some false
 |some (.pointer _),.optr _ _,.nilPtr=>some false
 |some (.pointer _),.vptr _ _,.nilPtr=>some false
 |some (.interface _),.nilIface,.iface _ _=>some false
 |some (.interface _),.iface _ _,.nilIface=>some false
 |some (.interface _),.nilIface,.nilIface=>if c then some true else none
 |some (.func _ _ _),.nilFunc,.nilFunc=>some true
 |some (.func _ _ _),.func _ _ _,.nilFunc=>some false
 |some (.func _ _ _),.nilFunc,.func _ _ _=>some false
 |some (.slice _),.nilSlice,.nilSlice=>some true
 |some (.slice _),.oslice _ _ _ _ _,.nilSlice=>some false
 |some (.slice _),.nilSlice,.oslice _ _ _ _ _=>some false
 |_,_,_=>none
def Gp1:Option Bool->Option Bool->Option Bool
 |some true,b=>b
 |some false,some _=>some false
 |_,_=>none
def Jj (size off:Nat) (xs:List DVal):Option Bool->List DVal
 |some true=>(xs.drop off).take size
 |some false=>(xs.drop off).take 1
 |none=> []
def Hk0:DVal->DVal->Option Bool
 | .bool a,.bool b=>some (decide (a=b))
 | .int k a,.int k' b=>if k=k' then some (decide (a=b)) else none
 | .str a,.str b=>some (decide (a=b))
 |_,_=>none
def Dz8 (f:TypeId->Nat->Option Bool):List Field->Option Bool
 | []=>some true
 |x::fs=>if x.name≠ "_" then Gp1 (f x.type x.offset) (Dz8 f fs) else none
def Cv0 (f:Nat->Option Bool):List Nat->Option Bool
 | []=>some true
 |i::is=>Gp1 (f i) (Cv0 f is)
def Cv1:List DVal->List DVal->Option Bool
 | [.bool a],[.bool b]=>some (decide (a=b))
 |_,_=>none
def Dz9:List DVal->List DVal->Option Bool
 | [.int k a],[.int k' b]=>if k=k' then some (decide (a=b)) else none
 |_,_=>none
def Ea0:List DVal->List DVal->Option Bool
 | [.str a],[.str b]=>some (decide (a=b))
 |_,_=>none
def Gl4 (P:Program) (f:TypeId->List DVal->List DVal->Option Bool) (fs:List Field) (xs ys:List DVal):Bool->Option Bool
 |true=>none
 |false=>Dz8 (λu off=>f u (Jj (P.cellsOf u) off xs (Dz P u)) (Jj (P.cellsOf u) off ys (Dz P u))) fs
def Ak8 (P:Program) (f:TypeId->List DVal->List DVal->Option Bool) (t:TypeId) (xs ys:List DVal):Option TypeDesc->Option Bool
 |some .bool=>Cv1 xs ys
 |some (.int _)=>Dz9 xs ys
 |some .string=>Ea0 xs ys
 |some (.struct fs)=>Gl4 P f fs.toList xs ys (P.stoodInHeld t)
 |some (.array m e)=>if(P.info? e).isSome then Cv0 (λi=>f e (Jj (P.cellsOf e) (i*P.cellsOf e) xs (Dz P e)) (Jj (P.cellsOf e) (i*P.cellsOf e) ys (Dz P e))) (List.range m) else none
 |_=>none
def Ay7 (P:Program):Nat->TypeId->List DVal->List DVal->Option Bool
 | 0,_,_,_=>none
 |n+1,t,xs,ys=>Ak8 P (Ay7 P n) t xs ys (P.underlying t)
def Bl2 (k:IntKind) (a b:Int) (dst:Option Nat) (K:DK) (s:DS):BinOp->Prop
 | .add=>Br dst (.int k (k.wrap (a+b))) K s
 | .sub=>Br dst (.int k (k.wrap (a-b))) K s
 | .mul=>Br dst (.int k (k.wrap (a*b))) K s
 | .quo=>b≠0/\Br dst (.int k (k.wrap (a.tdiv b))) K s
 | .rem=>b≠0/\Br dst (.int k (a.tmod b)) K s
 | .and=>Br dst (.int k (k.wrap (BitVec.ofInt k.bits a&&&BitVec.ofInt k.bits b).toNat)) K s
 | .or=>Br dst (.int k (k.wrap (BitVec.ofInt k.bits a ||| BitVec.ofInt k.bits b).toNat)) K s
 | .xor=>Br dst (.int k (k.wrap (BitVec.ofInt k.bits a^^^BitVec.ofInt k.bits b).toNat)) K s
 | .andNot=>Br dst (.int k (k.wrap (BitVec.ofInt k.bits a&&& ~~~BitVec.ofInt k.bits b).toNat)) K s
 | .eql=>Br dst (.bool (decide (a=b))) K s
 | .neq=>Br dst (.bool (!decide (a=b))) K s
 | .lss=>Br dst (.bool (decide (a<b))) K s
 | .leq=>Br dst (.bool (decide (a<=b))) K s
 | .gtr=>Br dst (.bool (decide (b<a))) K s
 | .geq=>Br dst (.bool (decide (b<=a))) K s
 |_=>False
def Cl1 (k:IntKind) (a b:Int) (dst:Option Nat) (K:DK) (s:DS):BinOp->Prop
 | .shl=>0<=b/\Br dst (.int k (k.wrap (a*2^(min b.toNat k.bits)))) K s
 | .shr=>0<=b/\Br dst (.int k (a.fdiv (2^(min b.toNat k.bits)))) K s
 |_=>False
def Ar0 (a b:List UInt8) (dst:Option Nat) (K:DK) (s:DS):BinOp->Prop
 | .add=>a.length+b.length<=9223372036854775807/\Br dst (.str (a++b)) K s
 | .eql=>Br dst (.bool (decide (a=b))) K s
 | .neq=>Br dst (.bool (!decide (a=b))) K s
 | .lss=>Br dst (.bool (Go.Op.bytesLess a b)) K s
 | .leq=>Br dst (.bool (Go.Op.bytesLess a b || decide (a=b))) K s
 | .gtr=>Br dst (.bool (!(Go.Op.bytesLess a b || decide (a=b)))) K s
 | .geq=>Br dst (.bool (!Go.Op.bytesLess a b)) K s
 |_=>False
def Uo:BinOp->Option Bool
 | .eql=>some false
 | .neq=>some true
 |_=>none
def Te (dst:Option Nat):Option Bool->Option Bool->DK->DS->Prop
 |some false,some b,K,s=>Br dst (.bool b) K s
 |some true,some b,K,s=>Br dst (.bool (!b)) K s
 |_,_,_,_=>False
def Hf:BinOp->Bool
 | .shl| .shr=>true
 |_=>false
def Ea1 (op:BinOp) (k k':IntKind) (a b:Int) (dst:Option Nat) (K:DK) (s:DS):Bool->Prop
 |true=>Cl1 k a b dst K s op
 |false=>k=k'/\Bl2 k a b dst K s op
def Ij:Operand->Bool
 | .const _=>true
 |_=>false
def Rl (P:Program) (t:TypeId) (c:Bool) (op:BinOp) (dst:Option Nat):DVal->DVal->DK->DS->Prop
 | .int k a,.int k' b,K,s=>Ea1 op k k' a b dst K s (Hf op)
 | .str a,.str b,K,s=>Ar0 a b dst K s op
 | .agg xs,.agg ys,K,s=>Dz P t=some true/\P.eqGuardType P.depth t=false/\Te dst (Uo op) (Ay7 P 6 t xs ys) K s
 |x,y,K,s=>Te dst (Uo op) (Aa9 c (P.underlying t) x y) K s
def Jk:Operand->Bool
 | .const (.slice none 0 0)=>true
 |_=>false
def Gp2:Option TypeDesc->Bool
 |some (.slice _)=>true
 |_=>false
def Gl5 (cs:List DVal) (op:BinOp) (dst:Option Nat) (K:DK) (s:DS):Prop:= ∀b,(cs≠ []->b=false)->Te dst (Uo op) (some b) K s
def Bf7 (P:Program) (t:TypeId) (c:Bool) (op:BinOp) (dst:Option Nat):Bool->DVal->DVal->DK->DS->Prop
 |true,.vslice cs _,_,K,s=>Gp2 (P.underlying t)=true/\Gl5 cs op dst K s
 |_,x,y,K,s=>Rl P t c op dst x y K s
def dUn (dst:Option Nat):UnOp->DVal->DK->DS->Prop
 | .not,.bool b,K,s=>Br dst (.bool (!b)) K s
 | .neg,.int k n,K,s=>Br dst (.int k (k.wrap (0-n))) K s
 | .xor,.int k n,K,s=>Br dst (.int k (k.wrap (BitVec.ofInt k.bits (if k.signed then-1 else k.max)^^^BitVec.ofInt k.bits n).toNat)) K s
 |_,_,_,_=>False
def Ar1 (dst:Option Nat):Option TypeDesc->Option TypeDesc->DVal->DK->DS->Prop
 |some _,some (.int k),.int _ n,K,s=>Br dst (.int k (k.wrap n)) K s
 |some _,some .string,.str l,K,s=>Br dst (.str l) K s
 |_,_,_,_,_=>False
def Ab8:List DVal->Option (List UInt8)
 | []=>some []
 | .int .u8 n::ds=>(Ab8 ds).map (UInt8.ofNat n.toNat:: ·)
 |_=>none
def Hb5 (dst:Option Nat):Option (List UInt8)->DK->DS->Prop
 |some l,K,s=>Br dst (.str l) K s
 |none,_,_=>False
def Ea2 (n off:Nat):Option DObj->Option (List DVal)
 |some (.cells cs _)=>if off+n<=cs.length then some ((cs.drop off).take n) else none
 |_=>none
def Am5 (H:Ab):DVal->Option (List DVal)
 | .nilSlice=>some []
 | .vslice cs n=>if n<=cs.length then some (cs.take n) else none
 | .oslice _ r off n _=>Ea2 n off (H r)
 |_=>none
def Gp3 (P:Program) (e:TypeId) (x:DVal) (dst:Option Nat) (K:DK) (s:DS):Prop:=P.underlying e=some (.int .u8)/\Hb5 dst ((Am5 s.heap x).bind Ab8) K s
def Ab9 (P:Program) (dst:Option Nat):Option TypeDesc->Option TypeDesc->DVal->DK->DS->Prop
 |some (.slice e),some .string,x,K,s=>Gp3 P e x dst K s
 |a,b,x,K,s=>Ar1 dst a b x K s
def Cl2 (dst:Option Nat):Option TypeDesc->DVal->DK->DS->Prop
 |some .string,.str l,K,s=> ∀r,s.heap r=none->K ⟨Hv s.env dst (.optr r 0),upd s.heap r (some (.iter l 0))⟩
 |_,_,_,_=>False
def Tf (l:List UInt8) (pos:Nat):Nat×Nat:=Utf8.decode ⟨⟨l⟩⟩ pos
def Dk5 (r:Nat) (dst:Option Nat) (K:DK) (s:DS):Option DObj->Prop
 |some (.iter l pos)=>(pos<l.length->K ⟨Hv s.env dst (.tuple [.bool true,.int .i64 pos,.int .i32 (Tf l pos).1]),upd s.heap r (some (.iter l (pos+(Tf l pos).2)))⟩)/\
   (¬pos<l.length->Br dst (.tuple [.bool false]) K s)
 |_=>False
def Ea3 (dst:Option Nat):Bool->DVal->DK->DS->Prop
 |true,.optr r 0,K,s=>Dk5 r dst K s (s.heap r)
 |_,_,_,_=>False
def Fl:Option TypeDesc->Bool
 |some (.interface _)|none=>false
 |_=>true
def Xv (t:TypeId) (x:DVal) (dst:Option Nat):Bool->DK->DS->Prop
 |true,K,s=>Br dst (.iface t x) K s
 |false,_,_=>False
def Bf8 (e:TypeId) (size bytes:Nat) (l c:Int) (dst:Option Nat):Option DVal->DK->DS->Prop
 |some z,K,s=>0<=l/\l<=c/\c*(bytes:Int)<=35184372088832/\c<9223372036854775808/\z.cells.length=size/\0<size/\Bn4 (By c.toNat z.cells) e size l.toNat c.toNat dst K s
 |none,_,_=>False
def Xw (P:Program) (dst:Option Nat):Option TypeDesc->DVal->DVal->DK->DS->Prop
 |some (.slice e),.int _ l,.int _ c,K,s=>Bf8 e (P.cellsOf e) (P.bytesOf e) l c dst (Bj P e) K s
 |_,_,_,_,_=>False
def dLo:Option DVal->Option Int
 |none=>some 0
 |some (.int _ n)=>some n
 |_=>none
def dHi (len:Nat):Option DVal->Option Int
 |none=>some len
 |some (.int _ n)=>some n
 |_=>none
def Ay8 (l:List UInt8) (dst:Option Nat) (K:DK) (s:DS):Option Int->Option Int->Prop
 |some lo,some hi=>0<=lo/\lo<=hi/\hi<=l.length/\Br dst (.str ((l.drop lo.toNat).take (hi.toNat-lo.toNat))) K s
 |_,_=>False
def Ar2 (size:Nat) (cs:List DVal) (len:Nat) (dst:Option Nat) (K:DK) (s:DS):Option Int->Option Int->Prop
 |some lo,some hi=>0<=lo/\lo<=hi/\hi<=len/\Br dst (.vslice ((cs.drop (lo.toNat*size)).take ((hi.toNat-lo.toNat)*size)) (hi.toNat-lo.toNat)) K s
 |_,_=>False
def Xx (size r off cap:Nat) (dst:Option Nat) (K:DK) (s:DS):Option Int->Option Int->Option Int->Prop
 |some lo,some hi,some mx=>0<=lo/\lo<=hi/\hi<=mx/\mx<=cap/\Br dst (.oslice size r (off+lo.toNat*size) (hi.toNat-lo.toNat) (mx.toNat-lo.toNat)) K s
 |_,_,_=>False
def Cl3 (dst:Option Nat) (K:DK) (s:DS):Option Int->Option Int->Prop
 |some lo,some hi=>lo=0/\hi=0/\Br dst .nilSlice K s
 |_,_=>False
def Gl6 (n:Nat):Option DObj->Prop
 |some (.cells cs _)=>n<=cs.length
 |_=>False
def Ay9 (P:Program) (lo hi:Option DVal) (dst:Option Nat):Option TypeDesc->DVal->Option DVal->DK->DS->Prop
 |some .string,.str l,none,K,s=>Ay8 l dst K s (dLo lo) (dHi l.length hi)
 |some (.slice e),.nilSlice,none,K,s=>(P.info? e).isSome=true/\Cl3 dst K s (dLo lo) (dHi 0 hi)
 |some (.slice e),.vslice cs len,none,K,s=>(P.info? e).isSome=true/\Ar2 (P.cellsOf e) cs len dst K s (dLo lo) (dHi len hi)
 |some (.slice e),.oslice sz r off len cap,none,K,s=>(P.info? e).isSome=true/\sz=P.cellsOf e/\Xx (P.cellsOf e) r off cap dst K s (dLo lo) (dHi len hi) (some cap)
 |some (.slice e),.oslice sz r off _ cap,some m,K,s=>(P.info? e).isSome=true/\sz=P.cellsOf e/\hi.isSome/\Xx (P.cellsOf e) r off cap dst K s (dLo lo) (dLo hi) (dLo (some m))
 |some (.array n e),.optr r off,none,K,s=>(P.info? e).isSome=true/\Gl6 (off+n*P.cellsOf e) (s.heap r)/\Xx (P.cellsOf e) r off n dst K s (dLo lo) (dHi n hi) (some n)
 |some (.array n e),.vptr cs off,none,K,s=>(P.info? e).isSome=true/\off+n*P.cellsOf e<=cs.length/\Ar2 (P.cellsOf e) ((cs.drop off).take (n*P.cellsOf e)) n dst K s (dLo lo) (dHi n hi)
 |_,_,_,_,_=>False
def Bl3 (n:Nat):DVal->Option DVal
 | .vptr cs off=>some (.vptr cs (off+n))
 | .optr r off=>some (.optr r (off+n))
 |_=>none
def Bf9 (P:Program) (x:DVal) (dst:Option Nat):Option Field->DK->DS->Prop
 |some f,K,s=>0<P.cellsOf f.type/\Wl dst (Bl3 f.offset x) K s
 |none,_,_=>False
def Tg (P:Program) (f:Nat) (x:DVal) (dst:Option Nat):Option TypeDesc->DK->DS->Prop
 |some (.struct fields),K,s=>Bf9 P x dst fields[f]? K s
 |_,_,_=>False
def Cv2 (size:Nat) (cs:List DVal) (off:Nat) (dst:Option Nat):Option Bool->DK->DS->Prop
 |some true,K,s=>Br dst (.agg ((cs.drop off).take size)) K s
 |some false,K,s=>Wl dst cs[off]? K s
 |none,_,_=>False
def Ea4 (P:Program) (cs:List DVal) (dst:Option Nat):Option Field->DK->DS->Prop
 |some f,K,s=>Cv2 (P.cellsOf f.type) cs f.offset dst (Dz P f.type) K s
 |none,_,_=>False
def Bn7 (P:Program) (f:Nat) (dst:Option Nat):Option TypeDesc->DVal->DK->DS->Prop
 |some (.struct fields),.agg cs,K,s=>Ea4 P cs dst fields[f]? K s
 |_,_,_,_=>False
def Th (P:Program) (dst:Option Nat):Option TypeDesc->DVal->DVal->DK->DS->Prop
 |some (.slice e),.vslice cs len,.int _ i,K,s=>(P.info? e).isSome=true/\0<=i/\i<len/\i.toNat*P.cellsOf e<cs.length/\Br dst (.vptr cs (i.toNat*P.cellsOf e)) K s
 |some (.slice e),.oslice _ r off len _,.int _ i,K,s=>(P.info? e).isSome=true/\0<=i/\i<len/\Br dst (.optr r (off+i.toNat*P.cellsOf e)) K s
 |some (.array n e),x,.int _ i,K,s=>(P.info? e).isSome=true/\0<=i/\i<n/\Wl dst (Bl3 (i.toNat*P.cellsOf e) x) K s
 |_,_,_,_,_=>False
def Bn8 (P:Program) (dst:Option Nat):Option TypeDesc->DVal->DVal->DK->DS->Prop
 |some (.array n e),.agg cs,.int _ i,K,s=>0<=i/\i<n/\Cv2 (P.cellsOf e) cs (i.toNat*P.cellsOf e) dst (Dz P e) K s
 |some .string,.str l,.int _ i,K,s=>0<=i/\Wl dst (l[i.toNat]?.map λb=> .int .u8 b.toNat) K s
 |_,_,_,_,_=>False
def Ar3 (i:Nat) (dst:Option Nat):DVal->DK->DS->Prop
 | .tuple vs,K,s=>Wl dst vs[i]? K s
 |_,_,_=>False
def Bn9 (dst:Option Nat):Option DVal->DK->DS->Prop
 |some z,K,s=>Br dst (.tuple [z,.bool false]) K s
 |none,_,_=>False
def Az0 (v:DVal) (z:Option DVal) (dst:Option Nat):Bool->Bool->DK->DS->Prop
 |true,true,K,s=>Br dst (.tuple [v,.bool true]) K s
 |true,false,K,s=>Bn9 dst z K s
 |false,true,K,s=>Br dst v K s
 |false,false,_,_=>False
def Qq (P:Program) (asserted:TypeId) (commaOk:Bool) (dst:Option Nat):Bool->DVal->DK->DS->Prop
 |true,.iface t v,K,s=>Az0 v (Bj P asserted) dst commaOk (decide (t=asserted)) K s
 |true,.nilIface,K,s=>commaOk=true/\Bn9 dst (Bj P asserted) K s
 |_,_,_,_=>False
def dLen (dst:Option Nat):Option TypeDesc->DVal->DK->DS->Prop
 |some .string,.str l,K,s=>Br dst (.int .i64 l.length) K s
 |some (.array n _),_,K,s=>Br dst (.int .i64 n) K s
 |some (.slice _),.nilSlice,K,s=>Br dst (.int .i64 0) K s
 |some (.slice _),.vslice _ n,K,s=>Br dst (.int .i64 n) K s
 |some (.slice _),.oslice _ _ _ n _,K,s=>Br dst (.int .i64 n) K s
 |_,_,_,_=>False
def Dk6 (P:Program) (x:DVal) (dst:Option Nat):List TypeId->DK->DS->Prop
 | [t],K,s=>dLen dst (P.underlying t) x K s
 |_,_,_=>False
def Ce0 (size n off:Nat):Option DObj->Option (Nat×List DVal)
 |some (.cells cs _)=>some (n,(cs.drop off).take (n*size))
 |_=>none
def Ac0 (size:Nat) (H:Ab):DVal->Option (Nat×List DVal)
 | .nilSlice=>some (0,[])
 | .vslice cs n=>some (n,cs.take (n*size))
 | .oslice _ r off n _=>Ce0 size n off (H r)
 | .str l=>some (l.length,l.map λb=> .int .u8 b.toNat)
 |_=>none
def Ti (e:TypeId) (size bytes:Nat) (r off len lo:Nat) (n:Nat) (news:List DVal) (dst:Option Nat) (K:DK) (s:DS):Option DObj->Prop
 |some (.cells cs e')=>e'=e/\
  (len+n<=lo->off+(len+n)*size<=cs.length/\
    K ⟨Hv s.env dst (.oslice size r off (len+n) lo),upd s.heap r (some (.cells (Di cs (off+len*size) news) e))⟩)/\
  (¬len+n<=lo->off+len*size<=cs.length/\(len+n)*bytes<=35184372088832/\
   ∀r' pre,upd s.heap r none r'=none->(off=0->pre= [])->
    K ⟨Hv s.env dst (.oslice size r' pre.length (len+n) (len+n)),upd (if len<=lo\/r'=r then upd s.heap r none else s.heap) r' (some (.cells (pre++(cs.drop off).take (len*size)++news) e))⟩)
 |_=>False
def Pt (e:TypeId) (size bytes:Nat) (n:Nat) (news:List DVal) (dst:Option Nat):DVal->DK->DS->Prop
 | .nilSlice,K,s=>(n=0->Br dst .nilSlice K s)/\(n≠0->n*bytes<=35184372088832/\Bn4 news e size n n dst K s)
 | .oslice sz r off len lo,K,s=>sz=size/\Ti e size bytes r off len lo n news dst K s (s.heap r)
 |_,_,_=>False
def Cv3 (e:TypeId) (size bytes:Nat) (x:DVal) (dst:Option Nat):Option (Nat×List DVal)->DK->DS->Prop
 |some (n,news),K,s=>news.length=n*size/\news.all (·.one)=true/\Pt e size bytes n news dst x K s
 |none,_,_=>False
def Az1:Option TypeDesc->Bool
 |some (.slice _)=>true
 |some .string=>true
 |_=>false
def Bl4 (P:Program) (u':Bool) (x y:DVal) (dst:Option Nat):Option TypeDesc->DK->DS->Prop
 |some (.slice e),K,s=>u'=true/\(Bj P e).isSome=true/\(Bj P e).all (λz=>z.cells.length=P.cellsOf e)=true/\0<P.cellsOf e/\0<P.bytesOf e/\Cv3 e (P.cellsOf e) (P.bytesOf e) x dst (Ac0 (P.cellsOf e) s.heap y) K s
 |_,_,_=>False
def Ey9 (dst:Option Nat):Option TypeDesc->DVal->DK->DS->Prop
 |some (.slice _),.nilSlice,K,s=>Br dst (.int .i64 0) K s
 |some (.slice _),.vslice _ n,K,s=> ∀c:Nat,n<=c->Br dst (.int .i64 c) K s
 |some (.slice _),.oslice _ _ _ n lo,K,s=> ∀c:Nat,n<=c->lo<=c->Br dst (.int .i64 c) K s
 |_,_,_,_=>False
def Ez0 (P:Program) (x:DVal) (dst:Option Nat):List TypeId->DK->DS->Prop
 | [t],K,s=>Ey9 dst (P.underlying t) x K s
 |_,_,_=>False
def Bo0 (e:TypeId) (size bytes:Nat) (dst:Option Nat):DVal->DVal->Option DVal->DK->DS->Prop
 | .nilSlice,.int .i64 n,some z,K,s=>0<=n/\0<size/\(n=0->Br dst .nilSlice K s)/\(n≠0->n*bytes<=35184372088832/\n<=35184372088832/\z.cells.length=size/\Bn4 (By n.toNat z.cells) e size n.toNat n.toNat dst K s)
 |_,_,_,_,_=>False
def Ea5 (size:Nat) (r off n:Nat) (dst:Option Nat) (K:DK) (s:DS) (z:List DVal):Option DObj->Prop
 |some (.cells cs e)=>z.length=size/\z.all (·.one)=true/\off+n*size<=cs.length/\K ⟨Hv s.env dst (.tuple []),upd s.heap r (some (.cells (Di cs off (By n z)) e))⟩
 |_=>False
def Cl4 (size:Nat) (dst:Option Nat):Option DVal->DVal->DK->DS->Prop
 |some _,.nilSlice,K,s=>Br dst (.tuple []) K s
 |some z,.oslice sz r off n lo,K,s=>sz=size/\n<=lo/\Ea5 size r off n dst K s z.cells (s.heap r)
 |_,_,_,_=>False
def Bo1 (P:Program) (dst:Option Nat):Option TypeDesc->DVal->DK->DS->Prop
 |some (.slice e),x,K,s=>Cl4 (P.cellsOf e) dst (Bj P e) x K s
 |_,_,_,_=>False
def Cv4 (P:Program) (x:DVal) (dst:Option Nat):List TypeId->DK->DS->Prop
 | [t],K,s=>Bo1 P dst (P.underlying t) x K s
 |_,_,_=>False
def Pu:Option TypeDesc->Bool
 |some (.int _)=>true
 |_=>false
def Ar4 (P:Program) (x y:DVal) (dst:Option Nat):Option TypeDesc->DK->DS->Prop
 |some (.slice e),K,s=>Bo0 e (P.cellsOf e) (P.bytesOf e) dst x y (Bj P e) K s
 |_,_,_=>False
def Ar5 (P:Program) (x y:DVal) (dst:Option Nat):Bool->Bool->Option TypeDesc->DK->DS->Prop
 |true,_,t,K,s=>Ar4 P x y dst t K s
 |false,u',t,K,s=>Bl4 P u' x y dst t K s
def Az2 (P:Program) (x y:DVal) (dst:Option Nat):List TypeId->DK->DS->Prop
 | [t,t'],K,s=>Ar5 P x y dst (Pu (P.underlying t')) (Az1 (P.underlying t')) (P.underlying t) K s
 |_,_,_=>False
def Ab0:DVal->DVal->Option Bool
 | .int k a,.int k' b=>if k=k' then some (decide (a=b)) else none
 | .str a,.str b=>some (decide (a=b))
 | .bool a,.bool b=>some (decide (a=b))
 | .agg [.bool a,.bool b],.agg [.bool c,.bool d]=>some (decide (a=c)&&decide (b=d))
 |_,_=>none
def Ac1 (i:Nat) (r:Option (Option Nat)):Option Bool->Option (Option Nat)
 |some true=>some (some i)
 |some false=>r
 |none=>none
def Mz (k:DVal):List (DVal×DVal)->Nat->Option (Option Nat)
 | [],_=>some none
 |p::es,i=>Ac1 i (Mz k es (i+1)) (Ab0 k p.1)
def Uw:Option TypeDesc->DVal->Bool
 |some (.int k),.int k' _=>decide (k=k')
 |some .string,.str _=>true
 |some .bool,.bool _=>true
 |_,_=>false
def Ea6:Option TypeDesc->Bool
 |some .bool=>true
 |_=>false
def Ce1 (P:Program):Option TypeDesc->Bool
 |some (.array 2 e)=>Ea6 (P.underlying e)&&(P.info? e).isSome&&P.cellsOf e==1
 |_=>false
def Ac2 (P:Program) (t:Option TypeDesc):DVal->Bool
 | .agg [.bool _,.bool _]=>Ce1 P t
 |k=>Uw t k
def Ea7 (es:List (DVal×DVal)) (k v:DVal):Option Nat->List (DVal×DVal)
 |some i=>es.set i (k,v)
 |none=>es++ [(k,v)]
def Ar6 (r:Nat) (es:List (DVal×DVal)) (k v:DVal) (K:DK) (s:DS):Option (Option Nat)->Prop
 |some i=>K ⟨s.env,upd s.heap r (some (.map (Ea7 es k v i)))⟩
 |none=>False
def Bo2 (r:Nat) (k v:DVal) (K:DK) (s:DS):Option DObj->Prop
 |some (.map es)=>v.one=true/\Ar6 r es k v K s (Mz k es 0)
 |_=>False
def Ah7 (P:Program) (dst:Option Nat):Option TypeDesc->DVal->DVal->DVal->DK->DS->Prop
 |some (.map kt _),.omap r,k,v,K,s=>dst=none/\Ac2 P (P.underlying kt) k=true/\Bo2 r k v K s (s.heap r)
 |_,_,_,_,_,_=>False
def Dk7 (ok:Bool) (dst:Option Nat) (v:DVal) (b:Bool) (K:DK) (s:DS):Prop:=Br dst (if ok then .tuple [v,.bool b] else v) K s
def Bo3 (es:List (DVal×DVal)) (ok:Bool) (dst:Option Nat):Option DVal->Option (Option Nat)->DK->DS->Prop
 |_,some (some i),K,s=> ∃p,es[i]? =some p/\Dk7 ok dst p.2 true K s
 |some z,some none,K,s=>Dk7 ok dst z false K s
 |_,_,_,_=>False
def Dk8 (z:Option DVal) (k:DVal) (ok:Bool) (dst:Option Nat):Option DObj->DK->DS->Prop
 |some (.map es),K,s=>Bo3 es ok dst z (Mz k es 0) K s
 |_,_,_=>False
def Bl5 (P:Program) (ok:Bool) (dst:Option Nat):Option TypeDesc->DVal->DVal->DK->DS->Prop
 |some (.map kt e),.omap r,k,K,s=>Ac2 P (P.underlying kt) k=true/\Dk8 (Bj P e) k ok dst (s.heap r) K s
 |some (.map kt e),.nilMap,k,K,s=>Ac2 P (P.underlying kt) k=true/\Bo3 [] ok dst (Bj P e) (some none) K s
 |_,_,_,_,_=>False
def Cv5 (es:List (DVal×DVal)):Option Nat->List (DVal×DVal)
 |some i=>es.eraseIdx i
 |none=>es
def Bo4 (r:Nat) (es:List (DVal×DVal)) (dst:Option Nat) (K:DK) (s:DS):Option (Option Nat)->Prop
 |some i=>K ⟨Hv s.env dst (.tuple []),upd s.heap r (some (.map (Cv5 es i)))⟩
 |none=>False
def Bo5 (r:Nat) (k:DVal) (dst:Option Nat) (K:DK) (s:DS):Option DObj->Prop
 |some (.map es)=>Bo4 r es dst K s (Mz k es 0)
 |_=>False
def Ar7 (P:Program) (dst:Option Nat):Option TypeDesc->DVal->DVal->DK->DS->Prop
 |some (.map kt _),.omap r,k,K,s=>Ac2 P (P.underlying kt) k=true/\Bo5 r k dst K s (s.heap r)
 |_,_,_,_,_=>False
def Ce2 (P:Program) (x k:DVal) (dst:Option Nat):List TypeId->DK->DS->Prop
 |t::_,K,s=>Ar7 P dst (P.underlying t) x k K s
 |_,_,_=>False
def Gl7 (dst:Option Nat) (K:DK) (s:DS):Prop:=
 ∀r,s.heap r=none->K ⟨Hv s.env dst (.omap r),upd s.heap r (some (.map []))⟩
def Ac3 (dst:Option Nat):Option TypeDesc->Option DVal->DK->DS->Prop
 |some (.map _ _),none,K,s=>Gl7 dst K s
 |some (.map _ _),some (.int _ _),K,s=>Gl7 dst K s
 |_,_,_,_=>False
def dMM (isMax:Bool):DVal->DVal->Option DVal
 | .int k x,.int _ y=>some (.int k (if isMax then(if y>x then y else x) else(if y<x then y else x)))
 |_,_=>none
def Ac4 (isMax:Bool):Option DVal->List DVal->Option DVal
 |a,[]=>a
 |some x,y::ys=>Ac4 isMax (dMM isMax x y) ys
 |none,_=>none
def Ah8 (isMax:Bool):List DVal->Option DVal
 | []=>none
 |x::rest=>Ac4 isMax (some x) rest
def Xy (dst:Option Nat) (K:DK) (Q:DExit->DS->Prop) (env:Nat->DVal):DEnd->Ab->Prop
 | .ret v,H=>K ⟨Hv env dst v,H⟩
 | .panic v,H=>Q (.panic v) ⟨env,H⟩
def Bo6 (P:Program) (G:Nat->DVal) (args:List DVal) (dst:Option Nat) (Q:DExit->DS->Prop):DVal->DK->DS->Prop
 | .func (.func k) first captured,K,s=>Ad P G k (first++args++captured) s.heap (Xy dst K Q s.env)
 | .func (.yield l) [] [],K,s=>Bl1 P G l args s.heap (Xy dst K Q s.env)
 |_,_,_=>False
def Am6 (Q:DExit->DS->Prop) (s:DS):DVal->Prop
 | .iface t v=>Q (.panic (.iface t v)) s
 |_=>False
def Na (P:Program) (ts:List TypeId) (dst:Option Nat) (Q:DExit->DS->Prop):Builtin->List DVal->DK->DS->Prop
 | .len,[x],K,s=>Dk6 P x dst ts K s
 | .append,[x,y],K,s=>Az2 P x y dst ts K s
 | .cap,[x],K,s=>Ez0 P x dst ts K s
 | .clear,[x],K,s=>Cv4 P x dst ts K s
 | .delete,[x,k],K,s=>Ce2 P x k dst ts K s
 | .min,xs,K,s=>Wl dst (Ah8 false xs) K s
 | .max,xs,K,s=>Wl dst (Ah8 true xs) K s
 | .panic,[x],_,s=>Am6 Q s x
 |_,_,_,_=>False
def Xz (P:Program) (G:Nat->DVal) (c:Call) (dst:Option Nat) (K:DK) (Q:DExit->DS->Prop) (s:DS):Callee->Prop
 | .value f=>Bo6 P G (Hq G s.env c.args.toList) dst Q (dev G s.env f) K s
 | .builtin b=>Na P c.argTypes.toList dst Q b (Hq G s.env c.args.toList) K s
 | .invoke _ _=>False
def Mr (G:Nat->DVal) (env:Nat->DVal):List (Nat×Operand)->List (Nat×DVal)
 | []=> []
 |(i,x)::ps=>(i,dev G env x)::Mr G env ps
def Rm (G:Nat->DVal) (env:Nat->DVal):Option Operand->Option DVal
 |some x=>some (dev G env x)
 |none=>none
def dop (P:Program) (G:Nat->DVal) (dst:Option Nat) (K:DK) (Q:DExit->DS->Prop) (s:DS):Op->Prop
 | .move x=>Br dst (dev G s.env x) K s
 | .assign x=>Br dst (dev G s.env x) K s
 | .pick c a b=>Cu9 dst (dev G s.env c) (dev G s.env a) (dev G s.env b) K s
 | .alloc e=>Ey8 e dst (Bj P e) K s
 | .box e x=>Dd (dev G s.env x).cells e dst K s
 | .build t ps=>Ck8 P dst (Fc P t) (P.underlying t) (Bj P t) (Mr G s.env ps.toList) K s
 | .buildSlice t n ps=>Uv P n dst (P.underlying t) (Mr G s.env ps.toList) K s
 | .load t a=>Cd9 (P.cellsOf t) (Dz P t) dst (dev G s.env a) K s
 | .store t a x=>(P.info? t).isSome=true/\Cl0 (P.cellsOf t) dst (dev G s.env a) (dev G s.env x) K s
 | .nilCheck x=>Ah6 dst (dev G s.env x) K s
 | .binOp op t x y _=>Bf7 P t (Ij x || Ij y) op dst (Jk y) (dev G s.env x) (dev G s.env y) K s
 | .unOp op _ x=>dUn dst op (dev G s.env x) K s
 | .convert src t x=>Ab9 P dst (P.underlying src) (P.underlying t) (dev G s.env x) K s
 | .makeInterface t x=>Xv t (dev G s.env x) dst (Fl (P.underlying t)) K s
 | .makeFunc fn fs cs=>Br dst (.func fn (Hq G s.env fs.toList) (Hq G s.env cs.toList)) K s
 | .makeMap t r=>Ac3 dst (P.underlying t) (Rm G s.env r) K s
 | .lookup t x k ok=>Bl5 P ok dst (P.underlying t) (dev G s.env x) (dev G s.env k) K s
 | .mapUpdate t m k x=>Ah7 P dst (P.underlying t) (dev G s.env m) (dev G s.env k) (dev G s.env x) K s
 | .insert t m k x=>Ah7 P dst (P.underlying t) (dev G s.env m) (dev G s.env k) (dev G s.env x) K s
 | .makeSlice t l c=>Xw P dst (P.underlying t) (dev G s.env l) (dev G s.env c) K s
 | .slice t x lo hi mx=>Ay9 P (Rm G s.env lo) (Rm G s.env hi) dst (P.underlying t) (dev G s.env x) (Rm G s.env mx) K s
 | .fieldAddr t x f=>Tg P f (dev G s.env x) dst (P.underlying t) K s
 | .field t x f=>Bn7 P f dst (P.underlying t) (dev G s.env x) K s
 | .indexAddr t x i=>Th P dst (P.underlying t) (dev G s.env x) (dev G s.env i) K s
 | .index t x i=>Bn8 P dst (P.underlying t) (dev G s.env x) (dev G s.env i) K s
 | .typeAssert x _ t ok=>Qq P t ok dst (Fl (P.underlying t)) (dev G s.env x) K s
 | .extract x i=>Ar3 i dst (dev G s.env x) K s
 | .panic x=>Am6 Q s (dev G s.env x)
 | .range t x=>Cl2 dst (P.underlying t) (dev G s.env x) K s
 | .next x b=>Ea3 dst b (dev G s.env x) K s
 | .call c=>Xz P G c dst K Q s c.callee
 |_=>False
def Ux:List Oper->Nat->Option Nat
 | [],_=>none
 |o::_,0=>o.dst
 |_::r,n+1=>Ux r n
def Sc (P:Program) (G:Nat->DVal) (all:List Oper) (Q:DExit->DS->Prop):List Oper->DS->Prop
 | [],s=>Q .normal s
 |o::rest,s=>
  match o.guard with
  |none=>dop P G o.dst (Sc P G all Q rest) Q s o.op
  |some (j,b)=>match Ux all j with
   |some g=>match s.env g with
    | .bool v=>(v=b->dop P G o.dst (Sc P G all Q rest) Q s o.op)/\(v≠b->Br o.dst Fg (Sc P G all Q rest) s)
    | .tuple []=>Br o.dst Fg (Sc P G all Q rest) s
    |_=>False
   |none=>False
def Az3 (P:Program) (G:Nat->DVal) (all:List Oper) (Q:DExit->DS->Prop) (dst:Option Nat) (op:Op) (rest:List Oper) (s:DS):Bool->DVal->Prop
 |true,.bool true=>dop P G dst (Sc P G all Q rest) Q s op
 |true,.bool false=>Br dst Fg (Sc P G all Q rest) s
 |false,.bool true=>Br dst Fg (Sc P G all Q rest) s
 |false,.bool false=>dop P G dst (Sc P G all Q rest) Q s op
 |true,.tuple []=>Br dst Fg (Sc P G all Q rest) s
 |false,.tuple []=>Br dst Fg (Sc P G all Q rest) s
 |_,_=>False
def Cl5 (P:Program) (G:Nat->DVal) (all:List Oper) (Q:DExit->DS->Prop) (dst:Option Nat) (op:Op) (rest:List Oper) (s:DS) (b:Bool):Option Nat->Prop
 |some g=>Az3 P G all Q dst op rest s b (s.env g)
 |none=>False
def Bg0 (W:DK) (Q:DExit->DS->Prop):DExit->DS->Prop
 | .normal,s=>W s
 | .exit id,s=>Q (.exit id) s
 | .goto l,s=>Q (.goto l) s
 | .ret,s=>Q .ret s
 | .panic v,s=>Q (.panic v) s
def Cl6 (Q:DExit->DS->Prop) (s:DS) (id':Nat):Bool->Prop
 |true=>Q .normal s
 |false=>Q (.exit id') s
def Cl7 (id:Nat) (Q:DExit->DS->Prop):DExit->DS->Prop
 | .exit id',s=>Cl6 Q s id' (decide (id'=id))
 | .normal,s=>Q .normal s
 | .goto l,s=>Q (.goto l) s
 | .ret,s=>Q .ret s
 | .panic v,s=>Q (.panic v) s
def Ea8 (Q:DExit->DS->Prop):DExit->DS->Prop
 | .goto _,_=>False
 | .exit id,s=>Q (.exit id) s
 | .normal,s=>Q .normal s
 | .ret,s=>Q .ret s
 | .panic v,s=>Q (.panic v) s
def Cv6 (X Y:DK) (s:DS):DVal->Prop
 | .bool true=>X s
 | .bool false=>Y s
 |_=>False
def Rn (G:Nat->DVal) (s s':DS):Prop:=
 ∀w,Bg w s.heap->GOk G w s.heap->Bg w s'.heap/\(∀b,s'.heap b≠none->s.heap b≠none)/\GOk G w s'.heap/\ ∀i x,Rel w s.heap (s.env i) x->Rel w s'.heap (s'.env i) x
def Ea9 (G:Nat->DVal) (body:(DExit->DS->Prop)->DK) (Q:DExit->DS->Prop) (s:DS):Prop:=
 ∃(ι:Type) (I:ι->DS->Prop) (μ:ι->Nat),(∃i s',Rn G s s'/\I i s')/\ ∀i s,I i s->body (Bg0 (λs1=> ∃j s2,Rn G s1 s2/\I j s2/\μ j<μ i) Q) s
def dwp (P:Program) (G:Nat->DVal) (N:Nat):Code->(DExit->DS->Prop)->DS->Prop
 | .skip,Q,s=>Q .normal s
 | .label _,Q,s=>Q .normal s
 | .region _ ops false,Q,s=>Sc P G ops.toList Q ops.toList s
 | .region id ops true,Q,s=>DWp P G N (.region id ops true) Q s
 | .seq a b,Q,s=>dwp P G N a (Bg0 (dwp P G N b Q) Q) s
 | .cond c a b,Q,s=>Cv6 (dwp P G N a Q) (dwp P G N b Q) s (dev G s.env c)
 | .block id c,Q,s=>dwp P G N c (Cl7 id Q) s
 | .loop c,Q,s=>Ea9 G (dwp P G N c) Q s
 | .exit id,Q,s=>Q (.exit id) s
 | .goto l,Q,s=>Q (.goto l) s
 | .ret,Q,s=>Q .ret s
 | .rangeFunc f ps asg body,Q,s=>Hb4 P G N (.rangeFunc f ps asg body) Q s
 | .scope c,Q,s=>dwp P G N c (Ea8 Q) s
 | .refuse _,_,_=>False
def Bx (N:Nat):Operand->Bool
 | .tmp t=>decide (t<N)
 |_=>true
def Kx (N:Nat) (o:Oper):Bool:=
 (match o.dst with|some d=>decide (d<N)|none=>true)&&o.op.operands.all (Bx N)
def In (N:Nat):Code->Bool
 | .region _ ops _=>ops.all (Kx N)
 | .seq a b=>In N a&&In N b
 | .cond c a b=>Bx N c&&In N a&&In N b
 | .block _ c=>In N c
 | .loop c=>In N c
 | .scope c=>In N c
 | .rangeFunc f _ a b=>Bx N f&&In N a&&In N b
 |_=>true
@[go_sem] theorem Hb2 (P:Program) (t:Option TypeDesc) (k:IntKind) (n:Int):Ac2 P t (.int k n)=Uw t (.int k n):=rfl
@[go_sem] theorem Hb3 (P:Program) (t:Option TypeDesc) (l:List UInt8):Ac2 P t (.str l)=Uw t (.str l):=rfl
@[go_sem] theorem Gp4 (P:Program) (t:Option TypeDesc) (b:Bool):Ac2 P t (.bool b)=Uw t (.bool b):=rfl
theorem Uy {P:Program} {s:DS} {t:TypeId} {c:Bool} {op:BinOp} {dst:Option Nat} {x y:DVal} {K:DK}:Bf7 P t c op dst false x y K s=Rl P t c op dst x y K s:=by cases x<;>rfl
section
variable {P:Program} {G:Nat->DVal} {N:Fr}
mutual
theorem Hg (w:World) (H:Ab): ∀v:Value,Rel w H (Fk v) v
 | .bool b=>by simp [Fk,Rel]
 | .int k n=>by simp [Fk,Rel]
 | .string ⟨⟨l⟩⟩=>by simp [Fk,Rel]
 | .pointer none=>by simp [Fk,Rel]
 | .pointer (some a)=>by simp [Fk,Rel,Value.oneCell']
 | .slice a n c=>by
  by_cases h:a=none/\n=0/\c=0
  ·obtain⟨rfl,rfl,rfl⟩:=h;simp [Fk,Rel]
  ·have:Fk (.slice a n c)= .raw (.slice a n c):=by
    cases a with
    |none=>cases n with
     |zero=>cases c with
      |zero=>simp at h
      |succ c=>rfl
     |succ n=>rfl
    |some a=>rfl
   rw[this];simp [Rel,Value.oneCell']
 | .map none=>by simp [Fk,Rel]
 | .map (some r)=>by simp [Fk,Rel,Value.oneCell']
 | .chan r=>by simp [Fk,Rel,Value.oneCell']
 | .float k b=>by simp [Fk,Rel,Value.oneCell']
 | .complex k a b=>by simp [Fk,Rel,Value.oneCell']
 | .nilFunc=>by simp [Fk,Rel]
 | .nilIface=>by simp [Fk,Rel]
 | .iface t v=>by simp [Fk,Rel,Value.oneCell']
 | .func fn ⟨a⟩ ⟨c⟩=>by
  simp only[Fk,Rel]
  exact⟨_,_,rfl,Tj w H a,Tj w H c⟩
 | .agg ⟨l⟩=>by
  simp only[Fk,Rel]
  exact⟨_,rfl,Tj w H l⟩
 | .tuple ⟨l⟩=>by
  simp only[Fk,Rel]
  exact⟨_,rfl,Tj w H l⟩
theorem Tj (w:World) (H:Ab): ∀vs:List Value,Ar w H (Jd vs) vs
 | []=>by simp [Jd,Ar]
 |v::vs=>by
  simp only[Jd,Ar]
  exact⟨v,vs,rfl,Hg w H v,Tj w H vs⟩
end
theorem Ya (w:World) (H:Ab):Rel w H Fg undef:=by
 simp only[Fg,undef,Rel];exact⟨#[],rfl,by simp [Ar]⟩
theorem Bo {s:DS} {a:Act} {w:World} (y:Sim G N s a w) {x:Operand} (hx:Bx N x=true):Rel w s.heap (dev G s.env x) (a.eval x):=by
 cases x with
 |tmp t=>exact y.tmps t (by simpa [Bx] using hx)
 |const v=>exact Hg w s.heap v
 |global g=>exact y.glob.rel g
 |func f=>
  simp only[dev,Act.eval,Rel];exact⟨#[], #[],rfl,by simp [Ar],by simp [Ar]⟩
theorem Tk {s:DS} {a:Act} {w:World} (y:Sim G N s a w): ∀ {xs:List Operand},xs.all (Bx N)=true->Ar w s.heap (Hq G s.env xs) (xs.map a.eval)
 | [],_=>by simp [Hq,Ar]
 |x::xs,h=>by
  simp only[List.all_cons,jF] at h;simp only[Hq,Ar,jN];exact⟨_,_,rfl,Bo y h.1,Tk y h.2⟩
def Cx (N:Nat):Option Nat->Bool
 |some d=>decide (d<N)
 |none=>true
theorem GOk.lasts {H H':Ab} {w w':World} (h:Lasts H w H' w') (y:GOk G w H):GOk G w' H':=⟨λg=>Rel.lasts h _ _ (y.rel g),λg cs e=>by
 have k:=y.exact g cs e;rw[h.keep g ?_];exact k;rcases Nat.lt_or_ge g w.heap.size with hl|hl
 ·exact hl
 ·rw[Array.getElem?_eq_none hl] at k;cases k⟩
theorem Sim.ext {s:DS} {a:Act} {w w':World} {H':Ab} (y:Sim G N s a w) (C:Ext s.heap w H' w') (D:Bg w' H'):Sim G N ⟨s.env,H'⟩ a w':=
 ⟨y.size,y.defers.ext C,λi hi=>Rel.lasts C.lasts _ _ (y.tmps i hi),D,y.glob.lasts C.lasts,Nat.le_trans y.base C.size⟩
theorem Sim.put {s:DS} {a:Act} {w:World} (y:Sim G N s a w) {dst:Option Nat} (D:Cx N dst=true) {v:DVal} {x:Value} (hv:Rel w s.heap v x):
  Sim G N ⟨Hv s.env dst v,s.heap⟩ (a.put dst x) w:=by
 cases dst with
 |none=>exact y
 |some d=>
  have E:d<N:=by simpa [Cx] using D
  refine⟨by simpa [Act.put] using y.size,by simpa [Act.put] using y.defers,λi hi=> ?_,y.heap,y.glob,y.base⟩;have C:=y.size;simp only[Act.put,Hv,upd];by_cases e:i=d
  ·subst e;(have:(a.tmps.setIfInBounds i x).getD i undef=x:=by simp [Array.getD,C,hi]);rw[this,if_pos rfl];exact hv
  ·have h1:(a.tmps.setIfInBounds d x).getD i undef=a.tmps.getD i undef:=by
    simp [Array.getD,C,hi,Ne.symm e]
   rw[h1,if_neg e];exact y.tmps i hi
def Il (G:Nat->DVal) (N:Fr) (K:DK) (s:DS) (w:World):Act->World->Prop:=
 λa' w'=> ∃s',K s'/\Sim G N s' a' w'/\Ext s.heap w s'.heap w'
def Rw (G:Nat->DVal) (N:Fr) (Q:DExit->DS->Prop) (s:DS) (w:World):Exit->Act->World->Prop:=
 λe a' w'=> ∃e' s',Q e' s'/\RelX w' s'.heap e' e/\Sim G N s' a' w'/\Ext s.heap w s'.heap w'
variable {o:Oper} {s:DS} {a:Act} {w:World} {K:DK} {Qx:Exit->Act->World->Prop}
theorem Is {w':World} {H':Ab} {v:DVal} {x:Value} (C:Sim G N s a w) (D:Cx N o.dst=true) (E:(execOp a.eval o).run P w= .ok (.value x) w')
  (y:Ext s.heap w H' w') (I:Bg w' H') (hv:Rel w' H' v x) (J:K ⟨Hv s.env o.dst v,H'⟩):o.wp P a w (Il G N K s w) Qx:=by
 unfold Oper.wp;rw[E];exact⟨_,J,(C.ext y I).put D hv,y⟩
theorem Kl {v:DVal} {x:Value} (y:Sim G N s a w) (C:Cx N o.dst=true) (D:(execOp a.eval o).run P w= .ok (.value x) w)
  (hv:Rel w s.heap v x) (E:Br o.dst v K s):o.wp P a w (Il G N K s w) Qx:=
 Is y C D (Ext.refl _ _) y.heap hv E
def PV (P:Program) (o:Oper) (s:DS) (a:Act) (w:World) (K:DK):Prop:=
 ∃d x,(execOp a.eval o).run P w= .ok (.value x) w/\Rel w s.heap d x/\Br o.dst d K s
theorem pvI {v:DVal} {x:Value} (_hS:Sim G N s a w) (_hd:Cx N o.dst=true) (y:(execOp a.eval o).run P w= .ok (.value x) w)
  (hv:Rel w s.heap v x) (C:Br o.dst v K s):PV P o s a w K:=⟨v,x,y,hv,C⟩
theorem PV.wp (h:PV P o s a w K) (y:Sim G N s a w) (C:Cx N o.dst=true):o.wp P a w (Il G N K s w) Qx:=by
 obtain⟨d,x,h1,h2,h3⟩:=h;exact Kl y C h1 h2 h3
theorem Yb {k:IntKind} {n:Int} (y:Sim G N s a w) (C:Cx N o.dst=true) (D:(execOp a.eval o).run P w= .ok (.value (.int k n)) w) (E:Br o.dst (.int k n) K s):PV P o s a w K:=
 pvI y C D (by simp [Rel]) E
theorem Bl6 {b:Bool} (y:Sim G N s a w) (C:Cx N o.dst=true) (D:(execOp a.eval o).run P w= .ok (.value (.bool b)) w) (E:Br o.dst (.bool b) K s):PV P o s a w K:=
 pvI y C D (by simp [Rel]) E
theorem Ext.drawn {H:Ab} {w w':World} {H':Ab} (h:Ext H w H' w') (n:Nat):Ext H w H' { w' with drawn:=n }:=⟨h.os,h.tape,h.output,h.size,h.block,h.own,h.keep,λa ha hn=>h.fz a ha hn⟩
theorem Cv7 (H:Ab) (w:World) (n:Nat):Lasts H w H { w with drawn:=n }:=⟨λb i x hb hc=>⟨hb,hc⟩,Nat.le_refl _,λ_ _=>rfl⟩
theorem Bg.drawn {w:World} {H:Ab} (n:Nat) (h:Bg w H):Bg { w with drawn:=n } H:=by
 intro r o ho;exact(h r o ho).lasts (Cv7 H w n)
theorem Bg.lt {H:Ab} (C:Bg w H) {r:Nat} (h:H r≠none):r<w.heap.size:=by
 cases e:H r with
 |none=>exact(h e).elim
 |some o=>
  obtain⟨y,h1⟩:=(C r o e).some;rcases Nat.lt_or_ge r w.heap.size with hl|hl
  ·exact hl
  ·rw[Array.getElem?_eq_none hl] at h1;cases h1
theorem Bg.fresh {H:Ab} (y:Bg w H):H w.heap.size=none:=by
 cases e:H w.heap.size with
 |none=>rfl
 |some o=>exact absurd (y.lt (r:=w.heap.size) (by simp [e])) (by omega)
theorem Ah9 {H:Ab} (D:Bg w H) (c:Array Value) (e:TypeId) (o':Option DObj):Ext H w (upd H w.heap.size o') (w.alloc (.cells c e)):=by
 have y: ∀b,b<w.heap.size->(w.alloc (.cells c e)).heap[b]? =w.heap[b]? :=λb hb=>by
  show(w.heap.push (.cells c e))[b]? =_;rw[Array.getElem?_push,if_neg (by omega)]
 refine⟨rfl,rfl,rfl,by simp,λb hb _=>y b hb,λb hb=> ?_,λb hb=>by rw[y b hb],λa _ _=> ?_⟩
 ·by_cases C:b=w.heap.size
  ·exact .inr (by omega)
  ·simp only[upd,if_neg C] at hb;exact .inl hb
 ·exact Go.RowKit.frozen?_alloc_cells w c e a
theorem Vy {H:Ab} (y:Bg w H) {cs:List DVal} {xs:List Value} (C:Ar w H cs xs) (c:Array Value) (hx:xs<+:c.toList) (e:TypeId):
  Bg (w.alloc (.cells c e)) (upd H w.heap.size (some (.cells cs e))):=by
 have hE:=Ah9 y c e (some (.cells cs e));intro r o ho;by_cases hr:r=w.heap.size
 ·subst hr;simp only[upd,if_pos] at ho;cases ho;refine⟨xs,c,(0,0), ?_,hx,Ar.lasts hE.lasts _ _ C,λi _=>by simp⟩;show(w.heap.push _)[w.heap.size]? =_;simp
 ·simp only[upd,if_neg hr] at ho;have D:r<w.heap.size:=y.lt (by simp [ho]);have hb:(w.alloc (.cells c e)).heap[r]? =w.heap[r]? :=by
   show(w.heap.push _)[r]? =_;rw[Array.getElem?_push,if_neg (by omega)]
  rw[hb];exact(y r o ho).lasts hE.lasts
theorem Eb0 (y:Sim G N s a w) (C:Cx N o.dst=true) {cs:List DVal} {c:Array Value} {e:TypeId}
  (D:(execOp a.eval o).run P w= .ok (.value (.pointer (some ⟨w.heap.size,0,none⟩))) (w.alloc (.cells c e)))
  (E:Ar w s.heap cs c.toList) (I:Dd cs e o.dst K s):o.wp P a w (Il G N K s w) Qx:=
 Is y C D (Ah9 y.heap _ _ _) (Vy y.heap E c (List.prefix_refl _) e) (by simp [Rel]) (I _ y.heap.fresh)
theorem Ar8 (y:Sim G N s a w) (D:Cx N o.dst=true) {cs:List DVal} {xs:List Value} {c:Array Value} {e:TypeId} {sz len lo cap n:Nat} (E:lo<=cap) (I:len<=cap) (O:cap*sz<=c.size)
  (J:(execOp a.eval o).run P w= .ok (.value (.slice (some ⟨w.heap.size,0,none⟩) len cap)) { w.alloc (.cells c e) with drawn:=n })
  (L:Ar w s.heap cs xs) (hx:xs<+:c.toList) (M:Bn4 cs e sz len lo o.dst K s):o.wp P a w (Il G N K s w) Qx:=by
 refine Is y D J ((Ah9 y.heap _ _ _).drawn n) ((Vy y.heap L c hx e).drawn n) ?_ (M _ y.heap.fresh);simp only[Rel];refine⟨0,cap,rfl,E,I,.inr rfl, ?_⟩;constructor
 ·show w.heap.size<(w.alloc _).heap.size;simp
 ·intro k hk;have:(w.alloc (.cells c e)).heap[w.heap.size]? =some (.cells c e):=by
   show(w.heap.push _)[w.heap.size]? =_;simp
  have C:Pn (w.alloc (.cells c e)).heap[w.heap.size]? =some k:=hk;rw[this] at C;simp [Pn] at C;omega
theorem Md (b off n:Nat):Addr.add ⟨b,off,none⟩ n=⟨b,off+n,none⟩:=by
 unfold Addr.add;split<;>simp_all
def Mp (w:World) (b off:Nat) (xs:List Value):Prop:= ∀i x,xs[i]? =some x->w.cell? ⟨b,off+i,none⟩=some x
theorem Uu.holds {H:Ab} {b off:Nat} {xs:List Value} (h:Uu w H b off xs):Mp w b off xs:=by
 rcases h with rfl|⟨_,h⟩
 ·intro i x hx;simp at hx
 ·exact h
theorem Mp.drop {b off n:Nat} {xs:List Value} (h:Mp w b off xs):Mp w b (off+n) (xs.drop n):=by
 intro i x hx;rw[List.getElem?_drop] at hx;have:=h _ _ hx
 rwa [<-Nat.add_assoc] at this
theorem Mp.take {b off n:Nat} {xs:List Value} (h:Mp w b off xs):Mp w b off (xs.take n):=by
 intro i x hx;rw[List.getElem?_take] at hx;split at hx
 ·exact h _ _ hx
 ·cases hx
theorem Ge {b off:Nat} {xs:List Value} (h:Mp w b off xs):(loadCells ⟨b,off,none⟩ xs.length).run P w= .ok xs.toArray w:=
 run_loadCells_list w ⟨b,off,none⟩ xs λj v hv=>by rw[Md];exact h j v hv
theorem Bg.holds {H:Ab} (y:Bg w H) {r:Nat} {cs:List DVal} {e:TypeId} (hr:H r=some (.cells cs e)): ∃xs,Ar w H cs xs/\Mp w r 0 xs:=by
 obtain⟨xs,c,fz,h1,h2,h3,_⟩:=y r _ hr;refine⟨xs,h3,λi x hx=> ?_⟩;have hp:c.toList[i]? =some x:=by
  obtain⟨t,ht⟩:=h2;rw[<-ht,List.getElem?_append_left]
  ·exact hx
  ·rcases Nat.lt_or_ge i xs.length with hl|hl
   ·exact hl
   ·rw[List.getElem?_eq_none hl] at hx;cases hx
 simp only[World.cell?,h1,Nat.zero_add,Option.isSome_none,Bool.false_eq_true,if_false];simpa using hp
theorem Oc {t:TypeId} {b:Bool} (h:Dz P t=some b):(isAgg t).run P w= .ok b w:=by
 unfold Dz at h;cases hu:P.underlying t with
 |none=>simp [hu] at h
 |some d=>
  simp only[isAgg,Sem.run_bind,run_underlying hu,Result.andThen_ok];rw[hu] at h;cases d<;>simp at h<;>subst h<;>rfl
theorem Am7 {t:TypeId} {d:TypeDesc} (h:P.underlying t=some d):(P.info? t).isSome=true:=by
 unfold Program.underlying at h;cases hi:P.info? t with
 |none=>simp [hi] at h
 |some i=>rfl
theorem Uz {t:TypeId} {b:Bool} (h:Dz P t=some b):(P.info? t).isSome=true:=by
 unfold Dz at h;cases hu:P.underlying t with
 |none=>simp [hu] at h
 |some d=>exact Am7 hu
theorem De {t:TypeId} (h:(P.info? t).isSome=true):(sizeOf t).run P w= .ok (P.cellsOf t) w:=by
 cases hi:P.info? t with
 |none=>simp [hi] at h
 |some i=>simp [sizeOf,typeInfo,program,hi,Program.cellsOf,Sem.run]
theorem Sd {t:TypeId} {i:TypeInfo} (h:P.info? t=some i):(typeInfo t).run P w= .ok i w:=by
 simp [typeInfo,program,h,Sem.run]
theorem Ez1 {t:TypeId} {z:DVal} (h:Bj P t=some z): ∃v,(zeroValue t).run P w= .ok v w/\z=Fk v:=by
 unfold Bj at h;cases hi:P.info? t with
 |none=>simp [hi] at h
 |some i=>
  cases hz:i.zero with
  |none=>simp [hi,hz] at h
  |some v=>
   simp [hi,hz] at h;exact⟨v,by simp [zeroValue,Sd hi,hz],h.symm⟩
theorem Zz {t:TypeId} (h:Dz P t=some true) {b off:Nat} {xs:List Value} (hx:Mp w b off xs) (hl:xs.length=P.cellsOf t):
  (loadVar t ⟨b,off,none⟩).run P w= .ok (.agg xs.toArray) w:=by
 simp only[loadVar,Sem.run_bind,Oc h,Result.andThen_ok,if_true];simp only[De (Uz h),Result.andThen_ok,<-hl,Ge hx,Sem.run_pure]
theorem Aa0 {t:TypeId} (h:Dz P t=some false) {b off:Nat} {x:Value} (hx:w.cell? ⟨b,off,none⟩=some x):
  (loadVar t ⟨b,off,none⟩).run P w= .ok x w:=by
 simp [loadVar,Oc h,hx]
end
section
variable {P:Program} {G:Nat->DVal} {N:Fr}
variable {o:Oper} {s:DS} {a:Act} {w:World} {K:DK} {Qx:Exit->Act->World->Prop}
theorem Kc {dst:Option Nat} {v:Option DVal} (h:Wl dst v K s): ∃d,v=some d/\Br dst d K s:=by
 cases v with
 |none=>exact h.elim
 |some d=>exact⟨d,rfl,h⟩
theorem Gp5 (y:Sim G N s a w) (C:Cx N o.dst=true) {x:Operand} (hx:Bx N x=true) (he:o.op= .move x) (h:Br o.dst (dev G s.env x) K s):PV P o s a w K:=
 pvI y C (by simp [execOp,he]) (Bo y hx) h
theorem Ez2 (y:Sim G N s a w) (C:Cx N o.dst=true) {x:Operand} (hx:Bx N x=true) (he:o.op= .assign x) (h:Br o.dst (dev G s.env x) K s):PV P o s a w K:=
 pvI y C (by simp [execOp,he]) (Bo y hx) h
theorem Gp6 (C:Sim G N s a w) (D:Cx N o.dst=true) {c x y:Operand} (E:Bx N c=true) (hx:Bx N x=true) (I:Bx N y=true) (he:o.op= .pick c x y)
  (h:Cu9 o.dst (dev G s.env c) (dev G s.env x) (dev G s.env y) K s):PV P o s a w K:=by
 have r:=Bo C E;cases hcv:dev G s.env c<;>rw[hcv] at h r<;>try exact h.elim
 rename_i t
 simp only[Rel] at r;simp only[Cu9] at h;refine pvI C D (x:=if t then a.eval x else a.eval y) (by simp [execOp,he,r,asBool]) ?_ h;cases t
 ·exact Bo C I
 ·exact Bo C hx
theorem Me {H:Ab} {d:DVal} {v:Value} (h:Rel w H d v):Ar w H d.cells v.cells.toList:=Rel.cells h
theorem Fw1 (y:Sim G N s a w) (C:Cx N o.dst=true) {e:TypeId} (he:o.op= .alloc e) (h:Ey8 e o.dst (Bj P e) K s):o.wp P a w (Il G N K s w) Qx:=by
 cases hz:Bj P e with
 |none=>rw[hz] at h;exact h.elim
 |some z=>
  rw[hz] at h;obtain⟨v,hv,rfl⟩:=Ez1 (w:=w) hz;refine Eb0 y C (c:=v.cells) ?_ ?_ h
  ·simp [execOp,he,Instr.alloc,hv,newVar,newRow]
  ·exact Me (Hg w s.heap v)
theorem Hb6 (y:Sim G N s a w) (C:Cx N o.dst=true) {e:TypeId} {x:Operand} (hx:Bx N x=true) (he:o.op= .box e x)
  (h:Dd (dev G s.env x).cells e o.dst K s):o.wp P a w (Il G N K s w) Qx:=
 Eb0 y C (c:=(a.eval x).cells) (by simp [execOp,he,Instr.box,newVar,newRow]) (Me (Bo y hx)) h
theorem Eb1 {size:Nat} {y:Option Bool} {t:TypeId} (D:Dz P t=y) (E:P.cellsOf t=size) {b off:Nat} {cs:List DVal} {xs:List Value} {H:Ab} (hr:Ar w H cs xs) (hh:Mp w b off xs) {i:Nat} {dst:Option Nat}
  (h:Bn6 size dst y cs i K s): ∃d x,(loadVar t ⟨b,off+i,none⟩).run P w= .ok x w/\Rel w H d x/\Br dst d K s:=by
 subst E;cases y with
 |none=>exact h.elim
 |some y=>
  cases y with
  |true=>
   obtain⟨hle,C⟩:=h;have hx:Mp w b (off+i) ((xs.drop i).take (P.cellsOf t)):=hh.drop.take;have hl:((xs.drop i).take (P.cellsOf t)).length=P.cellsOf t:=by
    have:=hr.length;simp;omega
   refine⟨_,_,Zz D hx hl, ?_,C⟩;simp only[Rel];exact⟨_,rfl,(hr.drop i).take _⟩
  |false=>
   obtain⟨d,hd,C⟩:=Kc h;obtain⟨x,hx,I⟩:=hr.get hd;exact⟨d,x,Aa0 D (hh i x hx),I,C⟩
theorem Gp7 (C:Sim G N s a w) (J:Cx N o.dst=true) {t:TypeId} {x:Operand} (hx:Bx N x=true) (he:o.op= .load t x)
  (h:Cd9 (P.cellsOf t) (Dz P t) o.dst (dev G s.env x) K s):PV P o s a w K:=by
 have r:=Bo C hx;cases hv:dev G s.env x<;>rw[hv] at h r<;>try exact h.elim
 case vptr cs off=>
  simp only[Rel] at r;obtain⟨b,o',xs,hp,hc,hl⟩:=r;obtain⟨d,y,D,E,I⟩:=Eb1 (P:=P) (t:=t) rfl rfl hl hc.holds h;refine pvI C J ?_ E I;simp [execOp,he,hp,Instr.loadAt,Instr.sureAddr,D]
 case optr r0 off=>
  simp only[Rel] at r;simp only[Cd9] at h;cases hh:s.heap r0 with
  |none=>rw[hh] at h;exact h.elim
  |some ob=>
   rw[hh] at h;cases ob with
   |loop=>exact h.elim
   |iter=>exact h.elim
   |map=>exact h.elim
   |cells cs e=>
    obtain⟨xs,hl,L⟩:=C.heap.holds hh;obtain⟨d,y,D,E,I⟩:=Eb1 (P:=P) (t:=t) rfl rfl hl L h;refine pvI C J ?_ E I;simp only[Nat.zero_add] at D;simp [execOp,he,r,Instr.loadAt,Instr.sureAddr,D]
theorem Nu (r off:Nat) (e:TypeId) (fz:Nat×Nat): ∀(vs:List Value) (i:Nat) (c:Array Value) (w:World),w.heap[r]? =some (.cells c e fz)->off+i+vs.length<=c.size->
  (∀v∈vs,v.oneCell'=true)->(∀j,j<c.size-> ¬(fz.1<=j/\j<fz.2))->
  ∃(w':World) (y:Array Value),(storeCells ⟨r,off,none⟩ vs i).run P w= .ok () w'/\w'.heap[r]? =some (.cells y e fz)/\y.toList=c.toList.take (off+i)++vs++c.toList.drop (off+i+vs.length)/\
   (∀b,b≠r->w'.heap[b]? =w.heap[b]?)/\w'.heap.size=w.heap.size/\w'.os=w.os/\w'.tape=w.tape/\w'.output=w.output
 | [],i,c,w,hc,hl,_,_=>⟨w,c,by simp [storeCells],hc,by simp,λ_ _=>rfl,rfl,rfl,rfl,rfl⟩
 |v::vs,i,c,w,hc,hl,h1,hf=>by
  simp only[jA] at hl;have hi:off+i<c.size:=by omega
  have C:w.cell? ⟨r,off+i,none⟩=some c[off+i]:=by simp [World.cell?,hc,hi]
  have D:w.frozen? ⟨r,off+i,none⟩=false:=by
   have:=hf (off+i) hi;obtain⟨lo,Z⟩:=fz;simp [World.frozen?,hc];intro h2;have:=λh3=>this ⟨h2,h3⟩;simp at this;omega
  have E:(w.setCell ⟨r,off+i,none⟩ v).heap[r]? =some (.cells (c.setIfInBounds (off+i) v) e fz):=by
   simp [World.setCell,Array.getElem?_modify,hc]
  obtain⟨w',y,I,J,L,M,O,S,U,V⟩:=Nu r off e fz vs (i+1) (c.setIfInBounds (off+i) v) _ E (by simp;omega) (λu hu=>h1 u (List.mem_cons_of_mem _ hu)) (by simpa using hf);refine⟨w',y, ?_,J, ?_,λb hb=> ?_,by rw[O];simp,S,U,V⟩
  ·simp only[storeCells,Sem.run_bind,Md,run_store P w _ v _ (h1 v (List.mem_cons_self ..)),C,D];simpa using I
  ·rw[L];(have W:off+i<c.toList.length:=by simpa using hi);rw[Array.toList_setIfInBounds,jA,<-Nat.add_assoc];have e1:(c.toList.set (off+i) v).take (off+i+1)=c.toList.take (off+i)++ [v]:=by
    rw[List.take_set,List.take_succ_eq_append_getElem W,List.set_append_right _ _ (by simp;omega)];(have X:off+i-min (off+i) c.size=0:=by omega);simp [X]
   have Y:(c.toList.set (off+i) v).drop (off+i+1+vs.length)=c.toList.drop (off+i+(vs.length+1)):=by
    rw[List.drop_set,if_pos (by omega)];congr 1;omega
   rw[e1,Y];simp
  ·rw[M b hb];exact Go.RowKit.Below.heap_setCell _ _ _ _ hb
theorem Bo7 {H:Ab}: ∀ {C:List DVal} {xs:List Value},Ar w H C xs->C.all (·.one)=true-> ∀x∈xs,x.oneCell'=true
 | [],_,h,_,x,hx=>by simp only[Ar] at h;subst h;simp at hx
 |d::C,xs,h,h1,x,hx=>by
  simp only[Ar] at h;obtain⟨y,ys,rfl,hr,hl⟩:=h;simp only[List.all_cons,jF] at h1;rcases List.mem_cons.1 hx with rfl|hx
  ·cases d<;>simp only[Rel,DVal.one] at hr h1<;>try (simp at h1;done)
   case raw v=>obtain⟨rfl,_⟩:=hr;exact h1.1
   case vptr=>obtain⟨_,_,_,rfl,_⟩:=hr;rfl
   case vslice=>obtain⟨_,_,rfl,_⟩:=hr;rfl
   case oslice=>obtain⟨_,_,rfl,_⟩:=hr;rfl
   case func=>obtain⟨_,_,rfl,_⟩:=hr;rfl
   case iface=>obtain⟨_,rfl,_⟩:=hr;rfl
   all_goals (subst hr;rfl)
  ·exact Bo7 hl h1.2 x hx
theorem Az4 {H:Ab} (O:Bg w H) {r off:Nat} {cs C:List DVal} {e:TypeId} (hr:H r=some (.cells cs e)) {vs:List Value} (hv:Ar w H C vs) (h1:C.all (·.one)=true) (ad:off+C.length<=cs.length):
  ∃w',(storeCells ⟨r,off,none⟩ vs 0).run P w= .ok () w'/\Bg w' (upd H r (some (.cells (Di cs off C) e)))/\Ext H w (upd H r (some (.cells (Di cs off C) e))) w':=by
 obtain⟨xs,c,fz,I,W,J,S⟩:=O r _ hr;obtain⟨U,V⟩:=W;have ae:=J.length;have X:=hv.length;have hcs:c.size=xs.length+U.length:=by rw[<-Array.length_toList,<-V];simp
 obtain⟨w',c',Y,L,M,D,af,Z,aa,ab⟩:=Nu (P:=P) r off e fz vs 0 c w I (by omega) (Bo7 hv h1) S;have hE:Ext H w (upd H r (some (.cells (Di cs off C) e))) w':=by
  have ac:c'.size=c.size:=by
   rw[<-Array.length_toList,M];simp;omega
  refine⟨Z,aa,ab,by omega,λb hb hn=>D b (λy=>by subst y;rw[hr] at hn;cases hn),λb hb=> ?_,λb hb=> ?_,λa _ _=>by
   unfold World.frozen?;by_cases y:a.block=r
   ·rw[y,L,I]
   ·rw[D _ y]⟩
  rotate_left
  ·by_cases y:b=r
   ·subst y;rw[L,I];simp [Pn,ac]
   ·rw[D b y]
  by_cases y:b=r
  ·subst y;exact .inl (by rw[hr];simp)
  ·simp only[upd,if_neg y] at hb;exact .inl hb
 refine⟨w',Y,λr' o' E=> ?_,hE⟩;by_cases y:r'=r
 ·subst y;simp only[upd,if_pos] at E;cases E;refine⟨xs.take off++vs++xs.drop (off+vs.length),c',fz,L, ?_, ?_, ?_⟩
  ·refine⟨U, ?_⟩;rw[M,<-V,Nat.add_zero,List.take_append_of_le_length (by omega),List.drop_append_of_le_length (by omega)];simp
  ·(have e0:Di cs off C=cs.take off++C++cs.drop (off+vs.length):=by unfold Di;rw[X]);have e1:=((Ar.lasts hE.lasts _ _ (J.take off)).append (Ar.lasts hE.lasts _ _ hv)).append (Ar.lasts hE.lasts _ _ (J.drop (off+vs.length)));rw[<-e0] at e1;exact e1
  ·have:c'.size=c.size:=by
    rw[<-Array.length_toList,M];simp;omega
   rw[this];exact S
 ·simp only[upd,if_neg y] at E;rw[D r' y];exact(O r' o' E).lasts hE.lasts
theorem Fw2 (C:Sim G N s a w) {t:TypeId} {x y:Operand} (hx:Bx N x=true) (E:Bx N y=true) (he:o.op= .store t x y)
  (h:(P.info? t).isSome=true/\Cl0 (P.cellsOf t) o.dst (dev G s.env x) (dev G s.env y) K s):o.wp P a w (Il G N K s w) Qx:=by
 obtain⟨hi,h⟩:=h;have r:=Bo C hx;have I:=Bo C E;cases hv:dev G s.env x<;>rw[hv] at h r<;>(try (cases hdst:o.dst<;>rw[hdst] at h<;>exact h.elim))
 rename_i r0 off
 cases hdst:o.dst with
 |some d=>rw[hdst] at h;exact h.elim
 |none=>
  rw[hdst] at h;simp only[Rel] at r;simp only[Cl0] at h;cases hh:s.heap r0 with
  |none=>rw[hh] at h;exact h.elim
  |some ob=>
   rw[hh] at h;cases ob with
   |loop=>exact h.elim
   |iter=>exact h.elim
   |map=>exact h.elim
   |cells cs e=>
    obtain⟨hl,h1,hle,J⟩:=h;have D:=Me I;obtain⟨w',L,M,hE⟩:=Az4 (P:=P) C.heap hh D h1 (off:=off) (by omega);(have O:(a.eval y).cells.size=P.cellsOf t:=by rw[<-hl,D.length];simp);unfold Oper.wp;have:(execOp a.eval o).run P w= .ok .skip w':=by
     simp [execOp,he,r,Instr.storeAt,Instr.sureAddr,storeVar,De hi,O,L]
    rw[this];show Il G N K s w (a.put o.dst undef) w';rw[hdst];exact⟨_,J,C.ext hE M,hE⟩
end
section
variable {P:Program} {G:Nat->DVal} {N:Fr}
variable {o:Oper} {s:DS} {a:Act} {w:World} {K:DK} {Qx:Exit->Act->World->Prop}
theorem Dk9 (y:Sim G N s a w) (C:Cx N o.dst=true) {x:Operand} (hx:Bx N x=true) (he:o.op= .nilCheck x)
  (h:Ah6 o.dst (dev G s.env x) K s):PV P o s a w K:=by
 have r:=Bo y hx;have r':=r;cases hv:dev G s.env x<;>rw[hv] at h r r'<;>try exact h.elim
 case vptr cs off=>
  simp only[Rel] at r;obtain⟨b,o',xs,hp,hc,hl⟩:=r;exact pvI y C (x:=a.eval x) (by simp [execOp,he,hp]) r' h
 case optr r0 off=>
  simp only[Rel] at r;exact pvI y C (x:=a.eval x) (by simp [execOp,he,r]) r' h
 case omap r0=>
  simp only[Rel] at r;exact pvI y C (x:=a.eval x) (by simp [execOp,he,r]) r' h
 case iface t0 v0=>
  simp only[Rel] at r;obtain⟨D,hp,_⟩:=r;exact pvI y C (x:=a.eval x) (by simp [execOp,he,hp]) r' h
 case func fn f c=>
  simp only[Rel] at r;obtain⟨xs,ys,hp,_,_⟩:=r;cases fn<;>try exact h.elim
  exact pvI y C (x:=a.eval x) (by simp [execOp,he,hp]) r' h
theorem Dl0 (y:Sim G N s a w) (C:Cx N o.dst=true) {fn:Fn} {fs cs:Array Operand} (hf:fs.toList.all (Bx N)=true) (D:cs.toList.all (Bx N)=true) (he:o.op= .makeFunc fn fs cs)
  (h:Br o.dst (.func fn (Hq G s.env fs.toList) (Hq G s.env cs.toList)) K s):PV P o s a w K:=by
 refine pvI y C (x:= .func fn (fs.map a.eval) (cs.map a.eval)) (by simp [execOp,he,Instr.makeFunc]) ?_ h;simp only[Rel];exact⟨_,_,rfl,by simpa using Tk y hf,by simpa using Tk y D⟩
theorem Cv8 (y:Sim G N s a w) (C:Cx N o.dst=true) {t:TypeId} {x:Operand} (hx:Bx N x=true) (he:o.op= .makeInterface t x)
  (h:Xv t (dev G s.env x) o.dst (Fl (P.underlying t)) K s):PV P o s a w K:=by
 cases hn:Fl (P.underlying t) with
 |false=>rw[hn] at h;exact h.elim
 |true=>
  rw[hn] at h;cases hu:P.underlying t with
  |none=>rw[hu] at hn;simp [Fl] at hn
  |some d=>
   refine pvI y C (x:= .iface t (a.eval x)) ?_ ?_ h
   ·rw[hu] at hn;cases d<;>simp [Fl] at hn<;>simp [execOp,he,Instr.makeInterface,run_underlying hu]
   ·simp only[Rel];exact⟨_,rfl,Bo y hx⟩
theorem Ei2 (C:Sim G N s a w) (D:Cx N o.dst=true) {x:Operand} {i:Nat} (hx:Bx N x=true) (he:o.op= .extract x i)
  (h:Ar3 i o.dst (dev G s.env x) K s):PV P o s a w K:=by
 have r:=Bo C hx;cases hv:dev G s.env x<;>rw[hv] at h r<;>try exact h.elim
 simp only[Rel] at r;obtain⟨xs,hp,hl⟩:=r;obtain⟨d,E,I⟩:=Kc h;obtain⟨y,J,L⟩:=hl.get E;refine pvI C D ?_ L I;have:xs[i]? =some y:=by simpa using J
 simp [execOp,he,hp,Instr.extract,this]
theorem Gp8 (y:Sim G N s a w) (C:Cx N o.dst=true) {op:UnOp} {t:TypeId} {x:Operand} (hx:Bx N x=true) (he:o.op= .unOp op t x)
  (h:dUn o.dst op (dev G s.env x) K s):PV P o s a w K:=by
 have r:=Bo y hx;cases hv:dev G s.env x<;>rw[hv] at h r<;>cases op<;>(try exact h.elim)<;>simp only[Rel] at r<;>simp only[dUn] at h
 ·exact pvI y C (by simp [execOp,he,r,Op.unary];rfl) (by simp [Rel]) h
 ·exact pvI y C (by simp [execOp,he,r,Op.unary,Op.intArith];rfl) (by simp [Rel]) h
 ·exact pvI y C (by simp [execOp,he,r,Op.unary,Op.intBits];rfl) (by simp [Rel]) h
theorem Ei3 (y:Sim G N s a w) (D:Cx N o.dst=true) {C t:TypeId} {x:Operand} (hx:Bx N x=true) (he:o.op= .convert C t x)
  (h:Ar1 o.dst (P.underlying C) (P.underlying t) (dev G s.env x) K s):PV P o s a w K:=by
 have r:=Bo y hx;cases hs:P.underlying C with
 |none=>rw[hs] at h;cases P.underlying t<;>exact h.elim
 |some ds=>
  cases ht:P.underlying t with
  |none=>rw[hs,ht] at h;exact h.elim
  |some E=>
   rw[hs,ht] at h;cases E<;>(try exact h.elim)
   case int k=>
    cases hv:dev G s.env x<;>rw[hv] at h r<;>(try exact h.elim);simp only[Rel] at r
    rename_i J I
    refine pvI y D (x:= .int k (k.wrap I)) ?_ ?_ h
    ·simp [execOp,he,r,convert,run_underlying hs,run_underlying ht,Conv.intToInt]
    ·simp [Rel]
   case string=>
    cases hv:dev G s.env x<;>rw[hv] at h r<;>(try exact h.elim);simp only[Rel] at r;refine pvI y D (x:=a.eval x) ?_ ?_ h
    ·simp [execOp,he,r,convert,run_underlying hs,run_underlying ht]
    ·rw[r];simp [Rel]
theorem Cw {op:BinOp} {t:TypeId} {x y:Operand} {u v:Value} (h: ∀t' z,u= .agg t'->v= .agg z->False) (h2:u= .nilIface->v= .nilIface->False):eqGuard op t x y u v=pure ():=by
 unfold eqGuard;cases op<;>(try rfl)<;>(cases u<;>(try rfl)<;>cases v<;>(try rfl))<;>first|exact(h2 rfl rfl).elim|exact(h _ _ rfl rfl).elim
theorem Ez3 (D:Sim G N s a w) (E:Cx N o.dst=true) {op:BinOp} {t t':TypeId} {x y:Operand} (he:o.op= .binOp op t x y t') {k k':IntKind} {m n:Int} (hx:a.eval x= .int k m) (I:a.eval y= .int k' n)
  (h:Ea1 op k k' m n o.dst K s (Hf op)):PV P o s a w K:=by
 have hg:eqGuard op t x y (.int k m) (.int k' n)=pure ():=Cw (by simp) (by simp);cases op<;>simp only[Hf,Ea1,Bl2,Cl1] at h
 case shl=>
  obtain⟨h0,C⟩:=h;refine pvI D E (x:= .int k (k.wrap (m*2^(min n.toNat k.bits)))) ?_ (by simp [Rel]) C;simp only[execOp,he,hx,I,hg,binOp,Op.shift,if_neg (Int.not_lt.2 h0)];rfl
 case shr=>
  obtain⟨h0,C⟩:=h;refine pvI D E (x:= .int k (m.fdiv (2^(min n.toNat k.bits)))) ?_ (by simp [Rel]) C;simp only[execOp,he,hx,I,hg,binOp,Op.shift,if_neg (Int.not_lt.2 h0)];rfl
 case quo=>
  obtain⟨rfl,h0,C⟩:=h;refine pvI D E (x:= .int k (k.wrap (m.tdiv n))) ?_ (by simp [Rel]) C;simp [execOp,he,hx,I,hg,binOp,Op.intDiv,h0]
 case rem=>
  obtain⟨rfl,h0,C⟩:=h;refine pvI D E (x:= .int k (m.tmod n)) ?_ (by simp [Rel]) C;simp [execOp,he,hx,I,hg,binOp,Op.intDiv,h0]
 all_goals
  obtain⟨rfl,C⟩:=h;first|refine Yb D E ?_ C|refine Bl6 D E ?_ C
  ·simp [execOp,he,hx,I,hg,binOp,Op.intArith,Op.intBits,Op.intCmp,bne]<;>(try (rw[Bool.eq_iff_iff];simp))
theorem Ce3 (l:List UInt8):(ByteArray.mk ⟨l⟩).toList=l:=by
 have h: ∀(n i:Nat) (r:List UInt8),l.length-i=n->i<=l.length->ByteArray.toList.loop ⟨⟨l⟩⟩ i r=r.reverse++l.drop i:=by
  intro n
  induction n with
  |zero=>
   intro i r hn hi;(have:i=l.length:=by omega);subst this;unfold ByteArray.toList.loop;simp [ByteArray.size]
  |succ n ih=>
   intro i r hn hi;(have y:i<l.length:=by omega);unfold ByteArray.toList.loop;simp only[ByteArray.size,List.size_toArray,y,if_true];rw[ih (i+1) _ (by omega) (by omega)];(have:ByteArray.get! ⟨⟨l⟩⟩ i=l[i]:=by simp [ByteArray.get!,y]);rw[this,List.drop_eq_getElem_cons y];simp
 have:=h l.length 0 [] (by simp) (by omega);simpa [ByteArray.toList] using this
theorem Ei4 (l m:List UInt8):(ByteArray.mk ⟨l⟩)++(ByteArray.mk ⟨m⟩)=ByteArray.mk ⟨l++m⟩:=by
 apply ByteArray.ext;simp
theorem Ez4 (C:Sim G N s a w) (D:Cx N o.dst=true) {op:BinOp} {t t':TypeId} {x y:Operand} (he:o.op= .binOp op t x y t') {l m:List UInt8} (hx:a.eval x= .string ⟨⟨l⟩⟩) (E:a.eval y= .string ⟨⟨m⟩⟩)
  (h:Ar0 l m o.dst K s op):PV P o s a w K:=by
 have hg:eqGuard op t x y (.string ⟨⟨l⟩⟩) (.string ⟨⟨m⟩⟩)=pure ():=Cw (by simp) (by simp);have I: ∀l:List UInt8,(ByteArray.mk ⟨l⟩).size=l.length:=λl=>rfl;cases op<;>simp only[Ar0] at h<;>try exact h.elim
 case add=>
  obtain⟨h0,J⟩:=h;refine pvI C D (x:= .string ⟨⟨l++m⟩⟩) ?_ (by simp [Rel]) J;simp only[execOp,he,hx,E,hg,binOp,Op.stringOp,I];rw[if_neg (by simp [IntKind.max,IntKind.signed,IntKind.bits];omega),Ei4];rfl
 all_goals
  refine Bl6 C D ?_ h
  ·simp [execOp,he,hx,E,hg,binOp,Op.stringOp]<;>(try (rw[Bool.eq_iff_iff];simp))
theorem Ar9 {t:TypeId} {x y:Value} {b:Bool} (h:(Op.equal t x y).run P w= .ok b w) {op:BinOp} {n:Bool} (C:Uo op=some n) (hx: ∀k n,x≠ .int k n) (hs: ∀l,x≠ .string l) (hf: ∀k n,x≠ .float k n) (D: ∀k n m,x≠ .complex k n m):
  (binOp op t x y).run P w= .ok (.bool (if n then !b else b)) w:=by
 cases op<;>simp [Uo] at C<;>subst C
 ·have:binOp .eql t x y=(do pure (.bool (←Op.equal t x y))):=by
   cases x<;>first|rfl|exact absurd rfl (hx _ _)|exact absurd rfl (hs _)|exact absurd rfl (hf _ _)|exact absurd rfl (D _ _ _)
  rw[this];simp [h]
 ·have:binOp .neq t x y=(do pure (.bool (!(←Op.equal t x y)))):=by
   cases x<;>first|rfl|exact absurd rfl (hx _ _)|exact absurd rfl (hs _)|exact absurd rfl (hf _ _)|exact absurd rfl (D _ _ _)
  rw[this];simp [h]
theorem Az5 {dst:Option Nat} {n b:Option Bool} (h:Te dst n b K s): ∃n' b',n=some n'/\b=some b'/\Br dst (.bool (if n' then !b' else b')) K s:=by
 cases n with
 |none=>exact h.elim
 |some n=>cases b with
  |none=>cases n<;>exact h.elim
  |some b=>cases n<;>exact⟨_,b,rfl,rfl,h⟩
theorem Ce4 {x y:Option Bool} {b:Bool} (h:Gp1 x y=some b): ∃p q,x=some p/\y=some q/\b=(p&&q):=by
 cases x with
 |none=>cases h
 |some p=>cases y with
  |none=>cases p<;>cases h
  |some q=>
   refine⟨p,q,rfl,rfl, ?_⟩;cases p<;>cases h<;>rfl
theorem As0 {H:Ab} {t:TypeId} {C:Bool} (E:Dz P t=some C) {cs:List DVal} {xs:Array Value} (hr:Ar w H cs xs.toList) {off:Nat}
  (D:C=false->(Jj (P.cellsOf t) off cs (some C))≠ []):
  ∃y,(part t xs off).run P w= .ok y w/\Ar w H (Jj (P.cellsOf t) off cs (some C)) (if C then y.cells.toList else [y])/\(C=true-> ∃ys,y= .agg ys):=by
 cases C with
 |true=>
  have hi:=Uz E;refine⟨.agg (xs.extract off (off+P.cellsOf t)),by simp [part,Oc E,De hi], ?_,λ_=>⟨_,rfl⟩⟩;have:(xs.extract off (off+P.cellsOf t)).toList=(xs.toList.drop off).take (P.cellsOf t):=by simp [Array.toList_extract,List.extract]
  simp only[Jj,if_true,Value.cells,this];exact(hr.drop off).take _
 |false=>
  have D:=D rfl;simp only[Jj] at D⊢
  have J:off<cs.length:=by
   rcases Nat.lt_or_ge off cs.length with h|h
   ·exact h
   ·rw[List.drop_eq_nil_of_le h] at D;simp at D
  have L:=hr.length;have I:off<xs.size:=by rw[<-Array.length_toList,<-L];exact J
  refine⟨xs[off],by simp [part,Oc E,Array.getElem?_eq_getElem I], ?_,λh=>by cases h⟩;have h2:=(hr.drop off).take 1;have:(xs.toList.drop off).take 1= [xs[off]]:=by
   rw[List.drop_eq_getElem_cons (by simpa using I)];simp
  rw[this] at h2;simpa using h2
theorem Ak9 {n:Nat} {t:TypeId} {ys:List DVal} {b:Bool} (y:Dz P t≠some true) (h:Ay7 P n t [] ys=some b):False:=by
 cases n with
 |zero=>cases h
 |succ n=>
  simp only[Ay7] at h;unfold Dz at y;cases hu:P.underlying t with
  |none=>rw[hu] at h;cases h
  |some d=>
   rw[hu] at h y;cases d<;>simp [Ak8,Cv1,Dz9,Ea0] at h y
theorem Bo8 {n:Nat} {t:TypeId} {xs:List DVal} {b:Bool} (y:Dz P t≠some true) (h:Ay7 P n t xs []=some b):False:=by
 cases n with
 |zero=>cases h
 |succ n=>
  simp only[Ay7] at h;unfold Dz at y;cases hu:P.underlying t with
  |none=>rw[hu] at h;cases h
  |some d=>
   rw[hu] at h y;cases d<;>simp at y<;>simp only[Ak8,Cv1,Dz9,Ea0] at h<;>first|cases h|(split at h<;>simp_all)
theorem Pv {H:Ab}: ∀(n d:Nat),n<=d-> ∀(t:TypeId) (xs ys:List DVal) (x y:Value) (J:Bool) (b:Bool),Dz P t=some J->
  Ar w H xs (if J then x.cells.toList else [x])->Ar w H ys (if J then y.cells.toList else [y])->(J=true-> ∃c,x= .agg c)->(J=true-> ∃c,y= .agg c)->Ay7 P n t xs ys=some b->
  (Op.equalIn d t x y).run P w= .ok b w
 | 0,_,_,_,_,_,_,_,_,_,_,_,_,_,_,h=>by cases h
 |n+1,0,hnd,_,_,_,_,_,_,_,_,_,_,_,_,_=>by omega
 |n+1,d+1,hnd,t,xs,ys,x,y,J,b,hag,hx,C,gx,gy,h=>by
  simp only[Ay7] at h;cases hu:P.underlying t with
  |none=>rw[hu] at h;cases h
  |some V=>
   rw[hu] at h;have D:=hag;unfold Dz at D;rw[hu] at D;have step: ∀(u:TypeId) (off:Nat) (r:Bool) (E I:Array Value),x= .agg E->y= .agg I->J=true->Ay7 P n u (Jj (P.cellsOf u) off xs (Dz P u)) (Jj (P.cellsOf u) off ys (Dz P u))=some r->
     ∃p q,(part u E off).run P w= .ok p w/\(part u I off).run P w= .ok q w/\(Op.equalIn d u p q).run P w= .ok r w:=by
    intro u off r E I ex W X hr;subst ex;subst W;subst X;simp only[if_true,Value.cells] at hx C;cases hau:Dz P u with
    |none=>
     rw[hau] at hr;exact(Ak9 (by rw[hau];simp) hr).elim
    |some Y=>
     rw[hau] at hr;obtain⟨p,hp,Z,aa⟩:=As0 (w:=w) hau hx (off:=off) (λe he=>by subst e;rw[he] at hr;exact Ak9 (by rw[hau];simp) hr);obtain⟨q,hq,ab,ac⟩:=As0 (w:=w) hau C (off:=off) (λe he=>by subst e;rw[he] at hr;exact Bo8 (by rw[hau];simp) hr);exact⟨p,q,hp,hq,Pv n d (by omega) u _ _ p q Y r hau Z ab aa ac hr⟩
   cases V<;>try (cases h;done)
   case bool=>
    simp at D;subst D;simp only[Ak8] at h;unfold Cv1 at h;split at h<;>try (cases h;done)
    simp only[Bool.false_eq_true,if_false,Ar,Rel] at hx C;obtain⟨_,_,hx,rfl,rfl⟩:=hx;obtain⟨_,_,C,rfl,rfl⟩:=C;simp only[List.cons.injEq,and_true] at hx C;subst hx;subst C;cases h;rw[run_equalIn_bool w d t _ _ hu];congr 1
   case int k=>
    simp at D;subst D;simp only[Ak8] at h;unfold Dz9 at h;split at h<;>try (cases h;done)
    split at h<;>try (cases h;done)
    rename_i hk
    subst hk;simp only[Bool.false_eq_true,if_false,Ar,Rel] at hx C;obtain⟨_,_,hx,rfl,rfl⟩:=hx;obtain⟨_,_,C,rfl,rfl⟩:=C;simp only[List.cons.injEq,and_true] at hx C;subst hx;subst C;cases h;simp only[Op.equalIn,Sem.run_bind,run_underlying hu,Result.andThen_ok,if_true,Sem.run_pure];congr 1
   case string=>
    simp at D;subst D;simp only[Ak8] at h;unfold Ea0 at h;split at h<;>try (cases h;done)
    simp only[Bool.false_eq_true,if_false,Ar,Rel] at hx C;obtain⟨_,_,hx,rfl,rfl⟩:=hx;obtain⟨_,_,C,rfl,rfl⟩:=C;simp only[List.cons.injEq,and_true] at hx C;subst hx;subst C;cases h;rw[run_equalIn_string (w:=w) d t _ _ hu];congr 1;rw[Bool.eq_iff_iff,Ce3,Ce3];simp
   case struct fs=>
    simp at D;subst D;obtain⟨E,rfl⟩:=gx rfl;obtain⟨I,rfl⟩:=gy rfl;(have L:P.fieldsOf t=fs:=by simp [Program.fieldsOf,hu]);simp only[Ak8] at h;cases hst:P.stoodInHeld t with
    |true=>rw[hst] at h;cases h
    |false=>
     rw[hst] at h;simp only[Gl4] at h;rw[run_equalIn_struct w d t E I (by rw[hu,L]) hst,L];generalize fs.toList=l at h;clear L hu hst
     induction l generalizing b with
     |nil=>simp only[Dz8] at h;cases h;simp [Op.eqFields]
     |cons f l ih=>
      simp only[Dz8] at h;split at h<;>try (cases h;done)
      rename_i hn
      obtain⟨p',M,h1,h2,rfl⟩:=Ce4 h;obtain⟨p,q,O,S,U⟩:=step f.type f.offset p' E I rfl rfl rfl h1;have:=ih M h2;simp only[Op.eqFields,if_pos hn,Sem.run_bind,O,S,U,Result.andThen_ok];cases p'
      ·simp
      ·simpa using this
   case array m e=>
    simp at D;subst D;obtain⟨E,rfl⟩:=gx rfl;obtain⟨I,rfl⟩:=gy rfl;simp only[Ak8] at h;cases hie:P.info? e with
    |none=>rw[hie] at h;cases h
    |some ie=>
     rw[run_equalIn_array w d E I hu hie];rw[hie] at h;simp only[Option.isSome_some,if_true] at h;generalize List.range m=l at h;clear hu
     induction l generalizing b with
     |nil=>simp only[Cv0] at h;cases h;simp [Op.eqItems]
     |cons f l ih=>
      simp only[Cv0] at h;obtain⟨p',M,h1,h2,rfl⟩:=Ce4 h;obtain⟨p,q,O,S,U⟩:=step e (f*P.cellsOf e) p' E I rfl rfl rfl h1;have:=ih M h2;simp only[Op.eqItems,Sem.run_bind,O,S,U,Result.andThen_ok];cases p'
      ·simp
      ·simpa using this
theorem Cb3 {op:BinOp} {t:TypeId} {x y:Operand} (h:(Ij x || Ij y)=true):eqGuard op t x y .nilIface .nilIface=pure ():=by
 unfold eqGuard;cases x<;>cases y<;>simp [Ij] at h<;>cases op<;>rfl
theorem Gl8 {b:Bool} {op:BinOp} {t:TypeId} {x y:Operand} {C D:Value} (E:Sim G N s a w) (I:Cx N o.dst=true) {t':TypeId} (he:o.op= .binOp op t x y t') (hx:a.eval x=C) (J:a.eval y=D)
  (L:eqGuard op t x y C D=pure ()) (hr:(Op.equal t C D).run P w= .ok b w) (h1: ∀k n,C≠ .int k n) (h2: ∀l,C≠ .string l) (h3: ∀k n,C≠ .float k n) (M: ∀k n m,C≠ .complex k n m)
  (h:Te o.dst (Uo op) (some b) K s):PV P o s a w K:=by
 obtain⟨n,b',hn,hb,O⟩:=Az5 h;cases hb;have:=Ar9 (P:=P) hr hn h1 h2 h3 M;refine Bl6 E I (b:=if n then !b else b) ?_ O;simp [execOp,he,hx,J,L,this]
theorem Gp9 (M:Sim G N s a w) (O:Cx N o.dst=true) {op:BinOp} {t t':TypeId} {x y:Operand} (he:o.op= .binOp op t x y t') {J L:DVal} (C:Rel w s.heap J (a.eval x)) (D:Rel w s.heap L (a.eval y))
  (h:Te o.dst (Uo op) (Aa9 (Ij x || Ij y) (P.underlying t) J L) K s):PV P o s a w K:=by
 obtain⟨n,b,hn,hb,hK⟩:=Az5 h;rw[hb] at h;unfold Aa9 at hb;have key: ∀E I,a.eval x=E->a.eval y=I->eqGuard op t x y E I=pure ()->(∀d,(Op.equalIn (d+1) t E I).run P w= .ok b w)->(∀k n,E≠ .int k n)->(∀l,E≠ .string l)->(∀k n,E≠ .float k n)->(∀k n m,E≠ .complex k n m)->PV P o s a w K:=
  λE I e1 S U V W X Y Z=>Gl8 M O he e1 S U (V 9999) W X Y Z h
 split at hb<;>(try (cases hb;done))<;>simp only[Rel] at C D
 case h_1 hu=>exact key _ _ C D (Cw (by simp) (by simp)) (by cases hb;exact λd=>run_equalIn_bool w d t _ _ hu) (by simp) (by simp) (by simp) (by simp)
 case h_2 hu=>exact key _ _ C D (Cw (by simp) (by simp)) (by cases hb;intro d;simp [Op.equalIn,run_underlying hu]) (by simp) (by simp) (by simp) (by simp)
 case h_3 hu=>exact key _ _ C D (Cw (by simp) (by simp)) (by cases hb;intro d;simp [Op.equalIn,run_underlying hu]) (by simp) (by simp) (by simp) (by simp)
 case h_4 hu=>
  obtain⟨_,_,_,D,_⟩:=D;exact key _ _ C D (Cw (by simp) (by simp)) (by cases hb;intro d;simp [Op.equalIn,run_underlying hu]) (by simp) (by simp) (by simp) (by simp)
 case h_5 hu=>exact key _ _ C D (Cw (by simp) (by simp)) (by cases hb;intro d;simp [Op.equalIn,run_underlying hu]) (by simp) (by simp) (by simp) (by simp)
 case h_6 hu=>
  obtain⟨_,_,_,C,_⟩:=C;exact key _ _ C D (Cw (by simp) (by simp)) (by cases hb;intro d;simp [Op.equalIn,run_underlying hu]) (by simp) (by simp) (by simp) (by simp)
 case h_7 hu=>
  obtain⟨_,D,_⟩:=D;exact key _ _ C D (Cw (by simp) (by simp)) (by cases hb;intro d;simp [Op.equalIn,run_underlying hu]) (by simp) (by simp) (by simp) (by simp)
 case h_8 hu=>
  obtain⟨_,C,_⟩:=C;exact key _ _ C D (Cw (by simp) (by simp)) (by cases hb;intro d;simp [Op.equalIn,run_underlying hu]) (by simp) (by simp) (by simp) (by simp)
 case h_9 hu=>
  split at hb<;>(try (cases hb;done))
  rename_i hc
  exact key _ _ C D (Cb3 hc) (by cases hb;intro d;simp [Op.equalIn,run_underlying hu]) (by simp) (by simp) (by simp) (by simp)
 case h_10 hu=>exact key _ _ C D (Cw (by simp) (by simp)) (by cases hb;intro d;simp [Op.equalIn,run_underlying hu]) (by simp) (by simp) (by simp) (by simp)
 case h_11 hu=>
  obtain⟨_,_,C,_⟩:=C;exact key _ _ C D (Cw (by simp) (by simp)) (by cases hb;intro d;simp [Op.equalIn,run_underlying hu]) (by simp) (by simp) (by simp) (by simp)
 case h_12 hu=>
  obtain⟨_,_,D,_⟩:=D;exact key _ _ C D (Cw (by simp) (by simp)) (by cases hb;intro d;simp [Op.equalIn,run_underlying hu]) (by simp) (by simp) (by simp) (by simp)
 case h_13 hu=>exact key _ _ C D (Cw (by simp) (by simp)) (by cases hb;intro d;simp [Op.equalIn,run_underlying hu]) (by simp) (by simp) (by simp) (by simp)
 case h_14 hu=>
  obtain⟨_,_,C,_⟩:=C;exact key _ _ C D (Cw (by simp) (by simp)) (by cases hb;intro d;simp [Op.equalIn,run_underlying hu]) (by simp) (by simp) (by simp) (by simp)
 case h_15 hu=>
  obtain⟨_,_,D,_⟩:=D;exact key _ _ C D (Cw (by simp) (by simp)) (by cases hb;intro d;simp [Op.equalIn,run_underlying hu]) (by simp) (by simp) (by simp) (by simp)
theorem Eb2 (E:Sim G N s a w) (I:Cx N o.dst=true) {op:BinOp} {t t':TypeId} {x y:Operand} (hx:Bx N x=true) (M:Bx N y=true) (he:o.op= .binOp op t x y t')
  (h:Rl P t (Ij x || Ij y) op o.dst (dev G s.env x) (dev G s.env y) K s):PV P o s a w K:=by
 have C:=Bo E hx;have D:=Bo E M;generalize dev G s.env x=dx at h C;generalize dev G s.env y=dy at h D;unfold Rl at h;split at h
 ·simp only[Rel] at C D;exact Ez3 E I he C D h
 ·simp only[Rel] at C D;exact Ez4 E I he C D h
 ·rename_i xs ys
  obtain⟨hag,hge,h⟩:=h;simp only[Rel] at C D;obtain⟨J,O,S⟩:=C;obtain⟨L,U,V⟩:=D;obtain⟨n,b,hn,hb,W⟩:=Az5 h;have X:=Pv (w:=w) (H:=s.heap) 6 10000 (by omega) t _ _ (.agg J) (.agg L) true b hag (by simpa [Value.cells] using S) (by simpa [Value.cells] using V) (λ_=>⟨_,rfl⟩) (λ_=>⟨_,rfl⟩) hb;have Y:(eqGuard op t x y (.agg J) (.agg L)).run P w= .ok () w:=by
   unfold eqGuard;cases op<;>simp [program,Sem.run,hge]
  have Z:=Ar9 (P:=P) (w:=w) (t:=t) (x:= .agg J) (y:= .agg L) (b:=b) X hn (by simp) (by simp) (by simp) (by simp);refine Bl6 E I (b:=if n then !b else b) ?_ W;simp [execOp,he,O,U,Y,Z]
 ·exact Gp9 E I he C D h
theorem Az6 {t e:TypeId} (C:P.underlying t=some (.slice e)) (d:Nat) {y:Option Addr} {n cap:Nat}:(Op.equalIn (d+1) t (.slice y n cap) (.slice none 0 0)).run P w= .ok y.isNone w:=by
 cases y<;>simp [Op.equalIn,run_underlying C]
theorem Gq0 (C:Sim G N s a w) (D:Cx N o.dst=true) {op:BinOp} {t t':TypeId} {x y:Operand} (hx:Bx N x=true) (I:Bx N y=true) (he:o.op= .binOp op t x y t')
  (h:Bf7 P t (Ij x || Ij y) op o.dst (Jk y) (dev G s.env x) (dev G s.env y) K s):PV P o s a w K:=by
 cases hn:Jk y with
 |false=>
  rw[hn,Uy] at h;exact Eb2 C D hx I he h
 |true=>
  rw[hn] at h;by_cases hv: ∃cs n,dev G s.env x= .vslice cs n
  ·obtain⟨cs,n,hv⟩:=hv;have E:=Bo C hx;rw[hv] at h E;simp only[Bf7] at h;obtain⟨ht,h⟩:=h;simp only[Rel] at E;obtain⟨J,cap,L,hle,hcs⟩:=E;have M:a.eval y= .slice none 0 0:=by
    unfold Jk at hn;split at hn<;>first|rfl|cases hn
   cases hu:P.underlying t with
   |none=>rw[hu] at ht;cases ht
   |some d=>
    rw[hu] at ht;(cases d<;>first|(cases ht;done)|skip);refine Gl8 C D he L M (b:=J.isNone) (Cw (by simp) (by simp)) ?_ (by simp) (by simp) (by simp) (by simp) (h J.isNone ?_)
    ·exact Az6 hu 9999
    ·intro hc;rcases hcs with hcs|⟨b,o',xs,rfl,_⟩
     ·exact(hc hcs).elim
     ·rfl
  ·refine Eb2 C D hx I he ?_;revert h hv;generalize dev G s.env x=dx;intro h hv;cases dx<;>first|exact h|exact(hv ⟨_,_,rfl⟩).elim
end
section
variable {P:Program} {G:Nat->DVal} {N:Fr}
variable {o:Oper} {s:DS} {a:Act} {w:World} {K:DK} {Qx:Exit->Act->World->Prop}
theorem Qr (n:Nat) (y:List DVal):(By n y).length=n*y.length:=by
 unfold By
 induction n with
 |zero=>simp
 |succ n ih=>simp [List.replicate_succ,ih,Nat.succ_mul];omega
theorem Ez5 (n:Nat) (y:List DVal) (i:Nat) (hi:i<n*y.length):(By n y)[i]? =y[i%y.length]? :=by
 induction n generalizing i with
 |zero=>simp at hi
 |succ n ih=>
  have hr:By (n+1) y=y++By n y:=by simp [By,List.replicate_succ]
  rw[hr];by_cases h:i<y.length
  ·rw[List.getElem?_append_left h,Nat.mod_eq_of_lt h]
  ·have e:(n+1)*y.length=n*y.length+y.length:=Nat.succ_mul _ _;rw[List.getElem?_append_right (by omega),ih (i-y.length) (by omega)];congr 1;exact(Nat.mod_eq_sub_mod (by omega)).symm
theorem Ai0 {H:Ab} {C:List DVal} {vs:Array Value} (h:Ar w H C vs.toList) (n m:Nat) (hm:m=n*C.length):
  Ar w H (By n C) ((Array.range m).map (vs[· %vs.size]!)).toList:=by
 have hl:=h.length;refine Ar.mk (by simp [Qr,hm]) λi d x h1 h2=> ?_;have hi:i<m:=by
  rcases Nat.lt_or_ge i m with h'|h'
  ·exact h'
  ·rw[List.getElem?_eq_none (by rw[Qr];omega)] at h1;cases h1
 have hz:0<C.length:=by
  rcases Nat.eq_zero_or_pos C.length with e|e
  ·rw[e] at hm;simp at hm;omega
  ·exact e
 rw[Ez5 n C i (by omega)] at h1;obtain⟨y,D,hr⟩:=h.get h1;have E:vs.size=C.length:=by rw[hl];simp
 have:x=y:=by
  have h3:((Array.range m).map (vs[· %vs.size]!)).toList[i]? =some (vs[i%vs.size]!):=by simp [hi]
  rw[h3] at h2;cases h2;have I:i%vs.size<vs.size:=Nat.mod_lt _ (by omega);have:vs.toList[i%C.length]? =some (vs[i%vs.size]!):=by
   rw[<-E];simp [I]
  rw[this] at D;cases D;rfl
 subst this;exact hr
theorem Ei5 (vs:List Value): ∀(j off:Nat) (c:Array Value),off+j+vs.length<=c.size->
  ((vs.zipIdx j).foldl (λcs (p:Value×Nat)=>cs.setIfInBounds (off+p.2) p.1) c).toList=c.toList.take (off+j)++vs++c.toList.drop (off+j+vs.length):=by
 induction vs with
 |nil=>intro j off c _;simp
 |cons v vs ih=>
  intro j off c h;simp only[jA] at h;simp only[List.zipIdx_cons,List.foldl_cons];rw[ih (j+1) off _ (by simp;omega)];have y:off+j<c.toList.length:=by simp;omega
  rw[Array.toList_setIfInBounds,jA,<-Nat.add_assoc];have e1:(c.toList.set (off+j) v).take (off+j+1)=c.toList.take (off+j)++ [v]:=by
   rw[List.take_set,List.take_succ_eq_append_getElem y,List.set_append_right _ _ (by simp;omega)];(have C:off+j-min (off+j) c.size=0:=by omega);simp [C]
  have D:(c.toList.set (off+j) v).drop (off+j+1+vs.length)=c.toList.drop (off+j+(vs.length+1)):=by
   rw[List.drop_set,if_pos (by omega)];congr 1;omega
  rw[e1,D];simp
theorem Ac5 {H:Ab} (y:Nat->Option (Nat×Nat)): ∀(parts:List (Nat×DVal)) (vs:List (Nat×Value)) (cs:List DVal) (c:Array Value) (out:List DVal),
  Ar w H cs c.toList->parts.length=vs.length->(∀(j:Nat) (i:Nat) (d:DVal),parts[j]? =some (i,d)-> ∃v,vs[j]? =some (i,v)/\Ar w H d.cells v.cells.toList)->
  Zy y cs parts=some out-> ∃c',Instr.fill y c vs=some c'/\Ar w H out c'.toList
 | [],[],cs,c,out,hc,_,_,h=>by
  simp only[Zy] at h;cases h;exact⟨c,rfl,hc⟩
 | [],_::_,_,_,_,_,hl,_,_=>by simp at hl
 |_::_,[],_,_,_,_,hl,_,_=>by simp at hl
 |(i,d)::parts,(i',v)::vs,cs,c,out,hc,hl,hp,h=>by
  obtain⟨v',C,hr⟩:=hp 0 i d rfl;simp at C;obtain⟨rfl,rfl⟩:=C;simp only[Zy] at h;cases hpl:y i' with
  |none=>rw[hpl] at h;cases h
  |some os=>
   obtain⟨off,size⟩:=os;rw[hpl] at h;simp only at h;split at h
   ·rename_i hle
    obtain⟨I,hle⟩:=hle;have D:=hr.length;have E:=hc.length;(have J:v.cells.size=d.cells.length:=by rw[D];simp);(have hcs:cs.length=c.size:=by rw[E];simp);have hf:(v.cells.zipIdx.foldl (λcs (p:Value×Nat)=>cs.setIfInBounds (off+p.2) p.1) c).toList=c.toList.take off++v.cells.toList++c.toList.drop (off+v.cells.toList.length):=by
     have:=Ei5 v.cells.toList 0 off c (by simp;omega);rw[<-Array.foldl_toList,Array.toList_zipIdx];simpa using this
    obtain⟨c',h1,h2⟩:=Ac5 y parts vs (cs.take off++d.cells++cs.drop (off+d.cells.length)) (v.cells.zipIdx.foldl (λcs (p:Value×Nat)=>cs.setIfInBounds (off+p.2) p.1) c) out
     (by rw[hf,<-D];exact((hc.take off).append hr).append (hc.drop _)) (by simpa using hl) (λj i d hj=>hp (j+1) i d (by simpa using hj)) h
    refine⟨c', ?_,h2⟩;simp only[Instr.fill,hpl];rw[if_neg (by simp only[Bool.or_eq_true,decide_eq_true_eq,not_or];omega)];exact h1
   ·cases h
theorem Yc {y:Nat->Option (Nat×Nat)}: ∀ {parts:List (Nat×DVal)} {cs out:List DVal},Zy y cs parts=some out->out.length=cs.length
 | [],cs,out,h=>by simp only[Zy] at h;cases h;rfl
 |(i,d)::parts,cs,out,h=>by
  simp only[Zy] at h;cases hpl:y i with
  |none=>rw[hpl] at h;cases h
  |some os=>
   rw[hpl] at h;simp only at h;split at h
   ·rename_i hle
    rw[Yc h];simp;omega
   ·cases h
theorem Az7 {s:DS} (C:Sim G N s a w): ∀(y:List (Nat×Operand)),(y.all λp=>Bx N p.2)=true->
  (Mr G s.env y).length=(y.map λp=>(p.1,a.eval p.2)).length/\
  ∀(j i:Nat) (d:DVal),(Mr G s.env y)[j]? =some (i,d)-> ∃v,(y.map λp=>(p.1,a.eval p.2))[j]? =some (i,v)/\Ar w s.heap d.cells v.cells.toList
 | [],_=>⟨rfl,by simp [Mr]⟩
 |(i,x)::y,h=>by
  simp only[List.all_cons,jF] at h;obtain⟨h1,h2⟩:=Az7 C y h.2;refine⟨by simpa [Mr] using h1,λj D d hj=> ?_⟩;cases j with
  |zero=>
   simp [Mr] at hj;obtain⟨rfl,rfl⟩:=hj;exact⟨_,rfl,Me (Bo C h.1)⟩
  |succ j=>simpa using h2 j D d (by simpa [Mr] using hj)
theorem Cv9 {t:TypeId} {z:DVal} (h:Bj P t=some z): ∃v,(∀w,(zeroValue t).run P w= .ok v w)/\(∀(w:World) (H:Ab),Ar w H z.cells v.cells.toList):=by
 unfold Bj at h;cases hi:P.info? t with
 |none=>simp [hi] at h
 |some i=>
  cases hz:i.zero with
  |none=>simp [hi,hz] at h
  |some v=>
   simp [hi,hz] at h;subst h;exact⟨v,λw=>by simp [zeroValue,Sd hi,hz],λw H=>Me (Hg w H v)⟩
theorem Bk1 {fs:List Field} (h:fs.all (λf=>(P.info? f.type).isSome)=true):
  (fs.mapM (λf=>(do pure (f.offset,<-sizeOf f.type):Sem (Nat×Nat)))).run P w= .ok (fs.map λf=>(f.offset,P.cellsOf f.type)) w:=by
 induction fs with
 |nil=>simp
 |cons f fs ih=>
  simp only[List.all_cons,jF] at h;simp only[List.mapM_cons,Sem.run_bind,De h.1,Result.andThen_ok,Sem.run_pure,ih h.2,jN]
theorem Fw3 (D:Sim G N s a w) (M:Cx N o.dst=true) {t:TypeId} {y:Array (Nat×Operand)} (hp:(y.toList.all λp=>Bx N p.2)=true) (he:o.op= .build t y)
  (h:Ck8 P o.dst (Fc P t) (P.underlying t) (Bj P t) (Mr G s.env y.toList) K s):o.wp P a w (Il G N K s w) Qx:=by
 obtain⟨hl,hpr⟩:=Az7 D y.toList hp;cases hb:Fc P t with
 |false=>rw[hb] at h;exact h.elim
 |true=>
  rw[hb] at h;cases hz:Bj P t with
  |none=>rw[hz] at h;cases hu:P.underlying t with
   |none=>rw[hu] at h;exact h.elim
   |some E=>rw[hu] at h;cases E<;>exact h.elim
  |some z=>
   obtain⟨v,hv,O⟩:=Cv9 hz;rw[hz] at h;(have S:(y.map λp=>(p.1,a.eval p.2)).toList=y.toList.map λp=>(p.1,a.eval p.2):=by simp);cases hu:P.underlying t with
   |none=>rw[hu] at h;exact h.elim
   |some E=>
    rw[hu] at h;unfold Fc at hb;rw[hu] at hb;cases E<;>try exact h.elim
    case struct fs=>
     obtain⟨d,C,I⟩:=Kc h;simp only[Option.map_eq_some_iff] at C;obtain⟨out,J,rfl⟩:=C;obtain⟨c',h1,h2⟩:=Ac5 _ _ _ _ _ _ (O w s.heap) hl hpr J;refine Kl D M (x:= .agg c') ?_ (by simp only[Rel];exact⟨c',rfl,h2⟩) I;have hm:(fs.mapM (λf=>(do pure (f.offset,<-sizeOf f.type):Sem (Nat×Nat)))).run P w= .ok (fs.map λf=>(f.offset,P.cellsOf f.type)) w:=by
      rw[Array.mapM_eq_mapM_toList];simp only[Sem.run_map,Bk1 (w:=w) hb,Result.andThen_ok];congr 1;apply Array.ext';simp
     have L:(λi=>(fs.map λf=>(f.offset,P.cellsOf f.type))[i]?)=Dk3 P fs:=by
      funext i;simp [Dk3]
     simp only[execOp,he,Instr.build,Sem.run_bind,hv,run_underlying hu,Result.andThen_ok,hm,L,S,h1];simp
    case array n e=>
     obtain⟨d,C,I⟩:=Kc h;simp only[Option.map_eq_some_iff] at C;obtain⟨out,J,rfl⟩:=C;obtain⟨c',h1,h2⟩:=Ac5 _ _ _ _ _ _ (O w s.heap) hl hpr J;refine Kl D M (x:= .agg c') ?_ (by simp only[Rel];exact⟨c',rfl,h2⟩) I;have L:(λi=>some (i*P.cellsOf e,P.cellsOf e))=Bn5 (P.cellsOf e):=rfl;simp only[execOp,he,Instr.build,Sem.run_bind,hv,run_underlying hu,Result.andThen_ok,De hb,L,S,h1];simp
theorem Cl8 (D:Sim G N s a w) (E:Cx N o.dst=true) {t:TypeId} {n:Nat} {y:Array (Nat×Operand)} (hp:(y.toList.all λp=>Bx N p.2)=true) (he:o.op= .buildSlice t n y)
  (h:Uv P n o.dst (P.underlying t) (Mr G s.env y.toList) K s):o.wp P a w (Il G N K s w) Qx:=by
 obtain⟨hl,hpr⟩:=Az7 D y.toList hp;have I:(y.map λp=>(p.1,a.eval p.2)).toList=y.toList.map λp=>(p.1,a.eval p.2):=by simp
 cases hu:P.underlying t with
 |none=>rw[hu] at h;exact h.elim
 |some M=>
  rw[hu] at h;cases M<;>try exact h.elim
  rename_i e
  simp only[Uv] at h;cases hz:Bj P e with
  |none=>rw[hz] at h;exact h.elim
  |some z=>
   obtain⟨v,hv,J⟩:=Cv9 hz;rw[hz] at h;obtain⟨hle,C,h⟩:=h;cases hf:Zy (Bn5 (P.cellsOf e)) (By n z.cells) (Mr G s.env y.toList) with
   |none=>rw[hf] at h;exact h.elim
   |some out=>
    rw[hf] at h;have hie:(P.info? e).isSome=true:=by
     unfold Bj at hz;cases hi:P.info? e with
     |none=>simp [hi] at hz
     |some i=>rfl
    have hb:=Ai0 (J w s.heap) n (n*P.cellsOf e) (by rw[C]);(have S:v.cells.size=P.cellsOf e:=by rw[<-C,(J w s.heap).length];simp);have L:(λi=>some (i*P.cellsOf e,P.cellsOf e))=Bn5 (P.cellsOf e):=rfl;by_cases h0:n*P.cellsOf e=0
    ·have O:Ar w s.heap (By n z.cells) ((Array.range (n*P.cellsOf e)).map ((#[]:Array Value)[· %(#[]:Array Value).size]!)).toList:=by
      rw[h0] at hb⊢;simpa using hb
     obtain⟨c',h1,h2⟩:=Ac5 _ _ _ _ _ _ O hl hpr hf;refine Ar8 D E (c:=c') (n:=w.drawn) (Nat.le_refl n) (Nat.le_refl n) (by rw[<-Array.length_toList,<-h2.length,Yc hf,Qr,C];omega) ?_ h2 (List.prefix_refl _) h;simp only[execOp,he,Instr.buildSlice,Sem.run_bind,run_underlying hu,Result.andThen_ok,De hie];rw[if_neg (by simp;omega)];simp only[h0] at h1;simp only[L,I,h0,if_true,Sem.run_bind,Sem.run_pure,Result.andThen_ok,h1];simp [newRow];rfl
    ·obtain⟨c',h1,h2⟩:=Ac5 _ _ _ _ _ _ hb hl hpr hf;refine Ar8 D E (c:=c') (n:=w.drawn) (Nat.le_refl n) (Nat.le_refl n) (by rw[<-Array.length_toList,<-h2.length,Yc hf,Qr,C];omega) ?_ h2 (List.prefix_refl _) h;simp only[execOp,he,Instr.buildSlice,Sem.run_bind,run_underlying hu,Result.andThen_ok,De hie];rw[if_neg (by simp;omega)];simp only[L,I,h0,if_false];simp [hv,h1,newRow];rfl
end
section
variable {P:Program} {G:Nat->DVal} {N:Fr}
variable {o:Oper} {s:DS} {a:Act} {w:World} {K:DK} {Qx:Exit->Act->World->Prop}
theorem Cw0 (C:Sim G N s a w) (E:Cx N o.dst=true) {t:TypeId} {x:Operand} {f:Nat} (hx:Bx N x=true) (he:o.op= .fieldAddr t x f)
  (h:Tg P f (dev G s.env x) o.dst (P.underlying t) K s):PV P o s a w K:=by
 have r:=Bo C hx;cases hu:P.underlying t with
 |none=>rw[hu] at h;exact h.elim
 |some L=>
  rw[hu] at h;cases L<;>try exact h.elim
  rename_i fs
  simp only[Tg] at h;cases hf:fs[f]? with
  |none=>rw[hf] at h;exact h.elim
  |some D=>
   rw[hf] at h;obtain⟨I,h⟩:=h;obtain⟨d,y,J⟩:=Kc h;have hi:(P.info? D.type).isSome=true:=by
    cases hi:P.info? D.type with
    |none=>simp [Program.cellsOf,hi] at I
    |some i=>rfl
   have key: ∀b off,a.eval x= .pointer (some ⟨b,off,none⟩)->(execOp a.eval o).run P w= .ok (.value (.pointer (some ⟨b,off+D.offset,none⟩))) w:=by
    intro b off hp;simp [execOp,he,hp,Instr.fieldAt,run_underlying hu,hf,Instr.sureAddr,fieldPlace,De hi,Nat.pos_iff_ne_zero.1 I,Md]
   cases hv:dev G s.env x<;>rw[hv] at y r<;>simp only[Bl3] at y<;>try (cases y;done)
   case vptr cs off=>
    cases y;simp only[Rel] at r;obtain⟨b,o',xs,hp,hc,hl⟩:=r;refine pvI C E (key _ _ hp) ?_ J;simp only[Rel];exact⟨b,o',xs,by rw[Nat.add_assoc],hc,hl⟩
   case optr r0 off=>
    cases y;simp only[Rel] at r;exact pvI C E (key _ _ r) (by simp [Rel]) J
theorem Eb3 {size:Nat} {y:Option Bool} {t:TypeId} (C:Dz P t=y) (D:P.cellsOf t=size) {cs:List DVal} {xs:Array Value} {H:Ab} (hr:Ar w H cs xs.toList) {off:Nat} {dst:Option Nat}
  (h:Cv2 size cs off dst y K s): ∃d x,(part t xs off).run P w= .ok x w/\Rel w H d x/\Br dst d K s:=by
 subst D;cases y with
 |none=>exact h.elim
 |some y=>
  cases y with
  |true=>
   refine⟨_,.agg (xs.extract off (off+P.cellsOf t)),by simp [part,Oc C,De (Uz C)], ?_,h⟩;(have:(xs.extract off (off+P.cellsOf t)).toList=(xs.toList.drop off).take (P.cellsOf t):=by simp [Array.toList_extract,List.extract]);simp only[Rel];exact⟨_,rfl,by rw[this];exact(hr.drop off).take _⟩
  |false=>
   obtain⟨d,hd,E⟩:=Kc h;obtain⟨x,hx,I⟩:=hr.get hd;(have:xs[off]? =some x:=by simpa using hx);exact⟨d,x,by simp [part,Oc C,this],I,E⟩
theorem Fw4 (C:Sim G N s a w) (D:Cx N o.dst=true) {t:TypeId} {x:Operand} {f:Nat} (hx:Bx N x=true) (he:o.op= .field t x f)
  (h:Bn7 P f o.dst (P.underlying t) (dev G s.env x) K s):PV P o s a w K:=by
 have r:=Bo C hx;cases hu:P.underlying t with
 |none=>rw[hu] at h;exact h.elim
 |some E=>
  rw[hu] at h;cases E<;>try (cases dev G s.env x<;>exact h.elim)
  rename_i fs
  cases hv:dev G s.env x<;>rw[hv] at h r<;>try exact h.elim
  rename_i cs
  simp only[Bn7] at h;simp only[Rel] at r;obtain⟨xs,hp,hl⟩:=r;cases hf:fs[f]? with
  |none=>rw[hf] at h;exact h.elim
  |some M=>
   rw[hf] at h;obtain⟨d,y,I,J,L⟩:=Eb3 (w:=w) rfl rfl hl h;refine pvI C D ?_ J L;simp [execOp,he,hp,Instr.field,run_underlying hu,hf,asAgg,I]
theorem Cw1 (D:Sim G N s a w) (J:Cx N o.dst=true) {t:TypeId} {x i:Operand} (hx:Bx N x=true) (hi:Bx N i=true) (he:o.op= .indexAddr t x i)
  (h:Th P o.dst (P.underlying t) (dev G s.env x) (dev G s.env i) K s):PV P o s a w K:=by
 have y:=Bo D hx;have C:=Bo D hi;generalize hu:P.underlying t=u at h;generalize dev G s.env x=dx at h y;generalize dev G s.env i=di at h C;unfold Th at h;split at h
 ·rename_i e cs len k n
  obtain⟨hie,h0,I,hle,E⟩:=h;simp only[Rel] at y C;obtain⟨S,cap,hp,M,hc⟩:=y;rcases hc with rfl|⟨b,o',xs,rfl,hc,hl⟩
  ·simp at hle
  ·refine pvI D J (x:= .pointer (some ⟨b,o'+n.toNat*P.cellsOf e,none⟩)) ?_ (by simp only[Rel];exact⟨b,o',xs,rfl,hc,hl⟩) E;simp [execOp,he,hp,C,Instr.indexAt,asIntOf,run_underlying hu,De hie,h0,I,Md]
 ·rename_i e _ r0 off len lo k n
  obtain⟨hie,h0,I,E⟩:=h;simp only[Rel] at y C;obtain⟨o',cap,hp,hlo,M,O,_⟩:=y;have:o'=off:=by rcases O with e|e<;>omega
  subst this;refine pvI D J (x:= .pointer (some ⟨r0,o'+n.toNat*P.cellsOf e,none⟩)) ?_ (by simp [Rel]) E;simp [execOp,he,hp,C,Instr.indexAt,asIntOf,run_underlying hu,De hie,h0,I,Md]
 ·rename_i m e k n
  obtain⟨hie,h0,I,h⟩:=h;simp only[Rel] at C;obtain⟨d,L,E⟩:=Kc h;have key: ∀b off,a.eval x= .pointer (some ⟨b,off,none⟩)->(execOp a.eval o).run P w= .ok (.value (.pointer (some ⟨b,off+n.toNat*P.cellsOf e,none⟩))) w:=by
   intro b off hp;simp [execOp,he,hp,C,Instr.indexAt,asIntOf,run_underlying hu,De hie,Instr.sureAddr,h0,I,Md]
  cases dx<;>simp only[Bl3] at L<;>try (cases L;done)
  case vptr cs off=>
   cases L;simp only[Rel] at y;obtain⟨b,o',xs,hp,hc,hl⟩:=y;refine pvI D J (key _ _ hp) ?_ E;simp only[Rel];exact⟨b,o',xs,by rw[Nat.add_assoc],hc,hl⟩
  case optr r0 off=>
   cases L;simp only[Rel] at y;exact pvI D J (key _ _ y) (by simp [Rel]) E
 ·exact h.elim
theorem Fw5 (E:Sim G N s a w) (L:Cx N o.dst=true) {t:TypeId} {x i:Operand} (hx:Bx N x=true) (hi:Bx N i=true) (he:o.op= .index t x i)
  (h:Bn8 P o.dst (P.underlying t) (dev G s.env x) (dev G s.env i) K s):PV P o s a w K:=by
 have C:=Bo E hx;have D:=Bo E hi;generalize hu:P.underlying t=u at h;generalize dev G s.env x=dx at h C;generalize dev G s.env i=di at h D;unfold Bn8 at h;split at h
 ·rename_i m e cs k n
  obtain⟨h0,I,h⟩:=h;simp only[Rel] at C D;obtain⟨xs,hp,hl⟩:=C;have hie:(P.info? e).isSome=true:=by
   cases hag:Dz P e with
   |none=>rw[hag] at h;exact h.elim
   |some b=>exact Uz hag
  obtain⟨d,y,O,S,J⟩:=Eb3 (w:=w) rfl rfl hl h;refine pvI E L ?_ S J;simp [execOp,he,hp,D,Instr.index,asIntOf,run_underlying hu,h0,I,De hie,O]
 ·rename_i l k n
  obtain⟨h0,h⟩:=h;obtain⟨d,M,J⟩:=Kc h;simp only[Option.map_eq_some_iff] at M;obtain⟨c,hc,rfl⟩:=M;simp only[Rel] at C D;refine pvI E L (x:= .int .u8 c.toNat) ?_ (by simp [Rel]) J;have hb:(ByteArray.mk ⟨l⟩)[n.toNat]? =some c:=by
   have I:n.toNat<l.length:=by
    rcases Nat.lt_or_ge n.toNat l.length with h'|h'
    ·exact h'
    ·rw[List.getElem?_eq_none h'] at hc;cases hc
   rw[List.getElem?_eq_getElem I] at hc;cases hc;have:n.toNat<(ByteArray.mk ⟨l⟩).size:=I;rw[getElem?_pos (ByteArray.mk ⟨l⟩) n.toNat this];rfl
  simp [execOp,he,C,D,Instr.index,asIntOf,run_underlying hu,h0,hb]
 ·exact h.elim
theorem Od {t:TypeId} {z:DVal} (h:Bj P t=some z): ∃i v,P.info? t=some i/\i.zero=some v/\z=Fk v:=by
 unfold Bj at h;cases hi:P.info? t with
 |none=>simp [hi] at h
 |some i=>
  cases hz:i.zero with
  |none=>simp [hi,hz] at h
  |some v=>
   simp [hi,hz] at h;exact⟨i,v,rfl,hz,h.symm⟩
theorem Cw2 (C:Sim G N s a w) (I:Cx N o.dst=true) {t:TypeId} {l c:Operand} (hl:Bx N l=true) (J:Bx N c=true) (he:o.op= .makeSlice t l c)
  (h:Xw P o.dst (P.underlying t) (dev G s.env l) (dev G s.env c) K s):o.wp P a w (Il G N K s w) Qx:=by
 have D:=Bo C hl;have E:=Bo C J;generalize hu:P.underlying t=u at h;generalize dev G s.env l=dl at h D;generalize dev G s.env c=dc at h E;unfold Xw at h;split at h
 ·rename_i e k n k' m
  simp only[Rel] at D E;cases hz:Bj P e with
  |none=>rw[hz] at h;exact h.elim
  |some z=>
   rw[hz] at h;obtain⟨h0,hle,hb,hm,L,V,h⟩:=h;obtain⟨y,v,hie,M,rfl⟩:=Od hz;(have O:P.bytesOf e=y.bytes:=by simp [Program.bytesOf,hie]);(have hcs:P.cellsOf e=y.size:=by simp [Program.cellsOf,hie]);rw[O] at hb;have S:Ar w s.heap (Fk v).cells v.cells.toList:=Me (Hg w s.heap v);have hr:=Ai0 S m.toNat (m.toNat*y.size) (by rw[L,hcs]);have U:=run_make (P:=P) w t e y v hu hie M k k' n m h0 hle (by rw[Int.mul_comm];omega) (by omega);exact Ar8 C I (n:=w.drawn) (Nat.le_refl _) (by omega) (by simp [hcs]) (by simp [execOp,he,D,E,U];rfl) hr (List.prefix_refl _) h
 ·exact h.elim
theorem Bo9 (C:Sim G N s a w) {x:Option Operand} (hx:(match x with|some x=>Bx N x|none=>true)=true):
  (x=none/\Rm G s.env x=none)\/ ∃y,x=some y/\Rm G s.env x=some (dev G s.env y)/\Rel w s.heap (dev G s.env y) (a.eval y):=by
 cases x with
 |none=>exact .inl ⟨rfl,rfl⟩
 |some y=>exact .inr ⟨y,rfl,rfl,Bo C hx⟩
theorem Fw {k:IntKind} {n:Int} {y:Nat} {c:BoundsCode} (h0:0<=n) (h1:n<=y):(Instr.sliceBound (.int k n) y c).run P w= .ok n.toNat w:=by
 simp [Instr.sliceBound,asIntOf,h0,h1]
theorem As1 (C:Sim G N s a w) {x:Option Operand} (hx:(match x with|some x=>Bx N x|none=>true)=true) {n:Int} (h:dLo (Rm G s.env x)=some n):
  (x=none/\n=0)\/ ∃y k,x=some y/\a.eval y= .int k n:=by
 rcases Bo9 C hx with⟨rfl,e⟩|⟨y,rfl,e,r⟩
 ·rw[e] at h;simp [dLo] at h;exact .inl ⟨rfl,h.symm⟩
 ·rw[e] at h;cases hd:dev G s.env y<;>rw[hd] at h r<;>simp [dLo] at h;subst h;simp only[Rel] at r;exact .inr ⟨y,_,rfl,r⟩
theorem Ez6 (C:Sim G N s a w) {x:Option Operand} (hx:(match x with|some x=>Bx N x|none=>true)=true) {l:Nat} {n:Int} (h:dHi l (Rm G s.env x)=some n):
  (x=none/\n=l)\/ ∃y k,x=some y/\a.eval y= .int k n:=by
 rcases Bo9 C hx with⟨rfl,e⟩|⟨y,rfl,e,r⟩
 ·rw[e] at h;simp [dHi] at h;exact .inl ⟨rfl,h.symm⟩
 ·rw[e] at h;cases hd:dev G s.env y<;>rw[hd] at h r<;>simp [dHi] at h;subst h;simp only[Rel] at r;exact .inr ⟨y,_,rfl,r⟩
theorem Oe (C:Sim G N s a w) {lo hi:Option Operand} (I:(match lo with|some x=>Bx N x|none=>true)=true) (J:(match hi with|some x=>Bx N x|none=>true)=true)
  {b:Bool} {len cap:Nat} {l h:Int} (L:dLo (Rm G s.env lo)=some l) (M:dHi len (Rm G s.env hi)=some h) (h0:0<=l) (h1:l<=h) (h2:h<=cap):
  (Instr.sliceBounds b len cap (lo.map a.eval) (hi.map a.eval) none).run P w= .ok (l.toNat,h.toNat,cap) w:=by
 rcases As1 C I L with⟨rfl,rfl⟩|⟨y,k,rfl,D⟩<;>rcases Ez6 C J M with⟨rfl,rfl⟩|⟨z,k',rfl,E⟩
 ·simp [Instr.sliceBounds]
 ·simp [Instr.sliceBounds,E,Fw (P:=P) (w:=w) (k:=k') (n:=h) (y:=cap) (by omega) h2]
 ·simp [Instr.sliceBounds,D,Fw (P:=P) (w:=w) (k:=k) (n:=l) (y:=len) h0 h1]
 ·have:l<=(h.toNat:Int):=by omega
  simp [Instr.sliceBounds,D,E,Fw (P:=P) (w:=w) (k:=k') (n:=h) (y:=cap) (by omega) h2,Fw (P:=P) (w:=w) (k:=k) (n:=l) (y:=h.toNat) h0 this]
theorem Cw3 (D:Sim G N s a w) {lo hi C:Option Operand} (O:(match lo with|some x=>Bx N x|none=>true)=true) (S:(match hi with|some x=>Bx N x|none=>true)=true) (U:(match C with|some x=>Bx N x|none=>true)=true)
  {b:Bool} {len cap:Nat} {l h m:Int} (V:dLo (Rm G s.env lo)=some l) (W:hi≠none) (X:C≠none) (Y:dLo (Rm G s.env hi)=some h) (Z:dLo (Rm G s.env C)=some m) (h0:0<=l) (h1:l<=h) (h2:h<=m) (h3:m<=cap):
  (Instr.sliceBounds b len cap (lo.map a.eval) (hi.map a.eval) (C.map a.eval)).run P w= .ok (l.toNat,h.toNat,m.toNat) w:=by
 obtain⟨z,E,rfl,I⟩:=(As1 D S Y).resolve_left (λe=>W e.1);obtain⟨u,J,rfl,L⟩:=(As1 D U Z).resolve_left (λe=>X e.1);have M:h<=(m.toNat:Int):=by omega
 have r2:l<=(h.toNat:Int):=by omega
 rcases As1 D O V with⟨rfl,rfl⟩|⟨y,k,rfl,ey⟩
 ·simp [Instr.sliceBounds,I,L,Fw (P:=P) (w:=w) (k:=J) (n:=m) (y:=cap) (by omega) h3,Fw (P:=P) (w:=w) (k:=E) (n:=h) (y:=m.toNat) (by omega) M]
 ·simp [Instr.sliceBounds,I,L,ey,Fw (P:=P) (w:=w) (k:=J) (n:=m) (y:=cap) (by omega) h3,Fw (P:=P) (w:=w) (k:=E) (n:=h) (y:=m.toNat) (by omega) M,Fw (P:=P) (w:=w) (k:=k) (n:=l) (y:=h.toNat) h0 r2]
theorem Ei1.le {r n m:Nat} (h:Ei1 w r n) (hm:m<=n):Ei1 w r m:=⟨h.1,λk hk=>Nat.le_trans hm (h.2 k hk)⟩
theorem Fw6 (E:Sim G N s a w) (W:Cx N o.dst=true) {t:TypeId} {x:Operand} {lo hi X:Option Operand} (hx:Bx N x=true)
  (Y:(match lo with|some x=>Bx N x|none=>true)=true) (Z:(match hi with|some x=>Bx N x|none=>true)=true) (af:(match X with|some x=>Bx N x|none=>true)=true) (he:o.op= .slice t x lo hi X)
  (h:Ay9 P (Rm G s.env lo) (Rm G s.env hi) o.dst (P.underlying t) (dev G s.env x) (Rm G s.env X) K s):PV P o s a w K:=by
 have I:=Bo E hx;generalize hu:P.underlying t=u at h;generalize dev G s.env x=dx at h I;generalize hm:Rm G s.env X=dm at h;have aa:dm=none->X=none:=by
  intro e;subst e;cases X with
  |none=>rfl
  |some y=>simp [Rm] at hm
 unfold Ay9 at h;split at h
 ·-- a string
  rename_i l
  obtain rfl:=aa rfl;simp only[Rel] at I;unfold Ay8 at h;split at h<;>try exact h.elim
  rename_i C D J L
  obtain⟨h0,h1,h2,M⟩:=h;have hb:=Oe (P:=P) E Y Z (b:=false) (cap:=l.length) J L h0 h1 h2;refine pvI E W (x:= .string ⟨⟨(l.drop C.toNat).take (D.toNat-C.toNat)⟩⟩) ?_ (by simp [Rel]) M;have ag:(ByteArray.mk ⟨l⟩).size=l.length:=rfl;have ah:(ByteArray.mk ⟨l⟩).extract C.toNat D.toNat=⟨⟨(l.drop C.toNat).take (D.toNat-C.toNat)⟩⟩:=by
   apply ByteArray.ext;rw[ByteArray.data_extract];apply Array.ext';simp [List.extract]
  simp [execOp,he,I,Instr.sliceAt,Instr.slice,run_underlying hu,ag,hb,ah]
 ·-- a nil slice
  rename_i e
  obtain rfl:=aa rfl;obtain⟨hie,h⟩:=h;simp only[Rel] at I;unfold Cl3 at h;split at h<;>try exact h.elim
  rename_i C D J L
  obtain⟨rfl,rfl,M⟩:=h;have hb:=Oe (P:=P) E Y Z (b:=true) (cap:=0) J L (by omega) (by omega) (by omega);refine pvI E W (x:= .slice none 0 0) ?_ (by simp [Rel]) M;simp [execOp,he,I,Instr.sliceAt,Instr.slice,run_underlying hu,hb,De hie]
 ·-- memory that lasts
  rename_i e cs len
  obtain rfl:=aa rfl;obtain⟨hie,h⟩:=h;simp only[Rel] at I;obtain⟨ad,cap,hp,ac,hc⟩:=I;unfold Ar2 at h;split at h<;>try exact h.elim
  rename_i C D J L
  obtain⟨h0,h1,h2,M⟩:=h;have hb:=Oe (P:=P) E Y Z (b:=true) (cap:=cap) J L h0 h1 (by omega);refine pvI E W (x:= .slice (if cap=C.toNat then ad else ad.map (·.add (C.toNat*P.cellsOf e))) (D.toNat-C.toNat) (cap-C.toNat)) ?_ ?_ M
  ·simp [execOp,he,hp,Instr.sliceAt,Instr.slice,run_underlying hu,hb,De hie]
  ·simp only[Rel];refine⟨_,_,rfl,by omega, ?_⟩;by_cases O:cap=C.toNat
   ·(have:D.toNat-C.toNat=0:=by omega);rw[this];exact .inl (by simp)
   ·rw[if_neg O];rcases hc with rfl|⟨b,o',xs,rfl,hc,hl⟩
    ·exact .inl (by simp)
    ·refine .inr ⟨b,o'+C.toNat*P.cellsOf e,(xs.drop (C.toNat*P.cellsOf e)).take ((D.toNat-C.toNat)*P.cellsOf e),by simp [Md], ?_,(hl.drop _).take _⟩;rcases hc with rfl|⟨g1,g2⟩
     ·exact .inl (by simp)
     ·exact .inr ⟨g1,(Mp.drop g2).take⟩
 ·-- a slice of the call's own
  rename_i e sz r0 off len ai
  obtain rfl:=aa rfl;obtain⟨hie,rfl,h⟩:=h;simp only[Rel] at I;obtain⟨o',cap,hp,aj,ac,ab,V⟩:=I;unfold Xx at h;split at h<;>try exact h.elim
  rename_i C D S J L em
  cases em;obtain⟨h0,h1,h2,h3,M⟩:=h;have hb:=Oe (P:=P) E Y Z (b:=true) (cap:=cap) J L h0 h1 (by omega);refine pvI E W (x:= .slice (if cap=C.toNat then some ⟨r0,o',none⟩ else some ⟨r0,o'+C.toNat*P.cellsOf e,none⟩) (D.toNat-C.toNat) (cap-C.toNat)) ?_ ?_ M
  ·simp [execOp,he,hp,Instr.sliceAt,Instr.slice,run_underlying hu,hb,De hie,Md]
  ·simp only[Rel];have ae:(cap-C.toNat)*P.cellsOf e+C.toNat*P.cellsOf e=cap*P.cellsOf e:=by
    rw[<-Nat.add_mul];congr 1;omega
   by_cases O:cap=C.toNat
   ·exact⟨o',cap-C.toNat,by simp [O],by omega,by omega,.inl (by omega),V.le (by omega)⟩
   ·refine⟨o'+C.toNat*P.cellsOf e,cap-C.toNat,by simp [O],by omega,by omega,.inr ?_,V.le (by omega)⟩;rcases ab with e1|e1
    ·omega
    ·rw[e1]
 ·-- a slice of the call's own, with a third index
  rename_i e sz r0 off len ai m
  obtain⟨hie,rfl,ak,h⟩:=h;simp only[Rel] at I;obtain⟨o',cap,hp,aj,ac,ab,V⟩:=I;unfold Xx at h;split at h<;>try exact h.elim
  rename_i C D S J L em
  obtain⟨h0,h1,h2,h3,M⟩:=h;have al:hi≠none:=by rintro rfl;simp [Rm] at ak
  have am:X≠none:=by rintro rfl;simp [Rm] at hm
  have hb:=Cw3 (P:=P) E Y Z af (b:=true) (len:=len) (cap:=cap) J al am L (by rw[hm];exact em) h0 h1 h2 (by omega);refine pvI E W (x:= .slice (if S.toNat=C.toNat then some ⟨r0,o',none⟩ else some ⟨r0,o'+C.toNat*P.cellsOf e,none⟩) (D.toNat-C.toNat) (S.toNat-C.toNat)) ?_ ?_ M
  ·simp [execOp,he,hp,Instr.sliceAt,Instr.slice,run_underlying hu,hb,De hie,Md]
  ·simp only[Rel];have ae:(S.toNat-C.toNat)*P.cellsOf e+C.toNat*P.cellsOf e=S.toNat*P.cellsOf e:=by
    rw[<-Nat.add_mul];congr 1;omega
   have ao:S.toNat*P.cellsOf e<=cap*P.cellsOf e:=Nat.mul_le_mul_right _ (by omega);by_cases O:S.toNat=C.toNat
   ·exact⟨o',S.toNat-C.toNat,by simp [O],by omega,by omega,.inl (by omega),V.le (by omega)⟩
   ·refine⟨o'+C.toNat*P.cellsOf e,S.toNat-C.toNat,by simp [O],by omega,by omega,.inr ?_,V.le (by omega)⟩;rcases ab with e1|e1
    ·omega
    ·rw[e1]
 ·-- an array of the call's own
  rename_i n e r0 off
  obtain rfl:=aa rfl;obtain⟨hie,U,h⟩:=h;simp only[Rel] at I;have V:Ei1 w r0 (off+n*P.cellsOf e):=by
   cases hh:s.heap r0 with
   |none=>rw[hh] at U;exact U.elim
   |some ob=>
    cases ob with
    |loop=>rw[hh] at U;exact U.elim
    |iter=>rw[hh] at U;exact U.elim
    |map=>rw[hh] at U;exact U.elim
    |cells cs e'=>
     rw[hh] at U;obtain⟨xs,c,fz,g1,g2,g3,g4⟩:=E.heap r0 _ hh;refine⟨E.heap.lt (by simp [hh]),λk hk=> ?_⟩;rw[g1] at hk;simp [Pn] at hk;have:=g3.length;have:=g2.length_le;simp only[Array.length_toList] at this;simp only[Gl6] at U;omega
  unfold Xx at h;split at h<;>try exact h.elim
  rename_i C D S J L em
  cases em;obtain⟨h0,h1,h2,h3,M⟩:=h;have hb:=Oe (P:=P) E Y Z (b:=false) (cap:=n) J L h0 h1 h2;refine pvI E W (x:= .slice (some (if n=C.toNat then⟨r0,off,none⟩ else⟨r0,off+C.toNat*P.cellsOf e,none⟩)) (D.toNat-C.toNat) (n-C.toNat)) ?_ ?_ M
  ·simp [execOp,he,I,Instr.sliceAt,run_underlying hu,Instr.sureAddr,hb,De hie,Md]
  ·simp only[Rel];have ae:(n-C.toNat)*P.cellsOf e+C.toNat*P.cellsOf e=n*P.cellsOf e:=by
    rw[<-Nat.add_mul];congr 1;omega
   by_cases O:n=C.toNat
   ·exact⟨off,n-C.toNat,by simp [O],by omega,by omega,.inl (by omega),V.le (by omega)⟩
   ·exact⟨off+C.toNat*P.cellsOf e,n-C.toNat,by simp [O],by omega,by omega,.inr rfl,V.le (by omega)⟩
 ·-- an array in memory that lasts
  rename_i n e cs off
  obtain rfl:=aa rfl;obtain⟨hie,hle,h⟩:=h;simp only[Rel] at I;obtain⟨b,o',xs,hp,hc,hl⟩:=I;unfold Ar2 at h;split at h<;>try exact h.elim
  rename_i C D J L
  obtain⟨h0,h1,h2,M⟩:=h;have hb:=Oe (P:=P) E Y Z (b:=false) (cap:=n) J L h0 h1 h2;refine pvI E W (x:= .slice (some (if n=C.toNat then⟨b,o'+off,none⟩ else⟨b,o'+off+C.toNat*P.cellsOf e,none⟩)) (D.toNat-C.toNat) (n-C.toNat)) ?_ ?_ M
  ·simp [execOp,he,hp,Instr.sliceAt,run_underlying hu,Instr.sureAddr,hb,De hie,Md]
  ·simp only[Rel];refine⟨_,_,rfl,by omega, ?_⟩;by_cases O:n=C.toNat
   ·(have:D.toNat-C.toNat=0:=by omega);rw[this];exact .inl (by simp)
   ·rw[if_neg O];refine .inr ⟨b,o'+off+C.toNat*P.cellsOf e,((((xs.drop off).take (n*P.cellsOf e)).drop (C.toNat*P.cellsOf e)).take ((D.toNat-C.toNat)*P.cellsOf e)),rfl, ?_,(((hl.drop _).take _).drop _).take _⟩;rcases hc with rfl|⟨g1,g2⟩
    ·exact .inl (by simp)
    ·exact .inr ⟨g1,(Mp.drop (Mp.take (Mp.drop g2))).take⟩
 ·exact h.elim
end
abbrev zX (a b n:Int) (s:List UInt8) (v w:DVal) (i:Int):List DVal:=[.int .u8 a,.int .u8 b,.int .i64 n,.str s,v,w,.int .i64 i,.int .i64 0,.int .i64 0]
abbrev zY:=zX 0 0 0 [] .nilSlice .nilSlice 0
end Go.Dl
