/- The data level and the contracts of the functions that are reached (part 1). -/
import Derived.Shelf.Lays
import Derived.Shelf.Strings.Fields
import Derived.Test.YtpkdkhoeaibpaaaGreatDoorProg
import Derived.WalkKit
import Derived.OwnWalk
import Derived.RangeFuncNested
import Derived.RangeFuncCalls
import Derived.TacticsIn
import Derived.OrdersIn
set_option linter.unusedSimpArgs false
set_option linter.unusedVariables false
set_option linter.unusedSectionVars false
attribute [go_sem ↓] reduceIte
-- The library functions of this seat, by the shelf (printed by shelfpick.py out of what the shelf's tools wrote at the seat).
namespace Go.Proofs
open Go.Shelf
def Tryz.lays157_ren:Go.Shelf.Ren:=⟨fun | 157=>263 | 229=>298 | 199=>299 | 261=>319 | 311=>325 | 312=>326 | n=>n,fun | 9=>9 | 31=>23 | 3=>3 | 5=>5 | 4=>4 | 119=>285 | 0=>0 | 40=>287 | 152=>308 | 21=>21 | 154=>310 | 51=>311 | 141=>313 | 196=>323 | 193=>320 | 198=>326 | 49=>324 | 194=>321 | 201=>329 | 226=>333 | 46=>259 | 227=>334 | n=>n,fun | 0=>0 | 6=>1 | n=>n⟩
theorem Tryz.lays157:Go.Proofs.Lays.n157 Tryz.prog Tryz.lays157_ren:= {
  mixed:=by kernel_rfl
  f157:=Tryz.func263.trans (congrArg some (by kernel_rfl))
  f199:=Tryz.func299.trans (congrArg some (by kernel_rfl))
  f229:=Tryz.func298.trans (congrArg some (by kernel_rfl))
  f261:=Tryz.func319.trans (congrArg some (by kernel_rfl))
  f311:=Tryz.func325.trans (congrArg some (by kernel_rfl))
  f312:=Tryz.func326.trans (congrArg some (by kernel_rfl))
  t0:=Tryz.underlying0
  a0:=Tryz.isAgg0
  z0:=Tryz.sizeOf0
  v0:=Tryz.zeroValue0
  t3:=Tryz.underlying3
  a3:=Tryz.isAgg3
  z3:=Tryz.sizeOf3
  v3:=Tryz.zeroValue3
  t4:=Tryz.underlying4
  a4:=Tryz.isAgg4
  z4:=Tryz.sizeOf4
  v4:=Tryz.zeroValue4
  t5:=Tryz.underlying5
  a5:=Tryz.isAgg5
  z5:=Tryz.sizeOf5
  v5:=Tryz.zeroValue5
  t9:=Tryz.underlying9
  a9:=Tryz.isAgg9
  z9:=Tryz.sizeOf9
  v9:=Tryz.zeroValue9
  t21:=Tryz.underlying21
  a21:=Tryz.isAgg21
  z21:=Tryz.sizeOf21
  v21:=Tryz.zeroValue21
  t31:=Tryz.underlying23
  a31:=Tryz.isAgg23
  z31:=Tryz.sizeOf23
  v31:=Tryz.zeroValue23
  t40:=Tryz.underlying287
  a40:=Tryz.isAgg287
  z40:=Tryz.sizeOf287
  v40:=Tryz.zeroValue287
  t46:=Tryz.underlying259
  a46:=Tryz.isAgg259
  z46:=Tryz.sizeOf259
  v46:=Tryz.zeroValue259
  t49:=Tryz.underlying324
  a49:=Tryz.isAgg324
  z49:=Tryz.sizeOf324
  v49:=Tryz.zeroValue324
  t51:=Tryz.underlying311
  a51:=Tryz.isAgg311
  z51:=Tryz.sizeOf311
  v51:=Tryz.zeroValue311
  t119:=Tryz.underlying285
  a119:=Tryz.isAgg285
  z119:=Tryz.sizeOf285
  t141:=Tryz.underlying313
  a141:=Tryz.isAgg313
  z141:=Tryz.sizeOf313
  v141:=Tryz.zeroValue313
  t152:=Tryz.underlying308
  a152:=Tryz.isAgg308
  z152:=Tryz.sizeOf308
  v152:=Tryz.zeroValue308
  t154:=Tryz.underlying310
  a154:=Tryz.isAgg310
  z154:=Tryz.sizeOf310
  v154:=Tryz.zeroValue310
  t193:=Tryz.underlying320
  a193:=Tryz.isAgg320
  z193:=Tryz.sizeOf320
  v193:=Tryz.zeroValue320
  t194:=Tryz.underlying321
  a194:=Tryz.isAgg321
  z194:=Tryz.sizeOf321
  v194:=Tryz.zeroValue321
  t196:=Tryz.underlying323
  a196:=Tryz.isAgg323
  z196:=Tryz.sizeOf323
  v196:=Tryz.zeroValue323
  t198:=Tryz.underlying326
  a198:=Tryz.isAgg326
  z198:=Tryz.sizeOf326
  v198:=Tryz.zeroValue326
  t201:=Tryz.underlying329
  a201:=Tryz.isAgg329
  z201:=Tryz.sizeOf329
  v201:=Tryz.zeroValue329
  t226:=Tryz.underlying333
  a226:=Tryz.isAgg333
  z226:=Tryz.sizeOf333
  v226:=Tryz.zeroValue333
  t227:=Tryz.underlying334
  a227:=Tryz.isAgg334
  z227:=Tryz.sizeOf334
  v227:=Tryz.zeroValue334
  g0:=by kernel_rfl
  g6:=by kernel_rfl }
open Go.RowKit Go.Lib in
theorem Tryz.strings_Fields (s:ByteArray) (w:World) (hs:s.size<4294967281) (hascii: ∀(j:Nat) b,s.data.toList[j]? =some b->b.toNat<128) (htab:Lib.TabIs Tryz.prog w "strings.asciiSpace" .u8 Lib.asciiSpaceTab):
  Calls Tryz.prog 263 #[.string s] w fun e w'=>
   e= .returned (.slice (some ⟨w.heap.size,0,none⟩) (Lib.fields s.data.toList).length (Lib.fields s.data.toList).length)/\w'=w.alloc (.cells ((Lib.fields s.data.toList).map fun l=>Value.string ⟨l.toArray⟩).toArray 9):=Any.strings_Fields Tryz.lays157 (by kernel_rfl) (by kernel_rfl) s w hs hascii htab
end Go.Proofs

-- THE DATA LEVEL, PART A: values that carry the memory they point to (a string, a slice that nobody writes any more, a pointer into one), states, and what it means that a state of this level describes a state of the model..
namespace Go.Dl
open Go
attribute [go_sem] Nat.reduceEqDiff Nat.reduceAdd Nat.reduceMul Nat.reduceSub Nat.reduceLeDiff reduceCtorEq Int.reduceAdd Int.reduceSub Int.reduceMul Int.reduceNeg Int.reduceToNat List.reduceReplicate String.reduceEq
inductive DVal where
 | raw (v:Value)
 | bool (b:Bool)
 | int (k:IntKind) (n:Int)
 | str (s:List UInt8)
 | nilPtr
 | vptr (cs:List DVal) (off:Nat)
 | optr (r off:Nat)
 | nilSlice
 | vslice (cs:List DVal) (len:Nat)
 | oslice (sz r off len lo:Nat)
 | nilMap
 | omap (r:Nat)
 | func (fn:Fn) (first captured:List DVal)
 | nilFunc
 | iface (t:TypeId) (v:DVal)
 | nilIface
 | agg (cs:List DVal)
 | tuple (vs:List DVal)
 deriving Inhabited
def DVal.cells:DVal->List DVal
 | .agg cs=>cs
 | v=> [v]
def DVal.one:DVal->Bool
 | .agg _ | .tuple _=>false
 | .raw v=>v.oneCell'
 | _=>true
inductive DObj where
 | cells (cs:List DVal) (e:TypeId)
 /-- The record of a loop over an iterator: the slots as they were where it began (the record's own 'tmps' are not looked at). -/
 | loop (env:Nat->DVal) (n:Nat) (r:Loop)
 /-- A map: its entries, in the order in which they were laid. -/
 | map (es:List (DVal×DVal))
 /-- A walk through a string's characters. -/
 | iter (s:List UInt8) (pos:Nat)
abbrev Bb:=Nat->Option DObj
def upd {α:Type} (f:Nat->α) (i:Nat) (v:α):Nat->α:=fun j=>if j=i then v else f j
structure DS where
 env:Nat->DVal
 heap:Bb
inductive DExit where
 | normal
 | exit (id:Nat)
 | goto (l:Nat)
 | ret
 | panic (v:DVal)
inductive DEnd where
 | ret (v:DVal)
 | panic (v:DVal)
def Mn (w:World) (H:Bb) (b off:Nat) (xs:List Value):Prop:=
 xs= []\/(H b=none/\ ∀i x,xs[i]? =some x->w.cell? ⟨b,off+i,none⟩=some x)
def Jq:Option Obj->Option Nat
 | some (.cells c _ _)=>some c.size
 | _=>none
def Cb1 (w:World) (r n:Nat):Prop:=r<w.heap.size/\ ∀k,Jq w.heap[r]? =some k->n<=k
mutual
/-- The value of the data level describes the model's value. -/
def Rel (w:World) (H:Bb):DVal->Value->Prop
 | .raw x,v=>v=x/\x.oneCell'=true
 | .bool b,v=>v= .bool b
 | .int k n,v=>v= .int k n
 | .str s,v=>v= .string ⟨⟨s⟩⟩
 | .nilPtr,v=>v= .pointer none
 | .vptr cs off,v=> ∃b o xs,v= .pointer (some ⟨b,o+off,none⟩)/\Mn w H b o xs/\Br w H cs xs
 | .optr r off,v=>v= .pointer (some ⟨r,off,none⟩)
 | .nilSlice,v=>v= .slice none 0 0
 | .vslice cs len,v=> ∃a cap,v= .slice a len cap/\len<=cap/\(cs= []\/ ∃b o xs,a=some ⟨b,o,none⟩/\Mn w H b o xs/\Br w H cs xs)
 | .oslice sz r off len lo,v=> ∃o cap,v= .slice (some ⟨r,o,none⟩) len cap/\lo<=cap/\len<=cap/\(cap=0\/o=off)/\Cb1 w r (o+cap*sz)
 | .nilMap,v=>v= .map none
 | .omap r,v=>v= .map (some r)
 | .func fn first captured,v=> ∃xs ys,v= .func fn xs ys/\Br w H first xs.toList/\Br w H captured ys.toList
 | .nilFunc,v=>v= .nilFunc
 | .iface t d,v=> ∃x,v= .iface t x/\Rel w H d x
 | .nilIface,v=>v= .nilIface
 | .agg cs,v=> ∃xs,v= .agg xs/\Br w H cs xs.toList
 | .tuple cs,v=> ∃xs,v= .tuple xs/\Br w H cs xs.toList
def Br (w:World) (H:Bb):List DVal->List Value->Prop
 | [],xs=>xs= []
 | d::ds,xs=> ∃y ys,xs=y::ys/\Rel w H d y/\Br w H ds ys
end
def Qv (w:World) (H:Bb):List (DVal×DVal)->List MapEntry->Prop
 | [],ms=>ms= []
 | p::es,ms=> ∃m ms',ms=m::ms'/\Rel w H p.1 m.key/\Rel w H p.2 m.val/\Qv w H es ms'
def Tj (w:World) (H:Bb):DObj->Option Obj->Prop
 | .cells cs e,o=> ∃xs c fz,o=some (.cells c e fz)/\xs<+:c.toList/\Br w H cs xs/\ ∀i,i<c.size-> ¬(fz.1<=i/\i<fz.2)
 | .loop env n r,o=> ∃tmps,o=some (.loop { r with tmps:=tmps })/\tmps.size=n/\ ∀i,i<n->Rel w H (env i) (tmps.getD i undef)
 | .map es,o=> ∃ms clock,o=some (.map ms clock)/\Qv w H es ms.toList
 | .iter s pos,o=>o=some (.stringIter ⟨⟨s⟩⟩ pos)
def Bw (w:World) (H:Bb):Prop:= ∀r o,H r=some o->Tj w H o w.heap[r]?
structure Ext (H:Bb) (w:World) (H':Bb) (w':World):Prop where
 os:w'.os=w.os
 tape:w'.tape=w.tape
 output:w'.output=w.output
 size:w.heap.size<=w'.heap.size
 block: ∀b,b<w.heap.size->H b=none->w'.heap[b]? =w.heap[b]?
 own: ∀b,H' b≠none->H b≠none\/w.heap.size<=b
 keep: ∀b,b<w.heap.size->Jq w'.heap[b]? =Jq w.heap[b]?
 fz: ∀a,a.block<w.heap.size->H a.block=none->w'.frozen? a=w.frozen? a
structure GOk (G:Nat->DVal) (w:World) (H:Bb):Prop where
 rel: ∀g,Rel w H (G g) (.pointer (some ⟨g,0,none⟩))
 exact: ∀g cs,G g= .vptr cs 0->Jq w.heap[g]? =some cs.length
structure Base where
 b:Nat
 late:List Deferred
 still:Bool
structure Fr where
 n:Nat
 base:Base
instance:Coe Fr Nat:=⟨Fr.n⟩
def Dfs (w:World) (H:Bb) (B:Base) (ds:List Deferred):Prop:=
 ∃Ds:List Nat,ds=Ds.map (fun D=>({ target:= .collected D,args:= #[] }:Deferred))++B.late/\Ds.Nodup/\ ∀D∈Ds,(B.b<=D/\B.still=false)/\w.heap[D]? =some (.deferred (some []))/\H D=none
theorem Dfs.nil (w:World) (H:Bb) (B:Nat):Dfs w H ⟨B,[],false⟩ []:=⟨[],rfl,List.nodup_nil,by simp⟩
structure Sim (G:Nat->DVal) (N:Fr) (s:DS) (a:Act) (w:World):Prop where
 size:a.tmps.size=N.n
 defers:Dfs w s.heap N.base a.defers
 tmps: ∀i,i<N.n->Rel w s.heap (s.env i) (a.tmps.getD i undef)
 heap:Bw w s.heap
 glob:GOk G w s.heap
 base:N.base.b<=w.heap.size
inductive RelX (w:World) (H:Bb):DExit->Exit->Prop
 | normal:RelX w H .normal .normal
 | exit (id:Nat):RelX w H (.exit id) (.exit id)
 | goto (l:Nat):RelX w H (.goto l) (.goto l)
 | ret:RelX w H .ret .ret
 | panic (d:DVal) (v:Value):Rel w H d v->RelX w H (.panic d) (.panic [{ v,recovered:=false }])
inductive RelE (w:World) (H:Bb):DEnd->Ending->Prop
 | ret (d:DVal) (v:Value):Rel w H d v->RelE w H (.ret d) (.returned v)
 | panic (d:DVal) (v:Value):Rel w H d v->RelE w H (.panic d) (.panicked [{ v,recovered:=false }])
def Bh (P:Program) (G:Nat->DVal) (f:FuncId) (args:List DVal) (H:Bb) (R:DEnd->Bb->Prop):Prop:=
 (∀vs w,(callFunc f vs).run P w= .ok (.enter f vs) w)/\
 ∀(vs:List Value) (w:World),Br w H args vs->Bw w H->GOk G w H->
  Calls P f vs.toArray w fun e w'=> ∃e' H',R e' H'/\RelE w' H' e' e/\Bw w' H'/\Ext H w H' w'
def FOk (F:Fence):Prop:=F=Fence.wide\/ ∃l,F=Fence.wide.inRound l
def Zr (P:Program) (G:Nat->DVal) (l:Nat) (args:List DVal) (H:Bb) (R:DEnd->Bb->Prop):Prop:=
 ∀(F:Fence) (n:Nat),FOk F-> ∀(vs:List Value) (w:World),Br w H args vs->Bw w H->GOk G w H->
  YieldAt F n P l vs.toArray w fun e w'=> ∃e' H',R e' H'/\RelE w' H' e' e/\Bw w' H'/\Ext H w H' w'
section
variable {P:Program} {F:Fence} {n:Nat}
theorem FOk.fn (h:FOk F) (g:FuncId):F.fn g:=by
 rcases h with rfl | ⟨l,rfl⟩<;>trivial
theorem FOk.depth (h:FOk F):F.depth=none:=by
 rcases h with rfl | ⟨l,rfl⟩<;>rfl
theorem FOk.calls (h:FOk F) {f:FuncId} {args:Array Value} {w:World} {R:Ending->World->Prop} (hc:Calls P f args w R):CallsIn F n P f args w R:=by
 rcases h with rfl | ⟨l,rfl⟩
 ·exact callsIn_wide.2 hc
 ·exact CallsIn.inRound l (callsIn_wide.2 hc)
theorem FOk.rows (h:FOk F) {row:String} {args:Array Value} {w:World} {R:Value->World->Prop} (hc:Rows P row args w R):RowsIn F n P row args w R:=by
 have h0:RowsIn Fence.wide n P row args w R:=fun c cs _=>by
  obtain⟨v,w',hr,hs⟩:=hc c cs;exact⟨v,w',hr,stepsIn_wide.2 hs⟩
 rcases h with rfl | ⟨l,rfl⟩
 ·exact h0
 ·exact h0
theorem FOk.oper (h:FOk F) {o:Oper} {a:Act} {w:World} {K:Act->World->Prop} {Q:Exit->Act->World->Prop} (hd: ∀c,o.op≠ .defer c) (hw:o.wp P a w K Q):o.wpIn F n P a w K Q:=by
 refine⟨fun f _=>h.fn f, ?_⟩;rw[Oper.semAt_eq _ _ _ hd];unfold Oper.wp at hw;have hdep:F.depth.isSome=true->1<=n:=by rw[h.depth];intro hh;cases hh
 generalize (execOp a.eval o).run P w=r at hw⊢
 cases r with
 | ok x w'=>
  cases x<;>simp only[Oper.upon,Oper.uponIn] at hw⊢ <;>first
   | exact hw
   | exact⟨hdep,h.calls (hw.mono fun e w'' he=>by cases e<;>exact he)⟩
   | exact⟨hdep,h.rows hw⟩
   | exact hw.elim
 | halt x w'=>cases x<;>simp only[Oper.upon,Oper.uponIn] at hw⊢ <;>first | exact hw | exact hw.elim
end
def DWp (P:Program) (G:Nat->DVal) (N:Nat) (c:Code) (Q:DExit->DS->Prop) (s:DS):Prop:=
 ∀(F:Fence) (n:Nat) (B:Base),FOk F-> ∀(a:Act) (w:World),Sim G ⟨N,B⟩ s a w->
  c.wpIn F n P (fun e a' w'=> ∃e' s',Q e' s'/\RelX w' s'.heap e' e/\Sim G ⟨N,B⟩ s' a' w'/\Ext s.heap w s'.heap w') a w
def Dy9 (P:Program) (G:Nat->DVal) (N:Nat) (c:Code) (Q:DExit->DS->Prop) (s:DS):Prop:=
 ∀(n:Nat) (B:Base),B.still=false-> ∀(a:Act) (w:World),Sim G ⟨N,B⟩ s a w->
  c.wpIn Fence.wide n P (fun e a' w'=> ∃e' s',Q e' s'/\RelX w' s'.heap e' e/\Sim G ⟨N,B⟩ s' a' w'/\Ext s.heap w s'.heap w') a w
structure Lasts (H:Bb) (w:World) (H':Bb) (w':World):Prop where
 cell: ∀b i x,H b=none->w.cell? ⟨b,i,none⟩=some x->H' b=none/\w'.cell? ⟨b,i,none⟩=some x
 size:w.heap.size<=w'.heap.size
 keep: ∀b,b<w.heap.size->Jq w'.heap[b]? =Jq w.heap[b]?
theorem Lasts.room {H H':Bb} {w w':World} (h:Lasts H w H' w') {r n:Nat} (hr:Cb1 w r n):Cb1 w' r n:=
 ⟨Nat.lt_of_lt_of_le hr.1 h.size,fun k hk=>hr.2 k (by rw[<-h.keep r hr.1];exact hk)⟩
theorem Db9 {w:World} {b i:Nat} {x:Value} (h:w.cell? ⟨b,i,none⟩=some x):b<w.heap.size:=by
 unfold World.cell? at h;rcases Nat.lt_or_ge b w.heap.size with hl | hl
 ·exact hl
 ·simp [Array.getElem?_eq_none hl] at h
theorem Ext.lasts {H H':Bb} {w w':World} (h:Ext H w H' w'):Lasts H w H' w':=by
 refine⟨fun b i x hb hc=> ?_,h.size,h.keep⟩;have hl:=Db9 hc;constructor
 ·cases e:H' b with
  | none=>rfl
  | some o=>
   rcases h.own b (by simp [e]) with h1 | h1
   ·exact(h1 hb).elim
   ·omega
 ·unfold World.cell? at hc⊢
  rw[h.block b hl hb];exact hc
theorem Dfs.ext {H H':Bb} {w w':World} {B:Base} {ds:List Deferred} (h:Ext H w H' w') (hd:Dfs w H B ds):Dfs w' H' B ds:=by
 obtain⟨Ds,h1,h2,h3⟩:=hd;refine⟨Ds,h1,h2,fun D hD=> ?_⟩;obtain⟨g1,g2,g3⟩:=h3 D hD;have hl:D<w.heap.size:=(Array.getElem?_eq_some_iff.1 g2).1;refine⟨g1,by rw[h.block D hl g3];exact g2, ?_⟩;cases e:H' D with
 | none=>rfl
 | some o=>
  rcases h.own D (by simp [e]) with k | k
  ·exact(k g3).elim
  ·omega
theorem Dfs.less {H H':Bb} {w:World} {B:Base} {ds:List Deferred} (hd:Dfs w H B ds) (h: ∀b,H' b≠none->H b≠none):Dfs w H' B ds:=by
 obtain⟨Ds,h1,h2,h3⟩:=hd;refine⟨Ds,h1,h2,fun D hD=>⟨(h3 D hD).1,(h3 D hD).2.1, ?_⟩⟩;cases e:H' D with
 | none=>rfl
 | some o=>exact absurd (h3 D hD).2.2 (h D (by simp [e]))
theorem Mn.lasts {H H':Bb} {w w':World} (h:Lasts H w H' w') {b o:Nat} {xs:List Value} (hc:Mn w H b o xs):Mn w' H' b o xs:=by
 rcases hc with rfl | ⟨h1,h2⟩
 ·exact .inl rfl
 ·cases xs with
  | nil=>exact .inl rfl
  | cons x xs=>
   refine .inr ⟨(h.cell b (o+0) x h1 (h2 0 x rfl)).1,fun i y hy=>(h.cell b (o+i) y h1 (h2 i y hy)).2⟩
mutual
theorem Rel.lasts {H H':Bb} {w w':World} (h:Lasts H w H' w'): ∀(d:DVal) (v:Value),Rel w H d v->Rel w' H' d v
 | .raw _,_,hr=>by simpa [Rel] using hr
 | .bool _,_,hr=>by simpa [Rel] using hr
 | .int _ _,_,hr=>by simpa [Rel] using hr
 | .str _,_,hr=>by simpa [Rel] using hr
 | .nilPtr,_,hr=>by simpa [Rel] using hr
 | .vptr cs off,v,hr=>by
  simp only[Rel] at hr⊢
  obtain⟨b,o,xs,rfl,hc,hl⟩:=hr
  exact⟨b,o,xs,rfl,hc.lasts h,Br.lasts h cs xs hl⟩
 | .optr _ _,_,hr=>by simpa [Rel] using hr
 | .nilSlice,_,hr=>by simpa [Rel] using hr
 | .vslice cs len,v,hr=>by
  simp only[Rel] at hr⊢
  obtain⟨a,cap,rfl,hle,hc⟩:=hr
  refine⟨a,cap,rfl,hle, ?_⟩
  rcases hc with hc | ⟨b,o,xs,rfl,hc,hl⟩
  ·exact .inl hc
  ·exact .inr ⟨b,o,xs,rfl,hc.lasts h,Br.lasts h cs xs hl⟩
 | .oslice sz r off len lo,v,hr=>by
  simp only[Rel] at hr⊢
  obtain⟨o,cap,e,h1,h2,h3,h4⟩:=hr
  exact⟨o,cap,e,h1,h2,h3,h.room h4⟩
 | .nilMap,_,hr=>by simpa [Rel] using hr
 | .omap _,_,hr=>by simpa [Rel] using hr
 | .func fn first captured,v,hr=>by
  simp only[Rel] at hr⊢
  obtain⟨xs,ys,rfl,h1,h2⟩:=hr
  exact⟨xs,ys,rfl,Br.lasts h first _ h1,Br.lasts h captured _ h2⟩
 | .nilFunc,_,hr=>by simpa [Rel] using hr
 | .iface t d,v,hr=>by
  simp only[Rel] at hr⊢
  obtain⟨x,rfl,h1⟩:=hr
  exact⟨x,rfl,Rel.lasts h d x h1⟩
 | .nilIface,_,hr=>by simpa [Rel] using hr
 | .agg cs,v,hr=>by
  simp only[Rel] at hr⊢
  obtain⟨xs,rfl,h1⟩:=hr
  exact⟨xs,rfl,Br.lasts h cs _ h1⟩
 | .tuple cs,v,hr=>by
  simp only[Rel] at hr⊢
  obtain⟨xs,rfl,h1⟩:=hr
  exact⟨xs,rfl,Br.lasts h cs _ h1⟩
theorem Br.lasts {H H':Bb} {w w':World} (h:Lasts H w H' w'): ∀(ds:List DVal) (xs:List Value),Br w H ds xs->Br w' H' ds xs
 | [],_,hr=>by simpa [Br] using hr
 | d::ds,xs,hr=>by
  simp only[Br] at hr⊢
  obtain⟨y,ys,rfl,h1,h2⟩:=hr
  exact⟨y,ys,rfl,Rel.lasts h d y h1,Br.lasts h ds ys h2⟩
end
theorem Qv.lasts {H H':Bb} {w w':World} (h:Lasts H w H' w'): ∀ {es:List (DVal×DVal)} {ms:List MapEntry},Qv w H es ms->Qv w' H' es ms
 | [],_,hr=>hr
 | p::es,ms,hr=>by
  obtain⟨m,ms',rfl,h1,h2,h3⟩:=hr;exact⟨m,ms',rfl,Rel.lasts h _ _ h1,Rel.lasts h _ _ h2,Qv.lasts h h3⟩
theorem Tj.lasts {H H':Bb} {w w':World} (h:Lasts H w H' w') {o:DObj} {x:Option Obj} (hr:Tj w H o x):Tj w' H' o x:=by
 cases o with
 | cells cs e=>
  obtain⟨xs,c,fz,h1,h2,h3,h4⟩:=hr;exact⟨xs,c,fz,h1,h2,Br.lasts h _ _ h3,h4⟩
 | loop env n r=>
  obtain⟨tmps,h1,h2,h3⟩:=hr;exact⟨tmps,h1,h2,fun i hi=>Rel.lasts h _ _ (h3 i hi)⟩
 | map es=>
  obtain⟨ms,c,h1,h2⟩:=hr;exact⟨ms,c,h1,h2.lasts h⟩
 | iter s pos=>exact hr
theorem Tj.some {H:Bb} {w:World} {o:DObj} {x:Option Obj} (hr:Tj w H o x): ∃y,x=Option.some y:=by
 cases o with
 | cells cs e=>
  obtain⟨xs,c,fz,h1,h2,h3,h4⟩:=hr;exact⟨_,h1⟩
 | loop env n r=>
  obtain⟨tmps,h1,h2,h3⟩:=hr;exact⟨_,h1⟩
 | map es=>
  obtain⟨ms,c,h1,h2⟩:=hr;exact⟨_,h1⟩
 | iter s pos=>exact⟨_,hr⟩
theorem Ext.refl (H:Bb) (w:World):Ext H w H w:=⟨rfl,rfl,rfl,Nat.le_refl _,fun _ _ _=>rfl,fun _ h=> .inl h,fun _ _=>rfl,fun _ _ _=>rfl⟩
theorem Ext.trans {H H' H'':Bb} {w w' w'':World} (h:Ext H w H' w') (k:Ext H' w' H'' w''):Ext H w H'' w'':=by
 refine⟨k.os.trans h.os,k.tape.trans h.tape,k.output.trans h.output,Nat.le_trans h.size k.size,fun b hb hn=> ?_,fun b hb=> ?_,fun b hb=>by rw[k.keep b (Nat.lt_of_lt_of_le hb h.size),h.keep b hb],fun a ha hn=>by rw[k.fz a (Nat.lt_of_lt_of_le ha h.size) (by
  cases e:H' a.block with
  | none=>rfl
  | some o=>
   rcases h.own a.block (by simp [e]) with h1 | h1
   ·exact(h1 hn).elim
   ·omega),h.fz a ha hn]⟩
 ·have hn':H' b=none:=by
   cases e:H' b with
   | none=>rfl
   | some o=>
    rcases h.own b (by simp [e]) with h1 | h1
    ·exact(h1 hn).elim
    ·omega
  rw[k.block b (Nat.lt_of_lt_of_le hb h.size) hn',h.block b hb hn]
 ·rcases k.own b hb with h1 | h1
  ·exact h.own b h1
  ·exact .inr (Nat.le_trans h.size h1)
theorem Br.length {w:World} {H:Bb}: ∀ {ds:List DVal} {xs:List Value},Br w H ds xs->ds.length=xs.length
 | [],_,h=>by simp only[Br] at h;subst h;rfl
 | d::ds,xs,h=>by
  simp only[Br] at h;obtain⟨y,ys,rfl,_,h2⟩:=h;simp [Br.length h2]
theorem Br.get {w:World} {H:Bb}: ∀ {ds:List DVal} {xs:List Value},Br w H ds xs-> ∀ {i:Nat} {d:DVal},ds[i]? =some d-> ∃x,xs[i]? =some x/\Rel w H d x
 | [],_,_,i,d,hd=>by simp at hd
 | d::ds,xs,h,i,e,hd=>by
  simp only[Br] at h;obtain⟨y,ys,rfl,h1,h2⟩:=h;cases i with
  | zero=>simp at hd;subst hd;exact⟨y,rfl,h1⟩
  | succ i=>simp at hd;obtain⟨x,hx,hr⟩:=Br.get h2 hd;exact⟨x,by simpa using hx,hr⟩
theorem Br.mk {w:World} {H:Bb}: ∀ {ds:List DVal} {xs:List Value},ds.length=xs.length->(∀(i:Nat) (d:DVal) (x:Value),ds[i]? =some d->xs[i]? =some x->Rel w H d x)->Br w H ds xs
 | [],[],_,_=>by simp [Br]
 | [],_::_,h,_=>by simp at h
 | _::_,[],h,_=>by simp at h
 | d::ds,x::xs,hl,h=>by
  simp only[Br];refine⟨x,xs,rfl,h 0 d x rfl rfl,Br.mk (by simpa using hl) fun i d' x' h1 h2=>h (i+1) d' x' (by simpa using h1) (by simpa using h2)⟩
theorem Br.append {w:World} {H:Bb}: ∀ {ds es:List DVal} {xs ys:List Value},Br w H ds xs->Br w H es ys->Br w H (ds++es) (xs++ys)
 | [],_,_,_,h,k=>by simp only[Br] at h;subst h;simpa using k
 | d::ds,es,xs,ys,h,k=>by
  simp only[Br] at h;obtain⟨y,ys',rfl,h1,h2⟩:=h;simp only[List.cons_append,Br];exact⟨y,_,rfl,h1,Br.append h2 k⟩
theorem Br.take {w:World} {H:Bb} {ds:List DVal} {xs:List Value} (h:Br w H ds xs) (n:Nat):Br w H (ds.take n) (xs.take n):=by
 have hl:=h.length;refine Br.mk (by simp [hl]) fun i d x h1 h2=> ?_;simp only[List.getElem?_take] at h1 h2;split at h1
 ·rename_i hi
  simp only[hi,if_true] at h2;obtain⟨y,hy,hr⟩:=h.get h1;rw[h2] at hy;cases hy;exact hr
 ·simp at h1
theorem Br.drop {w:World} {H:Bb} {ds:List DVal} {xs:List Value} (h:Br w H ds xs) (n:Nat):Br w H (ds.drop n) (xs.drop n):=by
 have hl:=h.length;refine Br.mk (by simp [hl]) fun i d x h1 h2=> ?_;simp only[List.getElem?_drop] at h1 h2;obtain⟨y,hy,hr⟩:=h.get h1;rw[h2] at hy;cases hy;exact hr
theorem Rel.cells {w:World} {H:Bb} {d:DVal} {v:Value} (h:Rel w H d v):Br w H d.cells v.cells.toList:=by
 cases d<;>simp only[Rel,DVal.cells,Br] at h⊢
 case raw x=>obtain⟨rfl,h⟩:=h;cases v<;>simp_all [Value.cells,Value.oneCell']
 case agg cs=>obtain⟨xs,rfl,hl⟩:=h;simpa [Value.cells] using hl
 case func=>obtain⟨xs,ys,rfl,h1,h2⟩:=h;exact⟨_,_,rfl,⟨xs,ys,rfl,h1,h2⟩,rfl⟩
 case vptr=>obtain⟨b,o,xs,rfl,h1,h2⟩:=h;exact⟨_,_,rfl,⟨b,o,xs,rfl,h1,h2⟩,rfl⟩
 case vslice=>obtain⟨a,cap,rfl,h1,h2⟩:=h;exact⟨_,_,rfl,⟨a,cap,rfl,h1,h2⟩,rfl⟩
 case oslice=>obtain⟨o,cap,rfl,h1⟩:=h;exact⟨_,_,rfl,⟨o,cap,rfl,h1⟩,rfl⟩
 case iface=>obtain⟨x,rfl,h1⟩:=h;exact⟨_,_,rfl,⟨x,rfl,h1⟩,rfl⟩
 case tuple=>obtain⟨xs,rfl,h1⟩:=h;exact⟨_,_,rfl,⟨xs,rfl,h1⟩,rfl⟩
 all_goals (subst h;exact⟨_,_,rfl,rfl,rfl⟩)
end Go.Dl

-- THE DATA LEVEL, PART B: what each operation, and each piece of code, asks and does at this level. Definitions alone.
namespace Go.Dl
open Go
mutual
def De:Value->DVal
 | .bool b=> .bool b
 | .int k n=> .int k n
 | .string ⟨⟨l⟩⟩=> .str l
 | .pointer none=> .nilPtr
 | .slice none 0 0=> .nilSlice
 | .map none=> .nilMap
 | .nilFunc=> .nilFunc
 | .nilIface=> .nilIface
 | .func fn ⟨a⟩ ⟨c⟩=> .func fn (Fc a) (Fc c)
 | .agg ⟨l⟩=> .agg (Fc l)
 | .tuple ⟨l⟩=> .tuple (Fc l)
 | v=> .raw v
def Fc:List Value->List DVal
 | []=> []
 | v::vs=>De v::Fc vs
end
def Ez (env:Nat->DVal) (dst:Option Nat) (v:DVal):Nat->DVal:=
 match dst with
 | some d=>upd env d v
 | none=>env
def Di:DVal:= .tuple []
def dev (G:Nat->DVal) (env:Nat->DVal):Operand->DVal
 | .tmp t=>env t
 | .const v=>De v
 | .global g=>G g
 | .func f=> .func (.func f) [] []
def Ei (G:Nat->DVal) (env:Nat->DVal):List Operand->List DVal
 | []=> []
 | x::xs=>dev G env x::Ei G env xs
def Dg (P:Program) (t:TypeId):Option Bool:=
 match P.underlying t with
 | some (.struct _) | some (.array _ _)=>some true
 | some _=>some false
 | none=>none
def Mo (P:Program) (t:TypeId):Bool:=
 match P.underlying t with
 | some (.struct fs)=>fs.toList.all fun f=>(P.info? f.type).isSome
 | some (.array _ e)=>(P.info? e).isSome
 | _=>false
abbrev DK:=DS->Prop
def Cb (dst:Option Nat) (v:DVal) (K:DK) (s:DS):Prop:=K ⟨Ez s.env dst v,s.heap⟩
def Hv (dst:Option Nat):Option DVal->DK->DS->Prop
 | some v,K,s=>Cb dst v K s
 | none,_,_=>False
def Ab0 (cs:List DVal) (e:TypeId) (dst:Option Nat) (K:DK) (s:DS):Prop:=
 ∀r,s.heap r=none->K ⟨Ez s.env dst (.optr r 0),upd s.heap r (some (.cells cs e))⟩
def Xs (cs:List DVal) (e:TypeId) (sz len cap:Nat) (dst:Option Nat) (K:DK) (s:DS):Prop:=
 ∀r,s.heap r=none->K ⟨Ez s.env dst (.oslice sz r 0 len cap),upd s.heap r (some (.cells cs e))⟩
def Bz (P:Program) (t:TypeId):Option DVal:=((P.info? t).bind (·.zero)).map De
def Bk5 (e:TypeId) (dst:Option Nat):Option DVal->DK->DS->Prop
 | some z,K,s=>Ab0 z.cells e dst K s
 | none,_,_=>False
def Al9 (dst:Option Nat):DVal->DVal->DVal->DK->DS->Prop
 | .bool t,a,b,K,s=>Cb dst (if t then a else b) K s
 | _,_,_,_,_=>False
def Iz (place:Nat->Option (Nat×Nat)) (cells:List DVal):List (Nat×DVal)->Option (List DVal)
 | []=>some cells
 | (i,v)::rest=>
  match place i with
  | none=>none
  | some (off,size)=>
   if v.cells.length=size/\off+v.cells.length<=cells.length then Iz place (cells.take off++v.cells++cells.drop (off+v.cells.length)) rest else none
def Aq9 (P:Program) (fields:Array Field) (i:Nat):Option (Nat×Nat):=(fields[i]?).map fun f=>(f.offset,P.cellsOf f.type)
def Qw (size:Nat) (i:Nat):Option (Nat×Nat):=some (i*size,size)
def Tk (P:Program) (dst:Option Nat):Bool->Option TypeDesc->Option DVal->List (Nat×DVal)->DK->DS->Prop
 | true,some (.struct fields),some z,parts,K,s=>Hv dst ((Iz (Aq9 P fields) z.cells parts).map .agg) K s
 | true,some (.array _ e),some z,parts,K,s=>Hv dst ((Iz (Qw (P.cellsOf e)) z.cells parts).map .agg) K s
 | _,_,_,_,_,_=>False
def repl (n:Nat) (zs:List DVal):List DVal:=(List.replicate n zs).flatten
def Bk6 (e:TypeId) (sz len:Nat) (dst:Option Nat):Option (List DVal)->DK->DS->Prop
 | some cs,K,s=>Xs cs e sz len len dst K s
 | none,_,_=>False
def Oo (e:TypeId) (size len:Nat) (dst:Option Nat):Option DVal->List (Nat×DVal)->DK->DS->Prop
 | some z,parts,K,s=>len*size<=16777216/\z.cells.length=size/\Bk6 e size len dst (Iz (Qw size) (repl len z.cells) parts) K s
 | none,_,_,_=>False
def Ik (P:Program) (len:Nat) (dst:Option Nat):Option TypeDesc->List (Nat×DVal)->DK->DS->Prop
 | some (.slice e),parts,K,s=>Oo e (P.cellsOf e) len dst (Bz P e) parts K s
 | _,_,_,_=>False
def Tl (size:Nat) (dst:Option Nat):Option Bool->List DVal->Nat->DK->DS->Prop
 | some true,cs,off,K,s=>off+size<=cs.length/\Cb dst (.agg ((cs.drop off).take size)) K s
 | some false,cs,off,K,s=>Hv dst cs[off]? K s
 | none,_,_,_,_=>False
def Ab1 (size:Nat) (ag:Option Bool) (dst:Option Nat) (off:Nat):Option DObj->DK->DS->Prop
 | some (.cells cs _),K,s=>Tl size dst ag cs off K s
 | _,_,_=>False
def Xt (size:Nat) (ag:Option Bool) (dst:Option Nat):DVal->DK->DS->Prop
 | .vptr cs off,K,s=>Tl size dst ag cs off K s
 | .optr r off,K,s=>Ab1 size ag dst off (s.heap r) K s
 | _,_,_=>False
def splice (cs:List DVal) (off:Nat) (vs:List DVal):List DVal:=cs.take off++vs++cs.drop (off+vs.length)
def Ar0 (size:Nat) (r off:Nat) (v:DVal):Option DObj->DK->DS->Prop
 | some (.cells cs e),K,s=>v.cells.length=size/\(v.cells.all (·.one))=true/\off+size<=cs.length/\
   K ⟨s.env,upd s.heap r (some (.cells (splice cs off v.cells) e))⟩
 | _,_,_=>False
def Wk (size:Nat):Option Nat->DVal->DVal->DK->DS->Prop
 | none, .optr r off,v,K,s=>Ar0 size r off v (s.heap r) K s
 | _,_,_,_,_=>False
def Ns (dst:Option Nat):DVal->DK->DS->Prop
 | .vptr cs off,K,s=>Cb dst (.vptr cs off) K s
 | .optr r off,K,s=>Cb dst (.optr r off) K s
 | .func (.func f) a c,K,s=>Cb dst (.func (.func f) a c) K s
 | .iface t v,K,s=>Cb dst (.iface t v) K s
 | .omap r,K,s=>Cb dst (.omap r) K s
 | _,_,_=>False
def Lg (c:Bool):Option TypeDesc->DVal->DVal->Option Bool
 | some .bool, .bool a, .bool b=>some (a==b)
 | some (.pointer _), .nilPtr, .nilPtr=>some true
 | some (.pointer _), .nilPtr, .optr _ _=>some false
 | some (.pointer _), .nilPtr, .vptr _ _=>some false
 | some (.pointer _), .optr _ _, .nilPtr=>some false
 | some (.pointer _), .vptr _ _, .nilPtr=>some false
 | some (.interface _), .nilIface, .iface _ _=>some false
 | some (.interface _), .iface _ _, .nilIface=>some false
 | some (.interface _), .nilIface, .nilIface=>if c then some true else none
 | some (.func _ _ _), .nilFunc, .nilFunc=>some true
 | some (.func _ _ _), .func _ _ _, .nilFunc=>some false
 | some (.func _ _ _), .nilFunc, .func _ _ _=>some false
 | some (.slice _), .nilSlice, .nilSlice=>some true
 | some (.slice _), .oslice _ _ _ _ _, .nilSlice=>some false
 | some (.slice _), .nilSlice, .oslice _ _ _ _ _=>some false
 | _,_,_=>none
def Bk7:Option Bool->Option Bool->Option Bool
 | some true,b=>b
 | some false,some _=>some false
 | _,_=>none
def Er (size off:Nat) (xs:List DVal):Option Bool->List DVal
 | some true=>(xs.drop off).take size
 | some false=>(xs.drop off).take 1
 | none=> []
def El0:DVal->DVal->Option Bool
 | .bool a, .bool b=>some (decide (a=b))
 | .int k a, .int k' b=>if k=k' then some (decide (a=b)) else none
 | .str a, .str b=>some (decide (a=b))
 | _,_=>none
def Ab2 (f:TypeId->Nat->Option Bool):List Field->Option Bool
 | []=>some true
 | x::fs=>if x.name≠ "_" then Bk7 (f x.type x.offset) (Ab2 f fs) else none
def Xu (f:Nat->Option Bool):List Nat->Option Bool
 | []=>some true
 | i::is=>Bk7 (f i) (Xu f is)
def Am0:List DVal->List DVal->Option Bool
 | [.bool a],[.bool b]=>some (decide (a=b))
 | _,_=>none
def Az0:List DVal->List DVal->Option Bool
 | [.int k a],[.int k' b]=>if k=k' then some (decide (a=b)) else none
 | _,_=>none
def Az1:List DVal->List DVal->Option Bool
 | [.str a],[.str b]=>some (decide (a=b))
 | _,_=>none
def Cm8 (P:Program) (f:TypeId->List DVal->List DVal->Option Bool) (fs:List Field) (xs ys:List DVal):Bool->Option Bool
 | true=>none
 | false=>Ab2 (fun u off=>f u (Er (P.cellsOf u) off xs (Dg P u)) (Er (P.cellsOf u) off ys (Dg P u))) fs
def Qy (P:Program) (f:TypeId->List DVal->List DVal->Option Bool) (t:TypeId) (xs ys:List DVal):Option TypeDesc->Option Bool
 | some .bool=>Am0 xs ys
 | some (.int _)=>Az0 xs ys
 | some .string=>Az1 xs ys
 | some (.struct fs)=>Cm8 P f fs.toList xs ys (P.stoodInHeld t)
 | some (.array m e)=>if(P.info? e).isSome then Xu (fun i=>f e (Er (P.cellsOf e) (i*P.cellsOf e) xs (Dg P e)) (Er (P.cellsOf e) (i*P.cellsOf e) ys (Dg P e))) (List.range m) else none
 | _=>none
def Qo (P:Program):Nat->TypeId->List DVal->List DVal->Option Bool
 | 0,_,_,_=>none
 | n+1,t,xs,ys=>Qy P (Qo P n) t xs ys (P.underlying t)
def Um (k:IntKind) (a b:Int) (dst:Option Nat) (K:DK) (s:DS):BinOp->Prop
 | .add=>Cb dst (.int k (k.wrap (a+b))) K s
 | .sub=>Cb dst (.int k (k.wrap (a-b))) K s
 | .mul=>Cb dst (.int k (k.wrap (a*b))) K s
 | .quo=>b≠0/\Cb dst (.int k (k.wrap (a.tdiv b))) K s
 | .rem=>b≠0/\Cb dst (.int k (a.tmod b)) K s
 | .and=>Cb dst (.int k (k.wrap (BitVec.ofInt k.bits a&&&BitVec.ofInt k.bits b).toNat)) K s
 | .or=>Cb dst (.int k (k.wrap (BitVec.ofInt k.bits a ||| BitVec.ofInt k.bits b).toNat)) K s
 | .xor=>Cb dst (.int k (k.wrap (BitVec.ofInt k.bits a^^^BitVec.ofInt k.bits b).toNat)) K s
 | .andNot=>Cb dst (.int k (k.wrap (BitVec.ofInt k.bits a&&& ~~~BitVec.ofInt k.bits b).toNat)) K s
 | .eql=>Cb dst (.bool (decide (a=b))) K s
 | .neq=>Cb dst (.bool (!decide (a=b))) K s
 | .lss=>Cb dst (.bool (decide (a<b))) K s
 | .leq=>Cb dst (.bool (decide (a<=b))) K s
 | .gtr=>Cb dst (.bool (decide (b<a))) K s
 | .geq=>Cb dst (.bool (decide (b<=a))) K s
 | _=>False
def Ab3 (k:IntKind) (a b:Int) (dst:Option Nat) (K:DK) (s:DS):BinOp->Prop
 | .shl=>0<=b/\Cb dst (.int k (k.wrap (a*2^(min b.toNat k.bits)))) K s
 | .shr=>0<=b/\Cb dst (.int k (a.fdiv (2^(min b.toNat k.bits)))) K s
 | _=>False
def Si (a b:List UInt8) (dst:Option Nat) (K:DK) (s:DS):BinOp->Prop
 | .add=>a.length+b.length<=9223372036854775807/\Cb dst (.str (a++b)) K s
 | .eql=>Cb dst (.bool (decide (a=b))) K s
 | .neq=>Cb dst (.bool (!decide (a=b))) K s
 | .lss=>Cb dst (.bool (Go.Op.bytesLess a b)) K s
 | .leq=>Cb dst (.bool (Go.Op.bytesLess a b || decide (a=b))) K s
 | .gtr=>Cb dst (.bool (!(Go.Op.bytesLess a b || decide (a=b)))) K s
 | .geq=>Cb dst (.bool (!Go.Op.bytesLess a b)) K s
 | _=>False
def Kr:BinOp->Option Bool
 | .eql=>some false
 | .neq=>some true
 | _=>none
def Kz (dst:Option Nat):Option Bool->Option Bool->DK->DS->Prop
 | some false,some b,K,s=>Cb dst (.bool b) K s
 | some true,some b,K,s=>Cb dst (.bool (!b)) K s
 | _,_,_,_=>False
def Eh:BinOp->Bool
 | .shl | .shr=>true
 | _=>false
def Am1 (op:BinOp) (k k':IntKind) (a b:Int) (dst:Option Nat) (K:DK) (s:DS):Bool->Prop
 | true=>Ab3 k a b dst K s op
 | false=>k=k'/\Um k a b dst K s op
def Ed:Operand->Bool
 | .const _=>true
 | _=>false
def Ix (P:Program) (t:TypeId) (c:Bool) (op:BinOp) (dst:Option Nat):DVal->DVal->DK->DS->Prop
 | .int k a, .int k' b,K,s=>Am1 op k k' a b dst K s (Eh op)
 | .str a, .str b,K,s=>Si a b dst K s op
 | .agg xs, .agg ys,K,s=>Dg P t=some true/\P.eqGuardType P.depth t=false/\Kz dst (Kr op) (Qo P 6 t xs ys) K s
 | x,y,K,s=>Kz dst (Kr op) (Lg c (P.underlying t) x y) K s
def Fm:Operand->Bool
 | .const (.slice none 0 0)=>true
 | _=>false
def Dc0:Option TypeDesc->Bool
 | some (.slice _)=>true
 | _=>false
def Dl1 (cs:List DVal) (op:BinOp) (dst:Option Nat) (K:DK) (s:DS):Prop:= ∀b,(cs≠ []->b=false)->Kz dst (Kr op) (some b) K s
def Sz (P:Program) (t:TypeId) (c:Bool) (op:BinOp) (dst:Option Nat):Bool->DVal->DVal->DK->DS->Prop
 | true, .vslice cs _,_,K,s=>Dc0 (P.underlying t)=true/\Dl1 cs op dst K s
 | _,x,y,K,s=>Ix P t c op dst x y K s
def dUn (dst:Option Nat):UnOp->DVal->DK->DS->Prop
 | .not, .bool b,K,s=>Cb dst (.bool (!b)) K s
 | .neg, .int k n,K,s=>Cb dst (.int k (k.wrap (0-n))) K s
 | .xor, .int k n,K,s=>Cb dst (.int k (k.wrap (BitVec.ofInt k.bits (if k.signed then-1 else k.max)^^^BitVec.ofInt k.bits n).toNat)) K s
 | _,_,_,_=>False
def Lr (dst:Option Nat):Option TypeDesc->Option TypeDesc->DVal->DK->DS->Prop
 | some _,some (.int k), .int _ n,K,s=>Cb dst (.int k (k.wrap n)) K s
 | some _,some .string, .str l,K,s=>Cb dst (.str l) K s
 | _,_,_,_,_=>False
def Ld:List DVal->Option (List UInt8)
 | []=>some []
 | .int .u8 n::ds=>(Ld ds).map (UInt8.ofNat n.toNat:: ·)
 | _=>none
def Dl2 (dst:Option Nat):Option (List UInt8)->DK->DS->Prop
 | some l,K,s=>Cb dst (.str l) K s
 | none,_,_=>False
def Oq (n off:Nat):Option DObj->Option (List DVal)
 | some (.cells cs _)=>if off+n<=cs.length then some ((cs.drop off).take n) else none
 | _=>none
def Ot (H:Bb):DVal->Option (List DVal)
 | .nilSlice=>some []
 | .vslice cs n=>if n<=cs.length then some (cs.take n) else none
 | .oslice _ r off n _=>Oq n off (H r)
 | _=>none
def Cm9 (P:Program) (e:TypeId) (x:DVal) (dst:Option Nat) (K:DK) (s:DS):Prop:=P.underlying e=some (.int .u8)/\Dl2 dst ((Ot s.heap x).bind Ld) K s
def Ja (P:Program) (dst:Option Nat):Option TypeDesc->Option TypeDesc->DVal->DK->DS->Prop
 | some (.slice e),some .string,x,K,s=>Cm9 P e x dst K s
 | a,b,x,K,s=>Lr dst a b x K s
def Ab4 (dst:Option Nat):Option TypeDesc->DVal->DK->DS->Prop
 | some .string, .str l,K,s=> ∀r,s.heap r=none->K ⟨Ez s.env dst (.optr r 0),upd s.heap r (some (.iter l 0))⟩
 | _,_,_,_=>False
def Jb (l:List UInt8) (pos:Nat):Nat×Nat:=Utf8.decode ⟨⟨l⟩⟩ pos
def Ar1 (r:Nat) (dst:Option Nat) (K:DK) (s:DS):Option DObj->Prop
 | some (.iter l pos)=>(pos<l.length->K ⟨Ez s.env dst (.tuple [.bool true, .int .i64 pos, .int .i32 (Jb l pos).1]),upd s.heap r (some (.iter l (pos+(Jb l pos).2)))⟩)/\
   (¬pos<l.length->Cb dst (.tuple [.bool false]) K s)
 | _=>False
def Am2 (dst:Option Nat):Bool->DVal->DK->DS->Prop
 | true, .optr r 0,K,s=>Ar1 r dst K s (s.heap r)
 | _,_,_,_=>False
def Dc:Option TypeDesc->Bool
 | some (.interface _) | none=>false
 | _=>true
def Ls (t:TypeId) (x:DVal) (dst:Option Nat):Bool->DK->DS->Prop
 | true,K,s=>Cb dst (.iface t x) K s
 | false,_,_=>False
def Qz (e:TypeId) (size bytes:Nat) (l c:Int) (dst:Option Nat):Option DVal->DK->DS->Prop
 | some z,K,s=>0<=l/\l<=c/\c*(bytes:Int)<=35184372088832/\c<9223372036854775808/\z.cells.length=size/\0<size/\Xs (repl c.toNat z.cells) e size l.toNat c.toNat dst K s
 | none,_,_=>False
def Ju (P:Program) (dst:Option Nat):Option TypeDesc->DVal->DVal->DK->DS->Prop
 | some (.slice e), .int _ l, .int _ c,K,s=>Qz e (P.cellsOf e) (P.bytesOf e) l c dst (Bz P e) K s
 | _,_,_,_,_=>False
def dLo:Option DVal->Option Int
 | none=>some 0
 | some (.int _ n)=>some n
 | _=>none
def dHi (len:Nat):Option DVal->Option Int
 | none=>some len
 | some (.int _ n)=>some n
 | _=>none
def Sj (l:List UInt8) (dst:Option Nat) (K:DK) (s:DS):Option Int->Option Int->Prop
 | some lo,some hi=>0<=lo/\lo<=hi/\hi<=l.length/\Cb dst (.str ((l.drop lo.toNat).take (hi.toNat-lo.toNat))) K s
 | _,_=>False
def Sk (size:Nat) (cs:List DVal) (len:Nat) (dst:Option Nat) (K:DK) (s:DS):Option Int->Option Int->Prop
 | some lo,some hi=>0<=lo/\lo<=hi/\hi<=len/\Cb dst (.vslice ((cs.drop (lo.toNat*size)).take ((hi.toNat-lo.toNat)*size)) (hi.toNat-lo.toNat)) K s
 | _,_=>False
def Mp (size r off cap:Nat) (dst:Option Nat) (K:DK) (s:DS):Option Int->Option Int->Option Int->Prop
 | some lo,some hi,some mx=>0<=lo/\lo<=hi/\hi<=mx/\mx<=cap/\Cb dst (.oslice size r (off+lo.toNat*size) (hi.toNat-lo.toNat) (mx.toNat-lo.toNat)) K s
 | _,_,_=>False
def Zs (dst:Option Nat) (K:DK) (s:DS):Option Int->Option Int->Prop
 | some lo,some hi=>lo=0/\hi=0/\Cb dst .nilSlice K s
 | _,_=>False
def Bv4 (n:Nat):Option DObj->Prop
 | some (.cells cs _)=>n<=cs.length
 | _=>False
def Tm (P:Program) (lo hi:Option DVal) (dst:Option Nat):Option TypeDesc->DVal->Option DVal->DK->DS->Prop
 | some .string, .str l,none,K,s=>Sj l dst K s (dLo lo) (dHi l.length hi)
 | some (.slice e), .nilSlice,none,K,s=>(P.info? e).isSome=true/\Zs dst K s (dLo lo) (dHi 0 hi)
 | some (.slice e), .vslice cs len,none,K,s=>(P.info? e).isSome=true/\Sk (P.cellsOf e) cs len dst K s (dLo lo) (dHi len hi)
 | some (.slice e), .oslice sz r off len cap,none,K,s=>(P.info? e).isSome=true/\sz=P.cellsOf e/\Mp (P.cellsOf e) r off cap dst K s (dLo lo) (dHi len hi) (some cap)
 | some (.slice e), .oslice sz r off _ cap,some m,K,s=>(P.info? e).isSome=true/\sz=P.cellsOf e/\hi.isSome/\Mp (P.cellsOf e) r off cap dst K s (dLo lo) (dLo hi) (dLo (some m))
 | some (.array n e), .optr r off,none,K,s=>(P.info? e).isSome=true/\Bv4 (off+n*P.cellsOf e) (s.heap r)/\Mp (P.cellsOf e) r off n dst K s (dLo lo) (dHi n hi) (some n)
 | some (.array n e), .vptr cs off,none,K,s=>(P.info? e).isSome=true/\off+n*P.cellsOf e<=cs.length/\Sk (P.cellsOf e) ((cs.drop off).take (n*P.cellsOf e)) n dst K s (dLo lo) (dHi n hi)
 | _,_,_,_,_=>False
def Lh (n:Nat):DVal->Option DVal
 | .vptr cs off=>some (.vptr cs (off+n))
 | .optr r off=>some (.optr r (off+n))
 | _=>none
def Ra (P:Program) (x:DVal) (dst:Option Nat):Option Field->DK->DS->Prop
 | some f,K,s=>0<P.cellsOf f.type/\Hv dst (Lh f.offset x) K s
 | none,_,_=>False
def Ic (P:Program) (f:Nat) (x:DVal) (dst:Option Nat):Option TypeDesc->DK->DS->Prop
 | some (.struct fields),K,s=>Ra P x dst fields[f]? K s
 | _,_,_=>False
def Ab5 (size:Nat) (cs:List DVal) (off:Nat) (dst:Option Nat):Option Bool->DK->DS->Prop
 | some true,K,s=>Cb dst (.agg ((cs.drop off).take size)) K s
 | some false,K,s=>Hv dst cs[off]? K s
 | none,_,_=>False
def Ar2 (P:Program) (cs:List DVal) (dst:Option Nat):Option Field->DK->DS->Prop
 | some f,K,s=>Ab5 (P.cellsOf f.type) cs f.offset dst (Dg P f.type) K s
 | none,_,_=>False
def Tn (P:Program) (f:Nat) (dst:Option Nat):Option TypeDesc->DVal->DK->DS->Prop
 | some (.struct fields), .agg cs,K,s=>Ar2 P cs dst fields[f]? K s
 | _,_,_,_=>False
def Ie (P:Program) (dst:Option Nat):Option TypeDesc->DVal->DVal->DK->DS->Prop
 | some (.slice e), .vslice cs len, .int _ i,K,s=>(P.info? e).isSome=true/\0<=i/\i<len/\i.toNat*P.cellsOf e<cs.length/\Cb dst (.vptr cs (i.toNat*P.cellsOf e)) K s
 | some (.slice e), .oslice _ r off len _, .int _ i,K,s=>(P.info? e).isSome=true/\0<=i/\i<len/\Cb dst (.optr r (off+i.toNat*P.cellsOf e)) K s
 | some (.array n e),x, .int _ i,K,s=>(P.info? e).isSome=true/\0<=i/\i<n/\Hv dst (Lh (i.toNat*P.cellsOf e) x) K s
 | _,_,_,_,_=>False
def Wl (P:Program) (dst:Option Nat):Option TypeDesc->DVal->DVal->DK->DS->Prop
 | some (.array n e), .agg cs, .int _ i,K,s=>0<=i/\i<n/\Ab5 (P.cellsOf e) cs (i.toNat*P.cellsOf e) dst (Dg P e) K s
 | some .string, .str l, .int _ i,K,s=>0<=i/\Hv dst (l[i.toNat]?.map fun b=> .int .u8 b.toNat) K s
 | _,_,_,_,_=>False
def Nt (i:Nat) (dst:Option Nat):DVal->DK->DS->Prop
 | .tuple vs,K,s=>Hv dst vs[i]? K s
 | _,_,_=>False
def Un (dst:Option Nat):Option DVal->DK->DS->Prop
 | some z,K,s=>Cb dst (.tuple [z, .bool false]) K s
 | none,_,_=>False
def Lp (v:DVal) (z:Option DVal) (dst:Option Nat):Bool->Bool->DK->DS->Prop
 | true,true,K,s=>Cb dst (.tuple [v, .bool true]) K s
 | true,false,K,s=>Un dst z K s
 | false,true,K,s=>Cb dst v K s
 | false,false,_,_=>False
def Ej (P:Program) (asserted:TypeId) (commaOk:Bool) (dst:Option Nat):Bool->DVal->DK->DS->Prop
 | true, .iface t v,K,s=>Lp v (Bz P asserted) dst commaOk (decide (t=asserted)) K s
 | true, .nilIface,K,s=>commaOk=true/\Un dst (Bz P asserted) K s
 | _,_,_,_=>False
def Cb2 (dst:Option Nat):Option TypeDesc->DVal->DK->DS->Prop
 | some .string, .str l,K,s=>Cb dst (.int .i64 l.length) K s
 | some (.array n _),_,K,s=>Cb dst (.int .i64 n) K s
 | some (.slice _), .nilSlice,K,s=>Cb dst (.int .i64 0) K s
 | some (.slice _), .vslice _ n,K,s=>Cb dst (.int .i64 n) K s
 | some (.slice _), .oslice _ _ _ n _,K,s=>Cb dst (.int .i64 n) K s
 | _,_,_,_=>False
def Ar3 (P:Program) (x:DVal) (dst:Option Nat):List TypeId->DK->DS->Prop
 | [t],K,s=>Cb2 dst (P.underlying t) x K s
 | _,_,_=>False
def Nu (size n off:Nat):Option DObj->Option (Nat×List DVal)
 | some (.cells cs _)=>some (n,(cs.drop off).take (n*size))
 | _=>none
def Lt (size:Nat) (H:Bb):DVal->Option (Nat×List DVal)
 | .nilSlice=>some (0,[])
 | .vslice cs n=>some (n,cs.take (n*size))
 | .oslice _ r off n _=>Nu size n off (H r)
 | .str l=>some (l.length,l.map fun b=> .int .u8 b.toNat)
 | _=>none
def Jc (e:TypeId) (size bytes:Nat) (r off len lo:Nat) (n:Nat) (news:List DVal) (dst:Option Nat) (K:DK) (s:DS):Option DObj->Prop
 | some (.cells cs e')=>e'=e/\
  (len+n<=lo->off+(len+n)*size<=cs.length/\
    K ⟨Ez s.env dst (.oslice size r off (len+n) lo),upd s.heap r (some (.cells (splice cs (off+len*size) news) e))⟩)/\
  (¬len+n<=lo->off+len*size<=cs.length/\(len+n)*bytes<=35184372088832/\
   ∀r' pre,upd s.heap r none r'=none->(off=0->pre= [])->
    K ⟨Ez s.env dst (.oslice size r' pre.length (len+n) (len+n)),upd (if len<=lo\/r'=r then upd s.heap r none else s.heap) r' (some (.cells (pre++(cs.drop off).take (len*size)++news) e))⟩)
 | _=>False
def Hh (e:TypeId) (size bytes:Nat) (n:Nat) (news:List DVal) (dst:Option Nat):DVal->DK->DS->Prop
 | .nilSlice,K,s=>(n=0->Cb dst .nilSlice K s)/\(n≠0->n*bytes<=35184372088832/\Xs news e size n n dst K s)
 | .oslice sz r off len lo,K,s=>sz=size/\Jc e size bytes r off len lo n news dst K s (s.heap r)
 | _,_,_=>False
def Ab6 (e:TypeId) (size bytes:Nat) (x:DVal) (dst:Option Nat):Option (Nat×List DVal)->DK->DS->Prop
 | some (n,news),K,s=>news.length=n*size/\news.all (·.one)=true/\Hh e size bytes n news dst x K s
 | none,_,_=>False
def To:Option TypeDesc->Bool
 | some (.slice _)=>true
 | some .string=>true
 | _=>false
def Uo (P:Program) (u':Bool) (x y:DVal) (dst:Option Nat):Option TypeDesc->DK->DS->Prop
 | some (.slice e),K,s=>u'=true/\(Bz P e).isSome=true/\(Bz P e).all (fun z=>z.cells.length=P.cellsOf e)=true/\0<P.cellsOf e/\0<P.bytesOf e/\Ab6 e (P.cellsOf e) (P.bytesOf e) x dst (Lt (P.cellsOf e) s.heap y) K s
 | _,_,_=>False
def Cn0 (dst:Option Nat):Option TypeDesc->DVal->DK->DS->Prop
 | some (.slice _), .nilSlice,K,s=>Cb dst (.int .i64 0) K s
 | some (.slice _), .vslice _ n,K,s=> ∀c:Nat,n<=c->Cb dst (.int .i64 c) K s
 | some (.slice _), .oslice _ _ _ n lo,K,s=> ∀c:Nat,n<=c->lo<=c->Cb dst (.int .i64 c) K s
 | _,_,_,_=>False
def Cn1 (P:Program) (x:DVal) (dst:Option Nat):List TypeId->DK->DS->Prop
 | [t],K,s=>Cn0 dst (P.underlying t) x K s
 | _,_,_=>False
def Ab7 (e:TypeId) (size bytes:Nat) (dst:Option Nat):DVal->DVal->Option DVal->DK->DS->Prop
 | .nilSlice, .int .i64 n,some z,K,s=>0<=n/\0<size/\(n=0->Cb dst .nilSlice K s)/\(n≠0->n*bytes<=35184372088832/\n<=35184372088832/\z.cells.length=size/\Xs (repl n.toNat z.cells) e size n.toNat n.toNat dst K s)
 | _,_,_,_,_=>False
def Bv5 (size:Nat) (r off n:Nat) (dst:Option Nat) (K:DK) (s:DS) (z:List DVal):Option DObj->Prop
 | some (.cells cs e)=>z.length=size/\z.all (·.one)=true/\off+n*size<=cs.length/\K ⟨Ez s.env dst (.tuple []),upd s.heap r (some (.cells (splice cs off (repl n z)) e))⟩
 | _=>False
def Ar4 (size:Nat) (dst:Option Nat):Option DVal->DVal->DK->DS->Prop
 | some _, .nilSlice,K,s=>Cb dst (.tuple []) K s
 | some z, .oslice sz r off n lo,K,s=>sz=size/\n<=lo/\Bv5 size r off n dst K s z.cells (s.heap r)
 | _,_,_,_=>False
def Ab8 (P:Program) (dst:Option Nat):Option TypeDesc->DVal->DK->DS->Prop
 | some (.slice e),x,K,s=>Ar4 (P.cellsOf e) dst (Bz P e) x K s
 | _,_,_,_=>False
def Az2 (P:Program) (x:DVal) (dst:Option Nat):List TypeId->DK->DS->Prop
 | [t],K,s=>Ab8 P dst (P.underlying t) x K s
 | _,_,_=>False
def Jd:Option TypeDesc->Bool
 | some (.int _)=>true
 | _=>false
def Up (P:Program) (x y:DVal) (dst:Option Nat):Option TypeDesc->DK->DS->Prop
 | some (.slice e),K,s=>Ab7 e (P.cellsOf e) (P.bytesOf e) dst x y (Bz P e) K s
 | _,_,_=>False
def Rb (P:Program) (x y:DVal) (dst:Option Nat):Bool->Bool->Option TypeDesc->DK->DS->Prop
 | true,_,t,K,s=>Up P x y dst t K s
 | false,u',t,K,s=>Uo P u' x y dst t K s
def Nv (P:Program) (x y:DVal) (dst:Option Nat):List TypeId->DK->DS->Prop
 | [t,t'],K,s=>Rb P x y dst (Jd (P.underlying t')) (To (P.underlying t')) (P.underlying t) K s
 | _,_,_=>False
def Mj:DVal->DVal->Option Bool
 | .int k a, .int k' b=>if k=k' then some (decide (a=b)) else none
 | .str a, .str b=>some (decide (a=b))
 | .bool a, .bool b=>some (decide (a=b))
 | .agg [.bool a, .bool b], .agg [.bool c, .bool d]=>some (decide (a=c)&&decide (b=d))
 | _,_=>none
def Ou (i:Nat) (r:Option (Option Nat)):Option Bool->Option (Option Nat)
 | some true=>some (some i)
 | some false=>r
 | none=>none
def Ek (k:DVal):List (DVal×DVal)->Nat->Option (Option Nat)
 | [],_=>some none
 | p::es,i=>Ou i (Ek k es (i+1)) (Mj k p.1)
def Je:Option TypeDesc->DVal->Bool
 | some (.int k), .int k' _=>decide (k=k')
 | some .string, .str _=>true
 | some .bool, .bool _=>true
 | _,_=>false
def Bv6:Option TypeDesc->Bool
 | some .bool=>true
 | _=>false
def Am3 (P:Program):Option TypeDesc->Bool
 | some (.array 2 e)=>Bv6 (P.underlying e)&&(P.info? e).isSome&&P.cellsOf e==1
 | _=>false
def Il (P:Program) (t:Option TypeDesc):DVal->Bool
 | .agg [.bool _, .bool _]=>Am3 P t
 | k=>Je t k
def Ar5 (es:List (DVal×DVal)) (k v:DVal):Option Nat->List (DVal×DVal)
 | some i=>es.set i (k,v)
 | none=>es++ [(k,v)]
def Uq (r:Nat) (es:List (DVal×DVal)) (k v:DVal) (K:DK) (s:DS):Option (Option Nat)->Prop
 | some i=>K ⟨s.env,upd s.heap r (some (.map (Ar5 es k v i)))⟩
 | none=>False
def Ur (r:Nat) (k v:DVal) (K:DK) (s:DS):Option DObj->Prop
 | some (.map es)=>v.one=true/\Uq r es k v K s (Ek k es 0)
 | _=>False
def Mq (P:Program) (dst:Option Nat):Option TypeDesc->DVal->DVal->DVal->DK->DS->Prop
 | some (.map kt _), .omap r,k,v,K,s=>dst=none/\Il P (P.underlying kt) k=true/\Ur r k v K s (s.heap r)
 | _,_,_,_,_,_=>False
def Bk8 (ok:Bool) (dst:Option Nat) (v:DVal) (b:Bool) (K:DK) (s:DS):Prop:=Cb dst (if ok then .tuple [v, .bool b] else v) K s
def Tp (es:List (DVal×DVal)) (ok:Bool) (dst:Option Nat):Option DVal->Option (Option Nat)->DK->DS->Prop
 | _,some (some i),K,s=> ∃p,es[i]? =some p/\Bk8 ok dst p.2 true K s
 | some z,some none,K,s=>Bk8 ok dst z false K s
 | _,_,_,_=>False
def Bk9 (z:Option DVal) (k:DVal) (ok:Bool) (dst:Option Nat):Option DObj->DK->DS->Prop
 | some (.map es),K,s=>Tp es ok dst z (Ek k es 0) K s
 | _,_,_=>False
def Us (P:Program) (ok:Bool) (dst:Option Nat):Option TypeDesc->DVal->DVal->DK->DS->Prop
 | some (.map kt e), .omap r,k,K,s=>Il P (P.underlying kt) k=true/\Bk9 (Bz P e) k ok dst (s.heap r) K s
 | some (.map kt e), .nilMap,k,K,s=>Il P (P.underlying kt) k=true/\Tp [] ok dst (Bz P e) (some none) K s
 | _,_,_,_,_=>False
def Az3 (es:List (DVal×DVal)):Option Nat->List (DVal×DVal)
 | some i=>es.eraseIdx i
 | none=>es
def Ab9 (r:Nat) (es:List (DVal×DVal)) (dst:Option Nat) (K:DK) (s:DS):Option (Option Nat)->Prop
 | some i=>K ⟨Ez s.env dst (.tuple []),upd s.heap r (some (.map (Az3 es i)))⟩
 | none=>False
def Ac0 (r:Nat) (k:DVal) (dst:Option Nat) (K:DK) (s:DS):Option DObj->Prop
 | some (.map es)=>Ab9 r es dst K s (Ek k es 0)
 | _=>False
def Ut (P:Program) (dst:Option Nat):Option TypeDesc->DVal->DVal->DK->DS->Prop
 | some (.map kt _), .omap r,k,K,s=>Il P (P.underlying kt) k=true/\Ac0 r k dst K s (s.heap r)
 | _,_,_,_,_=>False
def Am4 (P:Program) (x k:DVal) (dst:Option Nat):List TypeId->DK->DS->Prop
 | t::_,K,s=>Ut P dst (P.underlying t) x k K s
 | _,_,_=>False
def Cn2 (dst:Option Nat) (K:DK) (s:DS):Prop:=
 ∀r,s.heap r=none->K ⟨Ez s.env dst (.omap r),upd s.heap r (some (.map []))⟩
def Nw (dst:Option Nat):Option TypeDesc->Option DVal->DK->DS->Prop
 | some (.map _ _),none,K,s=>Cn2 dst K s
 | some (.map _ _),some (.int _ _),K,s=>Cn2 dst K s
 | _,_,_,_=>False
def dMM (isMax:Bool):DVal->DVal->Option DVal
 | .int k x, .int _ y=>some (.int k (if isMax then(if y>x then y else x) else(if y<x then y else x)))
 | _,_=>none
def Jf (isMax:Bool):Option DVal->List DVal->Option DVal
 | a,[]=>a
 | some x,y::ys=>Jf isMax (dMM isMax x y) ys
 | none,_=>none
def Ia (isMax:Bool):List DVal->Option DVal
 | []=>none
 | x::rest=>Jf isMax (some x) rest
def Ar6 (dst:Option Nat) (K:DK) (Q:DExit->DS->Prop) (env:Nat->DVal):DEnd->Bb->Prop
 | .ret v,H=>K ⟨Ez env dst v,H⟩
 | .panic v,H=>Q (.panic v) ⟨env,H⟩
def Wm (P:Program) (G:Nat->DVal) (args:List DVal) (dst:Option Nat) (Q:DExit->DS->Prop):DVal->DK->DS->Prop
 | .func (.func k) first captured,K,s=>Bh P G k (first++args++captured) s.heap (Ar6 dst K Q s.env)
 | .func (.yield l) [] [],K,s=>Zr P G l args s.heap (Ar6 dst K Q s.env)
 | _,_,_=>False
def Rc (Q:DExit->DS->Prop) (s:DS):DVal->Prop
 | .iface t v=>Q (.panic (.iface t v)) s
 | _=>False
def Ha (P:Program) (ts:List TypeId) (dst:Option Nat) (Q:DExit->DS->Prop):Builtin->List DVal->DK->DS->Prop
 | .len,[x],K,s=>Ar3 P x dst ts K s
 | .append,[x,y],K,s=>Nv P x y dst ts K s
 | .cap,[x],K,s=>Cn1 P x dst ts K s
 | .clear,[x],K,s=>Az2 P x dst ts K s
 | .delete,[x,k],K,s=>Am4 P x k dst ts K s
 | .min,xs,K,s=>Hv dst (Ia false xs) K s
 | .max,xs,K,s=>Hv dst (Ia true xs) K s
 | .panic,[x],_,s=>Rc Q s x
 | _,_,_,_=>False
def Mr (P:Program) (G:Nat->DVal) (c:Call) (dst:Option Nat) (K:DK) (Q:DExit->DS->Prop) (s:DS):Callee->Prop
 | .value f=>Wm P G (Ei G s.env c.args.toList) dst Q (dev G s.env f) K s
 | .builtin b=>Ha P c.argTypes.toList dst Q b (Ei G s.env c.args.toList) K s
 | .invoke _ _=>False
def Hb (G:Nat->DVal) (env:Nat->DVal):List (Nat×Operand)->List (Nat×DVal)
 | []=> []
 | (i,x)::ps=>(i,dev G env x)::Hb G env ps
def Ks (G:Nat->DVal) (env:Nat->DVal):Option Operand->Option DVal
 | some x=>some (dev G env x)
 | none=>none
def dop (P:Program) (G:Nat->DVal) (dst:Option Nat) (K:DK) (Q:DExit->DS->Prop) (s:DS):Op->Prop
 | .move x=>Cb dst (dev G s.env x) K s
 | .assign x=>Cb dst (dev G s.env x) K s
 | .pick c a b=>Al9 dst (dev G s.env c) (dev G s.env a) (dev G s.env b) K s
 | .alloc e=>Bk5 e dst (Bz P e) K s
 | .box e x=>Ab0 (dev G s.env x).cells e dst K s
 | .build t ps=>Tk P dst (Mo P t) (P.underlying t) (Bz P t) (Hb G s.env ps.toList) K s
 | .buildSlice t n ps=>Ik P n dst (P.underlying t) (Hb G s.env ps.toList) K s
 | .load t a=>Xt (P.cellsOf t) (Dg P t) dst (dev G s.env a) K s
 | .store t a x=>(P.info? t).isSome=true/\Wk (P.cellsOf t) dst (dev G s.env a) (dev G s.env x) K s
 | .nilCheck x=>Ns dst (dev G s.env x) K s
 | .binOp op t x y _=>Sz P t (Ed x || Ed y) op dst (Fm y) (dev G s.env x) (dev G s.env y) K s
 | .unOp op _ x=>dUn dst op (dev G s.env x) K s
 | .convert src t x=>Ja P dst (P.underlying src) (P.underlying t) (dev G s.env x) K s
 | .makeInterface t x=>Ls t (dev G s.env x) dst (Dc (P.underlying t)) K s
 | .makeFunc fn fs cs=>Cb dst (.func fn (Ei G s.env fs.toList) (Ei G s.env cs.toList)) K s
 | .makeMap t r=>Nw dst (P.underlying t) (Ks G s.env r) K s
 | .lookup t x k ok=>Us P ok dst (P.underlying t) (dev G s.env x) (dev G s.env k) K s
 | .mapUpdate t m k x=>Mq P dst (P.underlying t) (dev G s.env m) (dev G s.env k) (dev G s.env x) K s
 | .insert t m k x=>Mq P dst (P.underlying t) (dev G s.env m) (dev G s.env k) (dev G s.env x) K s
 | .makeSlice t l c=>Ju P dst (P.underlying t) (dev G s.env l) (dev G s.env c) K s
 | .slice t x lo hi mx=>Tm P (Ks G s.env lo) (Ks G s.env hi) dst (P.underlying t) (dev G s.env x) (Ks G s.env mx) K s
 | .fieldAddr t x f=>Ic P f (dev G s.env x) dst (P.underlying t) K s
 | .field t x f=>Tn P f dst (P.underlying t) (dev G s.env x) K s
 | .indexAddr t x i=>Ie P dst (P.underlying t) (dev G s.env x) (dev G s.env i) K s
 | .index t x i=>Wl P dst (P.underlying t) (dev G s.env x) (dev G s.env i) K s
 | .typeAssert x _ t ok=>Ej P t ok dst (Dc (P.underlying t)) (dev G s.env x) K s
 | .extract x i=>Nt i dst (dev G s.env x) K s
 | .panic x=>Rc Q s (dev G s.env x)
 | .range t x=>Ab4 dst (P.underlying t) (dev G s.env x) K s
 | .next x b=>Am2 dst b (dev G s.env x) K s
 | .call c=>Mr P G c dst K Q s c.callee
 | _=>False
def Le:List Oper->Nat->Option Nat
 | [],_=>none
 | o::_,0=>o.dst
 | _::r,n+1=>Le r n
def Jv (P:Program) (G:Nat->DVal) (all:List Oper) (Q:DExit->DS->Prop):List Oper->DS->Prop
 | [],s=>Q .normal s
 | o::rest,s=>
  match o.guard with
  | none=>dop P G o.dst (Jv P G all Q rest) Q s o.op
  | some (j,b)=>match Le all j with
   | some g=>match s.env g with
    | .bool v=>(v=b->dop P G o.dst (Jv P G all Q rest) Q s o.op)/\(v≠b->Cb o.dst Di (Jv P G all Q rest) s)
    | .tuple []=>Cb o.dst Di (Jv P G all Q rest) s
    | _=>False
   | none=>False
def Bl0 (P:Program) (G:Nat->DVal) (all:List Oper) (Q:DExit->DS->Prop) (dst:Option Nat) (op:Op) (rest:List Oper) (s:DS):Bool->DVal->Prop
 | true, .bool true=>dop P G dst (Jv P G all Q rest) Q s op
 | true, .bool false=>Cb dst Di (Jv P G all Q rest) s
 | false, .bool true=>Cb dst Di (Jv P G all Q rest) s
 | false, .bool false=>dop P G dst (Jv P G all Q rest) Q s op
 | true, .tuple []=>Cb dst Di (Jv P G all Q rest) s
 | false, .tuple []=>Cb dst Di (Jv P G all Q rest) s
 | _,_=>False
def Ar7 (P:Program) (G:Nat->DVal) (all:List Oper) (Q:DExit->DS->Prop) (dst:Option Nat) (op:Op) (rest:List Oper) (s:DS) (b:Bool):Option Nat->Prop
 | some g=>Bl0 P G all Q dst op rest s b (s.env g)
 | none=>False
def Ff (W:DK) (Q:DExit->DS->Prop):DExit->DS->Prop
 | .normal,s=>W s
 | .exit id,s=>Q (.exit id) s
 | .goto l,s=>Q (.goto l) s
 | .ret,s=>Q .ret s
 | .panic v,s=>Q (.panic v) s
def Zt (Q:DExit->DS->Prop) (s:DS) (id':Nat):Bool->Prop
 | true=>Q .normal s
 | false=>Q (.exit id') s
def Ar8 (id:Nat) (Q:DExit->DS->Prop):DExit->DS->Prop
 | .exit id',s=>Zt Q s id' (decide (id'=id))
 | .normal,s=>Q .normal s
 | .goto l,s=>Q (.goto l) s
 | .ret,s=>Q .ret s
 | .panic v,s=>Q (.panic v) s
def Bv7 (Q:DExit->DS->Prop):DExit->DS->Prop
 | .goto _,_=>False
 | .exit id,s=>Q (.exit id) s
 | .normal,s=>Q .normal s
 | .ret,s=>Q .ret s
 | .panic v,s=>Q (.panic v) s
def Dl3 (X Y:DK) (s:DS):DVal->Prop
 | .bool true=>X s
 | .bool false=>Y s
 | _=>False
def Rd (G:Nat->DVal) (s s':DS):Prop:=
 ∀w,Bw w s.heap->GOk G w s.heap->Bw w s'.heap/\(∀b,s'.heap b≠none->s.heap b≠none)/\GOk G w s'.heap/\ ∀i x,Rel w s.heap (s.env i) x->Rel w s'.heap (s'.env i) x
def Cn3 (G:Nat->DVal) (body:(DExit->DS->Prop)->DK) (Q:DExit->DS->Prop) (s:DS):Prop:=
 ∃(ι:Type) (I:ι->DS->Prop) (μ:ι->Nat),(∃i s',Rd G s s'/\I i s')/\ ∀i s,I i s->body (Ff (fun s1=> ∃j s2,Rd G s1 s2/\I j s2/\μ j<μ i) Q) s
def dwp (P:Program) (G:Nat->DVal) (N:Nat):Code->(DExit->DS->Prop)->DS->Prop
 | .skip,Q,s=>Q .normal s
 | .label _,Q,s=>Q .normal s
 | .region _ ops false,Q,s=>Jv P G ops.toList Q ops.toList s
 | .region id ops true,Q,s=>DWp P G N (.region id ops true) Q s
 | .seq a b,Q,s=>dwp P G N a (Ff (dwp P G N b Q) Q) s
 | .cond c a b,Q,s=>Dl3 (dwp P G N a Q) (dwp P G N b Q) s (dev G s.env c)
 | .block id c,Q,s=>dwp P G N c (Ar8 id Q) s
 | .loop c,Q,s=>Cn3 G (dwp P G N c) Q s
 | .exit id,Q,s=>Q (.exit id) s
 | .goto l,Q,s=>Q (.goto l) s
 | .ret,Q,s=>Q .ret s
 | .rangeFunc f ps asg body,Q,s=>Dy9 P G N (.rangeFunc f ps asg body) Q s
 | .scope c,Q,s=>dwp P G N c (Bv7 Q) s
 | .refuse _,_,_=>False
def Cd (N:Nat):Operand->Bool
 | .tmp t=>decide (t<N)
 | _=>true
def Gm (N:Nat) (o:Oper):Bool:=
 (match o.dst with | some d=>decide (d<N) | none=>true)&&o.op.operands.all (Cd N)
def El (N:Nat):Code->Bool
 | .region _ ops _=>ops.all (Gm N)
 | .seq a b=>El N a&&El N b
 | .cond c a b=>Cd N c&&El N a&&El N b
 | .block _ c=>El N c
 | .loop c=>El N c
 | .scope c=>El N c
 | .rangeFunc f _ a b=>Cd N f&&El N a&&El N b
 | _=>true
@[go_sem] theorem Dy7 (P:Program) (t:Option TypeDesc) (k:IntKind) (n:Int):Il P t (.int k n)=Je t (.int k n):=rfl
@[go_sem] theorem Dy8 (P:Program) (t:Option TypeDesc) (l:List UInt8):Il P t (.str l)=Je t (.str l):=rfl
@[go_sem] theorem Dp3 (P:Program) (t:Option TypeDesc) (b:Bool):Il P t (.bool b)=Je t (.bool b):=rfl
theorem Kt {P:Program} {s:DS} {t:TypeId} {c:Bool} {op:BinOp} {dst:Option Nat} {x y:DVal} {K:DK}:Sz P t c op dst false x y K s=Ix P t c op dst x y K s:=by cases x<;>rfl
end Go.Dl

-- THE DATA LEVEL, PART S: what the data level says of an operation is true of the model's operation: the world, memory.
namespace Go.Dl
open Go
section
variable {P:Program} {G:Nat->DVal} {N:Fr}
mutual
theorem Es (w:World) (H:Bb): ∀v:Value,Rel w H (De v) v
 | .bool b=>by simp [De,Rel]
 | .int k n=>by simp [De,Rel]
 | .string ⟨⟨l⟩⟩=>by simp [De,Rel]
 | .pointer none=>by simp [De,Rel]
 | .pointer (some a)=>by simp [De,Rel,Value.oneCell']
 | .slice a n c=>by
  by_cases h:a=none/\n=0/\c=0
  ·obtain⟨rfl,rfl,rfl⟩:=h;simp [De,Rel]
  ·have:De (.slice a n c)= .raw (.slice a n c):=by
    cases a with
    | none=>cases n with
     | zero=>cases c with
      | zero=>simp at h
      | succ c=>rfl
     | succ n=>rfl
    | some a=>rfl
   rw[this];simp [Rel,Value.oneCell']
 | .map none=>by simp [De,Rel]
 | .map (some r)=>by simp [De,Rel,Value.oneCell']
 | .chan r=>by simp [De,Rel,Value.oneCell']
 | .float k b=>by simp [De,Rel,Value.oneCell']
 | .complex k a b=>by simp [De,Rel,Value.oneCell']
 | .nilFunc=>by simp [De,Rel]
 | .nilIface=>by simp [De,Rel]
 | .iface t v=>by simp [De,Rel,Value.oneCell']
 | .func fn ⟨a⟩ ⟨c⟩=>by
  simp only[De,Rel]
  exact⟨_,_,rfl,Lu w H a,Lu w H c⟩
 | .agg ⟨l⟩=>by
  simp only[De,Rel]
  exact⟨_,rfl,Lu w H l⟩
 | .tuple ⟨l⟩=>by
  simp only[De,Rel]
  exact⟨_,rfl,Lu w H l⟩
theorem Lu (w:World) (H:Bb): ∀vs:List Value,Br w H (Fc vs) vs
 | []=>by simp [Fc,Br]
 | v::vs=>by
  simp only[Fc,Br]
  exact⟨v,vs,rfl,Es w H v,Lu w H vs⟩
end
theorem Ov (w:World) (H:Bb):Rel w H Di undef:=by
 simp only[Di,undef,Rel];exact⟨#[],rfl,by simp [Br]⟩
theorem Bx {s:DS} {a:Act} {w:World} (hS:Sim G N s a w) {x:Operand} (hx:Cd N x=true):Rel w s.heap (dev G s.env x) (a.eval x):=by
 cases x with
 | tmp t=>exact hS.tmps t (by simpa [Cd] using hx)
 | const v=>exact Es w s.heap v
 | global g=>exact hS.glob.rel g
 | func f=>
  simp only[dev,Act.eval,Rel];exact⟨#[], #[],rfl,by simp [Br],by simp [Br]⟩
theorem Lv {s:DS} {a:Act} {w:World} (hS:Sim G N s a w): ∀ {xs:List Operand},xs.all (Cd N)=true->Br w s.heap (Ei G s.env xs) (xs.map a.eval)
 | [],_=>by simp [Ei,Br]
 | x::xs,h=>by
  simp only[List.all_cons,Bool.and_eq_true] at h;simp only[Ei,Br,List.map_cons];exact⟨_,_,rfl,Bx hS h.1,Lv hS h.2⟩
def Cq (N:Nat):Option Nat->Bool
 | some d=>decide (d<N)
 | none=>true
theorem GOk.lasts {H H':Bb} {w w':World} (h:Lasts H w H' w') (hg:GOk G w H):GOk G w' H':=⟨fun g=>Rel.lasts h _ _ (hg.rel g),fun g cs e=>by
 have k:=hg.exact g cs e;rw[h.keep g ?_];exact k;rcases Nat.lt_or_ge g w.heap.size with hl | hl
 ·exact hl
 ·rw[Array.getElem?_eq_none hl] at k;cases k⟩
theorem Sim.ext {s:DS} {a:Act} {w w':World} {H':Bb} (hS:Sim G N s a w) (hE:Ext s.heap w H' w') (hH:Bw w' H'):Sim G N ⟨s.env,H'⟩ a w':=
 ⟨hS.size,hS.defers.ext hE,fun i hi=>Rel.lasts hE.lasts _ _ (hS.tmps i hi),hH,hS.glob.lasts hE.lasts,Nat.le_trans hS.base hE.size⟩
theorem Sim.put {s:DS} {a:Act} {w:World} (hS:Sim G N s a w) {dst:Option Nat} (hd:Cq N dst=true) {v:DVal} {x:Value} (hv:Rel w s.heap v x):
  Sim G N ⟨Ez s.env dst v,s.heap⟩ (a.put dst x) w:=by
 cases dst with
 | none=>exact hS
 | some d=>
  have hd':d<N:=by simpa [Cq] using hd
  refine⟨by simpa [Act.put] using hS.size,by simpa [Act.put] using hS.defers,fun i hi=> ?_,hS.heap,hS.glob,hS.base⟩;have hsz:=hS.size;simp only[Act.put,Ez,upd];by_cases e:i=d
  ·subst e;have:(a.tmps.setIfInBounds i x).getD i undef=x:=by simp [Array.getD,hsz,hi]
   rw[this,if_pos rfl];exact hv
  ·have h1:(a.tmps.setIfInBounds d x).getD i undef=a.tmps.getD i undef:=by
    simp [Array.getD,hsz,hi,Array.getElem_setIfInBounds,Ne.symm e]
   rw[h1,if_neg e];exact hS.tmps i hi
def Fi (G:Nat->DVal) (N:Fr) (K:DK) (s:DS) (w:World):Act->World->Prop:=
 fun a' w'=> ∃s',K s'/\Sim G N s' a' w'/\Ext s.heap w s'.heap w'
def Lf (G:Nat->DVal) (N:Fr) (Q:DExit->DS->Prop) (s:DS) (w:World):Exit->Act->World->Prop:=
 fun e a' w'=> ∃e' s',Q e' s'/\RelX w' s'.heap e' e/\Sim G N s' a' w'/\Ext s.heap w s'.heap w'
variable {o:Oper} {s:DS} {a:Act} {w:World} {K:DK} {Qx:Exit->Act->World->Prop}
theorem Fo {w':World} {H':Bb} {v:DVal} {x:Value} (hS:Sim G N s a w) (hd:Cq N o.dst=true) (hrun:(execOp a.eval o).run P w= .ok (.value x) w')
  (hE:Ext s.heap w H' w') (hH:Bw w' H') (hv:Rel w' H' v x) (hK:K ⟨Ez s.env o.dst v,H'⟩):o.wp P a w (Fi G N K s w) Qx:=by
 unfold Oper.wp;rw[hrun];exact⟨_,hK,(hS.ext hE hH).put hd hv,hE⟩
theorem Gr {v:DVal} {x:Value} (hS:Sim G N s a w) (hd:Cq N o.dst=true) (hrun:(execOp a.eval o).run P w= .ok (.value x) w)
  (hv:Rel w s.heap v x) (hK:Cb o.dst v K s):o.wp P a w (Fi G N K s w) Qx:=
 Fo hS hd hrun (Ext.refl _ _) hS.heap hv hK
def PV (P:Program) (o:Oper) (s:DS) (a:Act) (w:World) (K:DK):Prop:=
 ∃d x,(execOp a.eval o).run P w= .ok (.value x) w/\Rel w s.heap d x/\Cb o.dst d K s
theorem pvI {v:DVal} {x:Value} (_hS:Sim G N s a w) (_hd:Cq N o.dst=true) (hrun:(execOp a.eval o).run P w= .ok (.value x) w)
  (hv:Rel w s.heap v x) (hK:Cb o.dst v K s):PV P o s a w K:=⟨v,x,hrun,hv,hK⟩
theorem PV.wp (h:PV P o s a w K) (hS:Sim G N s a w) (hd:Cq N o.dst=true):o.wp P a w (Fi G N K s w) Qx:=by
 obtain⟨d,x,h1,h2,h3⟩:=h;exact Gr hS hd h1 h2 h3
theorem Ow {k:IntKind} {n:Int} (hS:Sim G N s a w) (hd:Cq N o.dst=true) (hrun:(execOp a.eval o).run P w= .ok (.value (.int k n)) w) (hK:Cb o.dst (.int k n) K s):PV P o s a w K:=
 pvI hS hd hrun (by simp [Rel]) hK
theorem Zu {b:Bool} (hS:Sim G N s a w) (hd:Cq N o.dst=true) (hrun:(execOp a.eval o).run P w= .ok (.value (.bool b)) w) (hK:Cb o.dst (.bool b) K s):PV P o s a w K:=
 pvI hS hd hrun (by simp [Rel]) hK
theorem Ext.drawn {H:Bb} {w w':World} {H':Bb} (h:Ext H w H' w') (n:Nat):Ext H w H' { w' with drawn:=n }:=⟨h.os,h.tape,h.output,h.size,h.block,h.own,h.keep,fun a ha hn=>h.fz a ha hn⟩
theorem Az4 (H:Bb) (w:World) (n:Nat):Lasts H w H { w with drawn:=n }:=⟨fun b i x hb hc=>⟨hb,hc⟩,Nat.le_refl _,fun _ _=>rfl⟩
theorem Bw.drawn {w:World} {H:Bb} (n:Nat) (h:Bw w H):Bw { w with drawn:=n } H:=by
 intro r o ho;exact(h r o ho).lasts (Az4 H w n)
theorem Bw.lt {H:Bb} (hH:Bw w H) {r:Nat} (h:H r≠none):r<w.heap.size:=by
 cases e:H r with
 | none=>exact(h e).elim
 | some o=>
  obtain⟨y,h1⟩:=(hH r o e).some;rcases Nat.lt_or_ge r w.heap.size with hl | hl
  ·exact hl
  ·rw[Array.getElem?_eq_none hl] at h1;cases h1
theorem Bw.fresh {H:Bb} (hH:Bw w H):H w.heap.size=none:=by
 cases e:H w.heap.size with
 | none=>rfl
 | some o=>exact absurd (hH.lt (r:=w.heap.size) (by simp [e])) (by omega)
theorem Sl {H:Bb} (hH:Bw w H) (c:Array Value) (e:TypeId) (o':Option DObj):Ext H w (upd H w.heap.size o') (w.alloc (.cells c e)):=by
 have hbl: ∀b,b<w.heap.size->(w.alloc (.cells c e)).heap[b]? =w.heap[b]? :=fun b hb=>by
  show(w.heap.push (.cells c e))[b]? =_;rw[Array.getElem?_push,if_neg (by omega)]
 refine⟨rfl,rfl,rfl,by simp,fun b hb _=>hbl b hb,fun b hb=> ?_,fun b hb=>by rw[hbl b hb],fun a _ _=> ?_⟩
 ·by_cases eb:b=w.heap.size
  ·exact .inr (by omega)
  ·simp only[upd,if_neg eb] at hb;exact .inl hb
 ·exact Go.RowKit.frozen?_alloc_cells w c e a
theorem Nl {H:Bb} (hH:Bw w H) {cs:List DVal} {xs:List Value} (hc:Br w H cs xs) (c:Array Value) (hx:xs<+:c.toList) (e:TypeId):
  Bw (w.alloc (.cells c e)) (upd H w.heap.size (some (.cells cs e))):=by
 have hE:=Sl hH c e (some (.cells cs e));intro r o ho;by_cases hr:r=w.heap.size
 ·subst hr;simp only[upd,if_pos] at ho;cases ho;refine⟨xs,c,(0,0), ?_,hx,Br.lasts hE.lasts _ _ hc,fun i _=>by simp⟩;show(w.heap.push _)[w.heap.size]? =_;simp
 ·simp only[upd,if_neg hr] at ho;have hlt:r<w.heap.size:=hH.lt (by simp [ho]);have hb:(w.alloc (.cells c e)).heap[r]? =w.heap[r]? :=by
   show(w.heap.push _)[r]? =_;rw[Array.getElem?_push,if_neg (by omega)]
  rw[hb];exact(hH r o ho).lasts hE.lasts
theorem Bv8 (hS:Sim G N s a w) (hd:Cq N o.dst=true) {cs:List DVal} {c:Array Value} {e:TypeId}
  (hrun:(execOp a.eval o).run P w= .ok (.value (.pointer (some ⟨w.heap.size,0,none⟩))) (w.alloc (.cells c e)))
  (hc:Br w s.heap cs c.toList) (hK:Ab0 cs e o.dst K s):o.wp P a w (Fi G N K s w) Qx:=
 Fo hS hd hrun (Sl hS.heap _ _ _) (Nl hS.heap hc c (List.prefix_refl _) e) (by simp [Rel]) (hK _ hS.heap.fresh)
theorem Uu (hS:Sim G N s a w) (hd:Cq N o.dst=true) {cs:List DVal} {xs:List Value} {c:Array Value} {e:TypeId} {sz len lo cap n:Nat} (hlo:lo<=cap) (hlen:len<=cap) (hroom:cap*sz<=c.size)
  (hrun:(execOp a.eval o).run P w= .ok (.value (.slice (some ⟨w.heap.size,0,none⟩) len cap)) { w.alloc (.cells c e) with drawn:=n })
  (hc:Br w s.heap cs xs) (hx:xs<+:c.toList) (hK:Xs cs e sz len lo o.dst K s):o.wp P a w (Fi G N K s w) Qx:=by
 refine Fo hS hd hrun ((Sl hS.heap _ _ _).drawn n) ((Nl hS.heap hc c hx e).drawn n) ?_ (hK _ hS.heap.fresh);simp only[Rel];refine⟨0,cap,rfl,hlo,hlen, .inr rfl, ?_⟩;constructor
 ·show w.heap.size<(w.alloc _).heap.size;simp
 ·intro k hk;have:(w.alloc (.cells c e)).heap[w.heap.size]? =some (.cells c e):=by
   show(w.heap.push _)[w.heap.size]? =_;simp
  have hk':Jq (w.alloc (.cells c e)).heap[w.heap.size]? =some k:=hk;rw[this] at hk';simp [Jq] at hk';omega
theorem Hj (b off n:Nat):Addr.add ⟨b,off,none⟩ n=⟨b,off+n,none⟩:=by
 unfold Addr.add;split<;>simp_all
def Hr (w:World) (b off:Nat) (xs:List Value):Prop:= ∀i x,xs[i]? =some x->w.cell? ⟨b,off+i,none⟩=some x
theorem Mn.holds {H:Bb} {b off:Nat} {xs:List Value} (h:Mn w H b off xs):Hr w b off xs:=by
 rcases h with rfl | ⟨_,h⟩
 ·intro i x hx;simp at hx
 ·exact h
theorem Hr.drop {b off n:Nat} {xs:List Value} (h:Hr w b off xs):Hr w b (off+n) (xs.drop n):=by
 intro i x hx;rw[List.getElem?_drop] at hx;have:=h _ _ hx
 rwa [<-Nat.add_assoc] at this
theorem Hr.take {b off n:Nat} {xs:List Value} (h:Hr w b off xs):Hr w b off (xs.take n):=by
 intro i x hx;rw[List.getElem?_take] at hx;split at hx
 ·exact h _ _ hx
 ·cases hx
theorem Ec {b off:Nat} {xs:List Value} (h:Hr w b off xs):(loadCells ⟨b,off,none⟩ xs.length).run P w= .ok xs.toArray w:=
 run_loadCells_list w ⟨b,off,none⟩ xs fun j v hv=>by rw[Hj];exact h j v hv
theorem Bw.holds {H:Bb} (hH:Bw w H) {r:Nat} {cs:List DVal} {e:TypeId} (hr:H r=some (.cells cs e)): ∃xs,Br w H cs xs/\Hr w r 0 xs:=by
 obtain⟨xs,c,fz,h1,h2,h3,_⟩:=hH r _ hr;refine⟨xs,h3,fun i x hx=> ?_⟩;have hp:c.toList[i]? =some x:=by
  obtain⟨t,ht⟩:=h2;rw[<-ht,List.getElem?_append_left]
  ·exact hx
  ·rcases Nat.lt_or_ge i xs.length with hl | hl
   ·exact hl
   ·rw[List.getElem?_eq_none hl] at hx;cases hx
 simp only[World.cell?,h1,Nat.zero_add,Option.isSome_none,Bool.false_eq_true,if_false];simpa using hp
theorem Im {t:TypeId} {b:Bool} (h:Dg P t=some b):(isAgg t).run P w= .ok b w:=by
 unfold Dg at h;cases hu:P.underlying t with
 | none=>simp [hu] at h
 | some d=>
  simp only[isAgg,Sem.run_bind,run_underlying hu,Result.andThen_ok];rw[hu] at h;cases d<;>simp at h<;>subst h<;>rfl
theorem Tq {t:TypeId} {d:TypeDesc} (h:P.underlying t=some d):(P.info? t).isSome=true:=by
 unfold Program.underlying at h;cases hi:P.info? t with
 | none=>simp [hi] at h
 | some i=>rfl
theorem Ms {t:TypeId} {b:Bool} (h:Dg P t=some b):(P.info? t).isSome=true:=by
 unfold Dg at h;cases hu:P.underlying t with
 | none=>simp [hu] at h
 | some d=>exact Tq hu
theorem Cv {t:TypeId} (h:(P.info? t).isSome=true):(sizeOf t).run P w= .ok (P.cellsOf t) w:=by
 cases hi:P.info? t with
 | none=>simp [hi] at h
 | some i=>simp [sizeOf,typeInfo,program,hi,Program.cellsOf,Sem.run]
theorem Li {t:TypeId} {i:TypeInfo} (h:P.info? t=some i):(typeInfo t).run P w= .ok i w:=by
 simp [typeInfo,program,h,Sem.run]
theorem Cn4 {t:TypeId} {z:DVal} (h:Bz P t=some z): ∃v,(zeroValue t).run P w= .ok v w/\z=De v:=by
 unfold Bz at h;cases hi:P.info? t with
 | none=>simp [hi] at h
 | some i=>
  cases hz:i.zero with
  | none=>simp [hi,hz] at h
  | some v=>
   simp [hi,hz] at h;exact⟨v,by simp [zeroValue,Li hi,hz],h.symm⟩
theorem Qe {t:TypeId} (h:Dg P t=some true) {b off:Nat} {xs:List Value} (hx:Hr w b off xs) (hl:xs.length=P.cellsOf t):
  (loadVar t ⟨b,off,none⟩).run P w= .ok (.agg xs.toArray) w:=by
 simp only[loadVar,Sem.run_bind,Im h,Result.andThen_ok,if_true];simp only[Cv (Ms h),Result.andThen_ok,<-hl,Ec hx,Sem.run_bind,Sem.run_pure]
theorem Qf {t:TypeId} (h:Dg P t=some false) {b off:Nat} {x:Value} (hx:w.cell? ⟨b,off,none⟩=some x):
  (loadVar t ⟨b,off,none⟩).run P w= .ok x w:=by
 simp [loadVar,Im h,hx]
end
end Go.Dl

-- THE DATA LEVEL, PART O: each operation: what the data level asks and does is true of the model's operation.
namespace Go.Dl
open Go
section
variable {P:Program} {G:Nat->DVal} {N:Fr}
variable {o:Oper} {s:DS} {a:Act} {w:World} {K:DK} {Qx:Exit->Act->World->Prop}
theorem Gn {dst:Option Nat} {v:Option DVal} (h:Hv dst v K s): ∃d,v=some d/\Cb dst d K s:=by
 cases v with
 | none=>exact h.elim
 | some d=>exact⟨d,rfl,h⟩
theorem Dp4 (hS:Sim G N s a w) (hd:Cq N o.dst=true) {x:Operand} (hx:Cd N x=true) (he:o.op= .move x) (h:Cb o.dst (dev G s.env x) K s):PV P o s a w K:=
 pvI hS hd (by simp [execOp,he]) (Bx hS hx) h
theorem Cn5 (hS:Sim G N s a w) (hd:Cq N o.dst=true) {x:Operand} (hx:Cd N x=true) (he:o.op= .assign x) (h:Cb o.dst (dev G s.env x) K s):PV P o s a w K:=
 pvI hS hd (by simp [execOp,he]) (Bx hS hx) h
theorem Dp5 (hS:Sim G N s a w) (hd:Cq N o.dst=true) {c x y:Operand} (hc:Cd N c=true) (hx:Cd N x=true) (hy:Cd N y=true) (he:o.op= .pick c x y)
  (h:Al9 o.dst (dev G s.env c) (dev G s.env x) (dev G s.env y) K s):PV P o s a w K:=by
 have r:=Bx hS hc;cases hcv:dev G s.env c<;>rw[hcv] at h r<;>try exact h.elim
 rename_i t
 simp only[Rel] at r;simp only[Al9] at h;refine pvI hS hd (x:=if t then a.eval x else a.eval y) (by simp [execOp,he,r,asBool]) ?_ h;cases t
 ·exact Bx hS hy
 ·exact Bx hS hx
theorem Hk {H:Bb} {d:DVal} {v:Value} (h:Rel w H d v):Br w H d.cells v.cells.toList:=Rel.cells h
theorem Dc1 (hS:Sim G N s a w) (hd:Cq N o.dst=true) {e:TypeId} (he:o.op= .alloc e) (h:Bk5 e o.dst (Bz P e) K s):o.wp P a w (Fi G N K s w) Qx:=by
 cases hz:Bz P e with
 | none=>rw[hz] at h;exact h.elim
 | some z=>
  rw[hz] at h;obtain⟨v,hv,rfl⟩:=Cn4 (w:=w) hz;refine Bv8 hS hd (c:=v.cells) ?_ ?_ h
  ·simp [execOp,he,Instr.alloc,hv,newVar,newRow]
  ·exact Hk (Es w s.heap v)
theorem Dz0 (hS:Sim G N s a w) (hd:Cq N o.dst=true) {e:TypeId} {x:Operand} (hx:Cd N x=true) (he:o.op= .box e x)
  (h:Ab0 (dev G s.env x).cells e o.dst K s):o.wp P a w (Fi G N K s w) Qx:=
 Bv8 hS hd (c:=(a.eval x).cells) (by simp [execOp,he,Instr.box,newVar,newRow]) (Hk (Bx hS hx)) h
theorem Bv9 {size:Nat} {ag:Option Bool} {t:TypeId} (hag:Dg P t=ag) (hsz:P.cellsOf t=size) {b off:Nat} {cs:List DVal} {xs:List Value} {H:Bb} (hr:Br w H cs xs) (hh:Hr w b off xs) {i:Nat} {dst:Option Nat}
  (h:Tl size dst ag cs i K s): ∃d x,(loadVar t ⟨b,off+i,none⟩).run P w= .ok x w/\Rel w H d x/\Cb dst d K s:=by
 subst hsz;cases ag with
 | none=>exact h.elim
 | some ag=>
  cases ag with
  | true=>
   obtain⟨hle,hK⟩:=h;have hx:Hr w b (off+i) ((xs.drop i).take (P.cellsOf t)):=hh.drop.take;have hl:((xs.drop i).take (P.cellsOf t)).length=P.cellsOf t:=by
    have:=hr.length;simp;omega
   refine⟨_,_,Qe hag hx hl, ?_,hK⟩;simp only[Rel];exact⟨_,rfl,(hr.drop i).take _⟩
  | false=>
   obtain⟨d,hd,hK⟩:=Gn h;obtain⟨x,hx,hrel⟩:=hr.get hd;exact⟨d,x,Qf hag (hh i x hx),hrel,hK⟩
theorem Dp6 (hS:Sim G N s a w) (hd:Cq N o.dst=true) {t:TypeId} {x:Operand} (hx:Cd N x=true) (he:o.op= .load t x)
  (h:Xt (P.cellsOf t) (Dg P t) o.dst (dev G s.env x) K s):PV P o s a w K:=by
 have r:=Bx hS hx;cases hv:dev G s.env x<;>rw[hv] at h r<;>try exact h.elim
 case vptr cs off=>
  simp only[Rel] at r;obtain⟨b,o',xs,hp,hc,hl⟩:=r;obtain⟨d,y,hrun,hrel,hK⟩:=Bv9 (P:=P) (t:=t) rfl rfl hl hc.holds h;refine pvI hS hd ?_ hrel hK;simp [execOp,he,hp,Instr.loadAt,Instr.sureAddr,hrun]
 case optr r0 off=>
  simp only[Rel] at r;simp only[Xt] at h;cases hh:s.heap r0 with
  | none=>rw[hh] at h;exact h.elim
  | some ob=>
   rw[hh] at h;cases ob with
   | loop=>exact h.elim
   | iter=>exact h.elim
   | map=>exact h.elim
   | cells cs e=>
    obtain⟨xs,hl,hholds⟩:=hS.heap.holds hh;obtain⟨d,y,hrun,hrel,hK⟩:=Bv9 (P:=P) (t:=t) rfl rfl hl hholds h;refine pvI hS hd ?_ hrel hK;simp only[Nat.zero_add] at hrun;simp [execOp,he,r,Instr.loadAt,Instr.sureAddr,hrun]
theorem Ig (r off:Nat) (e:TypeId) (fz:Nat×Nat): ∀(vs:List Value) (i:Nat) (c:Array Value) (w:World),w.heap[r]? =some (.cells c e fz)->off+i+vs.length<=c.size->
  (∀v∈vs,v.oneCell'=true)->(∀j,j<c.size-> ¬(fz.1<=j/\j<fz.2))->
  ∃(w':World) (c':Array Value),(storeCells ⟨r,off,none⟩ vs i).run P w= .ok () w'/\w'.heap[r]? =some (.cells c' e fz)/\c'.toList=c.toList.take (off+i)++vs++c.toList.drop (off+i+vs.length)/\
   (∀b,b≠r->w'.heap[b]? =w.heap[b]?)/\w'.heap.size=w.heap.size/\w'.os=w.os/\w'.tape=w.tape/\w'.output=w.output
 | [],i,c,w,hc,hl,_,_=>⟨w,c,by simp [storeCells],hc,by simp,fun _ _=>rfl,rfl,rfl,rfl,rfl⟩
 | v::vs,i,c,w,hc,hl,h1,hf=>by
  simp only[List.length_cons] at hl;have hi:off+i<c.size:=by omega
  have hcell:w.cell? ⟨r,off+i,none⟩=some c[off+i]:=by simp [World.cell?,hc,hi]
  have hfr:w.frozen? ⟨r,off+i,none⟩=false:=by
   have:=hf (off+i) hi;obtain⟨lo,hi'⟩:=fz;simp [World.frozen?,hc];intro h2;have:=fun h3=>this ⟨h2,h3⟩;simp at this;omega
  have hset:(w.setCell ⟨r,off+i,none⟩ v).heap[r]? =some (.cells (c.setIfInBounds (off+i) v) e fz):=by
   simp [World.setCell,Array.getElem?_modify,hc]
  obtain⟨w',c',hrun,hheap,hlist,hother,hsize,hos,htape,hout⟩:=Ig r off e fz vs (i+1) (c.setIfInBounds (off+i) v) _ hset (by simp;omega) (fun u hu=>h1 u (List.mem_cons_of_mem _ hu)) (by simpa using hf);refine⟨w',c', ?_,hheap, ?_,fun b hb=> ?_,by rw[hsize];simp,hos,htape,hout⟩
  ·simp only[storeCells,Sem.run_bind,Hj,run_store P w _ v _ (h1 v (List.mem_cons_self ..)),hcell,hfr];simpa using hrun
  ·rw[hlist];have hci:off+i<c.toList.length:=by simpa using hi
   rw[Array.toList_setIfInBounds,List.length_cons,<-Nat.add_assoc];have e1:(c.toList.set (off+i) v).take (off+i+1)=c.toList.take (off+i)++ [v]:=by
    rw[List.take_set,List.take_succ_eq_append_getElem hci,List.set_append_right _ _ (by simp;omega)];have e0:off+i-min (off+i) c.size=0:=by omega
    simp [e0]
   have e2:(c.toList.set (off+i) v).drop (off+i+1+vs.length)=c.toList.drop (off+i+(vs.length+1)):=by
    rw[List.drop_set,if_pos (by omega)];congr 1;omega
   rw[e1,e2];simp
  ·rw[hother b hb];exact Go.RowKit.Below.heap_setCell _ _ _ _ hb
theorem Ac1 {H:Bb}: ∀ {ds:List DVal} {xs:List Value},Br w H ds xs->ds.all (·.one)=true-> ∀x∈xs,x.oneCell'=true
 | [],_,h,_,x,hx=>by simp only[Br] at h;subst h;simp at hx
 | d::ds,xs,h,h1,x,hx=>by
  simp only[Br] at h;obtain⟨y,ys,rfl,hr,hl⟩:=h;simp only[List.all_cons,Bool.and_eq_true] at h1;rcases List.mem_cons.1 hx with rfl | hx
  ·cases d<;>simp only[Rel,DVal.one] at hr h1<;>try (simp at h1;done)
   case raw v=>obtain⟨rfl,_⟩:=hr;exact h1.1
   case vptr=>obtain⟨_,_,_,rfl,_⟩:=hr;rfl
   case vslice=>obtain⟨_,_,rfl,_⟩:=hr;rfl
   case oslice=>obtain⟨_,_,rfl,_⟩:=hr;rfl
   case func=>obtain⟨_,_,rfl,_⟩:=hr;rfl
   case iface=>obtain⟨_,rfl,_⟩:=hr;rfl
   all_goals (subst hr;rfl)
  ·exact Ac1 hl h1.2 x hx
theorem Wn {H:Bb} (hH:Bw w H) {r off:Nat} {cs ds:List DVal} {e:TypeId} (hr:H r=some (.cells cs e)) {vs:List Value} (hv:Br w H ds vs) (h1:ds.all (·.one)=true) (hle:off+ds.length<=cs.length):
  ∃w',(storeCells ⟨r,off,none⟩ vs 0).run P w= .ok () w'/\Bw w' (upd H r (some (.cells (splice cs off ds) e)))/\Ext H w (upd H r (some (.cells (splice cs off ds) e))) w':=by
 obtain⟨xs,c,fz,g1,g2,g3,g4⟩:=hH r _ hr;obtain⟨tl,htl⟩:=g2;have hlx:=g3.length;have hlv:=hv.length;have hcs:c.size=xs.length+tl.length:=by rw[<-Array.length_toList,<-htl];simp
 obtain⟨w',c',hrun,hheap,hlist,hother,hsize,hos,htape,hout⟩:=Ig (P:=P) r off e fz vs 0 c w g1 (by omega) (Ac1 hv h1) g4;have hE:Ext H w (upd H r (some (.cells (splice cs off ds) e))) w':=by
  have hcsz:c'.size=c.size:=by
   rw[<-Array.length_toList,hlist];simp;omega
  refine⟨hos,htape,hout,by omega,fun b hb hn=>hother b (fun hbr=>by subst hbr;rw[hr] at hn;cases hn),fun b hb=> ?_,fun b hb=> ?_,fun a _ _=>by
   unfold World.frozen?;by_cases hbr:a.block=r
   ·rw[hbr,hheap,g1]
   ·rw[hother _ hbr]⟩
  rotate_left
  ·by_cases hbr:b=r
   ·subst hbr;rw[hheap,g1];simp [Jq,hcsz]
   ·rw[hother b hbr]
  by_cases hbr:b=r
  ·subst hbr;exact .inl (by rw[hr];simp)
  ·simp only[upd,if_neg hbr] at hb;exact .inl hb
 refine⟨w',hrun,fun r' o' ho'=> ?_,hE⟩;by_cases hbr:r'=r
 ·subst hbr;simp only[upd,if_pos] at ho';cases ho';refine⟨xs.take off++vs++xs.drop (off+vs.length),c',fz,hheap, ?_, ?_, ?_⟩
  ·refine⟨tl, ?_⟩;rw[hlist,<-htl,Nat.add_zero,List.take_append_of_le_length (by omega),List.drop_append_of_le_length (by omega)];simp
  ·have e0:splice cs off ds=cs.take off++ds++cs.drop (off+vs.length):=by unfold splice;rw[hlv]
   have e1:=((Br.lasts hE.lasts _ _ (g3.take off)).append (Br.lasts hE.lasts _ _ hv)).append (Br.lasts hE.lasts _ _ (g3.drop (off+vs.length)));rw[<-e0] at e1;exact e1
  ·have:c'.size=c.size:=by
    rw[<-Array.length_toList,hlist];simp;omega
   rw[this];exact g4
 ·simp only[upd,if_neg hbr] at ho';rw[hother r' hbr];exact(hH r' o' ho').lasts hE.lasts
theorem Dc2 (hS:Sim G N s a w) {t:TypeId} {x y:Operand} (hx:Cd N x=true) (hy:Cd N y=true) (he:o.op= .store t x y)
  (h:(P.info? t).isSome=true/\Wk (P.cellsOf t) o.dst (dev G s.env x) (dev G s.env y) K s):o.wp P a w (Fi G N K s w) Qx:=by
 obtain⟨hi,h⟩:=h;have r:=Bx hS hx;have ry:=Bx hS hy;cases hv:dev G s.env x<;>rw[hv] at h r<;>(try (cases hdst:o.dst<;>rw[hdst] at h<;>exact h.elim))
 rename_i r0 off
 cases hdst:o.dst with
 | some d=>rw[hdst] at h;exact h.elim
 | none=>
  rw[hdst] at h;simp only[Rel] at r;simp only[Wk] at h;cases hh:s.heap r0 with
  | none=>rw[hh] at h;exact h.elim
  | some ob=>
   rw[hh] at h;cases ob with
   | loop=>exact h.elim
   | iter=>exact h.elim
   | map=>exact h.elim
   | cells cs e=>
    obtain⟨hl,h1,hle,hK⟩:=h;have rc:=Hk ry;obtain⟨w',hrun,hH,hE⟩:=Wn (P:=P) hS.heap hh rc h1 (off:=off) (by omega);have hlen:(a.eval y).cells.size=P.cellsOf t:=by rw[<-hl,rc.length];simp
    unfold Oper.wp;have:(execOp a.eval o).run P w= .ok .skip w':=by
     simp [execOp,he,r,Instr.storeAt,Instr.sureAddr,storeVar,Cv hi,hlen,hrun]
    rw[this];show Fi G N K s w (a.put o.dst undef) w';rw[hdst];exact⟨_,hK,hS.ext hE hH,hE⟩
end
end Go.Dl

-- THE DATA LEVEL, PART P: further operations.
namespace Go.Dl
open Go
set_option maxHeartbeats 40000
section
variable {P:Program} {G:Nat->DVal} {N:Fr}
variable {o:Oper} {s:DS} {a:Act} {w:World} {K:DK} {Qx:Exit->Act->World->Prop}
theorem Bl1 (hS:Sim G N s a w) (hd:Cq N o.dst=true) {x:Operand} (hx:Cd N x=true) (he:o.op= .nilCheck x)
  (h:Ns o.dst (dev G s.env x) K s):PV P o s a w K:=by
 have r:=Bx hS hx;have r':=r;cases hv:dev G s.env x<;>rw[hv] at h r r'<;>try exact h.elim
 case vptr cs off=>
  simp only[Rel] at r;obtain⟨b,o',xs,hp,hc,hl⟩:=r;exact pvI hS hd (x:=a.eval x) (by simp [execOp,he,hp]) r' h
 case optr r0 off=>
  simp only[Rel] at r;exact pvI hS hd (x:=a.eval x) (by simp [execOp,he,r]) r' h
 case omap r0=>
  simp only[Rel] at r;exact pvI hS hd (x:=a.eval x) (by simp [execOp,he,r]) r' h
 case iface t0 v0=>
  simp only[Rel] at r;obtain⟨x0,hp,_⟩:=r;exact pvI hS hd (x:=a.eval x) (by simp [execOp,he,hp]) r' h
 case func fn f c=>
  simp only[Rel] at r;obtain⟨xs,ys,hp,_,_⟩:=r;cases fn<;>try exact h.elim
  exact pvI hS hd (x:=a.eval x) (by simp [execOp,he,hp]) r' h
theorem Bl2 (hS:Sim G N s a w) (hd:Cq N o.dst=true) {fn:Fn} {fs cs:Array Operand} (hf:fs.toList.all (Cd N)=true) (hc:cs.toList.all (Cd N)=true) (he:o.op= .makeFunc fn fs cs)
  (h:Cb o.dst (.func fn (Ei G s.env fs.toList) (Ei G s.env cs.toList)) K s):PV P o s a w K:=by
 refine pvI hS hd (x:= .func fn (fs.map a.eval) (cs.map a.eval)) (by simp [execOp,he,Instr.makeFunc]) ?_ h;simp only[Rel];exact⟨_,_,rfl,by simpa using Lv hS hf,by simpa using Lv hS hc⟩
theorem Az5 (hS:Sim G N s a w) (hd:Cq N o.dst=true) {t:TypeId} {x:Operand} (hx:Cd N x=true) (he:o.op= .makeInterface t x)
  (h:Ls t (dev G s.env x) o.dst (Dc (P.underlying t)) K s):PV P o s a w K:=by
 cases hn:Dc (P.underlying t) with
 | false=>rw[hn] at h;exact h.elim
 | true=>
  rw[hn] at h;cases hu:P.underlying t with
  | none=>rw[hu] at hn;simp [Dc] at hn
  | some d=>
   refine pvI hS hd (x:= .iface t (a.eval x)) ?_ ?_ h
   ·rw[hu] at hn;cases d<;>simp [Dc] at hn<;>simp [execOp,he,Instr.makeInterface,run_underlying hu]
   ·simp only[Rel];exact⟨_,rfl,Bx hS hx⟩
theorem Cb3 (hS:Sim G N s a w) (hd:Cq N o.dst=true) {x:Operand} {i:Nat} (hx:Cd N x=true) (he:o.op= .extract x i)
  (h:Nt i o.dst (dev G s.env x) K s):PV P o s a w K:=by
 have r:=Bx hS hx;cases hv:dev G s.env x<;>rw[hv] at h r<;>try exact h.elim
 simp only[Rel] at r;obtain⟨xs,hp,hl⟩:=r;obtain⟨d,hd',hK⟩:=Gn h;obtain⟨y,hy,hrel⟩:=hl.get hd';refine pvI hS hd ?_ hrel hK;have:xs[i]? =some y:=by simpa using hy
 simp [execOp,he,hp,Instr.extract,this]
theorem Dp7 (hS:Sim G N s a w) (hd:Cq N o.dst=true) {op:UnOp} {t:TypeId} {x:Operand} (hx:Cd N x=true) (he:o.op= .unOp op t x)
  (h:dUn o.dst op (dev G s.env x) K s):PV P o s a w K:=by
 have r:=Bx hS hx;cases hv:dev G s.env x<;>rw[hv] at h r<;>cases op<;>(try exact h.elim)<;>simp only[Rel] at r<;>simp only[dUn] at h
 ·exact pvI hS hd (by simp [execOp,he,r,Op.unary];rfl) (by simp [Rel]) h
 ·exact pvI hS hd (by simp [execOp,he,r,Op.unary,Op.intArith];rfl) (by simp [Rel]) h
 ·exact pvI hS hd (by simp [execOp,he,r,Op.unary,Op.intBits];rfl) (by simp [Rel]) h
theorem Cb4 (hS:Sim G N s a w) (hd:Cq N o.dst=true) {src t:TypeId} {x:Operand} (hx:Cd N x=true) (he:o.op= .convert src t x)
  (h:Lr o.dst (P.underlying src) (P.underlying t) (dev G s.env x) K s):PV P o s a w K:=by
 have r:=Bx hS hx;cases hs:P.underlying src with
 | none=>rw[hs] at h;cases P.underlying t<;>exact h.elim
 | some ds=>
  cases ht:P.underlying t with
  | none=>rw[hs,ht] at h;exact h.elim
  | some dt=>
   rw[hs,ht] at h;cases dt<;>(try exact h.elim)
   case int k=>
    cases hv:dev G s.env x<;>rw[hv] at h r<;>(try exact h.elim);simp only[Rel] at r
    rename_i k0 n0
    refine pvI hS hd (x:= .int k (k.wrap n0)) ?_ ?_ h
    ·simp [execOp,he,r,convert,run_underlying hs,run_underlying ht,Conv.intToInt]
    ·simp [Rel]
   case string=>
    cases hv:dev G s.env x<;>rw[hv] at h r<;>(try exact h.elim);simp only[Rel] at r;refine pvI hS hd (x:=a.eval x) ?_ ?_ h
    ·simp [execOp,he,r,convert,run_underlying hs,run_underlying ht]
    ·rw[r];simp [Rel]
theorem Co {op:BinOp} {t:TypeId} {x y:Operand} {u v:Value} (h: ∀t' z,u= .agg t'->v= .agg z->False) (h2:u= .nilIface->v= .nilIface->False):eqGuard op t x y u v=pure ():=by
 unfold eqGuard;cases op<;>(try rfl)<;>(cases u<;>(try rfl)<;>cases v<;>(try rfl))<;>first | exact(h2 rfl rfl).elim | exact(h _ _ rfl rfl).elim
theorem Cn6 (hS:Sim G N s a w) (hd:Cq N o.dst=true) {op:BinOp} {t t':TypeId} {x y:Operand} (he:o.op= .binOp op t x y t') {k k':IntKind} {m n:Int} (hx:a.eval x= .int k m) (hy:a.eval y= .int k' n)
  (h:Am1 op k k' m n o.dst K s (Eh op)):PV P o s a w K:=by
 have hg:eqGuard op t x y (.int k m) (.int k' n)=pure ():=Co (by simp) (by simp);cases op<;>simp only[Eh,Am1,Um,Ab3] at h
 case shl=>
  obtain⟨h0,hK⟩:=h;refine pvI hS hd (x:= .int k (k.wrap (m*2^(min n.toNat k.bits)))) ?_ (by simp [Rel]) hK;simp only[execOp,he,hx,hy,hg,binOp,Op.shift,if_neg (Int.not_lt.2 h0)];rfl
 case shr=>
  obtain⟨h0,hK⟩:=h;refine pvI hS hd (x:= .int k (m.fdiv (2^(min n.toNat k.bits)))) ?_ (by simp [Rel]) hK;simp only[execOp,he,hx,hy,hg,binOp,Op.shift,if_neg (Int.not_lt.2 h0)];rfl
 case quo=>
  obtain⟨rfl,h0,hK⟩:=h;refine pvI hS hd (x:= .int k (k.wrap (m.tdiv n))) ?_ (by simp [Rel]) hK;simp [execOp,he,hx,hy,hg,binOp,Op.intDiv,h0]
 case rem=>
  obtain⟨rfl,h0,hK⟩:=h;refine pvI hS hd (x:= .int k (m.tmod n)) ?_ (by simp [Rel]) hK;simp [execOp,he,hx,hy,hg,binOp,Op.intDiv,h0]
 all_goals
  obtain⟨rfl,hK⟩:=h;first | refine Ow hS hd ?_ hK | refine Zu hS hd ?_ hK
  ·simp [execOp,he,hx,hy,hg,binOp,Op.intArith,Op.intBits,Op.intCmp,bne,Int.not_le,Int.not_lt]<;>(try (rw[Bool.eq_iff_iff];simp))
theorem Wo (l:List UInt8):(ByteArray.mk ⟨l⟩).toList=l:=by
 have h: ∀(n i:Nat) (r:List UInt8),l.length-i=n->i<=l.length->ByteArray.toList.loop ⟨⟨l⟩⟩ i r=r.reverse++l.drop i:=by
  intro n
  induction n with
  | zero=>
   intro i r hn hi;have:i=l.length:=by omega
   subst this;unfold ByteArray.toList.loop;simp [ByteArray.size]
  | succ n ih=>
   intro i r hn hi;have hlt:i<l.length:=by omega
   unfold ByteArray.toList.loop;simp only[ByteArray.size,List.size_toArray,hlt,if_true];rw[ih (i+1) _ (by omega) (by omega)];have:ByteArray.get! ⟨⟨l⟩⟩ i=l[i]:=by simp [ByteArray.get!,hlt]
   rw[this,List.drop_eq_getElem_cons hlt];simp
 have:=h l.length 0 [] (by simp) (by omega);simpa [ByteArray.toList] using this
theorem Cb5 (l m:List UInt8):(ByteArray.mk ⟨l⟩)++(ByteArray.mk ⟨m⟩)=ByteArray.mk ⟨l++m⟩:=by
 apply ByteArray.ext;simp
theorem Cn7 (hS:Sim G N s a w) (hd:Cq N o.dst=true) {op:BinOp} {t t':TypeId} {x y:Operand} (he:o.op= .binOp op t x y t') {l m:List UInt8} (hx:a.eval x= .string ⟨⟨l⟩⟩) (hy:a.eval y= .string ⟨⟨m⟩⟩)
  (h:Si l m o.dst K s op):PV P o s a w K:=by
 have hg:eqGuard op t x y (.string ⟨⟨l⟩⟩) (.string ⟨⟨m⟩⟩)=pure ():=Co (by simp) (by simp);have hsz: ∀l:List UInt8,(ByteArray.mk ⟨l⟩).size=l.length:=fun l=>rfl;cases op<;>simp only[Si] at h<;>try exact h.elim
 case add=>
  obtain⟨h0,hK⟩:=h;refine pvI hS hd (x:= .string ⟨⟨l++m⟩⟩) ?_ (by simp [Rel]) hK;simp only[execOp,he,hx,hy,hg,binOp,Op.stringOp,hsz];rw[if_neg (by simp [IntKind.max,IntKind.signed,IntKind.bits];omega),Cb5];rfl
 all_goals
  refine Zu hS hd ?_ h
  ·simp [execOp,he,hx,hy,hg,binOp,Op.stringOp,Wo]<;>(try (rw[Bool.eq_iff_iff];simp))
theorem Uv {t:TypeId} {x y:Value} {b:Bool} (h:(Op.equal t x y).run P w= .ok b w) {op:BinOp} {n:Bool} (hop:Kr op=some n) (hx: ∀k n,x≠ .int k n) (hs: ∀l,x≠ .string l) (hf: ∀k n,x≠ .float k n) (hc: ∀k n m,x≠ .complex k n m):
  (binOp op t x y).run P w= .ok (.bool (if n then !b else b)) w:=by
 cases op<;>simp [Kr] at hop<;>subst hop
 ·have:binOp .eql t x y=(do pure (.bool (←Op.equal t x y))):=by
   cases x<;>first | rfl | exact absurd rfl (hx _ _) | exact absurd rfl (hs _) | exact absurd rfl (hf _ _) | exact absurd rfl (hc _ _ _)
  rw[this];simp [h]
 ·have:binOp .neq t x y=(do pure (.bool (!(←Op.equal t x y)))):=by
   cases x<;>first | rfl | exact absurd rfl (hx _ _) | exact absurd rfl (hs _) | exact absurd rfl (hf _ _) | exact absurd rfl (hc _ _ _)
  rw[this];simp [h]
theorem Wp {dst:Option Nat} {n b:Option Bool} (h:Kz dst n b K s): ∃n' b',n=some n'/\b=some b'/\Cb dst (.bool (if n' then !b' else b')) K s:=by
 cases n with
 | none=>exact h.elim
 | some n=>cases b with
  | none=>cases n<;>exact h.elim
  | some b=>cases n<;>exact⟨_,b,rfl,rfl,h⟩
theorem Am5 {x y:Option Bool} {b:Bool} (h:Bk7 x y=some b): ∃p q,x=some p/\y=some q/\b=(p&&q):=by
 cases x with
 | none=>cases h
 | some p=>cases y with
  | none=>cases p<;>cases h
  | some q=>
   refine⟨p,q,rfl,rfl, ?_⟩;cases p<;>cases h<;>rfl
theorem Uw {H:Bb} {t:TypeId} {ag:Bool} (hag:Dg P t=some ag) {cs:List DVal} {xs:Array Value} (hr:Br w H cs xs.toList) {off:Nat}
  (hne:ag=false->(Er (P.cellsOf t) off cs (some ag))≠ []):
  ∃y,(part t xs off).run P w= .ok y w/\Br w H (Er (P.cellsOf t) off cs (some ag)) (if ag then y.cells.toList else [y])/\(ag=true-> ∃ys,y= .agg ys):=by
 cases ag with
 | true=>
  have hi:=Ms hag;refine⟨.agg (xs.extract off (off+P.cellsOf t)),by simp [part,Im hag,Cv hi], ?_,fun _=>⟨_,rfl⟩⟩;have:(xs.extract off (off+P.cellsOf t)).toList=(xs.toList.drop off).take (P.cellsOf t):=by simp [Array.toList_extract,List.extract]
  simp only[Er,if_true,Value.cells,this];exact(hr.drop off).take _
 | false=>
  have hne:=hne rfl;simp only[Er] at hne⊢
  have hlt:off<cs.length:=by
   rcases Nat.lt_or_ge off cs.length with h | h
   ·exact h
   ·rw[List.drop_eq_nil_of_le h] at hne;simp at hne
  have hlx:=hr.length;have hlt':off<xs.size:=by rw[<-Array.length_toList,<-hlx];exact hlt
  refine⟨xs[off],by simp [part,Im hag,Array.getElem?_eq_getElem hlt'], ?_,fun h=>by cases h⟩;have h2:=(hr.drop off).take 1;have:(xs.toList.drop off).take 1= [xs[off]]:=by
   rw[List.drop_eq_getElem_cons (by simpa using hlt')];simp
  rw[this] at h2;simpa using h2
theorem Ta {n:Nat} {t:TypeId} {ys:List DVal} {b:Bool} (hag:Dg P t≠some true) (h:Qo P n t [] ys=some b):False:=by
 cases n with
 | zero=>cases h
 | succ n=>
  simp only[Qo] at h;unfold Dg at hag;cases hu:P.underlying t with
  | none=>rw[hu] at h;cases h
  | some d=>
   rw[hu] at h hag;cases d<;>simp [Qy,Am0,Az0,Az1] at h hag
theorem Ac2 {n:Nat} {t:TypeId} {xs:List DVal} {b:Bool} (hag:Dg P t≠some true) (h:Qo P n t xs []=some b):False:=by
 cases n with
 | zero=>cases h
 | succ n=>
  simp only[Qo] at h;unfold Dg at hag;cases hu:P.underlying t with
  | none=>rw[hu] at h;cases h
  | some d=>
   rw[hu] at h hag;cases d<;>simp at hag<;>simp only[Qy,Am0,Az0,Az1] at h<;>first | cases h | (split at h<;>simp_all)
theorem Jw {H:Bb}: ∀(n d:Nat),n<=d-> ∀(t:TypeId) (xs ys:List DVal) (x y:Value) (ag:Bool) (b:Bool),Dg P t=some ag->
  Br w H xs (if ag then x.cells.toList else [x])->Br w H ys (if ag then y.cells.toList else [y])->(ag=true-> ∃c,x= .agg c)->(ag=true-> ∃c,y= .agg c)->Qo P n t xs ys=some b->
  (Op.equalIn d t x y).run P w= .ok b w
 | 0,_,_,_,_,_,_,_,_,_,_,_,_,_,_,h=>by cases h
 | n+1,0,hnd,_,_,_,_,_,_,_,_,_,_,_,_,_=>by omega
 | n+1,d+1,hnd,t,xs,ys,x,y,ag,b,hag,hx,hy,gx,gy,h=>by
  simp only[Qo] at h;cases hu:P.underlying t with
  | none=>rw[hu] at h;cases h
  | some td=>
   rw[hu] at h;have hag':=hag;unfold Dg at hag';rw[hu] at hag';have step: ∀(u:TypeId) (off:Nat) (r:Bool) (cx cy:Array Value),x= .agg cx->y= .agg cy->ag=true->Qo P n u (Er (P.cellsOf u) off xs (Dg P u)) (Er (P.cellsOf u) off ys (Dg P u))=some r->
     ∃p q,(part u cx off).run P w= .ok p w/\(part u cy off).run P w= .ok q w/\(Op.equalIn d u p q).run P w= .ok r w:=by
    intro u off r cx cy ex ey hagt hr;subst ex;subst ey;subst hagt;simp only[if_true,Value.cells] at hx hy;cases hau:Dg P u with
    | none=>
     rw[hau] at hr;exact(Ta (by rw[hau];simp) hr).elim
    | some au=>
     rw[hau] at hr;obtain⟨p,hp,hrp,hgp⟩:=Uw (w:=w) hau hx (off:=off) (fun e he=>by subst e;rw[he] at hr;exact Ta (by rw[hau];simp) hr);obtain⟨q,hq,hrq,hgq⟩:=Uw (w:=w) hau hy (off:=off) (fun e he=>by subst e;rw[he] at hr;exact Ac2 (by rw[hau];simp) hr);exact⟨p,q,hp,hq,Jw n d (by omega) u _ _ p q au r hau hrp hrq hgp hgq hr⟩
   cases td<;>try (cases h;done)
   case bool=>
    simp at hag';subst hag';simp only[Qy] at h;unfold Am0 at h;split at h<;>try (cases h;done)
    simp only[Bool.false_eq_true,if_false,Br,Rel] at hx hy;obtain⟨_,_,hx,rfl,rfl⟩:=hx;obtain⟨_,_,hy,rfl,rfl⟩:=hy;simp only[List.cons.injEq,and_true] at hx hy;subst hx;subst hy;cases h;rw[run_equalIn_bool w d t _ _ hu];congr 1
   case int k=>
    simp at hag';subst hag';simp only[Qy] at h;unfold Az0 at h;split at h<;>try (cases h;done)
    split at h<;>try (cases h;done)
    rename_i hk
    subst hk;simp only[Bool.false_eq_true,if_false,Br,Rel] at hx hy;obtain⟨_,_,hx,rfl,rfl⟩:=hx;obtain⟨_,_,hy,rfl,rfl⟩:=hy;simp only[List.cons.injEq,and_true] at hx hy;subst hx;subst hy;cases h;simp only[Op.equalIn,Sem.run_bind,run_underlying hu,Result.andThen_ok,if_true,Sem.run_pure];congr 1
   case string=>
    simp at hag';subst hag';simp only[Qy] at h;unfold Az1 at h;split at h<;>try (cases h;done)
    simp only[Bool.false_eq_true,if_false,Br,Rel] at hx hy;obtain⟨_,_,hx,rfl,rfl⟩:=hx;obtain⟨_,_,hy,rfl,rfl⟩:=hy;simp only[List.cons.injEq,and_true] at hx hy;subst hx;subst hy;cases h;rw[run_equalIn_string (w:=w) d t _ _ hu];congr 1;rw[Bool.eq_iff_iff,Wo,Wo];simp
   case struct fs=>
    simp at hag';subst hag';obtain⟨cx,rfl⟩:=gx rfl;obtain⟨cy,rfl⟩:=gy rfl;have hfs:P.fieldsOf t=fs:=by simp [Program.fieldsOf,hu]
    simp only[Qy] at h;cases hst:P.stoodInHeld t with
    | true=>rw[hst] at h;cases h
    | false=>
     rw[hst] at h;simp only[Cm8] at h;rw[run_equalIn_struct w d t cx cy (by rw[hu,hfs]) hst,hfs];generalize fs.toList=l at h;clear hfs hu hst
     induction l generalizing b with
     | nil=>simp only[Ab2] at h;cases h;simp [Op.eqFields]
     | cons f l ih=>
      simp only[Ab2] at h;split at h<;>try (cases h;done)
      rename_i hn
      obtain⟨p',q',h1,h2,rfl⟩:=Am5 h;obtain⟨p,q,r1,r2,r3⟩:=step f.type f.offset p' cx cy rfl rfl rfl h1;have:=ih q' h2;simp only[Op.eqFields,if_pos hn,Sem.run_bind,r1,r2,r3,Result.andThen_ok];cases p'
      ·simp
      ·simpa using this
   case array m e=>
    simp at hag';subst hag';obtain⟨cx,rfl⟩:=gx rfl;obtain⟨cy,rfl⟩:=gy rfl;simp only[Qy] at h;cases hie:P.info? e with
    | none=>rw[hie] at h;cases h
    | some ie=>
     rw[run_equalIn_array w d cx cy hu hie];rw[hie] at h;simp only[Option.isSome_some,if_true] at h;generalize List.range m=l at h;clear hu
     induction l generalizing b with
     | nil=>simp only[Xu] at h;cases h;simp [Op.eqItems]
     | cons f l ih=>
      simp only[Xu] at h;obtain⟨p',q',h1,h2,rfl⟩:=Am5 h;obtain⟨p,q,r1,r2,r3⟩:=step e (f*P.cellsOf e) p' cx cy rfl rfl rfl h1;have:=ih q' h2;simp only[Op.eqItems,Sem.run_bind,r1,r2,r3,Result.andThen_ok];cases p'
      ·simp
      ·simpa using this
theorem Aj5 {op:BinOp} {t:TypeId} {x y:Operand} (h:(Ed x || Ed y)=true):eqGuard op t x y .nilIface .nilIface=pure ():=by
 unfold eqGuard;cases x<;>cases y<;>simp [Ed] at h<;>cases op<;>rfl
theorem Dl4 {b:Bool} {op:BinOp} {t:TypeId} {x y:Operand} {xv yv:Value} (hS:Sim G N s a w) (hd:Cq N o.dst=true) {t':TypeId} (he:o.op= .binOp op t x y t') (hx:a.eval x=xv) (hy:a.eval y=yv)
  (hg:eqGuard op t x y xv yv=pure ()) (hr:(Op.equal t xv yv).run P w= .ok b w) (h1: ∀k n,xv≠ .int k n) (h2: ∀l,xv≠ .string l) (h3: ∀k n,xv≠ .float k n) (h4: ∀k n m,xv≠ .complex k n m)
  (h:Kz o.dst (Kr op) (some b) K s):PV P o s a w K:=by
 obtain⟨n,b',hn,hb,hK⟩:=Wp h;cases hb;have:=Uv (P:=P) hr hn h1 h2 h3 h4;refine Zu hS hd (b:=if n then !b else b) ?_ hK;simp [execOp,he,hx,hy,hg,this]
set_option maxHeartbeats 400000 in
theorem Dp8 (hS:Sim G N s a w) (hd:Cq N o.dst=true) {op:BinOp} {t t':TypeId} {x y:Operand} (he:o.op= .binOp op t x y t') {dx dy:DVal} (rx:Rel w s.heap dx (a.eval x)) (ry:Rel w s.heap dy (a.eval y))
  (h:Kz o.dst (Kr op) (Lg (Ed x || Ed y) (P.underlying t) dx dy) K s):PV P o s a w K:=by
 obtain⟨n,b,hn,hb,hK⟩:=Wp h;rw[hb] at h;unfold Lg at hb;have key: ∀xv yv,a.eval x=xv->a.eval y=yv->eqGuard op t x y xv yv=pure ()->(∀d,(Op.equalIn (d+1) t xv yv).run P w= .ok b w)->(∀k n,xv≠ .int k n)->(∀l,xv≠ .string l)->(∀k n,xv≠ .float k n)->(∀k n m,xv≠ .complex k n m)->PV P o s a w K:=
  fun xv yv e1 e2 e3 e4 e5 e6 e7 e8=>Dl4 hS hd he e1 e2 e3 (e4 9999) e5 e6 e7 e8 h
 split at hb<;>(try (cases hb;done))<;>simp only[Rel] at rx ry
 case h_1 hu=>exact key _ _ rx ry (Co (by simp) (by simp)) (by cases hb;exact fun d=>run_equalIn_bool w d t _ _ hu) (by simp) (by simp) (by simp) (by simp)
 case h_2 hu=>exact key _ _ rx ry (Co (by simp) (by simp)) (by cases hb;intro d;simp [Op.equalIn,run_underlying hu]) (by simp) (by simp) (by simp) (by simp)
 case h_3 hu=>exact key _ _ rx ry (Co (by simp) (by simp)) (by cases hb;intro d;simp [Op.equalIn,run_underlying hu]) (by simp) (by simp) (by simp) (by simp)
 case h_4 hu=>
  obtain⟨_,_,_,ry,_⟩:=ry;exact key _ _ rx ry (Co (by simp) (by simp)) (by cases hb;intro d;simp [Op.equalIn,run_underlying hu]) (by simp) (by simp) (by simp) (by simp)
 case h_5 hu=>exact key _ _ rx ry (Co (by simp) (by simp)) (by cases hb;intro d;simp [Op.equalIn,run_underlying hu]) (by simp) (by simp) (by simp) (by simp)
 case h_6 hu=>
  obtain⟨_,_,_,rx,_⟩:=rx;exact key _ _ rx ry (Co (by simp) (by simp)) (by cases hb;intro d;simp [Op.equalIn,run_underlying hu]) (by simp) (by simp) (by simp) (by simp)
 case h_7 hu=>
  obtain⟨_,ry,_⟩:=ry;exact key _ _ rx ry (Co (by simp) (by simp)) (by cases hb;intro d;simp [Op.equalIn,run_underlying hu]) (by simp) (by simp) (by simp) (by simp)
 case h_8 hu=>
  obtain⟨_,rx,_⟩:=rx;exact key _ _ rx ry (Co (by simp) (by simp)) (by cases hb;intro d;simp [Op.equalIn,run_underlying hu]) (by simp) (by simp) (by simp) (by simp)
 case h_9 hu=>
  split at hb<;>(try (cases hb;done))
  rename_i hc
  exact key _ _ rx ry (Aj5 hc) (by cases hb;intro d;simp [Op.equalIn,run_underlying hu]) (by simp) (by simp) (by simp) (by simp)
 case h_10 hu=>exact key _ _ rx ry (Co (by simp) (by simp)) (by cases hb;intro d;simp [Op.equalIn,run_underlying hu]) (by simp) (by simp) (by simp) (by simp)
 case h_11 hu=>
  obtain⟨_,_,rx,_⟩:=rx;exact key _ _ rx ry (Co (by simp) (by simp)) (by cases hb;intro d;simp [Op.equalIn,run_underlying hu]) (by simp) (by simp) (by simp) (by simp)
 case h_12 hu=>
  obtain⟨_,_,ry,_⟩:=ry;exact key _ _ rx ry (Co (by simp) (by simp)) (by cases hb;intro d;simp [Op.equalIn,run_underlying hu]) (by simp) (by simp) (by simp) (by simp)
 case h_13 hu=>exact key _ _ rx ry (Co (by simp) (by simp)) (by cases hb;intro d;simp [Op.equalIn,run_underlying hu]) (by simp) (by simp) (by simp) (by simp)
 case h_14 hu=>
  obtain⟨_,_,rx,_⟩:=rx;exact key _ _ rx ry (Co (by simp) (by simp)) (by cases hb;intro d;simp [Op.equalIn,run_underlying hu]) (by simp) (by simp) (by simp) (by simp)
 case h_15 hu=>
  obtain⟨_,_,ry,_⟩:=ry;exact key _ _ rx ry (Co (by simp) (by simp)) (by cases hb;intro d;simp [Op.equalIn,run_underlying hu]) (by simp) (by simp) (by simp) (by simp)
theorem Bw0 (hS:Sim G N s a w) (hd:Cq N o.dst=true) {op:BinOp} {t t':TypeId} {x y:Operand} (hx:Cd N x=true) (hy:Cd N y=true) (he:o.op= .binOp op t x y t')
  (h:Ix P t (Ed x || Ed y) op o.dst (dev G s.env x) (dev G s.env y) K s):PV P o s a w K:=by
 have rx:=Bx hS hx;have ry:=Bx hS hy;generalize dev G s.env x=dx at h rx;generalize dev G s.env y=dy at h ry;unfold Ix at h;split at h
 ·simp only[Rel] at rx ry;exact Cn6 hS hd he rx ry h
 ·simp only[Rel] at rx ry;exact Cn7 hS hd he rx ry h
 ·rename_i xs ys
  obtain⟨hag,hge,h⟩:=h;simp only[Rel] at rx ry;obtain⟨vx,hxv,rlx⟩:=rx;obtain⟨vy,hyv,rly⟩:=ry;obtain⟨n,b,hn,hb,hK⟩:=Wp h;have hrun:=Jw (w:=w) (H:=s.heap) 6 10000 (by omega) t _ _ (.agg vx) (.agg vy) true b hag (by simpa [Value.cells] using rlx) (by simpa [Value.cells] using rly) (fun _=>⟨_,rfl⟩) (fun _=>⟨_,rfl⟩) hb;have hgd:(eqGuard op t x y (.agg vx) (.agg vy)).run P w= .ok () w:=by
   unfold eqGuard;cases op<;>simp [program,Sem.run,hge]
  have hrb:=Uv (P:=P) (w:=w) (t:=t) (x:= .agg vx) (y:= .agg vy) (b:=b) hrun hn (by simp) (by simp) (by simp) (by simp);refine Zu hS hd (b:=if n then !b else b) ?_ hK;simp [execOp,he,hxv,hyv,hgd,hrb]
 ·exact Dp8 hS hd he rx ry h
theorem Wq {t e:TypeId} (hu:P.underlying t=some (.slice e)) (d:Nat) {ad:Option Addr} {n cap:Nat}:(Op.equalIn (d+1) t (.slice ad n cap) (.slice none 0 0)).run P w= .ok ad.isNone w:=by
 cases ad<;>simp [Op.equalIn,run_underlying hu]
theorem Dp9 (hS:Sim G N s a w) (hd:Cq N o.dst=true) {op:BinOp} {t t':TypeId} {x y:Operand} (hx:Cd N x=true) (hy:Cd N y=true) (he:o.op= .binOp op t x y t')
  (h:Sz P t (Ed x || Ed y) op o.dst (Fm y) (dev G s.env x) (dev G s.env y) K s):PV P o s a w K:=by
 cases hn:Fm y with
 | false=>
  rw[hn,Kt] at h;exact Bw0 hS hd hx hy he h
 | true=>
  rw[hn] at h;by_cases hv: ∃cs n,dev G s.env x= .vslice cs n
  ·obtain⟨cs,n,hv⟩:=hv;have rx:=Bx hS hx;rw[hv] at h rx;simp only[Sz] at h;obtain⟨ht,h⟩:=h;simp only[Rel] at rx;obtain⟨ad,cap,hev,hle,hcs⟩:=rx;have hyv:a.eval y= .slice none 0 0:=by
    unfold Fm at hn;split at hn<;>first | rfl | cases hn
   cases hu:P.underlying t with
   | none=>rw[hu] at ht;cases ht
   | some d=>
    rw[hu] at ht;cases d<;>first | (cases ht;done) | skip
    refine Dl4 hS hd he hev hyv (b:=ad.isNone) (Co (by simp) (by simp)) ?_ (by simp) (by simp) (by simp) (by simp) (h ad.isNone ?_)
    ·exact Wq hu 9999
    ·intro hc;rcases hcs with hcs | ⟨b,o',xs,rfl,_⟩
     ·exact(hc hcs).elim
     ·rfl
  ·refine Bw0 hS hd hx hy he ?_;revert h hv;generalize dev G s.env x=dx;intro h hv;cases dx<;>first | exact h | exact(hv ⟨_,_,rfl⟩).elim
end
end Go.Dl

-- THE DATA LEVEL, PART Q: further operations: structs, addresses, slices.
namespace Go.Dl
open Go
section
variable {P:Program} {G:Nat->DVal} {N:Fr}
variable {o:Oper} {s:DS} {a:Act} {w:World} {K:DK} {Qx:Exit->Act->World->Prop}
theorem Ku (n:Nat) (zs:List DVal):(repl n zs).length=n*zs.length:=by
 unfold repl
 induction n with
 | zero=>simp
 | succ n ih=>simp [List.replicate_succ,ih,Nat.succ_mul];omega
theorem Cn8 (n:Nat) (zs:List DVal) (i:Nat) (hi:i<n*zs.length):(repl n zs)[i]? =zs[i%zs.length]? :=by
 induction n generalizing i with
 | zero=>simp at hi
 | succ n ih=>
  have hr:repl (n+1) zs=zs++repl n zs:=by simp [repl,List.replicate_succ]
  rw[hr];by_cases h:i<zs.length
  ·rw[List.getElem?_append_left h,Nat.mod_eq_of_lt h]
  ·have e:(n+1)*zs.length=n*zs.length+zs.length:=Nat.succ_mul _ _;rw[List.getElem?_append_right (by omega),ih (i-zs.length) (by omega)];congr 1;exact(Nat.mod_eq_sub_mod (by omega)).symm
theorem Sm {H:Bb} {zs:List DVal} {vs:Array Value} (h:Br w H zs vs.toList) (n m:Nat) (hm:m=n*zs.length):
  Br w H (repl n zs) ((Array.range m).map (vs[· %vs.size]!)).toList:=by
 have hl:=h.length;refine Br.mk (by simp [Ku,hm]) fun i d x h1 h2=> ?_;have hi:i<m:=by
  rcases Nat.lt_or_ge i m with h' | h'
  ·exact h'
  ·rw[List.getElem?_eq_none (by rw[Ku];omega)] at h1;cases h1
 have hz:0<zs.length:=by
  rcases Nat.eq_zero_or_pos zs.length with e | e
  ·rw[e] at hm;simp at hm;omega
  ·exact e
 rw[Cn8 n zs i (by omega)] at h1;obtain⟨y,hy,hr⟩:=h.get h1;have hsz:vs.size=zs.length:=by rw[hl];simp
 have:x=y:=by
  have h3:((Array.range m).map (vs[· %vs.size]!)).toList[i]? =some (vs[i%vs.size]!):=by simp [hi]
  rw[h3] at h2;cases h2;have hlt:i%vs.size<vs.size:=Nat.mod_lt _ (by omega);have:vs.toList[i%zs.length]? =some (vs[i%vs.size]!):=by
   rw[<-hsz];simp [hlt]
  rw[this] at hy;cases hy;rfl
 subst this;exact hr
theorem Cb6 (vs:List Value): ∀(j off:Nat) (c:Array Value),off+j+vs.length<=c.size->
  ((vs.zipIdx j).foldl (fun cs (p:Value×Nat)=>cs.setIfInBounds (off+p.2) p.1) c).toList=c.toList.take (off+j)++vs++c.toList.drop (off+j+vs.length):=by
 induction vs with
 | nil=>intro j off c _;simp
 | cons v vs ih=>
  intro j off c h;simp only[List.length_cons] at h;simp only[List.zipIdx_cons,List.foldl_cons];rw[ih (j+1) off _ (by simp;omega)];have hci:off+j<c.toList.length:=by simp;omega
  rw[Array.toList_setIfInBounds,List.length_cons,<-Nat.add_assoc];have e1:(c.toList.set (off+j) v).take (off+j+1)=c.toList.take (off+j)++ [v]:=by
   rw[List.take_set,List.take_succ_eq_append_getElem hci,List.set_append_right _ _ (by simp;omega)];have e0:off+j-min (off+j) c.size=0:=by omega
   simp [e0]
  have e2:(c.toList.set (off+j) v).drop (off+j+1+vs.length)=c.toList.drop (off+j+(vs.length+1)):=by
   rw[List.drop_set,if_pos (by omega)];congr 1;omega
  rw[e1,e2];simp
theorem Re {H:Bb} (place:Nat->Option (Nat×Nat)): ∀(parts:List (Nat×DVal)) (vs:List (Nat×Value)) (cs:List DVal) (c:Array Value) (out:List DVal),
  Br w H cs c.toList->parts.length=vs.length->(∀(j:Nat) (i:Nat) (d:DVal),parts[j]? =some (i,d)-> ∃v,vs[j]? =some (i,v)/\Br w H d.cells v.cells.toList)->
  Iz place cs parts=some out-> ∃c',Instr.fill place c vs=some c'/\Br w H out c'.toList
 | [],[],cs,c,out,hc,_,_,h=>by
  simp only[Iz] at h;cases h;exact⟨c,rfl,hc⟩
 | [],_::_,_,_,_,_,hl,_,_=>by simp at hl
 | _::_,[],_,_,_,_,hl,_,_=>by simp at hl
 | (i,d)::parts,(i',v)::vs,cs,c,out,hc,hl,hp,h=>by
  obtain⟨v',hv',hr⟩:=hp 0 i d rfl;simp at hv';obtain⟨rfl,rfl⟩:=hv';simp only[Iz] at h;cases hpl:place i' with
  | none=>rw[hpl] at h;cases h
  | some os=>
   obtain⟨off,size⟩:=os;rw[hpl] at h;simp only at h;split at h
   ·rename_i hle
    obtain⟨hsz,hle⟩:=hle;have hlr:=hr.length;have hlc:=hc.length;have hvs:v.cells.size=d.cells.length:=by rw[hlr];simp
    have hcs:cs.length=c.size:=by rw[hlc];simp
    have hf:(v.cells.zipIdx.foldl (fun cs (p:Value×Nat)=>cs.setIfInBounds (off+p.2) p.1) c).toList=c.toList.take off++v.cells.toList++c.toList.drop (off+v.cells.toList.length):=by
     have:=Cb6 v.cells.toList 0 off c (by simp;omega);rw[<-Array.foldl_toList,Array.toList_zipIdx];simpa using this
    obtain⟨c',h1,h2⟩:=Re place parts vs (cs.take off++d.cells++cs.drop (off+d.cells.length)) (v.cells.zipIdx.foldl (fun cs (p:Value×Nat)=>cs.setIfInBounds (off+p.2) p.1) c) out
     (by rw[hf,<-hlr];exact((hc.take off).append hr).append (hc.drop _)) (by simpa using hl) (fun j i d hj=>hp (j+1) i d (by simpa using hj)) h
    refine⟨c', ?_,h2⟩;simp only[Instr.fill,hpl];rw[if_neg (by simp only[Bool.or_eq_true,decide_eq_true_eq,not_or];omega)];exact h1
   ·cases h
theorem Ox {place:Nat->Option (Nat×Nat)}: ∀ {parts:List (Nat×DVal)} {cs out:List DVal},Iz place cs parts=some out->out.length=cs.length
 | [],cs,out,h=>by simp only[Iz] at h;cases h;rfl
 | (i,d)::parts,cs,out,h=>by
  simp only[Iz] at h;cases hpl:place i with
  | none=>rw[hpl] at h;cases h
  | some os=>
   rw[hpl] at h;simp only at h;split at h
   ·rename_i hle
    rw[Ox h];simp;omega
   ·cases h
theorem Wr {s:DS} (hS:Sim G N s a w): ∀(ps:List (Nat×Operand)),(ps.all fun p=>Cd N p.2)=true->
  (Hb G s.env ps).length=(ps.map fun p=>(p.1,a.eval p.2)).length/\
  ∀(j i:Nat) (d:DVal),(Hb G s.env ps)[j]? =some (i,d)-> ∃v,(ps.map fun p=>(p.1,a.eval p.2))[j]? =some (i,v)/\Br w s.heap d.cells v.cells.toList
 | [],_=>⟨rfl,by simp [Hb]⟩
 | (i,x)::ps,h=>by
  simp only[List.all_cons,Bool.and_eq_true] at h;obtain⟨h1,h2⟩:=Wr hS ps h.2;refine⟨by simpa [Hb] using h1,fun j i' d hj=> ?_⟩;cases j with
  | zero=>
   simp [Hb] at hj;obtain⟨rfl,rfl⟩:=hj;exact⟨_,rfl,Hk (Bx hS h.1)⟩
  | succ j=>simpa using h2 j i' d (by simpa [Hb] using hj)
theorem Az6 {t:TypeId} {z:DVal} (h:Bz P t=some z): ∃v,(∀w,(zeroValue t).run P w= .ok v w)/\(∀(w:World) (H:Bb),Br w H z.cells v.cells.toList):=by
 unfold Bz at h;cases hi:P.info? t with
 | none=>simp [hi] at h
 | some i=>
  cases hz:i.zero with
  | none=>simp [hi,hz] at h
  | some v=>
   simp [hi,hz] at h;subst h;exact⟨v,fun w=>by simp [zeroValue,Li hi,hz],fun w H=>Hk (Es w H v)⟩
theorem Ze {fs:List Field} (h:fs.all (fun f=>(P.info? f.type).isSome)=true):
  (fs.mapM (fun f=>(do pure (f.offset,<-sizeOf f.type):Sem (Nat×Nat)))).run P w= .ok (fs.map fun f=>(f.offset,P.cellsOf f.type)) w:=by
 induction fs with
 | nil=>simp
 | cons f fs ih=>
  simp only[List.all_cons,Bool.and_eq_true] at h;simp only[List.mapM_cons,Sem.run_bind,Cv h.1,Result.andThen_ok,Sem.run_pure,ih h.2,List.map_cons]
theorem Dc3 (hS:Sim G N s a w) (hd:Cq N o.dst=true) {t:TypeId} {ps:Array (Nat×Operand)} (hp:(ps.toList.all fun p=>Cd N p.2)=true) (he:o.op= .build t ps)
  (h:Tk P o.dst (Mo P t) (P.underlying t) (Bz P t) (Hb G s.env ps.toList) K s):o.wp P a w (Fi G N K s w) Qx:=by
 obtain⟨hl,hpr⟩:=Wr hS ps.toList hp;cases hb:Mo P t with
 | false=>rw[hb] at h;exact h.elim
 | true=>
  rw[hb] at h;cases hz:Bz P t with
  | none=>rw[hz] at h;cases hu:P.underlying t with
   | none=>rw[hu] at h;exact h.elim
   | some td=>rw[hu] at h;cases td<;>exact h.elim
  | some z=>
   obtain⟨v,hv,hvr⟩:=Az6 hz;rw[hz] at h;have hmap:(ps.map fun p=>(p.1,a.eval p.2)).toList=ps.toList.map fun p=>(p.1,a.eval p.2):=by simp
   cases hu:P.underlying t with
   | none=>rw[hu] at h;exact h.elim
   | some td=>
    rw[hu] at h;unfold Mo at hb;rw[hu] at hb;cases td<;>try exact h.elim
    case struct fs=>
     obtain⟨d,hd',hK⟩:=Gn h;simp only[Option.map_eq_some_iff] at hd';obtain⟨out,hout,rfl⟩:=hd';obtain⟨c',h1,h2⟩:=Re _ _ _ _ _ _ (hvr w s.heap) hl hpr hout;refine Gr hS hd (x:= .agg c') ?_ (by simp only[Rel];exact⟨c',rfl,h2⟩) hK;have hm:(fs.mapM (fun f=>(do pure (f.offset,<-sizeOf f.type):Sem (Nat×Nat)))).run P w= .ok (fs.map fun f=>(f.offset,P.cellsOf f.type)) w:=by
      rw[Array.mapM_eq_mapM_toList];simp only[Sem.run_map,Ze (w:=w) hb,Result.andThen_ok];congr 1;apply Array.ext';simp
     have hplace:(fun i=>(fs.map fun f=>(f.offset,P.cellsOf f.type))[i]?)=Aq9 P fs:=by
      funext i;simp [Aq9]
     simp only[execOp,he,Instr.build,Sem.run_bind,hv,run_underlying hu,Result.andThen_ok,hm,hplace,hmap,h1];simp
    case array n e=>
     obtain⟨d,hd',hK⟩:=Gn h;simp only[Option.map_eq_some_iff] at hd';obtain⟨out,hout,rfl⟩:=hd';obtain⟨c',h1,h2⟩:=Re _ _ _ _ _ _ (hvr w s.heap) hl hpr hout;refine Gr hS hd (x:= .agg c') ?_ (by simp only[Rel];exact⟨c',rfl,h2⟩) hK;have hplace:(fun i=>some (i*P.cellsOf e,P.cellsOf e))=Qw (P.cellsOf e):=rfl;simp only[execOp,he,Instr.build,Sem.run_bind,hv,run_underlying hu,Result.andThen_ok,Cv hb,hplace,hmap,h1];simp
theorem Ar9 (hS:Sim G N s a w) (hd:Cq N o.dst=true) {t:TypeId} {n:Nat} {ps:Array (Nat×Operand)} (hp:(ps.toList.all fun p=>Cd N p.2)=true) (he:o.op= .buildSlice t n ps)
  (h:Ik P n o.dst (P.underlying t) (Hb G s.env ps.toList) K s):o.wp P a w (Fi G N K s w) Qx:=by
 obtain⟨hl,hpr⟩:=Wr hS ps.toList hp;have hmap:(ps.map fun p=>(p.1,a.eval p.2)).toList=ps.toList.map fun p=>(p.1,a.eval p.2):=by simp
 cases hu:P.underlying t with
 | none=>rw[hu] at h;exact h.elim
 | some td=>
  rw[hu] at h;cases td<;>try exact h.elim
  rename_i e
  simp only[Ik] at h;cases hz:Bz P e with
  | none=>rw[hz] at h;exact h.elim
  | some z=>
   obtain⟨v,hv,hvr⟩:=Az6 hz;rw[hz] at h;obtain⟨hle,hzl,h⟩:=h;cases hf:Iz (Qw (P.cellsOf e)) (repl n z.cells) (Hb G s.env ps.toList) with
   | none=>rw[hf] at h;exact h.elim
   | some out=>
    rw[hf] at h;have hie:(P.info? e).isSome=true:=by
     unfold Bz at hz;cases hi:P.info? e with
     | none=>simp [hi] at hz
     | some i=>rfl
    have hb:=Sm (hvr w s.heap) n (n*P.cellsOf e) (by rw[hzl]);have hvs:v.cells.size=P.cellsOf e:=by rw[<-hzl,(hvr w s.heap).length];simp
    have hplace:(fun i=>some (i*P.cellsOf e,P.cellsOf e))=Qw (P.cellsOf e):=rfl;by_cases h0:n*P.cellsOf e=0
    ·have hb0:Br w s.heap (repl n z.cells) ((Array.range (n*P.cellsOf e)).map ((#[]:Array Value)[· %(#[]:Array Value).size]!)).toList:=by
      rw[h0] at hb⊢;simpa using hb
     obtain⟨c',h1,h2⟩:=Re _ _ _ _ _ _ hb0 hl hpr hf;refine Uu hS hd (c:=c') (n:=w.drawn) (Nat.le_refl n) (Nat.le_refl n) (by rw[<-Array.length_toList,<-h2.length,Ox hf,Ku,hzl];omega) ?_ h2 (List.prefix_refl _) h;simp only[execOp,he,Instr.buildSlice,Sem.run_bind,run_underlying hu,Result.andThen_ok,Cv hie];rw[if_neg (by simp;omega)];simp only[h0] at h1;simp only[hplace,hmap,h0,if_true,Sem.run_bind,Sem.run_pure,Result.andThen_ok,h1];simp [newRow];rfl
    ·obtain⟨c',h1,h2⟩:=Re _ _ _ _ _ _ hb hl hpr hf;refine Uu hS hd (c:=c') (n:=w.drawn) (Nat.le_refl n) (Nat.le_refl n) (by rw[<-Array.length_toList,<-h2.length,Ox hf,Ku,hzl];omega) ?_ h2 (List.prefix_refl _) h;simp only[execOp,he,Instr.buildSlice,Sem.run_bind,run_underlying hu,Result.andThen_ok,Cv hie];rw[if_neg (by simp;omega)];simp only[hplace,hmap,h0,if_false];simp [hv,h1,newRow];rfl
end
end Go.Dl

-- THE DATA LEVEL, PART R: further operations: addresses, slices, append, calls.
namespace Go.Dl
open Go
section
variable {P:Program} {G:Nat->DVal} {N:Fr}
variable {o:Oper} {s:DS} {a:Act} {w:World} {K:DK} {Qx:Exit->Act->World->Prop}
theorem Az7 (hS:Sim G N s a w) (hd:Cq N o.dst=true) {t:TypeId} {x:Operand} {f:Nat} (hx:Cd N x=true) (he:o.op= .fieldAddr t x f)
  (h:Ic P f (dev G s.env x) o.dst (P.underlying t) K s):PV P o s a w K:=by
 have r:=Bx hS hx;cases hu:P.underlying t with
 | none=>rw[hu] at h;exact h.elim
 | some td=>
  rw[hu] at h;cases td<;>try exact h.elim
  rename_i fs
  simp only[Ic] at h;cases hf:fs[f]? with
  | none=>rw[hf] at h;exact h.elim
  | some fd=>
   rw[hf] at h;obtain⟨hsz,h⟩:=h;obtain⟨d,hd',hK⟩:=Gn h;have hi:(P.info? fd.type).isSome=true:=by
    cases hi:P.info? fd.type with
    | none=>simp [Program.cellsOf,hi] at hsz
    | some i=>rfl
   have key: ∀b off,a.eval x= .pointer (some ⟨b,off,none⟩)->(execOp a.eval o).run P w= .ok (.value (.pointer (some ⟨b,off+fd.offset,none⟩))) w:=by
    intro b off hp;simp [execOp,he,hp,Instr.fieldAt,run_underlying hu,hf,Instr.sureAddr,fieldPlace,Cv hi,Nat.pos_iff_ne_zero.1 hsz,Hj]
   cases hv:dev G s.env x<;>rw[hv] at hd' r<;>simp only[Lh] at hd'<;>try (cases hd';done)
   case vptr cs off=>
    cases hd';simp only[Rel] at r;obtain⟨b,o',xs,hp,hc,hl⟩:=r;refine pvI hS hd (key _ _ hp) ?_ hK;simp only[Rel];exact⟨b,o',xs,by rw[Nat.add_assoc],hc,hl⟩
   case optr r0 off=>
    cases hd';simp only[Rel] at r;exact pvI hS hd (key _ _ r) (by simp [Rel]) hK
theorem Bw1 {size:Nat} {ag:Option Bool} {t:TypeId} (hag:Dg P t=ag) (hsz:P.cellsOf t=size) {cs:List DVal} {xs:Array Value} {H:Bb} (hr:Br w H cs xs.toList) {off:Nat} {dst:Option Nat}
  (h:Ab5 size cs off dst ag K s): ∃d x,(part t xs off).run P w= .ok x w/\Rel w H d x/\Cb dst d K s:=by
 subst hsz;cases ag with
 | none=>exact h.elim
 | some ag=>
  cases ag with
  | true=>
   refine⟨_, .agg (xs.extract off (off+P.cellsOf t)),by simp [part,Im hag,Cv (Ms hag)], ?_,h⟩;have:(xs.extract off (off+P.cellsOf t)).toList=(xs.toList.drop off).take (P.cellsOf t):=by simp [Array.toList_extract,List.extract]
   simp only[Rel];exact⟨_,rfl,by rw[this];exact(hr.drop off).take _⟩
  | false=>
   obtain⟨d,hd,hK⟩:=Gn h;obtain⟨x,hx,hrel⟩:=hr.get hd;have:xs[off]? =some x:=by simpa using hx
   exact⟨d,x,by simp [part,Im hag,this],hrel,hK⟩
theorem Dc4 (hS:Sim G N s a w) (hd:Cq N o.dst=true) {t:TypeId} {x:Operand} {f:Nat} (hx:Cd N x=true) (he:o.op= .field t x f)
  (h:Tn P f o.dst (P.underlying t) (dev G s.env x) K s):PV P o s a w K:=by
 have r:=Bx hS hx;cases hu:P.underlying t with
 | none=>rw[hu] at h;exact h.elim
 | some td=>
  rw[hu] at h;cases td<;>try (cases dev G s.env x<;>exact h.elim)
  rename_i fs
  cases hv:dev G s.env x<;>rw[hv] at h r<;>try exact h.elim
  rename_i cs
  simp only[Tn] at h;simp only[Rel] at r;obtain⟨xs,hp,hl⟩:=r;cases hf:fs[f]? with
  | none=>rw[hf] at h;exact h.elim
  | some fd=>
   rw[hf] at h;obtain⟨d,y,hrun,hrel,hK⟩:=Bw1 (w:=w) rfl rfl hl h;refine pvI hS hd ?_ hrel hK;simp [execOp,he,hp,Instr.field,run_underlying hu,hf,asAgg,hrun]
theorem Az8 (hS:Sim G N s a w) (hd:Cq N o.dst=true) {t:TypeId} {x i:Operand} (hx:Cd N x=true) (hi:Cd N i=true) (he:o.op= .indexAddr t x i)
  (h:Ie P o.dst (P.underlying t) (dev G s.env x) (dev G s.env i) K s):PV P o s a w K:=by
 have rx:=Bx hS hx;have ri:=Bx hS hi;generalize hu:P.underlying t=u at h;generalize dev G s.env x=dx at h rx;generalize dev G s.env i=di at h ri;unfold Ie at h;split at h
 ·rename_i e cs len k n
  obtain⟨hie,h0,hlt,hle,hK⟩:=h;simp only[Rel] at rx ri;obtain⟨ad,cap,hp,hcap,hc⟩:=rx;rcases hc with rfl | ⟨b,o',xs,rfl,hc,hl⟩
  ·simp at hle
  ·refine pvI hS hd (x:= .pointer (some ⟨b,o'+n.toNat*P.cellsOf e,none⟩)) ?_ (by simp only[Rel];exact⟨b,o',xs,rfl,hc,hl⟩) hK;simp [execOp,he,hp,ri,Instr.indexAt,asIntOf,run_underlying hu,Cv hie,h0,hlt,Hj]
 ·rename_i e _ r0 off len lo k n
  obtain⟨hie,h0,hlt,hK⟩:=h;simp only[Rel] at rx ri;obtain⟨o',cap,hp,hlo,hcap,hoff,_⟩:=rx;have:o'=off:=by rcases hoff with e | e<;>omega
  subst this;refine pvI hS hd (x:= .pointer (some ⟨r0,o'+n.toNat*P.cellsOf e,none⟩)) ?_ (by simp [Rel]) hK;simp [execOp,he,hp,ri,Instr.indexAt,asIntOf,run_underlying hu,Cv hie,h0,hlt,Hj]
 ·rename_i m e k n
  obtain⟨hie,h0,hlt,h⟩:=h;simp only[Rel] at ri;obtain⟨d,hd',hK⟩:=Gn h;have key: ∀b off,a.eval x= .pointer (some ⟨b,off,none⟩)->(execOp a.eval o).run P w= .ok (.value (.pointer (some ⟨b,off+n.toNat*P.cellsOf e,none⟩))) w:=by
   intro b off hp;simp [execOp,he,hp,ri,Instr.indexAt,asIntOf,run_underlying hu,Cv hie,Instr.sureAddr,h0,hlt,Hj]
  cases dx<;>simp only[Lh] at hd'<;>try (cases hd';done)
  case vptr cs off=>
   cases hd';simp only[Rel] at rx;obtain⟨b,o',xs,hp,hc,hl⟩:=rx;refine pvI hS hd (key _ _ hp) ?_ hK;simp only[Rel];exact⟨b,o',xs,by rw[Nat.add_assoc],hc,hl⟩
  case optr r0 off=>
   cases hd';simp only[Rel] at rx;exact pvI hS hd (key _ _ rx) (by simp [Rel]) hK
 ·exact h.elim
theorem Dc5 (hS:Sim G N s a w) (hd:Cq N o.dst=true) {t:TypeId} {x i:Operand} (hx:Cd N x=true) (hi:Cd N i=true) (he:o.op= .index t x i)
  (h:Wl P o.dst (P.underlying t) (dev G s.env x) (dev G s.env i) K s):PV P o s a w K:=by
 have rx:=Bx hS hx;have ri:=Bx hS hi;generalize hu:P.underlying t=u at h;generalize dev G s.env x=dx at h rx;generalize dev G s.env i=di at h ri;unfold Wl at h;split at h
 ·rename_i m e cs k n
  obtain⟨h0,hlt,h⟩:=h;simp only[Rel] at rx ri;obtain⟨xs,hp,hl⟩:=rx;have hie:(P.info? e).isSome=true:=by
   cases hag:Dg P e with
   | none=>rw[hag] at h;exact h.elim
   | some b=>exact Ms hag
  obtain⟨d,y,hrun,hrel,hK⟩:=Bw1 (w:=w) rfl rfl hl h;refine pvI hS hd ?_ hrel hK;simp [execOp,he,hp,ri,Instr.index,asIntOf,run_underlying hu,h0,hlt,Cv hie,hrun]
 ·rename_i l k n
  obtain⟨h0,h⟩:=h;obtain⟨d,hd',hK⟩:=Gn h;simp only[Option.map_eq_some_iff] at hd';obtain⟨c,hc,rfl⟩:=hd';simp only[Rel] at rx ri;refine pvI hS hd (x:= .int .u8 c.toNat) ?_ (by simp [Rel]) hK;have hb:(ByteArray.mk ⟨l⟩)[n.toNat]? =some c:=by
   have hlt:n.toNat<l.length:=by
    rcases Nat.lt_or_ge n.toNat l.length with h' | h'
    ·exact h'
    ·rw[List.getElem?_eq_none h'] at hc;cases hc
   rw[List.getElem?_eq_getElem hlt] at hc;cases hc;have:n.toNat<(ByteArray.mk ⟨l⟩).size:=hlt;rw[getElem?_pos (ByteArray.mk ⟨l⟩) n.toNat this];rfl
  simp [execOp,he,rx,ri,Instr.index,asIntOf,run_underlying hu,h0,hb]
 ·exact h.elim
theorem In {t:TypeId} {z:DVal} (h:Bz P t=some z): ∃i v,P.info? t=some i/\i.zero=some v/\z=De v:=by
 unfold Bz at h;cases hi:P.info? t with
 | none=>simp [hi] at h
 | some i=>
  cases hz:i.zero with
  | none=>simp [hi,hz] at h
  | some v=>
   simp [hi,hz] at h;exact⟨i,v,rfl,hz,h.symm⟩
theorem Az9 (hS:Sim G N s a w) (hd:Cq N o.dst=true) {t:TypeId} {l c:Operand} (hl:Cd N l=true) (hc:Cd N c=true) (he:o.op= .makeSlice t l c)
  (h:Ju P o.dst (P.underlying t) (dev G s.env l) (dev G s.env c) K s):o.wp P a w (Fi G N K s w) Qx:=by
 have rl:=Bx hS hl;have rc:=Bx hS hc;generalize hu:P.underlying t=u at h;generalize dev G s.env l=dl at h rl;generalize dev G s.env c=dc at h rc;unfold Ju at h;split at h
 ·rename_i e k n k' m
  simp only[Rel] at rl rc;cases hz:Bz P e with
  | none=>rw[hz] at h;exact h.elim
  | some z=>
   rw[hz] at h;obtain⟨h0,hle,hb,hm,hzl,hpos,h⟩:=h;obtain⟨ie,v,hie,hiz,rfl⟩:=In hz;have hby:P.bytesOf e=ie.bytes:=by simp [Program.bytesOf,hie]
   have hcs:P.cellsOf e=ie.size:=by simp [Program.cellsOf,hie]
   rw[hby] at hb;have hvr:Br w s.heap (De v).cells v.cells.toList:=Hk (Es w s.heap v);have hr:=Sm hvr m.toNat (m.toNat*ie.size) (by rw[hzl,hcs]);have hrun:=run_make (P:=P) w t e ie v hu hie hiz k k' n m h0 hle (by rw[Int.mul_comm];omega) (by omega);exact Uu hS hd (n:=w.drawn) (Nat.le_refl _) (by omega) (by simp [hcs]) (by simp [execOp,he,rl,rc,hrun];rfl) hr (List.prefix_refl _) h
 ·exact h.elim
theorem Ac3 (hS:Sim G N s a w) {x:Option Operand} (hx:(match x with | some x=>Cd N x | none=>true)=true):
  (x=none/\Ks G s.env x=none)\/ ∃y,x=some y/\Ks G s.env x=some (dev G s.env y)/\Rel w s.heap (dev G s.env y) (a.eval y):=by
 cases x with
 | none=>exact .inl ⟨rfl,rfl⟩
 | some y=>exact .inr ⟨y,rfl,rfl,Bx hS hx⟩
theorem Dx {k:IntKind} {n:Int} {y:Nat} {c:BoundsCode} (h0:0<=n) (h1:n<=y):(Instr.sliceBound (.int k n) y c).run P w= .ok n.toNat w:=by
 simp [Instr.sliceBound,asIntOf,h0,h1]
theorem Ux (hS:Sim G N s a w) {x:Option Operand} (hx:(match x with | some x=>Cd N x | none=>true)=true) {n:Int} (h:dLo (Ks G s.env x)=some n):
  (x=none/\n=0)\/ ∃y k,x=some y/\a.eval y= .int k n:=by
 rcases Ac3 hS hx with⟨rfl,e⟩ | ⟨y,rfl,e,r⟩
 ·rw[e] at h;simp [dLo] at h;exact .inl ⟨rfl,h.symm⟩
 ·rw[e] at h
  cases hd:dev G s.env y<;>rw[hd] at h r<;>simp [dLo] at h
  subst h
  simp only[Rel] at r
  exact .inr ⟨y,_,rfl,r⟩
theorem Cn9 (hS:Sim G N s a w) {x:Option Operand} (hx:(match x with | some x=>Cd N x | none=>true)=true) {l:Nat} {n:Int} (h:dHi l (Ks G s.env x)=some n):
  (x=none/\n=l)\/ ∃y k,x=some y/\a.eval y= .int k n:=by
 rcases Ac3 hS hx with⟨rfl,e⟩ | ⟨y,rfl,e,r⟩
 ·rw[e] at h;simp [dHi] at h;exact .inl ⟨rfl,h.symm⟩
 ·rw[e] at h
  cases hd:dev G s.env y<;>rw[hd] at h r<;>simp [dHi] at h
  subst h
  simp only[Rel] at r
  exact .inr ⟨y,_,rfl,r⟩
theorem Io (hS:Sim G N s a w) {lo hi:Option Operand} (hlo:(match lo with | some x=>Cd N x | none=>true)=true) (hhi:(match hi with | some x=>Cd N x | none=>true)=true)
  {b:Bool} {len cap:Nat} {l h:Int} (el:dLo (Ks G s.env lo)=some l) (eh:dHi len (Ks G s.env hi)=some h) (h0:0<=l) (h1:l<=h) (h2:h<=cap):
  (Instr.sliceBounds b len cap (lo.map a.eval) (hi.map a.eval) none).run P w= .ok (l.toNat,h.toNat,cap) w:=by
 rcases Ux hS hlo el with⟨rfl,rfl⟩ | ⟨y,k,rfl,ey⟩<;>rcases Cn9 hS hhi eh with⟨rfl,rfl⟩ | ⟨z,k',rfl,ez⟩
 ·simp [Instr.sliceBounds]
 ·simp [Instr.sliceBounds,ez,Dx (P:=P) (w:=w) (k:=k') (n:=h) (y:=cap) (by omega) h2]
 ·simp [Instr.sliceBounds,ey,Dx (P:=P) (w:=w) (k:=k) (n:=l) (y:=len) h0 h1]
 ·have:l<=(h.toNat:Int):=by omega
  simp [Instr.sliceBounds,ey,ez,Dx (P:=P) (w:=w) (k:=k') (n:=h) (y:=cap) (by omega) h2,Dx (P:=P) (w:=w) (k:=k) (n:=l) (y:=h.toNat) h0 this]
theorem Ba0 (hS:Sim G N s a w) {lo hi mx:Option Operand} (hlo:(match lo with | some x=>Cd N x | none=>true)=true) (hhi:(match hi with | some x=>Cd N x | none=>true)=true) (hmx:(match mx with | some x=>Cd N x | none=>true)=true)
  {b:Bool} {len cap:Nat} {l h m:Int} (el:dLo (Ks G s.env lo)=some l) (nh:hi≠none) (nm:mx≠none) (eh:dLo (Ks G s.env hi)=some h) (em:dLo (Ks G s.env mx)=some m) (h0:0<=l) (h1:l<=h) (h2:h<=m) (h3:m<=cap):
  (Instr.sliceBounds b len cap (lo.map a.eval) (hi.map a.eval) (mx.map a.eval)).run P w= .ok (l.toNat,h.toNat,m.toNat) w:=by
 obtain⟨z,kz,rfl,ez⟩:=(Ux hS hhi eh).resolve_left (fun e=>nh e.1)
 obtain⟨u,ku,rfl,eu⟩:=(Ux hS hmx em).resolve_left (fun e=>nm e.1)
 have r1:h<=(m.toNat:Int):=by omega
 have r2:l<=(h.toNat:Int):=by omega
 rcases Ux hS hlo el with⟨rfl,rfl⟩ | ⟨y,k,rfl,ey⟩
 ·simp [Instr.sliceBounds,ez,eu,Dx (P:=P) (w:=w) (k:=ku) (n:=m) (y:=cap) (by omega) h3,Dx (P:=P) (w:=w) (k:=kz) (n:=h) (y:=m.toNat) (by omega) r1]
 ·simp [Instr.sliceBounds,ez,eu,ey,Dx (P:=P) (w:=w) (k:=ku) (n:=m) (y:=cap) (by omega) h3,Dx (P:=P) (w:=w) (k:=kz) (n:=h) (y:=m.toNat) (by omega) r1,Dx (P:=P) (w:=w) (k:=k) (n:=l) (y:=h.toNat) h0 r2]
theorem Cb1.le {r n m:Nat} (h:Cb1 w r n) (hm:m<=n):Cb1 w r m:=⟨h.1,fun k hk=>Nat.le_trans hm (h.2 k hk)⟩
theorem Dc6 (hS:Sim G N s a w) (hd:Cq N o.dst=true) {t:TypeId} {x:Operand} {lo hi mx:Option Operand} (hx:Cd N x=true)
  (hlo:(match lo with | some x=>Cd N x | none=>true)=true) (hhi:(match hi with | some x=>Cd N x | none=>true)=true) (hmx:(match mx with | some x=>Cd N x | none=>true)=true) (he:o.op= .slice t x lo hi mx)
  (h:Tm P (Ks G s.env lo) (Ks G s.env hi) o.dst (P.underlying t) (dev G s.env x) (Ks G s.env mx) K s):PV P o s a w K:=by
 have rx:=Bx hS hx
 generalize hu:P.underlying t=u at h
 generalize dev G s.env x=dx at h rx
 generalize hm:Ks G s.env mx=dm at h
 have hmn:dm=none->mx=none:=by
  intro e;subst e
  cases mx with
  | none=>rfl
  | some y=>simp [Ks] at hm
 unfold Tm at h
 split at h
 ·-- a string
  rename_i l
  obtain rfl:=hmn rfl
  simp only[Rel] at rx
  unfold Sj at h
  split at h<;>try exact h.elim
  rename_i lo' hi' el eh
  obtain⟨h0,h1,h2,hK⟩:=h
  have hb:=Io (P:=P) hS hlo hhi (b:=false) (cap:=l.length) el eh h0 h1 h2
  refine pvI hS hd (x:= .string ⟨⟨(l.drop lo'.toNat).take (hi'.toNat-lo'.toNat)⟩⟩) ?_ (by simp [Rel]) hK
  have hsz:(ByteArray.mk ⟨l⟩).size=l.length:=rfl
  have hex:(ByteArray.mk ⟨l⟩).extract lo'.toNat hi'.toNat=⟨⟨(l.drop lo'.toNat).take (hi'.toNat-lo'.toNat)⟩⟩:=by
   apply ByteArray.ext
   rw[ByteArray.data_extract]
   apply Array.ext'
   simp [Array.toList_extract,List.extract]
  simp [execOp,he,rx,Instr.sliceAt,Instr.slice,run_underlying hu,hsz,hb,hex]
 ·-- a nil slice
  rename_i e
  obtain rfl:=hmn rfl
  obtain⟨hie,h⟩:=h
  simp only[Rel] at rx
  unfold Zs at h
  split at h<;>try exact h.elim
  rename_i lo' hi' el eh
  obtain⟨rfl,rfl,hK⟩:=h
  have hb:=Io (P:=P) hS hlo hhi (b:=true) (cap:=0) el eh (by omega) (by omega) (by omega)
  refine pvI hS hd (x:= .slice none 0 0) ?_ (by simp [Rel]) hK
  simp [execOp,he,rx,Instr.sliceAt,Instr.slice,run_underlying hu,hb,Cv hie]
 ·-- memory that lasts
  rename_i e cs len
  obtain rfl:=hmn rfl
  obtain⟨hie,h⟩:=h
  simp only[Rel] at rx
  obtain⟨ad,cap,hp,hcap,hc⟩:=rx
  unfold Sk at h
  split at h<;>try exact h.elim
  rename_i lo' hi' el eh
  obtain⟨h0,h1,h2,hK⟩:=h
  have hb:=Io (P:=P) hS hlo hhi (b:=true) (cap:=cap) el eh h0 h1 (by omega)
  refine pvI hS hd (x:= .slice (if cap=lo'.toNat then ad else ad.map (·.add (lo'.toNat*P.cellsOf e))) (hi'.toNat-lo'.toNat) (cap-lo'.toNat)) ?_ ?_ hK
  ·simp [execOp,he,hp,Instr.sliceAt,Instr.slice,run_underlying hu,hb,Cv hie]
  ·simp only[Rel]
   refine⟨_,_,rfl,by omega, ?_⟩
   by_cases hcl:cap=lo'.toNat
   ·have:hi'.toNat-lo'.toNat=0:=by omega
    rw[this];exact .inl (by simp)
   ·rw[if_neg hcl]
    rcases hc with rfl | ⟨b,o',xs,rfl,hc,hl⟩
    ·exact .inl (by simp)
    ·refine .inr ⟨b,o'+lo'.toNat*P.cellsOf e,(xs.drop (lo'.toNat*P.cellsOf e)).take ((hi'.toNat-lo'.toNat)*P.cellsOf e),by simp [Hj], ?_,(hl.drop _).take _⟩
     rcases hc with rfl | ⟨g1,g2⟩
     ·exact .inl (by simp)
     ·exact .inr ⟨g1,(Hr.drop g2).take⟩
 ·-- a slice of the call's own
  rename_i e sz r0 off len lo0
  obtain rfl:=hmn rfl
  obtain⟨hie,rfl,h⟩:=h
  simp only[Rel] at rx
  obtain⟨o',cap,hp,hlo0,hcap,hoff,hroom⟩:=rx
  unfold Mp at h
  split at h<;>try exact h.elim
  rename_i lo' hi' mx' el eh em
  cases em
  obtain⟨h0,h1,h2,h3,hK⟩:=h
  have hb:=Io (P:=P) hS hlo hhi (b:=true) (cap:=cap) el eh h0 h1 (by omega)
  refine pvI hS hd (x:= .slice (if cap=lo'.toNat then some ⟨r0,o',none⟩ else some ⟨r0,o'+lo'.toNat*P.cellsOf e,none⟩) (hi'.toNat-lo'.toNat) (cap-lo'.toNat)) ?_ ?_ hK
  ·simp [execOp,he,hp,Instr.sliceAt,Instr.slice,run_underlying hu,hb,Cv hie,Hj]
  ·simp only[Rel]
   have hsub:(cap-lo'.toNat)*P.cellsOf e+lo'.toNat*P.cellsOf e=cap*P.cellsOf e:=by
    rw[<-Nat.add_mul];congr 1;omega
   by_cases hcl:cap=lo'.toNat
   ·exact⟨o',cap-lo'.toNat,by simp [hcl],by omega,by omega, .inl (by omega),hroom.le (by omega)⟩
   ·refine⟨o'+lo'.toNat*P.cellsOf e,cap-lo'.toNat,by simp [hcl],by omega,by omega, .inr ?_,hroom.le (by omega)⟩
    rcases hoff with e1 | e1
    ·omega
    ·rw[e1]
 ·-- a slice of the call's own, with a third index
  rename_i e sz r0 off len lo0 m
  obtain⟨hie,rfl,hhs,h⟩:=h
  simp only[Rel] at rx
  obtain⟨o',cap,hp,hlo0,hcap,hoff,hroom⟩:=rx
  unfold Mp at h
  split at h<;>try exact h.elim
  rename_i lo' hi' mx' el eh em
  obtain⟨h0,h1,h2,h3,hK⟩:=h
  have hhn:hi≠none:=by rintro rfl;simp [Ks] at hhs
  have hmn':mx≠none:=by rintro rfl;simp [Ks] at hm
  have hb:=Ba0 (P:=P) hS hlo hhi hmx (b:=true) (len:=len) (cap:=cap) el hhn hmn' eh (by rw[hm];exact em) h0 h1 h2 (by omega)
  refine pvI hS hd (x:= .slice (if mx'.toNat=lo'.toNat then some ⟨r0,o',none⟩ else some ⟨r0,o'+lo'.toNat*P.cellsOf e,none⟩) (hi'.toNat-lo'.toNat) (mx'.toNat-lo'.toNat)) ?_ ?_ hK
  ·simp [execOp,he,hp,Instr.sliceAt,Instr.slice,run_underlying hu,hb,Cv hie,Hj]
  ·simp only[Rel]
   have hsub:(mx'.toNat-lo'.toNat)*P.cellsOf e+lo'.toNat*P.cellsOf e=mx'.toNat*P.cellsOf e:=by
    rw[<-Nat.add_mul];congr 1;omega
   have hmc:mx'.toNat*P.cellsOf e<=cap*P.cellsOf e:=Nat.mul_le_mul_right _ (by omega)
   by_cases hcl:mx'.toNat=lo'.toNat
   ·exact⟨o',mx'.toNat-lo'.toNat,by simp [hcl],by omega,by omega, .inl (by omega),hroom.le (by omega)⟩
   ·refine⟨o'+lo'.toNat*P.cellsOf e,mx'.toNat-lo'.toNat,by simp [hcl],by omega,by omega, .inr ?_,hroom.le (by omega)⟩
    rcases hoff with e1 | e1
    ·omega
    ·rw[e1]
 ·-- an array of the call's own
  rename_i n e r0 off
  obtain rfl:=hmn rfl
  obtain⟨hie,hrm,h⟩:=h
  simp only[Rel] at rx
  have hroom:Cb1 w r0 (off+n*P.cellsOf e):=by
   cases hh:s.heap r0 with
   | none=>rw[hh] at hrm;exact hrm.elim
   | some ob=>
    cases ob with
    | loop=>rw[hh] at hrm;exact hrm.elim
    | iter=>rw[hh] at hrm;exact hrm.elim
    | map=>rw[hh] at hrm;exact hrm.elim
    | cells cs e'=>
     rw[hh] at hrm
     obtain⟨xs,c,fz,g1,g2,g3,g4⟩:=hS.heap r0 _ hh
     refine⟨hS.heap.lt (by simp [hh]),fun k hk=> ?_⟩
     rw[g1] at hk
     simp [Jq] at hk
     have:=g3.length
     have:=g2.length_le
     simp only[Array.length_toList] at this
     simp only[Bv4] at hrm
     omega
  unfold Mp at h
  split at h<;>try exact h.elim
  rename_i lo' hi' mx' el eh em
  cases em
  obtain⟨h0,h1,h2,h3,hK⟩:=h
  have hb:=Io (P:=P) hS hlo hhi (b:=false) (cap:=n) el eh h0 h1 h2
  refine pvI hS hd (x:= .slice (some (if n=lo'.toNat then⟨r0,off,none⟩ else⟨r0,off+lo'.toNat*P.cellsOf e,none⟩)) (hi'.toNat-lo'.toNat) (n-lo'.toNat)) ?_ ?_ hK
  ·simp [execOp,he,rx,Instr.sliceAt,run_underlying hu,Instr.sureAddr,hb,Cv hie,Hj]
  ·simp only[Rel]
   have hsub:(n-lo'.toNat)*P.cellsOf e+lo'.toNat*P.cellsOf e=n*P.cellsOf e:=by
    rw[<-Nat.add_mul];congr 1;omega
   by_cases hcl:n=lo'.toNat
   ·exact⟨off,n-lo'.toNat,by simp [hcl],by omega,by omega, .inl (by omega),hroom.le (by omega)⟩
   ·exact⟨off+lo'.toNat*P.cellsOf e,n-lo'.toNat,by simp [hcl],by omega,by omega, .inr rfl,hroom.le (by omega)⟩
 ·-- an array in memory that lasts
  rename_i n e cs off
  obtain rfl:=hmn rfl
  obtain⟨hie,hle,h⟩:=h
  simp only[Rel] at rx
  obtain⟨b,o',xs,hp,hc,hl⟩:=rx
  unfold Sk at h
  split at h<;>try exact h.elim
  rename_i lo' hi' el eh
  obtain⟨h0,h1,h2,hK⟩:=h
  have hb:=Io (P:=P) hS hlo hhi (b:=false) (cap:=n) el eh h0 h1 h2
  refine pvI hS hd (x:= .slice (some (if n=lo'.toNat then⟨b,o'+off,none⟩ else⟨b,o'+off+lo'.toNat*P.cellsOf e,none⟩)) (hi'.toNat-lo'.toNat) (n-lo'.toNat)) ?_ ?_ hK
  ·simp [execOp,he,hp,Instr.sliceAt,run_underlying hu,Instr.sureAddr,hb,Cv hie,Hj]
  ·simp only[Rel]
   refine⟨_,_,rfl,by omega, ?_⟩
   by_cases hcl:n=lo'.toNat
   ·have:hi'.toNat-lo'.toNat=0:=by omega
    rw[this];exact .inl (by simp)
   ·rw[if_neg hcl]
    refine .inr ⟨b,o'+off+lo'.toNat*P.cellsOf e,((((xs.drop off).take (n*P.cellsOf e)).drop (lo'.toNat*P.cellsOf e)).take ((hi'.toNat-lo'.toNat)*P.cellsOf e)),rfl, ?_,(((hl.drop _).take _).drop _).take _⟩
    rcases hc with rfl | ⟨g1,g2⟩
    ·exact .inl (by simp)
    ·exact .inr ⟨g1,(Hr.drop (Hr.take (Hr.drop g2))).take⟩
 ·exact h.elim
end
end Go.Dl
