/- The data level and the contracts of the functions that are reached (part 1). -/
import Derived.Shelf.Lays
import Derived.Shelf.Strings.Fields
import Derived.Test.YtpkdkhoeaibpaaaGreatDoorProg
import Derived.WalkKit
import Derived.OwnWalk
import Derived.RangeFuncNested
import Derived.RangeFuncCalls
import Derived.TacticsIn
import Derived.OrdersIn
set_option linter.unusedSimpArgs false
set_option linter.unusedVariables false
set_option linter.unusedSectionVars false
attribute [go_sem ↓] reduceIte
-- THE DATA LEVEL, PART A: values that carry the memory they point to (a string, a slice that nobody writes any more, a pointer into one), states, and what it means that a state of this level describes a state of the model..
namespace Go.Dl
open Go
attribute [go_sem] Nat.reduceEqDiff Nat.reduceAdd Nat.reduceMul Nat.reduceSub Nat.reduceLeDiff reduceCtorEq Int.reduceAdd Int.reduceSub Int.reduceMul Int.reduceNeg Int.reduceToNat List.reduceReplicate String.reduceEq
inductive DVal where
 | raw (v:Value)
 | bool (b:Bool)
 | int (k:IntKind) (n:Int)
 | str (s:List UInt8)
 | nilPtr
 | vptr (cs:List DVal) (off:Nat)
 | optr (r off:Nat)
 | nilSlice
 | vslice (cs:List DVal) (len:Nat)
 | oslice (sz r off len lo:Nat)
 | nilMap
 | omap (r:Nat)
 | func (fn:Fn) (first captured:List DVal)
 | nilFunc
 | iface (t:TypeId) (v:DVal)
 | nilIface
 | agg (cs:List DVal)
 | tuple (vs:List DVal)
 deriving Inhabited
def DVal.cells:DVal->List DVal
 | .agg cs=>cs
 | v=> [v]
def DVal.one:DVal->Bool
 | .agg _ | .tuple _=>false
 | .raw v=>v.oneCell'
 | _=>true
inductive DObj where
 | cells (cs:List DVal) (e:TypeId)
 /-- The record of a loop over an iterator: the slots as they were where it began (the record's own 'tmps' are not looked at). -/
 | loop (env:Nat->DVal) (n:Nat) (r:Loop)
 /-- A map: its entries, in the order in which they were laid. -/
 | map (es:List (DVal×DVal))
 /-- A walk through a string's characters. -/
 | iter (s:List UInt8) (pos:Nat)
abbrev Aa:=Nat->Option DObj
def upd {α:Type} (f:Nat->α) (i:Nat) (v:α):Nat->α:=fun j=>if j=i then v else f j
structure DS where
 env:Nat->DVal
 heap:Aa
inductive DExit where
 | normal
 | exit (id:Nat)
 | goto (l:Nat)
 | ret
 | panic (v:DVal)
inductive DEnd where
 | ret (v:DVal)
 | panic (v:DVal)
def Qe (w:World) (H:Aa) (b off:Nat) (xs:List Value):Prop:=
 xs= []\/(H b=none/\ ∀i x,xs[i]? =some x->w.cell? ⟨b,off+i,none⟩=some x)
def Hs:Option Obj->Option Nat
 | some (.cells c _ _)=>some c.size
 | _=>none
def Bg6 (w:World) (r n:Nat):Prop:=r<w.heap.size/\ ∀k,Hs w.heap[r]? =some k->n<=k
mutual
/-- The value of the data level describes the model's value. -/
def Rel (w:World) (H:Aa):DVal->Value->Prop
 | .raw x,v=>v=x/\x.oneCell'=true
 | .bool b,v=>v= .bool b
 | .int k n,v=>v= .int k n
 | .str s,v=>v= .string ⟨⟨s⟩⟩
 | .nilPtr,v=>v= .pointer none
 | .vptr cs off,v=> ∃b o xs,v= .pointer (some ⟨b,o+off,none⟩)/\Qe w H b o xs/\Ap w H cs xs
 | .optr r off,v=>v= .pointer (some ⟨r,off,none⟩)
 | .nilSlice,v=>v= .slice none 0 0
 | .vslice cs len,v=> ∃a cap,v= .slice a len cap/\len<=cap/\(cs= []\/ ∃b o xs,a=some ⟨b,o,none⟩/\Qe w H b o xs/\Ap w H cs xs)
 | .oslice sz r off len lo,v=> ∃o cap,v= .slice (some ⟨r,o,none⟩) len cap/\lo<=cap/\len<=cap/\(cap=0\/o=off)/\Bg6 w r (o+cap*sz)
 | .nilMap,v=>v= .map none
 | .omap r,v=>v= .map (some r)
 | .func fn first captured,v=> ∃xs ys,v= .func fn xs ys/\Ap w H first xs.toList/\Ap w H captured ys.toList
 | .nilFunc,v=>v= .nilFunc
 | .iface t d,v=> ∃x,v= .iface t x/\Rel w H d x
 | .nilIface,v=>v= .nilIface
 | .agg cs,v=> ∃xs,v= .agg xs/\Ap w H cs xs.toList
 | .tuple cs,v=> ∃xs,v= .tuple xs/\Ap w H cs xs.toList
def Ap (w:World) (H:Aa):List DVal->List Value->Prop
 | [],xs=>xs= []
 | d::ds,xs=> ∃y ys,xs=y::ys/\Rel w H d y/\Ap w H ds ys
end
def Ms (w:World) (H:Aa):List (DVal×DVal)->List MapEntry->Prop
 | [],ms=>ms= []
 | p::es,ms=> ∃m ms',ms=m::ms'/\Rel w H p.1 m.key/\Rel w H p.2 m.val/\Ms w H es ms'
def Pe (w:World) (H:Aa):DObj->Option Obj->Prop
 | .cells cs e,o=> ∃xs c fz,o=some (.cells c e fz)/\xs<+:c.toList/\Ap w H cs xs/\ ∀i,i<c.size-> ¬(fz.1<=i/\i<fz.2)
 | .loop env n r,o=> ∃tmps,o=some (.loop { r with tmps:=tmps })/\tmps.size=n/\ ∀i,i<n->Rel w H (env i) (tmps.getD i undef)
 | .map es,o=> ∃ms clock,o=some (.map ms clock)/\Ms w H es ms.toList
 | .iter s pos,o=>o=some (.stringIter ⟨⟨s⟩⟩ pos)
def Aw (w:World) (H:Aa):Prop:= ∀r o,H r=some o->Pe w H o w.heap[r]?
structure Ext (H:Aa) (w:World) (H':Aa) (w':World):Prop where
 os:w'.os=w.os
 tape:w'.tape=w.tape
 output:w'.output=w.output
 size:w.heap.size<=w'.heap.size
 block: ∀b,b<w.heap.size->H b=none->w'.heap[b]? =w.heap[b]?
 own: ∀b,H' b≠none->H b≠none\/w.heap.size<=b
 keep: ∀b,b<w.heap.size->Hs w'.heap[b]? =Hs w.heap[b]?
 fz: ∀a,a.block<w.heap.size->H a.block=none->w'.frozen? a=w.frozen? a
structure GOk (G:Nat->DVal) (w:World) (H:Aa):Prop where
 rel: ∀g,Rel w H (G g) (.pointer (some ⟨g,0,none⟩))
 exact: ∀g cs,G g= .vptr cs 0->Hs w.heap[g]? =some cs.length
structure Base where
 b:Nat
 late:List Deferred
 still:Bool
structure Fr where
 n:Nat
 base:Base
instance:Coe Fr Nat:=⟨Fr.n⟩
def Dfs (w:World) (H:Aa) (B:Base) (ds:List Deferred):Prop:=
 ∃Ds:List Nat,ds=Ds.map (fun D=>({ target:= .collected D,args:= #[] }:Deferred))++B.late/\Ds.Nodup/\ ∀D∈Ds,(B.b<=D/\B.still=false)/\w.heap[D]? =some (.deferred (some []))/\H D=none
theorem Dfs.nil (w:World) (H:Aa) (B:Nat):Dfs w H ⟨B,[],false⟩ []:=⟨[],rfl,List.nodup_nil,by simp⟩
structure Sim (G:Nat->DVal) (N:Fr) (s:DS) (a:Act) (w:World):Prop where
 size:a.tmps.size=N.n
 defers:Dfs w s.heap N.base a.defers
 tmps: ∀i,i<N.n->Rel w s.heap (s.env i) (a.tmps.getD i undef)
 heap:Aw w s.heap
 glob:GOk G w s.heap
 base:N.base.b<=w.heap.size
inductive RelX (w:World) (H:Aa):DExit->Exit->Prop
 | normal:RelX w H .normal .normal
 | exit (id:Nat):RelX w H (.exit id) (.exit id)
 | goto (l:Nat):RelX w H (.goto l) (.goto l)
 | ret:RelX w H .ret .ret
 | panic (d:DVal) (v:Value):Rel w H d v->RelX w H (.panic d) (.panic [{ v,recovered:=false }])
inductive RelE (w:World) (H:Aa):DEnd->Ending->Prop
 | ret (d:DVal) (v:Value):Rel w H d v->RelE w H (.ret d) (.returned v)
 | panic (d:DVal) (v:Value):Rel w H d v->RelE w H (.panic d) (.panicked [{ v,recovered:=false }])
def Ar (P:Program) (G:Nat->DVal) (f:FuncId) (args:List DVal) (H:Aa) (R:DEnd->Aa->Prop):Prop:=
 (∀vs w,(callFunc f vs).run P w= .ok (.enter f vs) w)/\
 ∀(vs:List Value) (w:World),Ap w H args vs->Aw w H->GOk G w H->
  Calls P f vs.toArray w fun e w'=> ∃e' H',R e' H'/\RelE w' H' e' e/\Aw w' H'/\Ext H w H' w'
def FOk (F:Fence):Prop:=F=Fence.wide\/ ∃l,F=Fence.wide.inRound l
def Us (P:Program) (G:Nat->DVal) (l:Nat) (args:List DVal) (H:Aa) (R:DEnd->Aa->Prop):Prop:=
 ∀(F:Fence) (n:Nat),FOk F-> ∀(vs:List Value) (w:World),Ap w H args vs->Aw w H->GOk G w H->
  YieldAt F n P l vs.toArray w fun e w'=> ∃e' H',R e' H'/\RelE w' H' e' e/\Aw w' H'/\Ext H w H' w'
section
variable {P:Program} {F:Fence} {n:Nat}
theorem FOk.fn (h:FOk F) (g:FuncId):F.fn g:=by
 rcases h with rfl | ⟨l,rfl⟩<;>trivial
theorem FOk.depth (h:FOk F):F.depth=none:=by
 rcases h with rfl | ⟨l,rfl⟩<;>rfl
theorem FOk.calls (h:FOk F) {f:FuncId} {args:Array Value} {w:World} {R:Ending->World->Prop} (hc:Calls P f args w R):CallsIn F n P f args w R:=by
 rcases h with rfl | ⟨l,rfl⟩
 ·exact callsIn_wide.2 hc
 ·exact CallsIn.inRound l (callsIn_wide.2 hc)
theorem FOk.rows (h:FOk F) {row:String} {args:Array Value} {w:World} {R:Value->World->Prop} (hc:Rows P row args w R):RowsIn F n P row args w R:=by
 have h0:RowsIn Fence.wide n P row args w R:=fun c cs _=>by
  obtain⟨v,w',hr,hs⟩:=hc c cs;exact⟨v,w',hr,stepsIn_wide.2 hs⟩
 rcases h with rfl | ⟨l,rfl⟩
 ·exact h0
 ·exact h0
theorem FOk.oper (h:FOk F) {o:Oper} {a:Act} {w:World} {K:Act->World->Prop} {Q:Exit->Act->World->Prop} (hd: ∀c,o.op≠ .defer c) (hw:o.wp P a w K Q):o.wpIn F n P a w K Q:=by
 refine⟨fun f _=>h.fn f, ?_⟩;rw[Oper.semAt_eq _ _ _ hd];unfold Oper.wp at hw;have hdep:F.depth.isSome=true->1<=n:=by rw[h.depth];intro hh;cases hh
 generalize (execOp a.eval o).run P w=r at hw⊢
 cases r with
 | ok x w'=>
  cases x<;>simp only[Oper.upon,Oper.uponIn] at hw⊢ <;>first
   | exact hw
   | exact⟨hdep,h.calls (hw.mono fun e w'' he=>by cases e<;>exact he)⟩
   | exact⟨hdep,h.rows hw⟩
   | exact hw.elim
 | halt x w'=>cases x<;>simp only[Oper.upon,Oper.uponIn] at hw⊢ <;>first | exact hw | exact hw.elim
end
def DWp (P:Program) (G:Nat->DVal) (N:Nat) (c:Code) (Q:DExit->DS->Prop) (s:DS):Prop:=
 ∀(F:Fence) (n:Nat) (B:Base),FOk F-> ∀(a:Act) (w:World),Sim G ⟨N,B⟩ s a w->
  c.wpIn F n P (fun e a' w'=> ∃e' s',Q e' s'/\RelX w' s'.heap e' e/\Sim G ⟨N,B⟩ s' a' w'/\Ext s.heap w s'.heap w') a w
def Cy3 (P:Program) (G:Nat->DVal) (N:Nat) (c:Code) (Q:DExit->DS->Prop) (s:DS):Prop:=
 ∀(n:Nat) (B:Base),B.still=false-> ∀(a:Act) (w:World),Sim G ⟨N,B⟩ s a w->
  c.wpIn Fence.wide n P (fun e a' w'=> ∃e' s',Q e' s'/\RelX w' s'.heap e' e/\Sim G ⟨N,B⟩ s' a' w'/\Ext s.heap w s'.heap w') a w
structure Lasts (H:Aa) (w:World) (H':Aa) (w':World):Prop where
 cell: ∀b i x,H b=none->w.cell? ⟨b,i,none⟩=some x->H' b=none/\w'.cell? ⟨b,i,none⟩=some x
 size:w.heap.size<=w'.heap.size
 keep: ∀b,b<w.heap.size->Hs w'.heap[b]? =Hs w.heap[b]?
theorem Lasts.room {H H':Aa} {w w':World} (h:Lasts H w H' w') {r n:Nat} (hr:Bg6 w r n):Bg6 w' r n:=
 ⟨Nat.lt_of_lt_of_le hr.1 h.size,fun k hk=>hr.2 k (by rw[<-h.keep r hr.1];exact hk)⟩
theorem Ce6 {w:World} {b i:Nat} {x:Value} (h:w.cell? ⟨b,i,none⟩=some x):b<w.heap.size:=by
 unfold World.cell? at h;rcases Nat.lt_or_ge b w.heap.size with hl | hl
 ·exact hl
 ·simp [Array.getElem?_eq_none hl] at h
theorem Ext.lasts {H H':Aa} {w w':World} (h:Ext H w H' w'):Lasts H w H' w':=by
 refine⟨fun b i x hb hc=> ?_,h.size,h.keep⟩;have hl:=Ce6 hc;constructor
 ·cases e:H' b with
  | none=>rfl
  | some o=>
   rcases h.own b (by simp [e]) with h1 | h1
   ·exact(h1 hb).elim
   ·omega
 ·unfold World.cell? at hc⊢
  rw[h.block b hl hb];exact hc
theorem Dfs.ext {H H':Aa} {w w':World} {B:Base} {ds:List Deferred} (h:Ext H w H' w') (hd:Dfs w H B ds):Dfs w' H' B ds:=by
 obtain⟨Ds,h1,h2,h3⟩:=hd;refine⟨Ds,h1,h2,fun D hD=> ?_⟩;obtain⟨g1,g2,g3⟩:=h3 D hD;have hl:D<w.heap.size:=(Array.getElem?_eq_some_iff.1 g2).1;refine⟨g1,by rw[h.block D hl g3];exact g2, ?_⟩;cases e:H' D with
 | none=>rfl
 | some o=>
  rcases h.own D (by simp [e]) with k | k
  ·exact(k g3).elim
  ·omega
theorem Dfs.less {H H':Aa} {w:World} {B:Base} {ds:List Deferred} (hd:Dfs w H B ds) (h: ∀b,H' b≠none->H b≠none):Dfs w H' B ds:=by
 obtain⟨Ds,h1,h2,h3⟩:=hd;refine⟨Ds,h1,h2,fun D hD=>⟨(h3 D hD).1,(h3 D hD).2.1, ?_⟩⟩;cases e:H' D with
 | none=>rfl
 | some o=>exact absurd (h3 D hD).2.2 (h D (by simp [e]))
theorem Qe.lasts {H H':Aa} {w w':World} (h:Lasts H w H' w') {b o:Nat} {xs:List Value} (hc:Qe w H b o xs):Qe w' H' b o xs:=by
 rcases hc with rfl | ⟨h1,h2⟩
 ·exact .inl rfl
 ·cases xs with
  | nil=>exact .inl rfl
  | cons x xs=>
   refine .inr ⟨(h.cell b (o+0) x h1 (h2 0 x rfl)).1,fun i y hy=>(h.cell b (o+i) y h1 (h2 i y hy)).2⟩
mutual
theorem Rel.lasts {H H':Aa} {w w':World} (h:Lasts H w H' w'): ∀(d:DVal) (v:Value),Rel w H d v->Rel w' H' d v
 | .raw _,_,hr=>by simpa [Rel] using hr
 | .bool _,_,hr=>by simpa [Rel] using hr
 | .int _ _,_,hr=>by simpa [Rel] using hr
 | .str _,_,hr=>by simpa [Rel] using hr
 | .nilPtr,_,hr=>by simpa [Rel] using hr
 | .vptr cs off,v,hr=>by
  simp only[Rel] at hr⊢
  obtain⟨b,o,xs,rfl,hc,hl⟩:=hr
  exact⟨b,o,xs,rfl,hc.lasts h,Ap.lasts h cs xs hl⟩
 | .optr _ _,_,hr=>by simpa [Rel] using hr
 | .nilSlice,_,hr=>by simpa [Rel] using hr
 | .vslice cs len,v,hr=>by
  simp only[Rel] at hr⊢
  obtain⟨a,cap,rfl,hle,hc⟩:=hr
  refine⟨a,cap,rfl,hle, ?_⟩
  rcases hc with hc | ⟨b,o,xs,rfl,hc,hl⟩
  ·exact .inl hc
  ·exact .inr ⟨b,o,xs,rfl,hc.lasts h,Ap.lasts h cs xs hl⟩
 | .oslice sz r off len lo,v,hr=>by
  simp only[Rel] at hr⊢
  obtain⟨o,cap,e,h1,h2,h3,h4⟩:=hr
  exact⟨o,cap,e,h1,h2,h3,h.room h4⟩
 | .nilMap,_,hr=>by simpa [Rel] using hr
 | .omap _,_,hr=>by simpa [Rel] using hr
 | .func fn first captured,v,hr=>by
  simp only[Rel] at hr⊢
  obtain⟨xs,ys,rfl,h1,h2⟩:=hr
  exact⟨xs,ys,rfl,Ap.lasts h first _ h1,Ap.lasts h captured _ h2⟩
 | .nilFunc,_,hr=>by simpa [Rel] using hr
 | .iface t d,v,hr=>by
  simp only[Rel] at hr⊢
  obtain⟨x,rfl,h1⟩:=hr
  exact⟨x,rfl,Rel.lasts h d x h1⟩
 | .nilIface,_,hr=>by simpa [Rel] using hr
 | .agg cs,v,hr=>by
  simp only[Rel] at hr⊢
  obtain⟨xs,rfl,h1⟩:=hr
  exact⟨xs,rfl,Ap.lasts h cs _ h1⟩
 | .tuple cs,v,hr=>by
  simp only[Rel] at hr⊢
  obtain⟨xs,rfl,h1⟩:=hr
  exact⟨xs,rfl,Ap.lasts h cs _ h1⟩
theorem Ap.lasts {H H':Aa} {w w':World} (h:Lasts H w H' w'): ∀(ds:List DVal) (xs:List Value),Ap w H ds xs->Ap w' H' ds xs
 | [],_,hr=>by simpa [Ap] using hr
 | d::ds,xs,hr=>by
  simp only[Ap] at hr⊢
  obtain⟨y,ys,rfl,h1,h2⟩:=hr
  exact⟨y,ys,rfl,Rel.lasts h d y h1,Ap.lasts h ds ys h2⟩
end
theorem Ms.lasts {H H':Aa} {w w':World} (h:Lasts H w H' w'): ∀ {es:List (DVal×DVal)} {ms:List MapEntry},Ms w H es ms->Ms w' H' es ms
 | [],_,hr=>hr
 | p::es,ms,hr=>by
  obtain⟨m,ms',rfl,h1,h2,h3⟩:=hr;exact⟨m,ms',rfl,Rel.lasts h _ _ h1,Rel.lasts h _ _ h2,Ms.lasts h h3⟩
theorem Pe.lasts {H H':Aa} {w w':World} (h:Lasts H w H' w') {o:DObj} {x:Option Obj} (hr:Pe w H o x):Pe w' H' o x:=by
 cases o with
 | cells cs e=>
  obtain⟨xs,c,fz,h1,h2,h3,h4⟩:=hr;exact⟨xs,c,fz,h1,h2,Ap.lasts h _ _ h3,h4⟩
 | loop env n r=>
  obtain⟨tmps,h1,h2,h3⟩:=hr;exact⟨tmps,h1,h2,fun i hi=>Rel.lasts h _ _ (h3 i hi)⟩
 | map es=>
  obtain⟨ms,c,h1,h2⟩:=hr;exact⟨ms,c,h1,h2.lasts h⟩
 | iter s pos=>exact hr
theorem Pe.some {H:Aa} {w:World} {o:DObj} {x:Option Obj} (hr:Pe w H o x): ∃y,x=Option.some y:=by
 cases o with
 | cells cs e=>
  obtain⟨xs,c,fz,h1,h2,h3,h4⟩:=hr;exact⟨_,h1⟩
 | loop env n r=>
  obtain⟨tmps,h1,h2,h3⟩:=hr;exact⟨_,h1⟩
 | map es=>
  obtain⟨ms,c,h1,h2⟩:=hr;exact⟨_,h1⟩
 | iter s pos=>exact⟨_,hr⟩
theorem Ext.refl (H:Aa) (w:World):Ext H w H w:=⟨rfl,rfl,rfl,Nat.le_refl _,fun _ _ _=>rfl,fun _ h=> .inl h,fun _ _=>rfl,fun _ _ _=>rfl⟩
theorem Ext.trans {H H' H'':Aa} {w w' w'':World} (h:Ext H w H' w') (k:Ext H' w' H'' w''):Ext H w H'' w'':=by
 refine⟨k.os.trans h.os,k.tape.trans h.tape,k.output.trans h.output,Nat.le_trans h.size k.size,fun b hb hn=> ?_,fun b hb=> ?_,fun b hb=>by rw[k.keep b (Nat.lt_of_lt_of_le hb h.size),h.keep b hb],fun a ha hn=>by rw[k.fz a (Nat.lt_of_lt_of_le ha h.size) (by
  cases e:H' a.block with
  | none=>rfl
  | some o=>
   rcases h.own a.block (by simp [e]) with h1 | h1
   ·exact(h1 hn).elim
   ·omega),h.fz a ha hn]⟩
 ·have hn':H' b=none:=by
   cases e:H' b with
   | none=>rfl
   | some o=>
    rcases h.own b (by simp [e]) with h1 | h1
    ·exact(h1 hn).elim
    ·omega
  rw[k.block b (Nat.lt_of_lt_of_le hb h.size) hn',h.block b hb hn]
 ·rcases k.own b hb with h1 | h1
  ·exact h.own b h1
  ·exact .inr (Nat.le_trans h.size h1)
theorem Ap.length {w:World} {H:Aa}: ∀ {ds:List DVal} {xs:List Value},Ap w H ds xs->ds.length=xs.length
 | [],_,h=>by simp only[Ap] at h;subst h;rfl
 | d::ds,xs,h=>by
  simp only[Ap] at h;obtain⟨y,ys,rfl,_,h2⟩:=h;simp [Ap.length h2]
theorem Ap.get {w:World} {H:Aa}: ∀ {ds:List DVal} {xs:List Value},Ap w H ds xs-> ∀ {i:Nat} {d:DVal},ds[i]? =some d-> ∃x,xs[i]? =some x/\Rel w H d x
 | [],_,_,i,d,hd=>by simp at hd
 | d::ds,xs,h,i,e,hd=>by
  simp only[Ap] at h;obtain⟨y,ys,rfl,h1,h2⟩:=h;cases i with
  | zero=>simp at hd;subst hd;exact⟨y,rfl,h1⟩
  | succ i=>simp at hd;obtain⟨x,hx,hr⟩:=Ap.get h2 hd;exact⟨x,by simpa using hx,hr⟩
theorem Ap.mk {w:World} {H:Aa}: ∀ {ds:List DVal} {xs:List Value},ds.length=xs.length->(∀(i:Nat) (d:DVal) (x:Value),ds[i]? =some d->xs[i]? =some x->Rel w H d x)->Ap w H ds xs
 | [],[],_,_=>by simp [Ap]
 | [],_::_,h,_=>by simp at h
 | _::_,[],h,_=>by simp at h
 | d::ds,x::xs,hl,h=>by
  simp only[Ap];refine⟨x,xs,rfl,h 0 d x rfl rfl,Ap.mk (by simpa using hl) fun i d' x' h1 h2=>h (i+1) d' x' (by simpa using h1) (by simpa using h2)⟩
theorem Ap.append {w:World} {H:Aa}: ∀ {ds es:List DVal} {xs ys:List Value},Ap w H ds xs->Ap w H es ys->Ap w H (ds++es) (xs++ys)
 | [],_,_,_,h,k=>by simp only[Ap] at h;subst h;simpa using k
 | d::ds,es,xs,ys,h,k=>by
  simp only[Ap] at h;obtain⟨y,ys',rfl,h1,h2⟩:=h;simp only[List.cons_append,Ap];exact⟨y,_,rfl,h1,Ap.append h2 k⟩
theorem Ap.take {w:World} {H:Aa} {ds:List DVal} {xs:List Value} (h:Ap w H ds xs) (n:Nat):Ap w H (ds.take n) (xs.take n):=by
 have hl:=h.length;refine Ap.mk (by simp [hl]) fun i d x h1 h2=> ?_;simp only[List.getElem?_take] at h1 h2;split at h1
 ·rename_i hi
  simp only[hi,if_true] at h2;obtain⟨y,hy,hr⟩:=h.get h1;rw[h2] at hy;cases hy;exact hr
 ·simp at h1
theorem Ap.drop {w:World} {H:Aa} {ds:List DVal} {xs:List Value} (h:Ap w H ds xs) (n:Nat):Ap w H (ds.drop n) (xs.drop n):=by
 have hl:=h.length;refine Ap.mk (by simp [hl]) fun i d x h1 h2=> ?_;simp only[List.getElem?_drop] at h1 h2;obtain⟨y,hy,hr⟩:=h.get h1;rw[h2] at hy;cases hy;exact hr
theorem Rel.cells {w:World} {H:Aa} {d:DVal} {v:Value} (h:Rel w H d v):Ap w H d.cells v.cells.toList:=by
 cases d<;>simp only[Rel,DVal.cells,Ap] at h⊢
 case raw x=>obtain⟨rfl,h⟩:=h;cases v<;>simp_all [Value.cells,Value.oneCell']
 case agg cs=>obtain⟨xs,rfl,hl⟩:=h;simpa [Value.cells] using hl
 case func=>obtain⟨xs,ys,rfl,h1,h2⟩:=h;exact⟨_,_,rfl,⟨xs,ys,rfl,h1,h2⟩,rfl⟩
 case vptr=>obtain⟨b,o,xs,rfl,h1,h2⟩:=h;exact⟨_,_,rfl,⟨b,o,xs,rfl,h1,h2⟩,rfl⟩
 case vslice=>obtain⟨a,cap,rfl,h1,h2⟩:=h;exact⟨_,_,rfl,⟨a,cap,rfl,h1,h2⟩,rfl⟩
 case oslice=>obtain⟨o,cap,rfl,h1⟩:=h;exact⟨_,_,rfl,⟨o,cap,rfl,h1⟩,rfl⟩
 case iface=>obtain⟨x,rfl,h1⟩:=h;exact⟨_,_,rfl,⟨x,rfl,h1⟩,rfl⟩
 case tuple=>obtain⟨xs,rfl,h1⟩:=h;exact⟨_,_,rfl,⟨xs,rfl,h1⟩,rfl⟩
 all_goals (subst h;exact⟨_,_,rfl,rfl,rfl⟩)
end Go.Dl

-- THE DATA LEVEL, PART B: what each operation, and each piece of code, asks and does at this level. Definitions alone.
namespace Go.Dl
open Go
mutual
def Bn:Value->DVal
 | .bool b=> .bool b
 | .int k n=> .int k n
 | .string ⟨⟨l⟩⟩=> .str l
 | .pointer none=> .nilPtr
 | .slice none 0 0=> .nilSlice
 | .map none=> .nilMap
 | .nilFunc=> .nilFunc
 | .nilIface=> .nilIface
 | .func fn ⟨a⟩ ⟨c⟩=> .func fn (Cz a) (Cz c)
 | .agg ⟨l⟩=> .agg (Cz l)
 | .tuple ⟨l⟩=> .tuple (Cz l)
 | v=> .raw v
def Cz:List Value->List DVal
 | []=> []
 | v::vs=>Bn v::Cz vs
end
def Df (env:Nat->DVal) (dst:Option Nat) (v:DVal):Nat->DVal:=
 match dst with
 | some d=>upd env d v
 | none=>env
def Bp:DVal:= .tuple []
def dev (G:Nat->DVal) (env:Nat->DVal):Operand->DVal
 | .tmp t=>env t
 | .const v=>Bn v
 | .global g=>G g
 | .func f=> .func (.func f) [] []
def Cj (G:Nat->DVal) (env:Nat->DVal):List Operand->List DVal
 | []=> []
 | x::xs=>dev G env x::Cj G env xs
def Br (P:Program) (t:TypeId):Option Bool:=
 match P.underlying t with
 | some (.struct _) | some (.array _ _)=>some true
 | some _=>some false
 | none=>none
def Od (P:Program) (t:TypeId):Bool:=
 match P.underlying t with
 | some (.struct fs)=>fs.toList.all fun f=>(P.info? f.type).isSome
 | some (.array _ e)=>(P.info? e).isSome
 | _=>false
abbrev DK:=DS->Prop
def Av (dst:Option Nat) (v:DVal) (K:DK) (s:DS):Prop:=K ⟨Df s.env dst v,s.heap⟩
def Fh (dst:Option Nat):Option DVal->DK->DS->Prop
 | some v,K,s=>Av dst v K s
 | none,_,_=>False
def Vh (cs:List DVal) (e:TypeId) (dst:Option Nat) (K:DK) (s:DS):Prop:=
 ∀r,s.heap r=none->K ⟨Df s.env dst (.optr r 0),upd s.heap r (some (.cells cs e))⟩
def Tt (cs:List DVal) (e:TypeId) (sz len cap:Nat) (dst:Option Nat) (K:DK) (s:DS):Prop:=
 ∀r,s.heap r=none->K ⟨Df s.env dst (.oslice sz r 0 len cap),upd s.heap r (some (.cells cs e))⟩
def Ax (P:Program) (t:TypeId):Option DVal:=((P.info? t).bind (·.zero)).map Bn
def At1 (e:TypeId) (dst:Option Nat):Option DVal->DK->DS->Prop
 | some z,K,s=>Vh z.cells e dst K s
 | none,_,_=>False
def Yx (dst:Option Nat):DVal->DVal->DVal->DK->DS->Prop
 | .bool t,a,b,K,s=>Av dst (if t then a else b) K s
 | _,_,_,_,_=>False
def Gk (place:Nat->Option (Nat×Nat)) (cells:List DVal):List (Nat×DVal)->Option (List DVal)
 | []=>some cells
 | (i,v)::rest=>
  match place i with
  | none=>none
  | some (off,size)=>
   if v.cells.length=size/\off+v.cells.length<=cells.length then Gk place (cells.take off++v.cells++cells.drop (off+v.cells.length)) rest else none
def Ab4 (P:Program) (fields:Array Field) (i:Nat):Option (Nat×Nat):=(fields[i]?).map fun f=>(f.offset,P.cellsOf f.type)
def Mt (size:Nat) (i:Nat):Option (Nat×Nat):=some (i*size,size)
def Pf (P:Program) (dst:Option Nat):Bool->Option TypeDesc->Option DVal->List (Nat×DVal)->DK->DS->Prop
 | true,some (.struct fields),some z,Bu,K,s=>Fh dst ((Gk (Ab4 P fields) z.cells Bu).map .agg) K s
 | true,some (.array _ e),some z,Bu,K,s=>Fh dst ((Gk (Mt (P.cellsOf e)) z.cells Bu).map .agg) K s
 | _,_,_,_,_,_=>False
def repl (n:Nat) (zs:List DVal):List DVal:=(List.replicate n zs).flatten
def Bq2 (e:TypeId) (sz len:Nat) (dst:Option Nat):Option (List DVal)->DK->DS->Prop
 | some cs,K,s=>Tt cs e sz len len dst K s
 | none,_,_=>False
def Li (e:TypeId) (size len:Nat) (dst:Option Nat):Option DVal->List (Nat×DVal)->DK->DS->Prop
 | some z,Bu,K,s=>len*size<=16777216/\z.cells.length=size/\Bq2 e size len dst (Gk (Mt size) (repl len z.cells) Bu) K s
 | none,_,_,_=>False
def Fx (P:Program) (len:Nat) (dst:Option Nat):Option TypeDesc->List (Nat×DVal)->DK->DS->Prop
 | some (.slice e),Bu,K,s=>Li e (P.cellsOf e) len dst (Ax P e) Bu K s
 | _,_,_,_=>False
def Pg (size:Nat) (dst:Option Nat):Option Bool->List DVal->Nat->DK->DS->Prop
 | some true,cs,off,K,s=>off+size<=cs.length/\Av dst (.agg ((cs.drop off).take size)) K s
 | some false,cs,off,K,s=>Fh dst cs[off]? K s
 | none,_,_,_,_=>False
def Vi (size:Nat) (ag:Option Bool) (dst:Option Nat) (off:Nat):Option DObj->DK->DS->Prop
 | some (.cells cs _),K,s=>Pg size dst ag cs off K s
 | _,_,_=>False
def Tu (size:Nat) (ag:Option Bool) (dst:Option Nat):DVal->DK->DS->Prop
 | .vptr cs off,K,s=>Pg size dst ag cs off K s
 | .optr r off,K,s=>Vi size ag dst off (s.heap r) K s
 | _,_,_=>False
def splice (cs:List DVal) (off:Nat) (vs:List DVal):List DVal:=cs.take off++vs++cs.drop (off+vs.length)
def Ab5 (size:Nat) (r off:Nat) (v:DVal):Option DObj->DK->DS->Prop
 | some (.cells cs e),K,s=>v.cells.length=size/\(v.cells.all (·.one))=true/\off+size<=cs.length/\
   K ⟨s.env,upd s.heap r (some (.cells (splice cs off v.cells) e))⟩
 | _,_,_=>False
def Sg (size:Nat):Option Nat->DVal->DVal->DK->DS->Prop
 | none, .optr r off,v,K,s=>Ab5 size r off v (s.heap r) K s
 | _,_,_,_,_=>False
def Kn (dst:Option Nat):DVal->DK->DS->Prop
 | .vptr cs off,K,s=>Av dst (.vptr cs off) K s
 | .optr r off,K,s=>Av dst (.optr r off) K s
 | .func (.func f) a c,K,s=>Av dst (.func (.func f) a c) K s
 | .iface t v,K,s=>Av dst (.iface t v) K s
 | .omap r,K,s=>Av dst (.omap r) K s
 | _,_,_=>False
def Ik (c:Bool):Option TypeDesc->DVal->DVal->Option Bool
 | some .bool, .bool a, .bool b=>some (a==b)
 | some (.pointer _), .nilPtr, .nilPtr=>some true
 | some (.pointer _), .nilPtr, .optr _ _=>some false
 | some (.pointer _), .nilPtr, .vptr _ _=>some false
 | some (.pointer _), .optr _ _, .nilPtr=>some false
 | some (.pointer _), .vptr _ _, .nilPtr=>some false
 | some (.interface _), .nilIface, .iface _ _=>some false
 | some (.interface _), .iface _ _, .nilIface=>some false
 | some (.interface _), .nilIface, .nilIface=>if c then some true else none
 | some (.func _ _ _), .nilFunc, .nilFunc=>some true
 | some (.func _ _ _), .func _ _ _, .nilFunc=>some false
 | some (.func _ _ _), .nilFunc, .func _ _ _=>some false
 | some (.slice _), .nilSlice, .nilSlice=>some true
 | some (.slice _), .oslice _ _ _ _ _, .nilSlice=>some false
 | some (.slice _), .nilSlice, .oslice _ _ _ _ _=>some false
 | _,_,_=>none
def At2:Option Bool->Option Bool->Option Bool
 | some true,b=>b
 | some false,some _=>some false
 | _,_=>none
def Cr (size off:Nat) (xs:List DVal):Option Bool->List DVal
 | some true=>(xs.drop off).take size
 | some false=>(xs.drop off).take 1
 | none=> []
def Dj2:DVal->DVal->Option Bool
 | .bool a, .bool b=>some (decide (a=b))
 | .int k a, .int k' b=>if k=k' then some (decide (a=b)) else none
 | .str a, .str b=>some (decide (a=b))
 | _,_=>none
def Vj (f:TypeId->Nat->Option Bool):List Field->Option Bool
 | []=>some true
 | x::fs=>if x.name≠ "_" then At2 (f x.type x.offset) (Vj f fs) else none
def Tv (f:Nat->Option Bool):List Nat->Option Bool
 | []=>some true
 | i::is=>At2 (f i) (Tv f is)
def Yy:List DVal->List DVal->Option Bool
 | [.bool a],[.bool b]=>some (decide (a=b))
 | _,_=>none
def Aj7:List DVal->List DVal->Option Bool
 | [.int k a],[.int k' b]=>if k=k' then some (decide (a=b)) else none
 | _,_=>none
def Aj8:List DVal->List DVal->Option Bool
 | [.str a],[.str b]=>some (decide (a=b))
 | _,_=>none
def Bq3 (P:Program) (f:TypeId->List DVal->List DVal->Option Bool) (fs:List Field) (xs ys:List DVal):Bool->Option Bool
 | true=>none
 | false=>Vj (fun u off=>f u (Cr (P.cellsOf u) off xs (Br P u)) (Cr (P.cellsOf u) off ys (Br P u))) fs
def Mu (P:Program) (f:TypeId->List DVal->List DVal->Option Bool) (t:TypeId) (xs ys:List DVal):Option TypeDesc->Option Bool
 | some .bool=>Yy xs ys
 | some (.int _)=>Aj7 xs ys
 | some .string=>Aj8 xs ys
 | some (.struct fs)=>Bq3 P f fs.toList xs ys (P.stoodInHeld t)
 | some (.array m e)=>if(P.info? e).isSome then Tv (fun i=>f e (Cr (P.cellsOf e) (i*P.cellsOf e) xs (Br P e)) (Cr (P.cellsOf e) (i*P.cellsOf e) ys (Br P e))) (List.range m) else none
 | _=>none
def Mo (P:Program):Nat->TypeId->List DVal->List DVal->Option Bool
 | 0,_,_,_=>none
 | n+1,t,xs,ys=>Mu P (Mo P n) t xs ys (P.underlying t)
def Qf (k:IntKind) (a b:Int) (dst:Option Nat) (K:DK) (s:DS):BinOp->Prop
 | .add=>Av dst (.int k (k.wrap (a+b))) K s
 | .sub=>Av dst (.int k (k.wrap (a-b))) K s
 | .mul=>Av dst (.int k (k.wrap (a*b))) K s
 | .quo=>b≠0/\Av dst (.int k (k.wrap (a.tdiv b))) K s
 | .rem=>b≠0/\Av dst (.int k (a.tmod b)) K s
 | .and=>Av dst (.int k (k.wrap (BitVec.ofInt k.bits a&&&BitVec.ofInt k.bits b).toNat)) K s
 | .or=>Av dst (.int k (k.wrap (BitVec.ofInt k.bits a ||| BitVec.ofInt k.bits b).toNat)) K s
 | .xor=>Av dst (.int k (k.wrap (BitVec.ofInt k.bits a^^^BitVec.ofInt k.bits b).toNat)) K s
 | .andNot=>Av dst (.int k (k.wrap (BitVec.ofInt k.bits a&&& ~~~BitVec.ofInt k.bits b).toNat)) K s
 | .eql=>Av dst (.bool (decide (a=b))) K s
 | .neq=>Av dst (.bool (!decide (a=b))) K s
 | .lss=>Av dst (.bool (decide (a<b))) K s
 | .leq=>Av dst (.bool (decide (a<=b))) K s
 | .gtr=>Av dst (.bool (decide (b<a))) K s
 | .geq=>Av dst (.bool (decide (b<=a))) K s
 | _=>False
def Vk (k:IntKind) (a b:Int) (dst:Option Nat) (K:DK) (s:DS):BinOp->Prop
 | .shl=>0<=b/\Av dst (.int k (k.wrap (a*2^(min b.toNat k.bits)))) K s
 | .shr=>0<=b/\Av dst (.int k (a.fdiv (2^(min b.toNat k.bits)))) K s
 | _=>False
def Oe (a b:List UInt8) (dst:Option Nat) (K:DK) (s:DS):BinOp->Prop
 | .add=>a.length+b.length<=9223372036854775807/\Av dst (.str (a++b)) K s
 | .eql=>Av dst (.bool (decide (a=b))) K s
 | .neq=>Av dst (.bool (!decide (a=b))) K s
 | .lss=>Av dst (.bool (Go.Op.bytesLess a b)) K s
 | .leq=>Av dst (.bool (Go.Op.bytesLess a b || decide (a=b))) K s
 | .gtr=>Av dst (.bool (!(Go.Op.bytesLess a b || decide (a=b)))) K s
 | .geq=>Av dst (.bool (!Go.Op.bytesLess a b)) K s
 | _=>False
def Ht:BinOp->Option Bool
 | .eql=>some false
 | .neq=>some true
 | _=>none
def Ia (dst:Option Nat):Option Bool->Option Bool->DK->DS->Prop
 | some false,some b,K,s=>Av dst (.bool b) K s
 | some true,some b,K,s=>Av dst (.bool (!b)) K s
 | _,_,_,_=>False
def Cg:BinOp->Bool
 | .shl | .shr=>true
 | _=>false
def Yz (op:BinOp) (k k':IntKind) (a b:Int) (dst:Option Nat) (K:DK) (s:DS):Bool->Prop
 | true=>Vk k a b dst K s op
 | false=>k=k'/\Qf k a b dst K s op
def Cd:Operand->Bool
 | .const _=>true
 | _=>false
def Gi (P:Program) (t:TypeId) (c:Bool) (op:BinOp) (dst:Option Nat):DVal->DVal->DK->DS->Prop
 | .int k a, .int k' b,K,s=>Yz op k k' a b dst K s (Cg op)
 | .str a, .str b,K,s=>Oe a b dst K s op
 | .agg xs, .agg ys,K,s=>Br P t=some true/\P.eqGuardType P.depth t=false/\Ia dst (Ht op) (Mo P 6 t xs ys) K s
 | x,y,K,s=>Ia dst (Ht op) (Ik c (P.underlying t) x y) K s
def Dh:Operand->Bool
 | .const (.slice none 0 0)=>true
 | _=>false
def Ce7:Option TypeDesc->Bool
 | some (.slice _)=>true
 | _=>false
def Cl8 (cs:List DVal) (op:BinOp) (dst:Option Nat) (K:DK) (s:DS):Prop:= ∀b,(cs≠ []->b=false)->Ia dst (Ht op) (some b) K s
def Ot (P:Program) (t:TypeId) (c:Bool) (op:BinOp) (dst:Option Nat):Bool->DVal->DVal->DK->DS->Prop
 | true, .vslice cs _,_,K,s=>Ce7 (P.underlying t)=true/\Cl8 cs op dst K s
 | _,x,y,K,s=>Gi P t c op dst x y K s
def dUn (dst:Option Nat):UnOp->DVal->DK->DS->Prop
 | .not, .bool b,K,s=>Av dst (.bool (!b)) K s
 | .neg, .int k n,K,s=>Av dst (.int k (k.wrap (0-n))) K s
 | .xor, .int k n,K,s=>Av dst (.int k (k.wrap (BitVec.ofInt k.bits (if k.signed then-1 else k.max)^^^BitVec.ofInt k.bits n).toNat)) K s
 | _,_,_,_=>False
def Ix (dst:Option Nat):Option TypeDesc->Option TypeDesc->DVal->DK->DS->Prop
 | some _,some (.int k), .int _ n,K,s=>Av dst (.int k (k.wrap n)) K s
 | some _,some .string, .str l,K,s=>Av dst (.str l) K s
 | _,_,_,_,_=>False
def Ig:List DVal->Option (List UInt8)
 | []=>some []
 | .int .u8 n::ds=>(Ig ds).map (UInt8.ofNat n.toNat:: ·)
 | _=>none
def Cl9 (dst:Option Nat):Option (List UInt8)->DK->DS->Prop
 | some l,K,s=>Av dst (.str l) K s
 | none,_,_=>False
def Lj (n off:Nat):Option DObj->Option (List DVal)
 | some (.cells cs _)=>if off+n<=cs.length then some ((cs.drop off).take n) else none
 | _=>none
def Lk (H:Aa):DVal->Option (List DVal)
 | .nilSlice=>some []
 | .vslice cs n=>if n<=cs.length then some (cs.take n) else none
 | .oslice _ r off n _=>Lj n off (H r)
 | _=>none
def Bq4 (P:Program) (e:TypeId) (x:DVal) (dst:Option Nat) (K:DK) (s:DS):Prop:=P.underlying e=some (.int .u8)/\Cl9 dst ((Lk s.heap x).bind Ig) K s
def Gl (P:Program) (dst:Option Nat):Option TypeDesc->Option TypeDesc->DVal->DK->DS->Prop
 | some (.slice e),some .string,x,K,s=>Bq4 P e x dst K s
 | a,b,x,K,s=>Ix dst a b x K s
def Vl (dst:Option Nat):Option TypeDesc->DVal->DK->DS->Prop
 | some .string, .str l,K,s=> ∀r,s.heap r=none->K ⟨Df s.env dst (.optr r 0),upd s.heap r (some (.iter l 0))⟩
 | _,_,_,_=>False
def Iy (l:List UInt8) (pos:Nat):Nat×Nat:=Utf8.decode ⟨⟨l⟩⟩ pos
def Ab6 (r:Nat) (dst:Option Nat) (K:DK) (s:DS):Option DObj->Prop
 | some (.iter l pos)=>(pos<l.length->K ⟨Df s.env dst (.tuple [.bool true, .int .i64 pos, .int .i32 (Iy l pos).1]),upd s.heap r (some (.iter l (pos+(Iy l pos).2)))⟩)/\
   (¬pos<l.length->Av dst (.tuple [.bool false]) K s)
 | _=>False
def Za (dst:Option Nat):Bool->DVal->DK->DS->Prop
 | true, .optr r 0,K,s=>Ab6 r dst K s (s.heap r)
 | _,_,_,_=>False
def Bl:Option TypeDesc->Bool
 | some (.interface _) | none=>false
 | _=>true
def Iz (t:TypeId) (x:DVal) (dst:Option Nat):Bool->DK->DS->Prop
 | true,K,s=>Av dst (.iface t x) K s
 | false,_,_=>False
def Mv (e:TypeId) (size bytes:Nat) (l c:Int) (dst:Option Nat):Option DVal->DK->DS->Prop
 | some z,K,s=>0<=l/\l<=c/\c*(bytes:Int)<=35184372088832/\c<9223372036854775808/\z.cells.length=size/\0<size/\Tt (repl c.toNat z.cells) e size l.toNat c.toNat dst K s
 | none,_,_=>False
def Ha (P:Program) (dst:Option Nat):Option TypeDesc->DVal->DVal->DK->DS->Prop
 | some (.slice e), .int _ l, .int _ c,K,s=>Mv e (P.cellsOf e) (P.bytesOf e) l c dst (Ax P e) K s
 | _,_,_,_,_=>False
def dLo:Option DVal->Option Int
 | none=>some 0
 | some (.int _ n)=>some n
 | _=>none
def dHi (len:Nat):Option DVal->Option Int
 | none=>some len
 | some (.int _ n)=>some n
 | _=>none
def Of (l:List UInt8) (dst:Option Nat) (K:DK) (s:DS):Option Int->Option Int->Prop
 | some lo,some hi=>0<=lo/\lo<=hi/\hi<=l.length/\Av dst (.str ((l.drop lo.toNat).take (hi.toNat-lo.toNat))) K s
 | _,_=>False
def Og (size:Nat) (cs:List DVal) (len:Nat) (dst:Option Nat) (K:DK) (s:DS):Option Int->Option Int->Prop
 | some lo,some hi=>0<=lo/\lo<=hi/\hi<=len/\Av dst (.vslice ((cs.drop (lo.toNat*size)).take ((hi.toNat-lo.toNat)*size)) (hi.toNat-lo.toNat)) K s
 | _,_=>False
def Jn (size r off cap:Nat) (dst:Option Nat) (K:DK) (s:DS):Option Int->Option Int->Option Int->Prop
 | some lo,some hi,some mx=>0<=lo/\lo<=hi/\hi<=mx/\mx<=cap/\Av dst (.oslice size r (off+lo.toNat*size) (hi.toNat-lo.toNat) (mx.toNat-lo.toNat)) K s
 | _,_,_=>False
def Ut (dst:Option Nat) (K:DK) (s:DS):Option Int->Option Int->Prop
 | some lo,some hi=>lo=0/\hi=0/\Av dst .nilSlice K s
 | _,_=>False
def Bb5 (n:Nat):Option DObj->Prop
 | some (.cells cs _)=>n<=cs.length
 | _=>False
def Ph (P:Program) (lo hi:Option DVal) (dst:Option Nat):Option TypeDesc->DVal->Option DVal->DK->DS->Prop
 | some .string, .str l,none,K,s=>Of l dst K s (dLo lo) (dHi l.length hi)
 | some (.slice e), .nilSlice,none,K,s=>(P.info? e).isSome=true/\Ut dst K s (dLo lo) (dHi 0 hi)
 | some (.slice e), .vslice cs len,none,K,s=>(P.info? e).isSome=true/\Og (P.cellsOf e) cs len dst K s (dLo lo) (dHi len hi)
 | some (.slice e), .oslice sz r off len cap,none,K,s=>(P.info? e).isSome=true/\sz=P.cellsOf e/\Jn (P.cellsOf e) r off cap dst K s (dLo lo) (dHi len hi) (some cap)
 | some (.slice e), .oslice sz r off _ cap,some m,K,s=>(P.info? e).isSome=true/\sz=P.cellsOf e/\hi.isSome/\Jn (P.cellsOf e) r off cap dst K s (dLo lo) (dLo hi) (dLo (some m))
 | some (.array n e), .optr r off,none,K,s=>(P.info? e).isSome=true/\Bb5 (off+n*P.cellsOf e) (s.heap r)/\Jn (P.cellsOf e) r off n dst K s (dLo lo) (dHi n hi) (some n)
 | some (.array n e), .vptr cs off,none,K,s=>(P.info? e).isSome=true/\off+n*P.cellsOf e<=cs.length/\Og (P.cellsOf e) ((cs.drop off).take (n*P.cellsOf e)) n dst K s (dLo lo) (dHi n hi)
 | _,_,_,_,_=>False
def Il (n:Nat):DVal->Option DVal
 | .vptr cs off=>some (.vptr cs (off+n))
 | .optr r off=>some (.optr r (off+n))
 | _=>none
def Mw (P:Program) (x:DVal) (dst:Option Nat):Option Field->DK->DS->Prop
 | some f,K,s=>0<P.cellsOf f.type/\Fh dst (Il f.offset x) K s
 | none,_,_=>False
def Fp (P:Program) (f:Nat) (x:DVal) (dst:Option Nat):Option TypeDesc->DK->DS->Prop
 | some (.struct fields),K,s=>Mw P x dst fields[f]? K s
 | _,_,_=>False
def Vm (size:Nat) (cs:List DVal) (off:Nat) (dst:Option Nat):Option Bool->DK->DS->Prop
 | some true,K,s=>Av dst (.agg ((cs.drop off).take size)) K s
 | some false,K,s=>Fh dst cs[off]? K s
 | none,_,_=>False
def Ab7 (P:Program) (cs:List DVal) (dst:Option Nat):Option Field->DK->DS->Prop
 | some f,K,s=>Vm (P.cellsOf f.type) cs f.offset dst (Br P f.type) K s
 | none,_,_=>False
def Pj (P:Program) (f:Nat) (dst:Option Nat):Option TypeDesc->DVal->DK->DS->Prop
 | some (.struct fields), .agg cs,K,s=>Ab7 P cs dst fields[f]? K s
 | _,_,_,_=>False
def Fq (P:Program) (dst:Option Nat):Option TypeDesc->DVal->DVal->DK->DS->Prop
 | some (.slice e), .vslice cs len, .int _ i,K,s=>(P.info? e).isSome=true/\0<=i/\i<len/\i.toNat*P.cellsOf e<cs.length/\Av dst (.vptr cs (i.toNat*P.cellsOf e)) K s
 | some (.slice e), .oslice _ r off len _, .int _ i,K,s=>(P.info? e).isSome=true/\0<=i/\i<len/\Av dst (.optr r (off+i.toNat*P.cellsOf e)) K s
 | some (.array n e),x, .int _ i,K,s=>(P.info? e).isSome=true/\0<=i/\i<n/\Fh dst (Il (i.toNat*P.cellsOf e) x) K s
 | _,_,_,_,_=>False
def Sh (P:Program) (dst:Option Nat):Option TypeDesc->DVal->DVal->DK->DS->Prop
 | some (.array n e), .agg cs, .int _ i,K,s=>0<=i/\i<n/\Vm (P.cellsOf e) cs (i.toNat*P.cellsOf e) dst (Br P e) K s
 | some .string, .str l, .int _ i,K,s=>0<=i/\Fh dst (l[i.toNat]?.map fun b=> .int .u8 b.toNat) K s
 | _,_,_,_,_=>False
def Ko (i:Nat) (dst:Option Nat):DVal->DK->DS->Prop
 | .tuple vs,K,s=>Fh dst vs[i]? K s
 | _,_,_=>False
def Qg (dst:Option Nat):Option DVal->DK->DS->Prop
 | some z,K,s=>Av dst (.tuple [z, .bool false]) K s
 | none,_,_=>False
def Iu (v:DVal) (z:Option DVal) (dst:Option Nat):Bool->Bool->DK->DS->Prop
 | true,true,K,s=>Av dst (.tuple [v, .bool true]) K s
 | true,false,K,s=>Qg dst z K s
 | false,true,K,s=>Av dst v K s
 | false,false,_,_=>False
def Ck (P:Program) (asserted:TypeId) (commaOk:Bool) (dst:Option Nat):Bool->DVal->DK->DS->Prop
 | true, .iface t v,K,s=>Iu v (Ax P asserted) dst commaOk (decide (t=asserted)) K s
 | true, .nilIface,K,s=>commaOk=true/\Qg dst (Ax P asserted) K s
 | _,_,_,_=>False
def Bg7 (dst:Option Nat):Option TypeDesc->DVal->DK->DS->Prop
 | some .string, .str l,K,s=>Av dst (.int .i64 l.length) K s
 | some (.array n _),_,K,s=>Av dst (.int .i64 n) K s
 | some (.slice _), .nilSlice,K,s=>Av dst (.int .i64 0) K s
 | some (.slice _), .vslice _ n,K,s=>Av dst (.int .i64 n) K s
 | some (.slice _), .oslice _ _ _ n _,K,s=>Av dst (.int .i64 n) K s
 | _,_,_,_=>False
def Ab8 (P:Program) (x:DVal) (dst:Option Nat):List TypeId->DK->DS->Prop
 | [t],K,s=>Bg7 dst (P.underlying t) x K s
 | _,_,_=>False
def Kp (size n off:Nat):Option DObj->Option (Nat×List DVal)
 | some (.cells cs _)=>some (n,(cs.drop off).take (n*size))
 | _=>none
def Ja (size:Nat) (H:Aa):DVal->Option (Nat×List DVal)
 | .nilSlice=>some (0,[])
 | .vslice cs n=>some (n,cs.take (n*size))
 | .oslice _ r off n _=>Kp size n off (H r)
 | .str l=>some (l.length,l.map fun b=> .int .u8 b.toNat)
 | _=>none
def Qh (e:TypeId) (size bytes:Nat) (r off len lo:Nat) (n:Nat) (news:List DVal) (dst:Option Nat) (K:DK) (s:DS):Option DObj->Prop
 | some (.cells cs e')=>e'=e/\
  (len+n<=lo->off+(len+n)*size<=cs.length/\
    K ⟨Df s.env dst (.oslice size r off (len+n) lo),upd s.heap r (some (.cells (splice cs (off+len*size) news) e))⟩)/\
  (¬len+n<=lo->off+len*size<=cs.length/\(len+n)*bytes<=35184372088832/\
   ∀r' pre,upd s.heap r none r'=none->(off=0->pre= [])->
    K ⟨Df s.env dst (.oslice size r' pre.length (len+n) (len+n)),upd (if len<=lo\/r'=r then upd s.heap r none else s.heap) r' (some (.cells (pre++(cs.drop off).take (len*size)++news) e))⟩)
 | _=>False
def Kq (e:TypeId) (size bytes:Nat) (n:Nat) (news:List DVal) (dst:Option Nat):DVal->DK->DS->Prop
 | .nilSlice,K,s=>(n=0->Av dst .nilSlice K s)/\(n≠0->n*bytes<=35184372088832/\Tt news e size n n dst K s)
 | .oslice sz r off len lo,K,s=>sz=size/\Qh e size bytes r off len lo n news dst K s (s.heap r)
 | _,_,_=>False
def Vn (e:TypeId) (size bytes:Nat) (x:DVal) (dst:Option Nat):Option (Nat×List DVal)->DK->DS->Prop
 | some (n,news),K,s=>news.length=n*size/\news.all (·.one)=true/\Kq e size bytes n news dst x K s
 | none,_,_=>False
def Pk:Option TypeDesc->Bool
 | some (.slice _)=>true
 | some .string=>true
 | _=>false
def Qi (P:Program) (u':Bool) (x y:DVal) (dst:Option Nat):Option TypeDesc->DK->DS->Prop
 | some (.slice e),K,s=>u'=true/\(Ax P e).isSome=true/\(Ax P e).all (fun z=>z.cells.length=P.cellsOf e)=true/\0<P.cellsOf e/\0<P.bytesOf e/\Vn e (P.cellsOf e) (P.bytesOf e) x dst (Ja (P.cellsOf e) s.heap y) K s
 | _,_,_=>False
def Bq5 (dst:Option Nat):Option TypeDesc->DVal->DK->DS->Prop
 | some (.slice _), .nilSlice,K,s=>Av dst (.int .i64 0) K s
 | some (.slice _), .vslice _ n,K,s=> ∀c:Nat,n<=c->Av dst (.int .i64 c) K s
 | some (.slice _), .oslice _ _ _ n lo,K,s=> ∀c:Nat,n<=c->lo<=c->Av dst (.int .i64 c) K s
 | _,_,_,_=>False
def Bq6 (P:Program) (x:DVal) (dst:Option Nat):List TypeId->DK->DS->Prop
 | [t],K,s=>Bq5 dst (P.underlying t) x K s
 | _,_,_=>False
def Vo (e:TypeId) (size bytes:Nat) (dst:Option Nat):DVal->DVal->Option DVal->DK->DS->Prop
 | .nilSlice, .int .i64 n,some z,K,s=>0<=n/\0<size/\(n=0->Av dst .nilSlice K s)/\(n≠0->n*bytes<=35184372088832/\n<=35184372088832/\z.cells.length=size/\Tt (repl n.toNat z.cells) e size n.toNat n.toNat dst K s)
 | _,_,_,_,_=>False
def Bb6 (size:Nat) (r off n:Nat) (dst:Option Nat) (K:DK) (s:DS) (z:List DVal):Option DObj->Prop
 | some (.cells cs e)=>z.length=size/\z.all (·.one)=true/\off+n*size<=cs.length/\K ⟨Df s.env dst (.tuple []),upd s.heap r (some (.cells (splice cs off (repl n z)) e))⟩
 | _=>False
def Ab9 (size:Nat) (dst:Option Nat):Option DVal->DVal->DK->DS->Prop
 | some _, .nilSlice,K,s=>Av dst (.tuple []) K s
 | some z, .oslice sz r off n lo,K,s=>sz=size/\n<=lo/\Bb6 size r off n dst K s z.cells (s.heap r)
 | _,_,_,_=>False
def Vp (P:Program) (dst:Option Nat):Option TypeDesc->DVal->DK->DS->Prop
 | some (.slice e),x,K,s=>Ab9 (P.cellsOf e) dst (Ax P e) x K s
 | _,_,_,_=>False
def Aj9 (P:Program) (x:DVal) (dst:Option Nat):List TypeId->DK->DS->Prop
 | [t],K,s=>Vp P dst (P.underlying t) x K s
 | _,_,_=>False
def Gm:Option TypeDesc->Bool
 | some (.int _)=>true
 | _=>false
def Qj (P:Program) (x y:DVal) (dst:Option Nat):Option TypeDesc->DK->DS->Prop
 | some (.slice e),K,s=>Vo e (P.cellsOf e) (P.bytesOf e) dst x y (Ax P e) K s
 | _,_,_=>False
def Mx (P:Program) (x y:DVal) (dst:Option Nat):Bool->Bool->Option TypeDesc->DK->DS->Prop
 | true,_,t,K,s=>Qj P x y dst t K s
 | false,u',t,K,s=>Qi P u' x y dst t K s
def Kr (P:Program) (x y:DVal) (dst:Option Nat):List TypeId->DK->DS->Prop
 | [t,t'],K,s=>Mx P x y dst (Gm (P.underlying t')) (Pk (P.underlying t')) (P.underlying t) K s
 | _,_,_=>False
def Jj:DVal->DVal->Option Bool
 | .int k a, .int k' b=>if k=k' then some (decide (a=b)) else none
 | .str a, .str b=>some (decide (a=b))
 | .bool a, .bool b=>some (decide (a=b))
 | .agg [.bool a, .bool b], .agg [.bool c, .bool d]=>some (decide (a=c)&&decide (b=d))
 | _,_=>none
def Ll (i:Nat) (r:Option (Option Nat)):Option Bool->Option (Option Nat)
 | some true=>some (some i)
 | some false=>r
 | none=>none
def Cl (k:DVal):List (DVal×DVal)->Nat->Option (Option Nat)
 | [],_=>some none
 | p::es,i=>Ll i (Cl k es (i+1)) (Jj k p.1)
def Gn:Option TypeDesc->DVal->Bool
 | some (.int k), .int k' _=>decide (k=k')
 | some .string, .str _=>true
 | some .bool, .bool _=>true
 | _,_=>false
def Bb7:Option TypeDesc->Bool
 | some .bool=>true
 | _=>false
def Zb (P:Program):Option TypeDesc->Bool
 | some (.array 2 e)=>Bb7 (P.underlying e)&&(P.info? e).isSome&&P.cellsOf e==1
 | _=>false
def Fy (P:Program) (t:Option TypeDesc):DVal->Bool
 | .agg [.bool _, .bool _]=>Zb P t
 | k=>Gn t k
def Ac0 (es:List (DVal×DVal)) (k v:DVal):Option Nat->List (DVal×DVal)
 | some i=>es.set i (k,v)
 | none=>es++ [(k,v)]
def Qk (r:Nat) (es:List (DVal×DVal)) (k v:DVal) (K:DK) (s:DS):Option (Option Nat)->Prop
 | some i=>K ⟨s.env,upd s.heap r (some (.map (Ac0 es k v i)))⟩
 | none=>False
def Ql (r:Nat) (k v:DVal) (K:DK) (s:DS):Option DObj->Prop
 | some (.map es)=>v.one=true/\Qk r es k v K s (Cl k es 0)
 | _=>False
def Jo (P:Program) (dst:Option Nat):Option TypeDesc->DVal->DVal->DVal->DK->DS->Prop
 | some (.map kt _), .omap r,k,v,K,s=>dst=none/\Fy P (P.underlying kt) k=true/\Ql r k v K s (s.heap r)
 | _,_,_,_,_,_=>False
def At3 (ok:Bool) (dst:Option Nat) (v:DVal) (b:Bool) (K:DK) (s:DS):Prop:=Av dst (if ok then .tuple [v, .bool b] else v) K s
def Pm (es:List (DVal×DVal)) (ok:Bool) (dst:Option Nat):Option DVal->Option (Option Nat)->DK->DS->Prop
 | _,some (some i),K,s=> ∃p,es[i]? =some p/\At3 ok dst p.2 true K s
 | some z,some none,K,s=>At3 ok dst z false K s
 | _,_,_,_=>False
def At4 (z:Option DVal) (k:DVal) (ok:Bool) (dst:Option Nat):Option DObj->DK->DS->Prop
 | some (.map es),K,s=>Pm es ok dst z (Cl k es 0) K s
 | _,_,_=>False
def Qm (P:Program) (ok:Bool) (dst:Option Nat):Option TypeDesc->DVal->DVal->DK->DS->Prop
 | some (.map kt e), .omap r,k,K,s=>Fy P (P.underlying kt) k=true/\At4 (Ax P e) k ok dst (s.heap r) K s
 | some (.map kt e), .nilMap,k,K,s=>Fy P (P.underlying kt) k=true/\Pm [] ok dst (Ax P e) (some none) K s
 | _,_,_,_,_=>False
def Ak0 (es:List (DVal×DVal)):Option Nat->List (DVal×DVal)
 | some i=>es.eraseIdx i
 | none=>es
def Vq (r:Nat) (es:List (DVal×DVal)) (dst:Option Nat) (K:DK) (s:DS):Option (Option Nat)->Prop
 | some i=>K ⟨Df s.env dst (.tuple []),upd s.heap r (some (.map (Ak0 es i)))⟩
 | none=>False
def Vr (r:Nat) (k:DVal) (dst:Option Nat) (K:DK) (s:DS):Option DObj->Prop
 | some (.map es)=>Vq r es dst K s (Cl k es 0)
 | _=>False
def Qn (P:Program) (dst:Option Nat):Option TypeDesc->DVal->DVal->DK->DS->Prop
 | some (.map kt _), .omap r,k,K,s=>Fy P (P.underlying kt) k=true/\Vr r k dst K s (s.heap r)
 | _,_,_,_,_=>False
def Zc (P:Program) (x k:DVal) (dst:Option Nat):List TypeId->DK->DS->Prop
 | t::_,K,s=>Qn P dst (P.underlying t) x k K s
 | _,_,_=>False
def Bq7 (dst:Option Nat) (K:DK) (s:DS):Prop:=
 ∀r,s.heap r=none->K ⟨Df s.env dst (.omap r),upd s.heap r (some (.map []))⟩
def Ks (dst:Option Nat):Option TypeDesc->Option DVal->DK->DS->Prop
 | some (.map _ _),none,K,s=>Bq7 dst K s
 | some (.map _ _),some (.int _ _),K,s=>Bq7 dst K s
 | _,_,_,_=>False
def dMM (isMax:Bool):DVal->DVal->Option DVal
 | .int k x, .int _ y=>some (.int k (if isMax then(if y>x then y else x) else(if y<x then y else x)))
 | _,_=>none
def Gp (isMax:Bool):Option DVal->List DVal->Option DVal
 | a,[]=>a
 | some x,y::ys=>Gp isMax (dMM isMax x y) ys
 | none,_=>none
def Fm (isMax:Bool):List DVal->Option DVal
 | []=>none
 | x::rest=>Gp isMax (some x) rest
def Ac1 (dst:Option Nat) (K:DK) (Q:DExit->DS->Prop) (env:Nat->DVal):DEnd->Aa->Prop
 | .ret v,H=>K ⟨Df env dst v,H⟩
 | .panic v,H=>Q (.panic v) ⟨env,H⟩
def Si (P:Program) (G:Nat->DVal) (args:List DVal) (dst:Option Nat) (Q:DExit->DS->Prop):DVal->DK->DS->Prop
 | .func (.func k) first captured,K,s=>Ar P G k (first++args++captured) s.heap (Ac1 dst K Q s.env)
 | .func (.yield l) [] [],K,s=>Us P G l args s.heap (Ac1 dst K Q s.env)
 | _,_,_=>False
def My (Q:DExit->DS->Prop) (s:DS):DVal->Prop
 | .iface t v=>Q (.panic (.iface t v)) s
 | _=>False
def Et (P:Program) (ts:List TypeId) (dst:Option Nat) (Q:DExit->DS->Prop):Builtin->List DVal->DK->DS->Prop
 | .len,[x],K,s=>Ab8 P x dst ts K s
 | .append,[x,y],K,s=>Kr P x y dst ts K s
 | .cap,[x],K,s=>Bq6 P x dst ts K s
 | .clear,[x],K,s=>Aj9 P x dst ts K s
 | .delete,[x,k],K,s=>Zc P x k dst ts K s
 | .min,xs,K,s=>Fh dst (Fm false xs) K s
 | .max,xs,K,s=>Fh dst (Fm true xs) K s
 | .panic,[x],_,s=>My Q s x
 | _,_,_,_=>False
def Jp (P:Program) (G:Nat->DVal) (c:Call) (dst:Option Nat) (K:DK) (Q:DExit->DS->Prop) (s:DS):Callee->Prop
 | .value f=>Si P G (Cj G s.env c.args.toList) dst Q (dev G s.env f) K s
 | .builtin b=>Et P c.argTypes.toList dst Q b (Cj G s.env c.args.toList) K s
 | .invoke _ _=>False
def Eu (G:Nat->DVal) (env:Nat->DVal):List (Nat×Operand)->List (Nat×DVal)
 | []=> []
 | (i,x)::ps=>(i,dev G env x)::Eu G env ps
def Hu (G:Nat->DVal) (env:Nat->DVal):Option Operand->Option DVal
 | some x=>some (dev G env x)
 | none=>none
def dop (P:Program) (G:Nat->DVal) (dst:Option Nat) (K:DK) (Q:DExit->DS->Prop) (s:DS):Op->Prop
 | .move x=>Av dst (dev G s.env x) K s
 | .assign x=>Av dst (dev G s.env x) K s
 | .pick c a b=>Yx dst (dev G s.env c) (dev G s.env a) (dev G s.env b) K s
 | .alloc e=>At1 e dst (Ax P e) K s
 | .box e x=>Vh (dev G s.env x).cells e dst K s
 | .build t ps=>Pf P dst (Od P t) (P.underlying t) (Ax P t) (Eu G s.env ps.toList) K s
 | .buildSlice t n ps=>Fx P n dst (P.underlying t) (Eu G s.env ps.toList) K s
 | .load t a=>Tu (P.cellsOf t) (Br P t) dst (dev G s.env a) K s
 | .store t a x=>(P.info? t).isSome=true/\Sg (P.cellsOf t) dst (dev G s.env a) (dev G s.env x) K s
 | .nilCheck x=>Kn dst (dev G s.env x) K s
 | .binOp op t x y _=>Ot P t (Cd x || Cd y) op dst (Dh y) (dev G s.env x) (dev G s.env y) K s
 | .unOp op _ x=>dUn dst op (dev G s.env x) K s
 | .convert src t x=>Gl P dst (P.underlying src) (P.underlying t) (dev G s.env x) K s
 | .makeInterface t x=>Iz t (dev G s.env x) dst (Bl (P.underlying t)) K s
 | .makeFunc fn fs cs=>Av dst (.func fn (Cj G s.env fs.toList) (Cj G s.env cs.toList)) K s
 | .makeMap t r=>Ks dst (P.underlying t) (Hu G s.env r) K s
 | .lookup t x k ok=>Qm P ok dst (P.underlying t) (dev G s.env x) (dev G s.env k) K s
 | .mapUpdate t m k x=>Jo P dst (P.underlying t) (dev G s.env m) (dev G s.env k) (dev G s.env x) K s
 | .insert t m k x=>Jo P dst (P.underlying t) (dev G s.env m) (dev G s.env k) (dev G s.env x) K s
 | .makeSlice t l c=>Ha P dst (P.underlying t) (dev G s.env l) (dev G s.env c) K s
 | .slice t x lo hi mx=>Ph P (Hu G s.env lo) (Hu G s.env hi) dst (P.underlying t) (dev G s.env x) (Hu G s.env mx) K s
 | .fieldAddr t x f=>Fp P f (dev G s.env x) dst (P.underlying t) K s
 | .field t x f=>Pj P f dst (P.underlying t) (dev G s.env x) K s
 | .indexAddr t x i=>Fq P dst (P.underlying t) (dev G s.env x) (dev G s.env i) K s
 | .index t x i=>Sh P dst (P.underlying t) (dev G s.env x) (dev G s.env i) K s
 | .typeAssert x _ t ok=>Ck P t ok dst (Bl (P.underlying t)) (dev G s.env x) K s
 | .extract x i=>Ko i dst (dev G s.env x) K s
 | .panic x=>My Q s (dev G s.env x)
 | .range t x=>Vl dst (P.underlying t) (dev G s.env x) K s
 | .next x b=>Za dst b (dev G s.env x) K s
 | .call c=>Jp P G c dst K Q s c.callee
 | _=>False
def Ih:List Oper->Nat->Option Nat
 | [],_=>none
 | o::_,0=>o.dst
 | _::r,n+1=>Ih r n
def Hb (P:Program) (G:Nat->DVal) (all:List Oper) (Q:DExit->DS->Prop):List Oper->DS->Prop
 | [],s=>Q .normal s
 | o::rest,s=>
  match o.guard with
  | none=>dop P G o.dst (Hb P G all Q rest) Q s o.op
  | some (j,b)=>match Ih all j with
   | some g=>match s.env g with
    | .bool v=>(v=b->dop P G o.dst (Hb P G all Q rest) Q s o.op)/\(v≠b->Av o.dst Bp (Hb P G all Q rest) s)
    | .tuple []=>Av o.dst Bp (Hb P G all Q rest) s
    | _=>False
   | none=>False
def At5 (P:Program) (G:Nat->DVal) (all:List Oper) (Q:DExit->DS->Prop) (dst:Option Nat) (op:Op) (rest:List Oper) (s:DS):Bool->DVal->Prop
 | true, .bool true=>dop P G dst (Hb P G all Q rest) Q s op
 | true, .bool false=>Av dst Bp (Hb P G all Q rest) s
 | false, .bool true=>Av dst Bp (Hb P G all Q rest) s
 | false, .bool false=>dop P G dst (Hb P G all Q rest) Q s op
 | true, .tuple []=>Av dst Bp (Hb P G all Q rest) s
 | false, .tuple []=>Av dst Bp (Hb P G all Q rest) s
 | _,_=>False
def Ac2 (P:Program) (G:Nat->DVal) (all:List Oper) (Q:DExit->DS->Prop) (dst:Option Nat) (op:Op) (rest:List Oper) (s:DS) (b:Bool):Option Nat->Prop
 | some g=>At5 P G all Q dst op rest s b (s.env g)
 | none=>False
def Db (W:DK) (Q:DExit->DS->Prop):DExit->DS->Prop
 | .normal,s=>W s
 | .exit id,s=>Q (.exit id) s
 | .goto l,s=>Q (.goto l) s
 | .ret,s=>Q .ret s
 | .panic v,s=>Q (.panic v) s
def Uu (Q:DExit->DS->Prop) (s:DS) (id':Nat):Bool->Prop
 | true=>Q .normal s
 | false=>Q (.exit id') s
def Ac3 (id:Nat) (Q:DExit->DS->Prop):DExit->DS->Prop
 | .exit id',s=>Uu Q s id' (decide (id'=id))
 | .normal,s=>Q .normal s
 | .goto l,s=>Q (.goto l) s
 | .ret,s=>Q .ret s
 | .panic v,s=>Q (.panic v) s
def Bb8 (Q:DExit->DS->Prop):DExit->DS->Prop
 | .goto _,_=>False
 | .exit id,s=>Q (.exit id) s
 | .normal,s=>Q .normal s
 | .ret,s=>Q .ret s
 | .panic v,s=>Q (.panic v) s
def Cm0 (X Y:DK) (s:DS):DVal->Prop
 | .bool true=>X s
 | .bool false=>Y s
 | _=>False
def Pn (G:Nat->DVal) (s s':DS):Prop:=
 ∀w,Aw w s.heap->GOk G w s.heap->Aw w s'.heap/\(∀b,s'.heap b≠none->s.heap b≠none)/\GOk G w s'.heap/\ ∀i x,Rel w s.heap (s.env i) x->Rel w s'.heap (s'.env i) x
def Bq8 (G:Nat->DVal) (body:(DExit->DS->Prop)->DK) (Q:DExit->DS->Prop) (s:DS):Prop:=
 ∃(ι:Type) (I:ι->DS->Prop) (μ:ι->Nat),(∃i s',Pn G s s'/\I i s')/\ ∀i s,I i s->body (Db (fun s1=> ∃j s2,Pn G s1 s2/\I j s2/\μ j<μ i) Q) s
def dwp (P:Program) (G:Nat->DVal) (N:Nat):Code->(DExit->DS->Prop)->DS->Prop
 | .skip,Q,s=>Q .normal s
 | .label _,Q,s=>Q .normal s
 | .region _ ops false,Q,s=>Hb P G ops.toList Q ops.toList s
 | .region id ops true,Q,s=>DWp P G N (.region id ops true) Q s
 | .seq a b,Q,s=>dwp P G N a (Db (dwp P G N b Q) Q) s
 | .cond c a b,Q,s=>Cm0 (dwp P G N a Q) (dwp P G N b Q) s (dev G s.env c)
 | .block id c,Q,s=>dwp P G N c (Ac3 id Q) s
 | .loop c,Q,s=>Bq8 G (dwp P G N c) Q s
 | .exit id,Q,s=>Q (.exit id) s
 | .goto l,Q,s=>Q (.goto l) s
 | .ret,Q,s=>Q .ret s
 | .rangeFunc f ps asg body,Q,s=>Cy3 P G N (.rangeFunc f ps asg body) Q s
 | .scope c,Q,s=>dwp P G N c (Bb8 Q) s
 | .refuse _,_,_=>False
def Ay (N:Nat):Operand->Bool
 | .tmp t=>decide (t<N)
 | _=>true
def Ef (N:Nat) (o:Oper):Bool:=
 (match o.dst with | some d=>decide (d<N) | none=>true)&&o.op.operands.all (Ay N)
def Cm (N:Nat):Code->Bool
 | .region _ ops _=>ops.all (Ef N)
 | .seq a b=>Cm N a&&Cm N b
 | .cond c a b=>Ay N c&&Cm N a&&Cm N b
 | .block _ c=>Cm N c
 | .loop c=>Cm N c
 | .scope c=>Cm N c
 | .rangeFunc f _ a b=>Ay N f&&Cm N a&&Cm N b
 | _=>true
@[go_sem] theorem Cy1 (P:Program) (t:Option TypeDesc) (k:IntKind) (n:Int):Fy P t (.int k n)=Gn t (.int k n):=rfl
@[go_sem] theorem Cy2 (P:Program) (t:Option TypeDesc) (l:List UInt8):Fy P t (.str l)=Gn t (.str l):=rfl
@[go_sem] theorem Cq2 (P:Program) (t:Option TypeDesc) (b:Bool):Fy P t (.bool b)=Gn t (.bool b):=rfl
theorem Hv {P:Program} {s:DS} {t:TypeId} {c:Bool} {op:BinOp} {dst:Option Nat} {x y:DVal} {K:DK}:Ot P t c op dst false x y K s=Gi P t c op dst x y K s:=by cases x<;>rfl
end Go.Dl

-- THE DATA LEVEL, PART S: what the data level says of an operation is true of the model's operation: the world, memory.
namespace Go.Dl
open Go
section
variable {P:Program} {G:Nat->DVal} {N:Fr}
mutual
theorem Cs (w:World) (H:Aa): ∀v:Value,Rel w H (Bn v) v
 | .bool b=>by simp [Bn,Rel]
 | .int k n=>by simp [Bn,Rel]
 | .string ⟨⟨l⟩⟩=>by simp [Bn,Rel]
 | .pointer none=>by simp [Bn,Rel]
 | .pointer (some a)=>by simp [Bn,Rel,Value.oneCell']
 | .slice a n c=>by
  by_cases h:a=none/\n=0/\c=0
  ·obtain⟨rfl,rfl,rfl⟩:=h;simp [Bn,Rel]
  ·have:Bn (.slice a n c)= .raw (.slice a n c):=by
    cases a with
    | none=>cases n with
     | zero=>cases c with
      | zero=>simp at h
      | succ c=>rfl
     | succ n=>rfl
    | some a=>rfl
   rw[this];simp [Rel,Value.oneCell']
 | .map none=>by simp [Bn,Rel]
 | .map (some r)=>by simp [Bn,Rel,Value.oneCell']
 | .chan r=>by simp [Bn,Rel,Value.oneCell']
 | .float k b=>by simp [Bn,Rel,Value.oneCell']
 | .complex k a b=>by simp [Bn,Rel,Value.oneCell']
 | .nilFunc=>by simp [Bn,Rel]
 | .nilIface=>by simp [Bn,Rel]
 | .iface t v=>by simp [Bn,Rel,Value.oneCell']
 | .func fn ⟨a⟩ ⟨c⟩=>by
  simp only[Bn,Rel]
  exact⟨_,_,rfl,Jb w H a,Jb w H c⟩
 | .agg ⟨l⟩=>by
  simp only[Bn,Rel]
  exact⟨_,rfl,Jb w H l⟩
 | .tuple ⟨l⟩=>by
  simp only[Bn,Rel]
  exact⟨_,rfl,Jb w H l⟩
theorem Jb (w:World) (H:Aa): ∀vs:List Value,Ap w H (Cz vs) vs
 | []=>by simp [Cz,Ap]
 | v::vs=>by
  simp only[Cz,Ap]
  exact⟨v,vs,rfl,Cs w H v,Jb w H vs⟩
end
theorem Lm (w:World) (H:Aa):Rel w H Bp undef:=by
 simp only[Bp,undef,Rel];exact⟨#[],rfl,by simp [Ap]⟩
theorem Aq {s:DS} {a:Act} {w:World} (hS:Sim G N s a w) {x:Operand} (hx:Ay N x=true):Rel w s.heap (dev G s.env x) (a.eval x):=by
 cases x with
 | tmp t=>exact hS.tmps t (by simpa [Ay] using hx)
 | const v=>exact Cs w s.heap v
 | global g=>exact hS.glob.rel g
 | func f=>
  simp only[dev,Act.eval,Rel];exact⟨#[], #[],rfl,by simp [Ap],by simp [Ap]⟩
theorem Jc {s:DS} {a:Act} {w:World} (hS:Sim G N s a w): ∀ {xs:List Operand},xs.all (Ay N)=true->Ap w s.heap (Cj G s.env xs) (xs.map a.eval)
 | [],_=>by simp [Cj,Ap]
 | x::xs,h=>by
  simp only[List.all_cons,Bool.and_eq_true] at h;simp only[Cj,Ap,List.map_cons];exact⟨_,_,rfl,Aq hS h.1,Jc hS h.2⟩
def Be (N:Nat):Option Nat->Bool
 | some d=>decide (d<N)
 | none=>true
theorem GOk.lasts {H H':Aa} {w w':World} (h:Lasts H w H' w') (hg:GOk G w H):GOk G w' H':=⟨fun g=>Rel.lasts h _ _ (hg.rel g),fun g cs e=>by
 have k:=hg.exact g cs e;rw[h.keep g ?_];exact k;rcases Nat.lt_or_ge g w.heap.size with hl | hl
 ·exact hl
 ·rw[Array.getElem?_eq_none hl] at k;cases k⟩
theorem Sim.ext {s:DS} {a:Act} {w w':World} {H':Aa} (hS:Sim G N s a w) (hE:Ext s.heap w H' w') (hH:Aw w' H'):Sim G N ⟨s.env,H'⟩ a w':=
 ⟨hS.size,hS.defers.ext hE,fun i hi=>Rel.lasts hE.lasts _ _ (hS.tmps i hi),hH,hS.glob.lasts hE.lasts,Nat.le_trans hS.base hE.size⟩
theorem Sim.put {s:DS} {a:Act} {w:World} (hS:Sim G N s a w) {dst:Option Nat} (hd:Be N dst=true) {v:DVal} {x:Value} (hv:Rel w s.heap v x):
  Sim G N ⟨Df s.env dst v,s.heap⟩ (a.put dst x) w:=by
 cases dst with
 | none=>exact hS
 | some d=>
  have hd':d<N:=by simpa [Be] using hd
  refine⟨by simpa [Act.put] using hS.size,by simpa [Act.put] using hS.defers,fun i hi=> ?_,hS.heap,hS.glob,hS.base⟩;have hsz:=hS.size;simp only[Act.put,Df,upd];by_cases e:i=d
  ·subst e;have:(a.tmps.setIfInBounds i x).getD i undef=x:=by simp [Array.getD,hsz,hi]
   rw[this,if_pos rfl];exact hv
  ·have h1:(a.tmps.setIfInBounds d x).getD i undef=a.tmps.getD i undef:=by
    simp [Array.getD,hsz,hi,Array.getElem_setIfInBounds,Ne.symm e]
   rw[h1,if_neg e];exact hS.tmps i hi
def Dg (G:Nat->DVal) (N:Fr) (K:DK) (s:DS) (w:World):Act->World->Prop:=
 fun a' w'=> ∃s',K s'/\Sim G N s' a' w'/\Ext s.heap w s'.heap w'
def Ii (G:Nat->DVal) (N:Fr) (Q:DExit->DS->Prop) (s:DS) (w:World):Exit->Act->World->Prop:=
 fun e a' w'=> ∃e' s',Q e' s'/\RelX w' s'.heap e' e/\Sim G N s' a' w'/\Ext s.heap w s'.heap w'
variable {o:Oper} {s:DS} {a:Act} {w:World} {K:DK} {Qx:Exit->Act->World->Prop}
theorem Dp {w':World} {H':Aa} {v:DVal} {x:Value} (hS:Sim G N s a w) (hd:Be N o.dst=true) (hrun:(execOp a.eval o).run P w= .ok (.value x) w')
  (hE:Ext s.heap w H' w') (hH:Aw w' H') (hv:Rel w' H' v x) (hK:K ⟨Df s.env o.dst v,H'⟩):o.wp P a w (Dg G N K s w) Qx:=by
 unfold Oper.wp;rw[hrun];exact⟨_,hK,(hS.ext hE hH).put hd hv,hE⟩
theorem Ek {v:DVal} {x:Value} (hS:Sim G N s a w) (hd:Be N o.dst=true) (hrun:(execOp a.eval o).run P w= .ok (.value x) w)
  (hv:Rel w s.heap v x) (hK:Av o.dst v K s):o.wp P a w (Dg G N K s w) Qx:=
 Dp hS hd hrun (Ext.refl _ _) hS.heap hv hK
def PV (P:Program) (o:Oper) (s:DS) (a:Act) (w:World) (K:DK):Prop:=
 ∃d x,(execOp a.eval o).run P w= .ok (.value x) w/\Rel w s.heap d x/\Av o.dst d K s
theorem pvI {v:DVal} {x:Value} (_hS:Sim G N s a w) (_hd:Be N o.dst=true) (hrun:(execOp a.eval o).run P w= .ok (.value x) w)
  (hv:Rel w s.heap v x) (hK:Av o.dst v K s):PV P o s a w K:=⟨v,x,hrun,hv,hK⟩
theorem PV.wp (h:PV P o s a w K) (hS:Sim G N s a w) (hd:Be N o.dst=true):o.wp P a w (Dg G N K s w) Qx:=by
 obtain⟨d,x,h1,h2,h3⟩:=h;exact Ek hS hd h1 h2 h3
theorem Ln {k:IntKind} {n:Int} (hS:Sim G N s a w) (hd:Be N o.dst=true) (hrun:(execOp a.eval o).run P w= .ok (.value (.int k n)) w) (hK:Av o.dst (.int k n) K s):PV P o s a w K:=
 pvI hS hd hrun (by simp [Rel]) hK
theorem Uv {b:Bool} (hS:Sim G N s a w) (hd:Be N o.dst=true) (hrun:(execOp a.eval o).run P w= .ok (.value (.bool b)) w) (hK:Av o.dst (.bool b) K s):PV P o s a w K:=
 pvI hS hd hrun (by simp [Rel]) hK
theorem Ext.drawn {H:Aa} {w w':World} {H':Aa} (h:Ext H w H' w') (n:Nat):Ext H w H' { w' with drawn:=n }:=⟨h.os,h.tape,h.output,h.size,h.block,h.own,h.keep,fun a ha hn=>h.fz a ha hn⟩
theorem Ak1 (H:Aa) (w:World) (n:Nat):Lasts H w H { w with drawn:=n }:=⟨fun b i x hb hc=>⟨hb,hc⟩,Nat.le_refl _,fun _ _=>rfl⟩
theorem Aw.drawn {w:World} {H:Aa} (n:Nat) (h:Aw w H):Aw { w with drawn:=n } H:=by
 intro r o ho;exact(h r o ho).lasts (Ak1 H w n)
theorem Aw.lt {H:Aa} (hH:Aw w H) {r:Nat} (h:H r≠none):r<w.heap.size:=by
 cases e:H r with
 | none=>exact(h e).elim
 | some o=>
  obtain⟨y,h1⟩:=(hH r o e).some;rcases Nat.lt_or_ge r w.heap.size with hl | hl
  ·exact hl
  ·rw[Array.getElem?_eq_none hl] at h1;cases h1
theorem Aw.fresh {H:Aa} (hH:Aw w H):H w.heap.size=none:=by
 cases e:H w.heap.size with
 | none=>rfl
 | some o=>exact absurd (hH.lt (r:=w.heap.size) (by simp [e])) (by omega)
theorem Oh {H:Aa} (hH:Aw w H) (c:Array Value) (e:TypeId) (o':Option DObj):Ext H w (upd H w.heap.size o') (w.alloc (.cells c e)):=by
 have hbl: ∀b,b<w.heap.size->(w.alloc (.cells c e)).heap[b]? =w.heap[b]? :=fun b hb=>by
  show(w.heap.push (.cells c e))[b]? =_;rw[Array.getElem?_push,if_neg (by omega)]
 refine⟨rfl,rfl,rfl,by simp,fun b hb _=>hbl b hb,fun b hb=> ?_,fun b hb=>by rw[hbl b hb],fun a _ _=> ?_⟩
 ·by_cases eb:b=w.heap.size
  ·exact .inr (by omega)
  ·simp only[upd,if_neg eb] at hb;exact .inl hb
 ·exact Go.RowKit.frozen?_alloc_cells w c e a
theorem Kj {H:Aa} (hH:Aw w H) {cs:List DVal} {xs:List Value} (hc:Ap w H cs xs) (c:Array Value) (hx:xs<+:c.toList) (e:TypeId):
  Aw (w.alloc (.cells c e)) (upd H w.heap.size (some (.cells cs e))):=by
 have hE:=Oh hH c e (some (.cells cs e));intro r o ho;by_cases hr:r=w.heap.size
 ·subst hr;simp only[upd,if_pos] at ho;cases ho;refine⟨xs,c,(0,0), ?_,hx,Ap.lasts hE.lasts _ _ hc,fun i _=>by simp⟩;show(w.heap.push _)[w.heap.size]? =_;simp
 ·simp only[upd,if_neg hr] at ho;have hlt:r<w.heap.size:=hH.lt (by simp [ho]);have hb:(w.alloc (.cells c e)).heap[r]? =w.heap[r]? :=by
   show(w.heap.push _)[r]? =_;rw[Array.getElem?_push,if_neg (by omega)]
  rw[hb];exact(hH r o ho).lasts hE.lasts
theorem Bb9 (hS:Sim G N s a w) (hd:Be N o.dst=true) {cs:List DVal} {c:Array Value} {e:TypeId}
  (hrun:(execOp a.eval o).run P w= .ok (.value (.pointer (some ⟨w.heap.size,0,none⟩))) (w.alloc (.cells c e)))
  (hc:Ap w s.heap cs c.toList) (hK:Vh cs e o.dst K s):o.wp P a w (Dg G N K s w) Qx:=
 Dp hS hd hrun (Oh hS.heap _ _ _) (Kj hS.heap hc c (List.prefix_refl _) e) (by simp [Rel]) (hK _ hS.heap.fresh)
theorem Qo (hS:Sim G N s a w) (hd:Be N o.dst=true) {cs:List DVal} {xs:List Value} {c:Array Value} {e:TypeId} {sz len lo cap n:Nat} (hlo:lo<=cap) (hlen:len<=cap) (hroom:cap*sz<=c.size)
  (hrun:(execOp a.eval o).run P w= .ok (.value (.slice (some ⟨w.heap.size,0,none⟩) len cap)) { w.alloc (.cells c e) with drawn:=n })
  (hc:Ap w s.heap cs xs) (hx:xs<+:c.toList) (hK:Tt cs e sz len lo o.dst K s):o.wp P a w (Dg G N K s w) Qx:=by
 refine Dp hS hd hrun ((Oh hS.heap _ _ _).drawn n) ((Kj hS.heap hc c hx e).drawn n) ?_ (hK _ hS.heap.fresh);simp only[Rel];refine⟨0,cap,rfl,hlo,hlen, .inr rfl, ?_⟩;constructor
 ·show w.heap.size<(w.alloc _).heap.size;simp
 ·intro k hk;have:(w.alloc (.cells c e)).heap[w.heap.size]? =some (.cells c e):=by
   show(w.heap.push _)[w.heap.size]? =_;simp
  have hk':Hs (w.alloc (.cells c e)).heap[w.heap.size]? =some k:=hk;rw[this] at hk';simp [Hs] at hk';omega
theorem Ez (b off n:Nat):Addr.add ⟨b,off,none⟩ n=⟨b,off+n,none⟩:=by
 unfold Addr.add;split<;>simp_all
def Fd (w:World) (b off:Nat) (xs:List Value):Prop:= ∀i x,xs[i]? =some x->w.cell? ⟨b,off+i,none⟩=some x
theorem Qe.holds {H:Aa} {b off:Nat} {xs:List Value} (h:Qe w H b off xs):Fd w b off xs:=by
 rcases h with rfl | ⟨_,h⟩
 ·intro i x hx;simp at hx
 ·exact h
theorem Fd.drop {b off n:Nat} {xs:List Value} (h:Fd w b off xs):Fd w b (off+n) (xs.drop n):=by
 intro i x hx;rw[List.getElem?_drop] at hx;have:=h _ _ hx
 rwa [<-Nat.add_assoc] at this
theorem Fd.take {b off n:Nat} {xs:List Value} (h:Fd w b off xs):Fd w b off (xs.take n):=by
 intro i x hx;rw[List.getElem?_take] at hx;split at hx
 ·exact h _ _ hx
 ·cases hx
theorem Cc {b off:Nat} {xs:List Value} (h:Fd w b off xs):(loadCells ⟨b,off,none⟩ xs.length).run P w= .ok xs.toArray w:=
 run_loadCells_list w ⟨b,off,none⟩ xs fun j v hv=>by rw[Ez];exact h j v hv
theorem Aw.holds {H:Aa} (hH:Aw w H) {r:Nat} {cs:List DVal} {e:TypeId} (hr:H r=some (.cells cs e)): ∃xs,Ap w H cs xs/\Fd w r 0 xs:=by
 obtain⟨xs,c,fz,h1,h2,h3,_⟩:=hH r _ hr;refine⟨xs,h3,fun i x hx=> ?_⟩;have hp:c.toList[i]? =some x:=by
  obtain⟨t,ht⟩:=h2;rw[<-ht,List.getElem?_append_left]
  ·exact hx
  ·rcases Nat.lt_or_ge i xs.length with hl | hl
   ·exact hl
   ·rw[List.getElem?_eq_none hl] at hx;cases hx
 simp only[World.cell?,h1,Nat.zero_add,Option.isSome_none,Bool.false_eq_true,if_false];simpa using hp
theorem Fz {t:TypeId} {b:Bool} (h:Br P t=some b):(isAgg t).run P w= .ok b w:=by
 unfold Br at h;cases hu:P.underlying t with
 | none=>simp [hu] at h
 | some d=>
  simp only[isAgg,Sem.run_bind,run_underlying hu,Result.andThen_ok];rw[hu] at h;cases d<;>simp at h<;>subst h<;>rfl
theorem Po {t:TypeId} {d:TypeDesc} (h:P.underlying t=some d):(P.info? t).isSome=true:=by
 unfold Program.underlying at h;cases hi:P.info? t with
 | none=>simp [hi] at h
 | some i=>rfl
theorem Jq {t:TypeId} {b:Bool} (h:Br P t=some b):(P.info? t).isSome=true:=by
 unfold Br at h;cases hu:P.underlying t with
 | none=>simp [hu] at h
 | some d=>exact Po hu
theorem Bg {t:TypeId} (h:(P.info? t).isSome=true):(sizeOf t).run P w= .ok (P.cellsOf t) w:=by
 cases hi:P.info? t with
 | none=>simp [hi] at h
 | some i=>simp [sizeOf,typeInfo,program,hi,Program.cellsOf,Sem.run]
theorem Im {t:TypeId} {i:TypeInfo} (h:P.info? t=some i):(typeInfo t).run P w= .ok i w:=by
 simp [typeInfo,program,h,Sem.run]
theorem Bq9 {t:TypeId} {z:DVal} (h:Ax P t=some z): ∃v,(zeroValue t).run P w= .ok v w/\z=Bn v:=by
 unfold Ax at h;cases hi:P.info? t with
 | none=>simp [hi] at h
 | some i=>
  cases hz:i.zero with
  | none=>simp [hi,hz] at h
  | some v=>
   simp [hi,hz] at h;exact⟨v,by simp [zeroValue,Im hi,hz],h.symm⟩
theorem Mk {t:TypeId} (h:Br P t=some true) {b off:Nat} {xs:List Value} (hx:Fd w b off xs) (hl:xs.length=P.cellsOf t):
  (loadVar t ⟨b,off,none⟩).run P w= .ok (.agg xs.toArray) w:=by
 simp only[loadVar,Sem.run_bind,Fz h,Result.andThen_ok,if_true];simp only[Bg (Jq h),Result.andThen_ok,<-hl,Cc hx,Sem.run_bind,Sem.run_pure]
theorem Ml {t:TypeId} (h:Br P t=some false) {b off:Nat} {x:Value} (hx:w.cell? ⟨b,off,none⟩=some x):
  (loadVar t ⟨b,off,none⟩).run P w= .ok x w:=by
 simp [loadVar,Fz h,hx]
end
end Go.Dl

-- THE DATA LEVEL, PART O: each operation: what the data level asks and does is true of the model's operation.
namespace Go.Dl
open Go
section
variable {P:Program} {G:Nat->DVal} {N:Fr}
variable {o:Oper} {s:DS} {a:Act} {w:World} {K:DK} {Qx:Exit->Act->World->Prop}
theorem Eg {dst:Option Nat} {v:Option DVal} (h:Fh dst v K s): ∃d,v=some d/\Av dst d K s:=by
 cases v with
 | none=>exact h.elim
 | some d=>exact⟨d,rfl,h⟩
theorem Cq3 (hS:Sim G N s a w) (hd:Be N o.dst=true) {x:Operand} (hx:Ay N x=true) (he:o.op= .move x) (h:Av o.dst (dev G s.env x) K s):PV P o s a w K:=
 pvI hS hd (by simp [execOp,he]) (Aq hS hx) h
theorem Br0 (hS:Sim G N s a w) (hd:Be N o.dst=true) {x:Operand} (hx:Ay N x=true) (he:o.op= .assign x) (h:Av o.dst (dev G s.env x) K s):PV P o s a w K:=
 pvI hS hd (by simp [execOp,he]) (Aq hS hx) h
theorem Cq4 (hS:Sim G N s a w) (hd:Be N o.dst=true) {c x y:Operand} (hc:Ay N c=true) (hx:Ay N x=true) (hy:Ay N y=true) (he:o.op= .pick c x y)
  (h:Yx o.dst (dev G s.env c) (dev G s.env x) (dev G s.env y) K s):PV P o s a w K:=by
 have r:=Aq hS hc;cases hcv:dev G s.env c<;>rw[hcv] at h r<;>try exact h.elim
 rename_i t
 simp only[Rel] at r;simp only[Yx] at h;refine pvI hS hd (x:=if t then a.eval x else a.eval y) (by simp [execOp,he,r,asBool]) ?_ h;cases t
 ·exact Aq hS hy
 ·exact Aq hS hx
theorem Fa {H:Aa} {d:DVal} {v:Value} (h:Rel w H d v):Ap w H d.cells v.cells.toList:=Rel.cells h
theorem Ce8 (hS:Sim G N s a w) (hd:Be N o.dst=true) {e:TypeId} (he:o.op= .alloc e) (h:At1 e o.dst (Ax P e) K s):o.wp P a w (Dg G N K s w) Qx:=by
 cases hz:Ax P e with
 | none=>rw[hz] at h;exact h.elim
 | some z=>
  rw[hz] at h;obtain⟨v,hv,rfl⟩:=Bq9 (w:=w) hz;refine Bb9 hS hd (c:=v.cells) ?_ ?_ h
  ·simp [execOp,he,Instr.alloc,hv,newVar,newRow]
  ·exact Fa (Cs w s.heap v)
theorem Cy4 (hS:Sim G N s a w) (hd:Be N o.dst=true) {e:TypeId} {x:Operand} (hx:Ay N x=true) (he:o.op= .box e x)
  (h:Vh (dev G s.env x).cells e o.dst K s):o.wp P a w (Dg G N K s w) Qx:=
 Bb9 hS hd (c:=(a.eval x).cells) (by simp [execOp,he,Instr.box,newVar,newRow]) (Fa (Aq hS hx)) h
theorem Bc0 {size:Nat} {ag:Option Bool} {t:TypeId} (hag:Br P t=ag) (hsz:P.cellsOf t=size) {b off:Nat} {cs:List DVal} {xs:List Value} {H:Aa} (hr:Ap w H cs xs) (hh:Fd w b off xs) {i:Nat} {dst:Option Nat}
  (h:Pg size dst ag cs i K s): ∃d x,(loadVar t ⟨b,off+i,none⟩).run P w= .ok x w/\Rel w H d x/\Av dst d K s:=by
 subst hsz;cases ag with
 | none=>exact h.elim
 | some ag=>
  cases ag with
  | true=>
   obtain⟨hle,hK⟩:=h;have hx:Fd w b (off+i) ((xs.drop i).take (P.cellsOf t)):=hh.drop.take;have hl:((xs.drop i).take (P.cellsOf t)).length=P.cellsOf t:=by
    have:=hr.length;simp;omega
   refine⟨_,_,Mk hag hx hl, ?_,hK⟩;simp only[Rel];exact⟨_,rfl,(hr.drop i).take _⟩
  | false=>
   obtain⟨d,hd,hK⟩:=Eg h;obtain⟨x,hx,hrel⟩:=hr.get hd;exact⟨d,x,Ml hag (hh i x hx),hrel,hK⟩
theorem Cq5 (hS:Sim G N s a w) (hd:Be N o.dst=true) {t:TypeId} {x:Operand} (hx:Ay N x=true) (he:o.op= .load t x)
  (h:Tu (P.cellsOf t) (Br P t) o.dst (dev G s.env x) K s):PV P o s a w K:=by
 have r:=Aq hS hx;cases hv:dev G s.env x<;>rw[hv] at h r<;>try exact h.elim
 case vptr cs off=>
  simp only[Rel] at r;obtain⟨b,o',xs,hp,hc,hl⟩:=r;obtain⟨d,y,hrun,hrel,hK⟩:=Bc0 (P:=P) (t:=t) rfl rfl hl hc.holds h;refine pvI hS hd ?_ hrel hK;simp [execOp,he,hp,Instr.loadAt,Instr.sureAddr,hrun]
 case optr r0 off=>
  simp only[Rel] at r;simp only[Tu] at h;cases hh:s.heap r0 with
  | none=>rw[hh] at h;exact h.elim
  | some ob=>
   rw[hh] at h;cases ob with
   | loop=>exact h.elim
   | iter=>exact h.elim
   | map=>exact h.elim
   | cells cs e=>
    obtain⟨xs,hl,hholds⟩:=hS.heap.holds hh;obtain⟨d,y,hrun,hrel,hK⟩:=Bc0 (P:=P) (t:=t) rfl rfl hl hholds h;refine pvI hS hd ?_ hrel hK;simp only[Nat.zero_add] at hrun;simp [execOp,he,r,Instr.loadAt,Instr.sureAddr,hrun]
theorem Fs (r off:Nat) (e:TypeId) (fz:Nat×Nat): ∀(vs:List Value) (i:Nat) (c:Array Value) (w:World),w.heap[r]? =some (.cells c e fz)->off+i+vs.length<=c.size->
  (∀v∈vs,v.oneCell'=true)->(∀j,j<c.size-> ¬(fz.1<=j/\j<fz.2))->
  ∃(w':World) (c':Array Value),(storeCells ⟨r,off,none⟩ vs i).run P w= .ok () w'/\w'.heap[r]? =some (.cells c' e fz)/\c'.toList=c.toList.take (off+i)++vs++c.toList.drop (off+i+vs.length)/\
   (∀b,b≠r->w'.heap[b]? =w.heap[b]?)/\w'.heap.size=w.heap.size/\w'.os=w.os/\w'.tape=w.tape/\w'.output=w.output
 | [],i,c,w,hc,hl,_,_=>⟨w,c,by simp [storeCells],hc,by simp,fun _ _=>rfl,rfl,rfl,rfl,rfl⟩
 | v::vs,i,c,w,hc,hl,h1,hf=>by
  simp only[List.length_cons] at hl;have hi:off+i<c.size:=by omega
  have hcell:w.cell? ⟨r,off+i,none⟩=some c[off+i]:=by simp [World.cell?,hc,hi]
  have hfr:w.frozen? ⟨r,off+i,none⟩=false:=by
   have:=hf (off+i) hi;obtain⟨lo,hi'⟩:=fz;simp [World.frozen?,hc];intro h2;have:=fun h3=>this ⟨h2,h3⟩;simp at this;omega
  have hset:(w.setCell ⟨r,off+i,none⟩ v).heap[r]? =some (.cells (c.setIfInBounds (off+i) v) e fz):=by
   simp [World.setCell,Array.getElem?_modify,hc]
  obtain⟨w',c',hrun,hheap,hlist,hother,hsize,hos,htape,hout⟩:=Fs r off e fz vs (i+1) (c.setIfInBounds (off+i) v) _ hset (by simp;omega) (fun u hu=>h1 u (List.mem_cons_of_mem _ hu)) (by simpa using hf);refine⟨w',c', ?_,hheap, ?_,fun b hb=> ?_,by rw[hsize];simp,hos,htape,hout⟩
  ·simp only[storeCells,Sem.run_bind,Ez,run_store P w _ v _ (h1 v (List.mem_cons_self ..)),hcell,hfr];simpa using hrun
  ·rw[hlist];have hci:off+i<c.toList.length:=by simpa using hi
   rw[Array.toList_setIfInBounds,List.length_cons,<-Nat.add_assoc];have e1:(c.toList.set (off+i) v).take (off+i+1)=c.toList.take (off+i)++ [v]:=by
    rw[List.take_set,List.take_succ_eq_append_getElem hci,List.set_append_right _ _ (by simp;omega)];have e0:off+i-min (off+i) c.size=0:=by omega
    simp [e0]
   have e2:(c.toList.set (off+i) v).drop (off+i+1+vs.length)=c.toList.drop (off+i+(vs.length+1)):=by
    rw[List.drop_set,if_pos (by omega)];congr 1;omega
   rw[e1,e2];simp
  ·rw[hother b hb];exact Go.RowKit.Below.heap_setCell _ _ _ _ hb
theorem Vs {H:Aa}: ∀ {ds:List DVal} {xs:List Value},Ap w H ds xs->ds.all (·.one)=true-> ∀x∈xs,x.oneCell'=true
 | [],_,h,_,x,hx=>by simp only[Ap] at h;subst h;simp at hx
 | d::ds,xs,h,h1,x,hx=>by
  simp only[Ap] at h;obtain⟨y,ys,rfl,hr,hl⟩:=h;simp only[List.all_cons,Bool.and_eq_true] at h1;rcases List.mem_cons.1 hx with rfl | hx
  ·cases d<;>simp only[Rel,DVal.one] at hr h1<;>try (simp at h1;done)
   case raw v=>obtain⟨rfl,_⟩:=hr;exact h1.1
   case vptr=>obtain⟨_,_,_,rfl,_⟩:=hr;rfl
   case vslice=>obtain⟨_,_,rfl,_⟩:=hr;rfl
   case oslice=>obtain⟨_,_,rfl,_⟩:=hr;rfl
   case func=>obtain⟨_,_,rfl,_⟩:=hr;rfl
   case iface=>obtain⟨_,rfl,_⟩:=hr;rfl
   all_goals (subst hr;rfl)
  ·exact Vs hl h1.2 x hx
theorem Sj {H:Aa} (hH:Aw w H) {r off:Nat} {cs ds:List DVal} {e:TypeId} (hr:H r=some (.cells cs e)) {vs:List Value} (hv:Ap w H ds vs) (h1:ds.all (·.one)=true) (hle:off+ds.length<=cs.length):
  ∃w',(storeCells ⟨r,off,none⟩ vs 0).run P w= .ok () w'/\Aw w' (upd H r (some (.cells (splice cs off ds) e)))/\Ext H w (upd H r (some (.cells (splice cs off ds) e))) w':=by
 obtain⟨xs,c,fz,g1,g2,g3,g4⟩:=hH r _ hr;obtain⟨tl,htl⟩:=g2;have hlx:=g3.length;have hlv:=hv.length;have hcs:c.size=xs.length+tl.length:=by rw[<-Array.length_toList,<-htl];simp
 obtain⟨w',c',hrun,hheap,hlist,hother,hsize,hos,htape,hout⟩:=Fs (P:=P) r off e fz vs 0 c w g1 (by omega) (Vs hv h1) g4;have hE:Ext H w (upd H r (some (.cells (splice cs off ds) e))) w':=by
  have hcsz:c'.size=c.size:=by
   rw[<-Array.length_toList,hlist];simp;omega
  refine⟨hos,htape,hout,by omega,fun b hb hn=>hother b (fun hbr=>by subst hbr;rw[hr] at hn;cases hn),fun b hb=> ?_,fun b hb=> ?_,fun a _ _=>by
   unfold World.frozen?;by_cases hbr:a.block=r
   ·rw[hbr,hheap,g1]
   ·rw[hother _ hbr]⟩
  rotate_left
  ·by_cases hbr:b=r
   ·subst hbr;rw[hheap,g1];simp [Hs,hcsz]
   ·rw[hother b hbr]
  by_cases hbr:b=r
  ·subst hbr;exact .inl (by rw[hr];simp)
  ·simp only[upd,if_neg hbr] at hb;exact .inl hb
 refine⟨w',hrun,fun r' o' ho'=> ?_,hE⟩;by_cases hbr:r'=r
 ·subst hbr;simp only[upd,if_pos] at ho';cases ho';refine⟨xs.take off++vs++xs.drop (off+vs.length),c',fz,hheap, ?_, ?_, ?_⟩
  ·refine⟨tl, ?_⟩;rw[hlist,<-htl,Nat.add_zero,List.take_append_of_le_length (by omega),List.drop_append_of_le_length (by omega)];simp
  ·have e0:splice cs off ds=cs.take off++ds++cs.drop (off+vs.length):=by unfold splice;rw[hlv]
   have e1:=((Ap.lasts hE.lasts _ _ (g3.take off)).append (Ap.lasts hE.lasts _ _ hv)).append (Ap.lasts hE.lasts _ _ (g3.drop (off+vs.length)));rw[<-e0] at e1;exact e1
  ·have:c'.size=c.size:=by
    rw[<-Array.length_toList,hlist];simp;omega
   rw[this];exact g4
 ·simp only[upd,if_neg hbr] at ho';rw[hother r' hbr];exact(hH r' o' ho').lasts hE.lasts
theorem Ce9 (hS:Sim G N s a w) {t:TypeId} {x y:Operand} (hx:Ay N x=true) (hy:Ay N y=true) (he:o.op= .store t x y)
  (h:(P.info? t).isSome=true/\Sg (P.cellsOf t) o.dst (dev G s.env x) (dev G s.env y) K s):o.wp P a w (Dg G N K s w) Qx:=by
 obtain⟨hi,h⟩:=h;have r:=Aq hS hx;have ry:=Aq hS hy;cases hv:dev G s.env x<;>rw[hv] at h r<;>(try (cases hdst:o.dst<;>rw[hdst] at h<;>exact h.elim))
 rename_i r0 off
 cases hdst:o.dst with
 | some d=>rw[hdst] at h;exact h.elim
 | none=>
  rw[hdst] at h;simp only[Rel] at r;simp only[Sg] at h;cases hh:s.heap r0 with
  | none=>rw[hh] at h;exact h.elim
  | some ob=>
   rw[hh] at h;cases ob with
   | loop=>exact h.elim
   | iter=>exact h.elim
   | map=>exact h.elim
   | cells cs e=>
    obtain⟨hl,h1,hle,hK⟩:=h;have rc:=Fa ry;obtain⟨w',hrun,hH,hE⟩:=Sj (P:=P) hS.heap hh rc h1 (off:=off) (by omega);have hlen:(a.eval y).cells.size=P.cellsOf t:=by rw[<-hl,rc.length];simp
    unfold Oper.wp;have:(execOp a.eval o).run P w= .ok .skip w':=by
     simp [execOp,he,r,Instr.storeAt,Instr.sureAddr,storeVar,Bg hi,hlen,hrun]
    rw[this];show Dg G N K s w (a.put o.dst undef) w';rw[hdst];exact⟨_,hK,hS.ext hE hH,hE⟩
end
end Go.Dl

-- THE DATA LEVEL, PART P: further operations.
namespace Go.Dl
open Go
set_option maxHeartbeats 40000
section
variable {P:Program} {G:Nat->DVal} {N:Fr}
variable {o:Oper} {s:DS} {a:Act} {w:World} {K:DK} {Qx:Exit->Act->World->Prop}
theorem At6 (hS:Sim G N s a w) (hd:Be N o.dst=true) {x:Operand} (hx:Ay N x=true) (he:o.op= .nilCheck x)
  (h:Kn o.dst (dev G s.env x) K s):PV P o s a w K:=by
 have r:=Aq hS hx;have r':=r;cases hv:dev G s.env x<;>rw[hv] at h r r'<;>try exact h.elim
 case vptr cs off=>
  simp only[Rel] at r;obtain⟨b,o',xs,hp,hc,hl⟩:=r;exact pvI hS hd (x:=a.eval x) (by simp [execOp,he,hp]) r' h
 case optr r0 off=>
  simp only[Rel] at r;exact pvI hS hd (x:=a.eval x) (by simp [execOp,he,r]) r' h
 case omap r0=>
  simp only[Rel] at r;exact pvI hS hd (x:=a.eval x) (by simp [execOp,he,r]) r' h
 case iface t0 v0=>
  simp only[Rel] at r;obtain⟨x0,hp,_⟩:=r;exact pvI hS hd (x:=a.eval x) (by simp [execOp,he,hp]) r' h
 case func fn f c=>
  simp only[Rel] at r;obtain⟨xs,ys,hp,_,_⟩:=r;cases fn<;>try exact h.elim
  exact pvI hS hd (x:=a.eval x) (by simp [execOp,he,hp]) r' h
theorem At7 (hS:Sim G N s a w) (hd:Be N o.dst=true) {fn:Fn} {fs cs:Array Operand} (hf:fs.toList.all (Ay N)=true) (hc:cs.toList.all (Ay N)=true) (he:o.op= .makeFunc fn fs cs)
  (h:Av o.dst (.func fn (Cj G s.env fs.toList) (Cj G s.env cs.toList)) K s):PV P o s a w K:=by
 refine pvI hS hd (x:= .func fn (fs.map a.eval) (cs.map a.eval)) (by simp [execOp,he,Instr.makeFunc]) ?_ h;simp only[Rel];exact⟨_,_,rfl,by simpa using Jc hS hf,by simpa using Jc hS hc⟩
theorem Ak2 (hS:Sim G N s a w) (hd:Be N o.dst=true) {t:TypeId} {x:Operand} (hx:Ay N x=true) (he:o.op= .makeInterface t x)
  (h:Iz t (dev G s.env x) o.dst (Bl (P.underlying t)) K s):PV P o s a w K:=by
 cases hn:Bl (P.underlying t) with
 | false=>rw[hn] at h;exact h.elim
 | true=>
  rw[hn] at h;cases hu:P.underlying t with
  | none=>rw[hu] at hn;simp [Bl] at hn
  | some d=>
   refine pvI hS hd (x:= .iface t (a.eval x)) ?_ ?_ h
   ·rw[hu] at hn;cases d<;>simp [Bl] at hn<;>simp [execOp,he,Instr.makeInterface,run_underlying hu]
   ·simp only[Rel];exact⟨_,rfl,Aq hS hx⟩
theorem Bg8 (hS:Sim G N s a w) (hd:Be N o.dst=true) {x:Operand} {i:Nat} (hx:Ay N x=true) (he:o.op= .extract x i)
  (h:Ko i o.dst (dev G s.env x) K s):PV P o s a w K:=by
 have r:=Aq hS hx;cases hv:dev G s.env x<;>rw[hv] at h r<;>try exact h.elim
 simp only[Rel] at r;obtain⟨xs,hp,hl⟩:=r;obtain⟨d,hd',hK⟩:=Eg h;obtain⟨y,hy,hrel⟩:=hl.get hd';refine pvI hS hd ?_ hrel hK;have:xs[i]? =some y:=by simpa using hy
 simp [execOp,he,hp,Instr.extract,this]
theorem Cq6 (hS:Sim G N s a w) (hd:Be N o.dst=true) {op:UnOp} {t:TypeId} {x:Operand} (hx:Ay N x=true) (he:o.op= .unOp op t x)
  (h:dUn o.dst op (dev G s.env x) K s):PV P o s a w K:=by
 have r:=Aq hS hx;cases hv:dev G s.env x<;>rw[hv] at h r<;>cases op<;>(try exact h.elim)<;>simp only[Rel] at r<;>simp only[dUn] at h
 ·exact pvI hS hd (by simp [execOp,he,r,Op.unary];rfl) (by simp [Rel]) h
 ·exact pvI hS hd (by simp [execOp,he,r,Op.unary,Op.intArith];rfl) (by simp [Rel]) h
 ·exact pvI hS hd (by simp [execOp,he,r,Op.unary,Op.intBits];rfl) (by simp [Rel]) h
theorem Bg9 (hS:Sim G N s a w) (hd:Be N o.dst=true) {src t:TypeId} {x:Operand} (hx:Ay N x=true) (he:o.op= .convert src t x)
  (h:Ix o.dst (P.underlying src) (P.underlying t) (dev G s.env x) K s):PV P o s a w K:=by
 have r:=Aq hS hx;cases hs:P.underlying src with
 | none=>rw[hs] at h;cases P.underlying t<;>exact h.elim
 | some ds=>
  cases ht:P.underlying t with
  | none=>rw[hs,ht] at h;exact h.elim
  | some dt=>
   rw[hs,ht] at h;cases dt<;>(try exact h.elim)
   case int k=>
    cases hv:dev G s.env x<;>rw[hv] at h r<;>(try exact h.elim);simp only[Rel] at r
    rename_i k0 n0
    refine pvI hS hd (x:= .int k (k.wrap n0)) ?_ ?_ h
    ·simp [execOp,he,r,convert,run_underlying hs,run_underlying ht,Conv.intToInt]
    ·simp [Rel]
   case string=>
    cases hv:dev G s.env x<;>rw[hv] at h r<;>(try exact h.elim);simp only[Rel] at r;refine pvI hS hd (x:=a.eval x) ?_ ?_ h
    ·simp [execOp,he,r,convert,run_underlying hs,run_underlying ht]
    ·rw[r];simp [Rel]
theorem Bd {op:BinOp} {t:TypeId} {x y:Operand} {u v:Value} (h: ∀t' z,u= .agg t'->v= .agg z->False) (h2:u= .nilIface->v= .nilIface->False):eqGuard op t x y u v=pure ():=by
 unfold eqGuard;cases op<;>(try rfl)<;>(cases u<;>(try rfl)<;>cases v<;>(try rfl))<;>first | exact(h2 rfl rfl).elim | exact(h _ _ rfl rfl).elim
theorem Br1 (hS:Sim G N s a w) (hd:Be N o.dst=true) {op:BinOp} {t t':TypeId} {x y:Operand} (he:o.op= .binOp op t x y t') {k k':IntKind} {m n:Int} (hx:a.eval x= .int k m) (hy:a.eval y= .int k' n)
  (h:Yz op k k' m n o.dst K s (Cg op)):PV P o s a w K:=by
 have hg:eqGuard op t x y (.int k m) (.int k' n)=pure ():=Bd (by simp) (by simp);cases op<;>simp only[Cg,Yz,Qf,Vk] at h
 case shl=>
  obtain⟨h0,hK⟩:=h;refine pvI hS hd (x:= .int k (k.wrap (m*2^(min n.toNat k.bits)))) ?_ (by simp [Rel]) hK;simp only[execOp,he,hx,hy,hg,binOp,Op.shift,if_neg (Int.not_lt.2 h0)];rfl
 case shr=>
  obtain⟨h0,hK⟩:=h;refine pvI hS hd (x:= .int k (m.fdiv (2^(min n.toNat k.bits)))) ?_ (by simp [Rel]) hK;simp only[execOp,he,hx,hy,hg,binOp,Op.shift,if_neg (Int.not_lt.2 h0)];rfl
 case quo=>
  obtain⟨rfl,h0,hK⟩:=h;refine pvI hS hd (x:= .int k (k.wrap (m.tdiv n))) ?_ (by simp [Rel]) hK;simp [execOp,he,hx,hy,hg,binOp,Op.intDiv,h0]
 case rem=>
  obtain⟨rfl,h0,hK⟩:=h;refine pvI hS hd (x:= .int k (m.tmod n)) ?_ (by simp [Rel]) hK;simp [execOp,he,hx,hy,hg,binOp,Op.intDiv,h0]
 all_goals
  obtain⟨rfl,hK⟩:=h;first | refine Ln hS hd ?_ hK | refine Uv hS hd ?_ hK
  ·simp [execOp,he,hx,hy,hg,binOp,Op.intArith,Op.intBits,Op.intCmp,bne,Int.not_le,Int.not_lt]<;>(try (rw[Bool.eq_iff_iff];simp))
theorem Sk (l:List UInt8):(ByteArray.mk ⟨l⟩).toList=l:=by
 have h: ∀(n i:Nat) (r:List UInt8),l.length-i=n->i<=l.length->ByteArray.toList.loop ⟨⟨l⟩⟩ i r=r.reverse++l.drop i:=by
  intro n
  induction n with
  | zero=>
   intro i r hn hi;have:i=l.length:=by omega
   subst this;unfold ByteArray.toList.loop;simp [ByteArray.size]
  | succ n ih=>
   intro i r hn hi;have hlt:i<l.length:=by omega
   unfold ByteArray.toList.loop;simp only[ByteArray.size,List.size_toArray,hlt,if_true];rw[ih (i+1) _ (by omega) (by omega)];have:ByteArray.get! ⟨⟨l⟩⟩ i=l[i]:=by simp [ByteArray.get!,hlt]
   rw[this,List.drop_eq_getElem_cons hlt];simp
 have:=h l.length 0 [] (by simp) (by omega);simpa [ByteArray.toList] using this
theorem Bh0 (l m:List UInt8):(ByteArray.mk ⟨l⟩)++(ByteArray.mk ⟨m⟩)=ByteArray.mk ⟨l++m⟩:=by
 apply ByteArray.ext;simp
theorem Br2 (hS:Sim G N s a w) (hd:Be N o.dst=true) {op:BinOp} {t t':TypeId} {x y:Operand} (he:o.op= .binOp op t x y t') {l m:List UInt8} (hx:a.eval x= .string ⟨⟨l⟩⟩) (hy:a.eval y= .string ⟨⟨m⟩⟩)
  (h:Oe l m o.dst K s op):PV P o s a w K:=by
 have hg:eqGuard op t x y (.string ⟨⟨l⟩⟩) (.string ⟨⟨m⟩⟩)=pure ():=Bd (by simp) (by simp);have hsz: ∀l:List UInt8,(ByteArray.mk ⟨l⟩).size=l.length:=fun l=>rfl;cases op<;>simp only[Oe] at h<;>try exact h.elim
 case add=>
  obtain⟨h0,hK⟩:=h;refine pvI hS hd (x:= .string ⟨⟨l++m⟩⟩) ?_ (by simp [Rel]) hK;simp only[execOp,he,hx,hy,hg,binOp,Op.stringOp,hsz];rw[if_neg (by simp [IntKind.max,IntKind.signed,IntKind.bits];omega),Bh0];rfl
 all_goals
  refine Uv hS hd ?_ h
  ·simp [execOp,he,hx,hy,hg,binOp,Op.stringOp,Sk]<;>(try (rw[Bool.eq_iff_iff];simp))
theorem Qp {t:TypeId} {x y:Value} {b:Bool} (h:(Op.equal t x y).run P w= .ok b w) {op:BinOp} {n:Bool} (hop:Ht op=some n) (hx: ∀k n,x≠ .int k n) (hs: ∀l,x≠ .string l) (hf: ∀k n,x≠ .float k n) (hc: ∀k n m,x≠ .complex k n m):
  (binOp op t x y).run P w= .ok (.bool (if n then !b else b)) w:=by
 cases op<;>simp [Ht] at hop<;>subst hop
 ·have:binOp .eql t x y=(do pure (.bool (←Op.equal t x y))):=by
   cases x<;>first | rfl | exact absurd rfl (hx _ _) | exact absurd rfl (hs _) | exact absurd rfl (hf _ _) | exact absurd rfl (hc _ _ _)
  rw[this];simp [h]
 ·have:binOp .neq t x y=(do pure (.bool (!(←Op.equal t x y)))):=by
   cases x<;>first | rfl | exact absurd rfl (hx _ _) | exact absurd rfl (hs _) | exact absurd rfl (hf _ _) | exact absurd rfl (hc _ _ _)
  rw[this];simp [h]
theorem Sl {dst:Option Nat} {n b:Option Bool} (h:Ia dst n b K s): ∃n' b',n=some n'/\b=some b'/\Av dst (.bool (if n' then !b' else b')) K s:=by
 cases n with
 | none=>exact h.elim
 | some n=>cases b with
  | none=>cases n<;>exact h.elim
  | some b=>cases n<;>exact⟨_,b,rfl,rfl,h⟩
theorem Zd {x y:Option Bool} {b:Bool} (h:At2 x y=some b): ∃p q,x=some p/\y=some q/\b=(p&&q):=by
 cases x with
 | none=>cases h
 | some p=>cases y with
  | none=>cases p<;>cases h
  | some q=>
   refine⟨p,q,rfl,rfl, ?_⟩;cases p<;>cases h<;>rfl
theorem Qq {H:Aa} {t:TypeId} {ag:Bool} (hag:Br P t=some ag) {cs:List DVal} {xs:Array Value} (hr:Ap w H cs xs.toList) {off:Nat}
  (hne:ag=false->(Cr (P.cellsOf t) off cs (some ag))≠ []):
  ∃y,(part t xs off).run P w= .ok y w/\Ap w H (Cr (P.cellsOf t) off cs (some ag)) (if ag then y.cells.toList else [y])/\(ag=true-> ∃ys,y= .agg ys):=by
 cases ag with
 | true=>
  have hi:=Jq hag;refine⟨.agg (xs.extract off (off+P.cellsOf t)),by simp [part,Fz hag,Bg hi], ?_,fun _=>⟨_,rfl⟩⟩;have:(xs.extract off (off+P.cellsOf t)).toList=(xs.toList.drop off).take (P.cellsOf t):=by simp [Array.toList_extract,List.extract]
  simp only[Cr,if_true,Value.cells,this];exact(hr.drop off).take _
 | false=>
  have hne:=hne rfl;simp only[Cr] at hne⊢
  have hlt:off<cs.length:=by
   rcases Nat.lt_or_ge off cs.length with h | h
   ·exact h
   ·rw[List.drop_eq_nil_of_le h] at hne;simp at hne
  have hlx:=hr.length;have hlt':off<xs.size:=by rw[<-Array.length_toList,<-hlx];exact hlt
  refine⟨xs[off],by simp [part,Fz hag,Array.getElem?_eq_getElem hlt'], ?_,fun h=>by cases h⟩;have h2:=(hr.drop off).take 1;have:(xs.toList.drop off).take 1= [xs[off]]:=by
   rw[List.drop_eq_getElem_cons (by simpa using hlt')];simp
  rw[this] at h2;simpa using h2
theorem Ou {n:Nat} {t:TypeId} {ys:List DVal} {b:Bool} (hag:Br P t≠some true) (h:Mo P n t [] ys=some b):False:=by
 cases n with
 | zero=>cases h
 | succ n=>
  simp only[Mo] at h;unfold Br at hag;cases hu:P.underlying t with
  | none=>rw[hu] at h;cases h
  | some d=>
   rw[hu] at h hag;cases d<;>simp [Mu,Yy,Aj7,Aj8] at h hag
theorem Vt {n:Nat} {t:TypeId} {xs:List DVal} {b:Bool} (hag:Br P t≠some true) (h:Mo P n t xs []=some b):False:=by
 cases n with
 | zero=>cases h
 | succ n=>
  simp only[Mo] at h;unfold Br at hag;cases hu:P.underlying t with
  | none=>rw[hu] at h;cases h
  | some d=>
   rw[hu] at h hag;cases d<;>simp at hag<;>simp only[Mu,Yy,Aj7,Aj8] at h<;>first | cases h | (split at h<;>simp_all)
theorem Hc {H:Aa}: ∀(n d:Nat),n<=d-> ∀(t:TypeId) (xs ys:List DVal) (x y:Value) (ag:Bool) (b:Bool),Br P t=some ag->
  Ap w H xs (if ag then x.cells.toList else [x])->Ap w H ys (if ag then y.cells.toList else [y])->(ag=true-> ∃c,x= .agg c)->(ag=true-> ∃c,y= .agg c)->Mo P n t xs ys=some b->
  (Op.equalIn d t x y).run P w= .ok b w
 | 0,_,_,_,_,_,_,_,_,_,_,_,_,_,_,h=>by cases h
 | n+1,0,hnd,_,_,_,_,_,_,_,_,_,_,_,_,_=>by omega
 | n+1,d+1,hnd,t,xs,ys,x,y,ag,b,hag,hx,hy,gx,gy,h=>by
  simp only[Mo] at h;cases hu:P.underlying t with
  | none=>rw[hu] at h;cases h
  | some td=>
   rw[hu] at h;have hag':=hag;unfold Br at hag';rw[hu] at hag';have step: ∀(u:TypeId) (off:Nat) (r:Bool) (cx cy:Array Value),x= .agg cx->y= .agg cy->ag=true->Mo P n u (Cr (P.cellsOf u) off xs (Br P u)) (Cr (P.cellsOf u) off ys (Br P u))=some r->
     ∃p q,(part u cx off).run P w= .ok p w/\(part u cy off).run P w= .ok q w/\(Op.equalIn d u p q).run P w= .ok r w:=by
    intro u off r cx cy ex ey hagt hr;subst ex;subst ey;subst hagt;simp only[if_true,Value.cells] at hx hy;cases hau:Br P u with
    | none=>
     rw[hau] at hr;exact(Ou (by rw[hau];simp) hr).elim
    | some au=>
     rw[hau] at hr;obtain⟨p,hp,hrp,hgp⟩:=Qq (w:=w) hau hx (off:=off) (fun e he=>by subst e;rw[he] at hr;exact Ou (by rw[hau];simp) hr);obtain⟨q,hq,hrq,hgq⟩:=Qq (w:=w) hau hy (off:=off) (fun e he=>by subst e;rw[he] at hr;exact Vt (by rw[hau];simp) hr);exact⟨p,q,hp,hq,Hc n d (by omega) u _ _ p q au r hau hrp hrq hgp hgq hr⟩
   cases td<;>try (cases h;done)
   case bool=>
    simp at hag';subst hag';simp only[Mu] at h;unfold Yy at h;split at h<;>try (cases h;done)
    simp only[Bool.false_eq_true,if_false,Ap,Rel] at hx hy;obtain⟨_,_,hx,rfl,rfl⟩:=hx;obtain⟨_,_,hy,rfl,rfl⟩:=hy;simp only[List.cons.injEq,and_true] at hx hy;subst hx;subst hy;cases h;rw[run_equalIn_bool w d t _ _ hu];congr 1
   case int k=>
    simp at hag';subst hag';simp only[Mu] at h;unfold Aj7 at h;split at h<;>try (cases h;done)
    split at h<;>try (cases h;done)
    rename_i hk
    subst hk;simp only[Bool.false_eq_true,if_false,Ap,Rel] at hx hy;obtain⟨_,_,hx,rfl,rfl⟩:=hx;obtain⟨_,_,hy,rfl,rfl⟩:=hy;simp only[List.cons.injEq,and_true] at hx hy;subst hx;subst hy;cases h;simp only[Op.equalIn,Sem.run_bind,run_underlying hu,Result.andThen_ok,if_true,Sem.run_pure];congr 1
   case string=>
    simp at hag';subst hag';simp only[Mu] at h;unfold Aj8 at h;split at h<;>try (cases h;done)
    simp only[Bool.false_eq_true,if_false,Ap,Rel] at hx hy;obtain⟨_,_,hx,rfl,rfl⟩:=hx;obtain⟨_,_,hy,rfl,rfl⟩:=hy;simp only[List.cons.injEq,and_true] at hx hy;subst hx;subst hy;cases h;rw[run_equalIn_string (w:=w) d t _ _ hu];congr 1;rw[Bool.eq_iff_iff,Sk,Sk];simp
   case struct fs=>
    simp at hag';subst hag';obtain⟨cx,rfl⟩:=gx rfl;obtain⟨cy,rfl⟩:=gy rfl;have hfs:P.fieldsOf t=fs:=by simp [Program.fieldsOf,hu]
    simp only[Mu] at h;cases hst:P.stoodInHeld t with
    | true=>rw[hst] at h;cases h
    | false=>
     rw[hst] at h;simp only[Bq3] at h;rw[run_equalIn_struct w d t cx cy (by rw[hu,hfs]) hst,hfs];generalize fs.toList=l at h;clear hfs hu hst
     induction l generalizing b with
     | nil=>simp only[Vj] at h;cases h;simp [Op.eqFields]
     | cons f l ih=>
      simp only[Vj] at h;split at h<;>try (cases h;done)
      rename_i hn
      obtain⟨p',q',h1,h2,rfl⟩:=Zd h;obtain⟨p,q,r1,r2,r3⟩:=step f.type f.offset p' cx cy rfl rfl rfl h1;have:=ih q' h2;simp only[Op.eqFields,if_pos hn,Sem.run_bind,r1,r2,r3,Result.andThen_ok];cases p'
      ·simp
      ·simpa using this
   case array m e=>
    simp at hag';subst hag';obtain⟨cx,rfl⟩:=gx rfl;obtain⟨cy,rfl⟩:=gy rfl;simp only[Mu] at h;cases hie:P.info? e with
    | none=>rw[hie] at h;cases h
    | some ie=>
     rw[run_equalIn_array w d cx cy hu hie];rw[hie] at h;simp only[Option.isSome_some,if_true] at h;generalize List.range m=l at h;clear hu
     induction l generalizing b with
     | nil=>simp only[Tv] at h;cases h;simp [Op.eqItems]
     | cons f l ih=>
      simp only[Tv] at h;obtain⟨p',q',h1,h2,rfl⟩:=Zd h;obtain⟨p,q,r1,r2,r3⟩:=step e (f*P.cellsOf e) p' cx cy rfl rfl rfl h1;have:=ih q' h2;simp only[Op.eqItems,Sem.run_bind,r1,r2,r3,Result.andThen_ok];cases p'
      ·simp
      ·simpa using this
theorem Ye {op:BinOp} {t:TypeId} {x y:Operand} (h:(Cd x || Cd y)=true):eqGuard op t x y .nilIface .nilIface=pure ():=by
 unfold eqGuard;cases x<;>cases y<;>simp [Cd] at h<;>cases op<;>rfl
theorem Cm1 {b:Bool} {op:BinOp} {t:TypeId} {x y:Operand} {xv yv:Value} (hS:Sim G N s a w) (hd:Be N o.dst=true) {t':TypeId} (he:o.op= .binOp op t x y t') (hx:a.eval x=xv) (hy:a.eval y=yv)
  (hg:eqGuard op t x y xv yv=pure ()) (hr:(Op.equal t xv yv).run P w= .ok b w) (h1: ∀k n,xv≠ .int k n) (h2: ∀l,xv≠ .string l) (h3: ∀k n,xv≠ .float k n) (h4: ∀k n m,xv≠ .complex k n m)
  (h:Ia o.dst (Ht op) (some b) K s):PV P o s a w K:=by
 obtain⟨n,b',hn,hb,hK⟩:=Sl h;cases hb;have:=Qp (P:=P) hr hn h1 h2 h3 h4;refine Uv hS hd (b:=if n then !b else b) ?_ hK;simp [execOp,he,hx,hy,hg,this]
set_option maxHeartbeats 400000 in
theorem Cq7 (hS:Sim G N s a w) (hd:Be N o.dst=true) {op:BinOp} {t t':TypeId} {x y:Operand} (he:o.op= .binOp op t x y t') {dx dy:DVal} (rx:Rel w s.heap dx (a.eval x)) (ry:Rel w s.heap dy (a.eval y))
  (h:Ia o.dst (Ht op) (Ik (Cd x || Cd y) (P.underlying t) dx dy) K s):PV P o s a w K:=by
 obtain⟨n,b,hn,hb,hK⟩:=Sl h;rw[hb] at h;unfold Ik at hb;have key: ∀xv yv,a.eval x=xv->a.eval y=yv->eqGuard op t x y xv yv=pure ()->(∀d,(Op.equalIn (d+1) t xv yv).run P w= .ok b w)->(∀k n,xv≠ .int k n)->(∀l,xv≠ .string l)->(∀k n,xv≠ .float k n)->(∀k n m,xv≠ .complex k n m)->PV P o s a w K:=
  fun xv yv e1 e2 e3 e4 e5 e6 e7 e8=>Cm1 hS hd he e1 e2 e3 (e4 9999) e5 e6 e7 e8 h
 split at hb<;>(try (cases hb;done))<;>simp only[Rel] at rx ry
 case h_1 hu=>exact key _ _ rx ry (Bd (by simp) (by simp)) (by cases hb;exact fun d=>run_equalIn_bool w d t _ _ hu) (by simp) (by simp) (by simp) (by simp)
 case h_2 hu=>exact key _ _ rx ry (Bd (by simp) (by simp)) (by cases hb;intro d;simp [Op.equalIn,run_underlying hu]) (by simp) (by simp) (by simp) (by simp)
 case h_3 hu=>exact key _ _ rx ry (Bd (by simp) (by simp)) (by cases hb;intro d;simp [Op.equalIn,run_underlying hu]) (by simp) (by simp) (by simp) (by simp)
 case h_4 hu=>
  obtain⟨_,_,_,ry,_⟩:=ry;exact key _ _ rx ry (Bd (by simp) (by simp)) (by cases hb;intro d;simp [Op.equalIn,run_underlying hu]) (by simp) (by simp) (by simp) (by simp)
 case h_5 hu=>exact key _ _ rx ry (Bd (by simp) (by simp)) (by cases hb;intro d;simp [Op.equalIn,run_underlying hu]) (by simp) (by simp) (by simp) (by simp)
 case h_6 hu=>
  obtain⟨_,_,_,rx,_⟩:=rx;exact key _ _ rx ry (Bd (by simp) (by simp)) (by cases hb;intro d;simp [Op.equalIn,run_underlying hu]) (by simp) (by simp) (by simp) (by simp)
 case h_7 hu=>
  obtain⟨_,ry,_⟩:=ry;exact key _ _ rx ry (Bd (by simp) (by simp)) (by cases hb;intro d;simp [Op.equalIn,run_underlying hu]) (by simp) (by simp) (by simp) (by simp)
 case h_8 hu=>
  obtain⟨_,rx,_⟩:=rx;exact key _ _ rx ry (Bd (by simp) (by simp)) (by cases hb;intro d;simp [Op.equalIn,run_underlying hu]) (by simp) (by simp) (by simp) (by simp)
 case h_9 hu=>
  split at hb<;>(try (cases hb;done))
  rename_i hc
  exact key _ _ rx ry (Ye hc) (by cases hb;intro d;simp [Op.equalIn,run_underlying hu]) (by simp) (by simp) (by simp) (by simp)
 case h_10 hu=>exact key _ _ rx ry (Bd (by simp) (by simp)) (by cases hb;intro d;simp [Op.equalIn,run_underlying hu]) (by simp) (by simp) (by simp) (by simp)
 case h_11 hu=>
  obtain⟨_,_,rx,_⟩:=rx;exact key _ _ rx ry (Bd (by simp) (by simp)) (by cases hb;intro d;simp [Op.equalIn,run_underlying hu]) (by simp) (by simp) (by simp) (by simp)
 case h_12 hu=>
  obtain⟨_,_,ry,_⟩:=ry;exact key _ _ rx ry (Bd (by simp) (by simp)) (by cases hb;intro d;simp [Op.equalIn,run_underlying hu]) (by simp) (by simp) (by simp) (by simp)
 case h_13 hu=>exact key _ _ rx ry (Bd (by simp) (by simp)) (by cases hb;intro d;simp [Op.equalIn,run_underlying hu]) (by simp) (by simp) (by simp) (by simp)
 case h_14 hu=>
  obtain⟨_,_,rx,_⟩:=rx;exact key _ _ rx ry (Bd (by simp) (by simp)) (by cases hb;intro d;simp [Op.equalIn,run_underlying hu]) (by simp) (by simp) (by simp) (by simp)
 case h_15 hu=>
  obtain⟨_,_,ry,_⟩:=ry;exact key _ _ rx ry (Bd (by simp) (by simp)) (by cases hb;intro d;simp [Op.equalIn,run_underlying hu]) (by simp) (by simp) (by simp) (by simp)
theorem Bc1 (hS:Sim G N s a w) (hd:Be N o.dst=true) {op:BinOp} {t t':TypeId} {x y:Operand} (hx:Ay N x=true) (hy:Ay N y=true) (he:o.op= .binOp op t x y t')
  (h:Gi P t (Cd x || Cd y) op o.dst (dev G s.env x) (dev G s.env y) K s):PV P o s a w K:=by
 have rx:=Aq hS hx;have ry:=Aq hS hy;generalize dev G s.env x=dx at h rx;generalize dev G s.env y=dy at h ry;unfold Gi at h;split at h
 ·simp only[Rel] at rx ry;exact Br1 hS hd he rx ry h
 ·simp only[Rel] at rx ry;exact Br2 hS hd he rx ry h
 ·rename_i xs ys
  obtain⟨hag,hge,h⟩:=h;simp only[Rel] at rx ry;obtain⟨vx,hxv,rlx⟩:=rx;obtain⟨vy,hyv,rly⟩:=ry;obtain⟨n,b,hn,hb,hK⟩:=Sl h;have hrun:=Hc (w:=w) (H:=s.heap) 6 10000 (by omega) t _ _ (.agg vx) (.agg vy) true b hag (by simpa [Value.cells] using rlx) (by simpa [Value.cells] using rly) (fun _=>⟨_,rfl⟩) (fun _=>⟨_,rfl⟩) hb;have hgd:(eqGuard op t x y (.agg vx) (.agg vy)).run P w= .ok () w:=by
   unfold eqGuard;cases op<;>simp [program,Sem.run,hge]
  have hrb:=Qp (P:=P) (w:=w) (t:=t) (x:= .agg vx) (y:= .agg vy) (b:=b) hrun hn (by simp) (by simp) (by simp) (by simp);refine Uv hS hd (b:=if n then !b else b) ?_ hK;simp [execOp,he,hxv,hyv,hgd,hrb]
 ·exact Cq7 hS hd he rx ry h
theorem Sm {t e:TypeId} (hu:P.underlying t=some (.slice e)) (d:Nat) {ad:Option Addr} {n cap:Nat}:(Op.equalIn (d+1) t (.slice ad n cap) (.slice none 0 0)).run P w= .ok ad.isNone w:=by
 cases ad<;>simp [Op.equalIn,run_underlying hu]
theorem Cq8 (hS:Sim G N s a w) (hd:Be N o.dst=true) {op:BinOp} {t t':TypeId} {x y:Operand} (hx:Ay N x=true) (hy:Ay N y=true) (he:o.op= .binOp op t x y t')
  (h:Ot P t (Cd x || Cd y) op o.dst (Dh y) (dev G s.env x) (dev G s.env y) K s):PV P o s a w K:=by
 cases hn:Dh y with
 | false=>
  rw[hn,Hv] at h;exact Bc1 hS hd hx hy he h
 | true=>
  rw[hn] at h;by_cases hv: ∃cs n,dev G s.env x= .vslice cs n
  ·obtain⟨cs,n,hv⟩:=hv;have rx:=Aq hS hx;rw[hv] at h rx;simp only[Ot] at h;obtain⟨ht,h⟩:=h;simp only[Rel] at rx;obtain⟨ad,cap,hev,hle,hcs⟩:=rx;have hyv:a.eval y= .slice none 0 0:=by
    unfold Dh at hn;split at hn<;>first | rfl | cases hn
   cases hu:P.underlying t with
   | none=>rw[hu] at ht;cases ht
   | some d=>
    rw[hu] at ht;cases d<;>first | (cases ht;done) | skip
    refine Cm1 hS hd he hev hyv (b:=ad.isNone) (Bd (by simp) (by simp)) ?_ (by simp) (by simp) (by simp) (by simp) (h ad.isNone ?_)
    ·exact Sm hu 9999
    ·intro hc;rcases hcs with hcs | ⟨b,o',xs,rfl,_⟩
     ·exact(hc hcs).elim
     ·rfl
  ·refine Bc1 hS hd hx hy he ?_;revert h hv;generalize dev G s.env x=dx;intro h hv;cases dx<;>first | exact h | exact(hv ⟨_,_,rfl⟩).elim
end
end Go.Dl

-- THE DATA LEVEL, PART Q: further operations: structs, addresses, slices.
namespace Go.Dl
open Go
section
variable {P:Program} {G:Nat->DVal} {N:Fr}
variable {o:Oper} {s:DS} {a:Act} {w:World} {K:DK} {Qx:Exit->Act->World->Prop}
theorem Hw (n:Nat) (zs:List DVal):(repl n zs).length=n*zs.length:=by
 unfold repl
 induction n with
 | zero=>simp
 | succ n ih=>simp [List.replicate_succ,ih,Nat.succ_mul];omega
theorem Br3 (n:Nat) (zs:List DVal) (i:Nat) (hi:i<n*zs.length):(repl n zs)[i]? =zs[i%zs.length]? :=by
 induction n generalizing i with
 | zero=>simp at hi
 | succ n ih=>
  have hr:repl (n+1) zs=zs++repl n zs:=by simp [repl,List.replicate_succ]
  rw[hr];by_cases h:i<zs.length
  ·rw[List.getElem?_append_left h,Nat.mod_eq_of_lt h]
  ·have e:(n+1)*zs.length=n*zs.length+zs.length:=Nat.succ_mul _ _;rw[List.getElem?_append_right (by omega),ih (i-zs.length) (by omega)];congr 1;exact(Nat.mod_eq_sub_mod (by omega)).symm
theorem Oi {H:Aa} {zs:List DVal} {vs:Array Value} (h:Ap w H zs vs.toList) (n m:Nat) (hm:m=n*zs.length):
  Ap w H (repl n zs) ((Array.range m).map (vs[· %vs.size]!)).toList:=by
 have hl:=h.length;refine Ap.mk (by simp [Hw,hm]) fun i d x h1 h2=> ?_;have hi:i<m:=by
  rcases Nat.lt_or_ge i m with h' | h'
  ·exact h'
  ·rw[List.getElem?_eq_none (by rw[Hw];omega)] at h1;cases h1
 have hz:0<zs.length:=by
  rcases Nat.eq_zero_or_pos zs.length with e | e
  ·rw[e] at hm;simp at hm;omega
  ·exact e
 rw[Br3 n zs i (by omega)] at h1;obtain⟨y,hy,hr⟩:=h.get h1;have hsz:vs.size=zs.length:=by rw[hl];simp
 have:x=y:=by
  have h3:((Array.range m).map (vs[· %vs.size]!)).toList[i]? =some (vs[i%vs.size]!):=by simp [hi]
  rw[h3] at h2;cases h2;have hlt:i%vs.size<vs.size:=Nat.mod_lt _ (by omega);have:vs.toList[i%zs.length]? =some (vs[i%vs.size]!):=by
   rw[<-hsz];simp [hlt]
  rw[this] at hy;cases hy;rfl
 subst this;exact hr
theorem Bh1 (vs:List Value): ∀(j off:Nat) (c:Array Value),off+j+vs.length<=c.size->
  ((vs.zipIdx j).foldl (fun cs (p:Value×Nat)=>cs.setIfInBounds (off+p.2) p.1) c).toList=c.toList.take (off+j)++vs++c.toList.drop (off+j+vs.length):=by
 induction vs with
 | nil=>intro j off c _;simp
 | cons v vs ih=>
  intro j off c h;simp only[List.length_cons] at h;simp only[List.zipIdx_cons,List.foldl_cons];rw[ih (j+1) off _ (by simp;omega)];have hci:off+j<c.toList.length:=by simp;omega
  rw[Array.toList_setIfInBounds,List.length_cons,<-Nat.add_assoc];have e1:(c.toList.set (off+j) v).take (off+j+1)=c.toList.take (off+j)++ [v]:=by
   rw[List.take_set,List.take_succ_eq_append_getElem hci,List.set_append_right _ _ (by simp;omega)];have e0:off+j-min (off+j) c.size=0:=by omega
   simp [e0]
  have e2:(c.toList.set (off+j) v).drop (off+j+1+vs.length)=c.toList.drop (off+j+(vs.length+1)):=by
   rw[List.drop_set,if_pos (by omega)];congr 1;omega
  rw[e1,e2];simp
theorem Mz {H:Aa} (place:Nat->Option (Nat×Nat)): ∀(Bu:List (Nat×DVal)) (vs:List (Nat×Value)) (cs:List DVal) (c:Array Value) (out:List DVal),
  Ap w H cs c.toList->Bu.length=vs.length->(∀(j:Nat) (i:Nat) (d:DVal),Bu[j]? =some (i,d)-> ∃v,vs[j]? =some (i,v)/\Ap w H d.cells v.cells.toList)->
  Gk place cs Bu=some out-> ∃c',Instr.fill place c vs=some c'/\Ap w H out c'.toList
 | [],[],cs,c,out,hc,_,_,h=>by
  simp only[Gk] at h;cases h;exact⟨c,rfl,hc⟩
 | [],_::_,_,_,_,_,hl,_,_=>by simp at hl
 | _::_,[],_,_,_,_,hl,_,_=>by simp at hl
 | (i,d)::Bu,(i',v)::vs,cs,c,out,hc,hl,hp,h=>by
  obtain⟨v',hv',hr⟩:=hp 0 i d rfl;simp at hv';obtain⟨rfl,rfl⟩:=hv';simp only[Gk] at h;cases hpl:place i' with
  | none=>rw[hpl] at h;cases h
  | some os=>
   obtain⟨off,size⟩:=os;rw[hpl] at h;simp only at h;split at h
   ·rename_i hle
    obtain⟨hsz,hle⟩:=hle;have hlr:=hr.length;have hlc:=hc.length;have hvs:v.cells.size=d.cells.length:=by rw[hlr];simp
    have hcs:cs.length=c.size:=by rw[hlc];simp
    have hf:(v.cells.zipIdx.foldl (fun cs (p:Value×Nat)=>cs.setIfInBounds (off+p.2) p.1) c).toList=c.toList.take off++v.cells.toList++c.toList.drop (off+v.cells.toList.length):=by
     have:=Bh1 v.cells.toList 0 off c (by simp;omega);rw[<-Array.foldl_toList,Array.toList_zipIdx];simpa using this
    obtain⟨c',h1,h2⟩:=Mz place Bu vs (cs.take off++d.cells++cs.drop (off+d.cells.length)) (v.cells.zipIdx.foldl (fun cs (p:Value×Nat)=>cs.setIfInBounds (off+p.2) p.1) c) out
     (by rw[hf,<-hlr];exact((hc.take off).append hr).append (hc.drop _)) (by simpa using hl) (fun j i d hj=>hp (j+1) i d (by simpa using hj)) h
    refine⟨c', ?_,h2⟩;simp only[Instr.fill,hpl];rw[if_neg (by simp only[Bool.or_eq_true,decide_eq_true_eq,not_or];omega)];exact h1
   ·cases h
theorem Lo {place:Nat->Option (Nat×Nat)}: ∀ {Bu:List (Nat×DVal)} {cs out:List DVal},Gk place cs Bu=some out->out.length=cs.length
 | [],cs,out,h=>by simp only[Gk] at h;cases h;rfl
 | (i,d)::Bu,cs,out,h=>by
  simp only[Gk] at h;cases hpl:place i with
  | none=>rw[hpl] at h;cases h
  | some os=>
   rw[hpl] at h;simp only at h;split at h
   ·rename_i hle
    rw[Lo h];simp;omega
   ·cases h
theorem Sn {s:DS} (hS:Sim G N s a w): ∀(ps:List (Nat×Operand)),(ps.all fun p=>Ay N p.2)=true->
  (Eu G s.env ps).length=(ps.map fun p=>(p.1,a.eval p.2)).length/\
  ∀(j i:Nat) (d:DVal),(Eu G s.env ps)[j]? =some (i,d)-> ∃v,(ps.map fun p=>(p.1,a.eval p.2))[j]? =some (i,v)/\Ap w s.heap d.cells v.cells.toList
 | [],_=>⟨rfl,by simp [Eu]⟩
 | (i,x)::ps,h=>by
  simp only[List.all_cons,Bool.and_eq_true] at h;obtain⟨h1,h2⟩:=Sn hS ps h.2;refine⟨by simpa [Eu] using h1,fun j i' d hj=> ?_⟩;cases j with
  | zero=>
   simp [Eu] at hj;obtain⟨rfl,rfl⟩:=hj;exact⟨_,rfl,Fa (Aq hS h.1)⟩
  | succ j=>simpa using h2 j i' d (by simpa [Eu] using hj)
theorem Ak3 {t:TypeId} {z:DVal} (h:Ax P t=some z): ∃v,(∀w,(zeroValue t).run P w= .ok v w)/\(∀(w:World) (H:Aa),Ap w H z.cells v.cells.toList):=by
 unfold Ax at h;cases hi:P.info? t with
 | none=>simp [hi] at h
 | some i=>
  cases hz:i.zero with
  | none=>simp [hi,hz] at h
  | some v=>
   simp [hi,hz] at h;subst h;exact⟨v,fun w=>by simp [zeroValue,Im hi,hz],fun w H=>Fa (Cs w H v)⟩
theorem Un {fs:List Field} (h:fs.all (fun f=>(P.info? f.type).isSome)=true):
  (fs.mapM (fun f=>(do pure (f.offset,<-sizeOf f.type):Sem (Nat×Nat)))).run P w= .ok (fs.map fun f=>(f.offset,P.cellsOf f.type)) w:=by
 induction fs with
 | nil=>simp
 | cons f fs ih=>
  simp only[List.all_cons,Bool.and_eq_true] at h;simp only[List.mapM_cons,Sem.run_bind,Bg h.1,Result.andThen_ok,Sem.run_pure,ih h.2,List.map_cons]
theorem Cf0 (hS:Sim G N s a w) (hd:Be N o.dst=true) {t:TypeId} {ps:Array (Nat×Operand)} (hp:(ps.toList.all fun p=>Ay N p.2)=true) (he:o.op= .build t ps)
  (h:Pf P o.dst (Od P t) (P.underlying t) (Ax P t) (Eu G s.env ps.toList) K s):o.wp P a w (Dg G N K s w) Qx:=by
 obtain⟨hl,hpr⟩:=Sn hS ps.toList hp;cases hb:Od P t with
 | false=>rw[hb] at h;exact h.elim
 | true=>
  rw[hb] at h;cases hz:Ax P t with
  | none=>rw[hz] at h;cases hu:P.underlying t with
   | none=>rw[hu] at h;exact h.elim
   | some td=>rw[hu] at h;cases td<;>exact h.elim
  | some z=>
   obtain⟨v,hv,hvr⟩:=Ak3 hz;rw[hz] at h;have hmap:(ps.map fun p=>(p.1,a.eval p.2)).toList=ps.toList.map fun p=>(p.1,a.eval p.2):=by simp
   cases hu:P.underlying t with
   | none=>rw[hu] at h;exact h.elim
   | some td=>
    rw[hu] at h;unfold Od at hb;rw[hu] at hb;cases td<;>try exact h.elim
    case struct fs=>
     obtain⟨d,hd',hK⟩:=Eg h;simp only[Option.map_eq_some_iff] at hd';obtain⟨out,hout,rfl⟩:=hd';obtain⟨c',h1,h2⟩:=Mz _ _ _ _ _ _ (hvr w s.heap) hl hpr hout;refine Ek hS hd (x:= .agg c') ?_ (by simp only[Rel];exact⟨c',rfl,h2⟩) hK;have hm:(fs.mapM (fun f=>(do pure (f.offset,<-sizeOf f.type):Sem (Nat×Nat)))).run P w= .ok (fs.map fun f=>(f.offset,P.cellsOf f.type)) w:=by
      rw[Array.mapM_eq_mapM_toList];simp only[Sem.run_map,Un (w:=w) hb,Result.andThen_ok];congr 1;apply Array.ext';simp
     have hplace:(fun i=>(fs.map fun f=>(f.offset,P.cellsOf f.type))[i]?)=Ab4 P fs:=by
      funext i;simp [Ab4]
     simp only[execOp,he,Instr.build,Sem.run_bind,hv,run_underlying hu,Result.andThen_ok,hm,hplace,hmap,h1];simp
    case array n e=>
     obtain⟨d,hd',hK⟩:=Eg h;simp only[Option.map_eq_some_iff] at hd';obtain⟨out,hout,rfl⟩:=hd';obtain⟨c',h1,h2⟩:=Mz _ _ _ _ _ _ (hvr w s.heap) hl hpr hout;refine Ek hS hd (x:= .agg c') ?_ (by simp only[Rel];exact⟨c',rfl,h2⟩) hK;have hplace:(fun i=>some (i*P.cellsOf e,P.cellsOf e))=Mt (P.cellsOf e):=rfl;simp only[execOp,he,Instr.build,Sem.run_bind,hv,run_underlying hu,Result.andThen_ok,Bg hb,hplace,hmap,h1];simp
theorem Ac4 (hS:Sim G N s a w) (hd:Be N o.dst=true) {t:TypeId} {n:Nat} {ps:Array (Nat×Operand)} (hp:(ps.toList.all fun p=>Ay N p.2)=true) (he:o.op= .buildSlice t n ps)
  (h:Fx P n o.dst (P.underlying t) (Eu G s.env ps.toList) K s):o.wp P a w (Dg G N K s w) Qx:=by
 obtain⟨hl,hpr⟩:=Sn hS ps.toList hp;have hmap:(ps.map fun p=>(p.1,a.eval p.2)).toList=ps.toList.map fun p=>(p.1,a.eval p.2):=by simp
 cases hu:P.underlying t with
 | none=>rw[hu] at h;exact h.elim
 | some td=>
  rw[hu] at h;cases td<;>try exact h.elim
  rename_i e
  simp only[Fx] at h;cases hz:Ax P e with
  | none=>rw[hz] at h;exact h.elim
  | some z=>
   obtain⟨v,hv,hvr⟩:=Ak3 hz;rw[hz] at h;obtain⟨hle,hzl,h⟩:=h;cases hf:Gk (Mt (P.cellsOf e)) (repl n z.cells) (Eu G s.env ps.toList) with
   | none=>rw[hf] at h;exact h.elim
   | some out=>
    rw[hf] at h;have hie:(P.info? e).isSome=true:=by
     unfold Ax at hz;cases hi:P.info? e with
     | none=>simp [hi] at hz
     | some i=>rfl
    have hb:=Oi (hvr w s.heap) n (n*P.cellsOf e) (by rw[hzl]);have hvs:v.cells.size=P.cellsOf e:=by rw[<-hzl,(hvr w s.heap).length];simp
    have hplace:(fun i=>some (i*P.cellsOf e,P.cellsOf e))=Mt (P.cellsOf e):=rfl;by_cases h0:n*P.cellsOf e=0
    ·have hb0:Ap w s.heap (repl n z.cells) ((Array.range (n*P.cellsOf e)).map ((#[]:Array Value)[· %(#[]:Array Value).size]!)).toList:=by
      rw[h0] at hb⊢;simpa using hb
     obtain⟨c',h1,h2⟩:=Mz _ _ _ _ _ _ hb0 hl hpr hf;refine Qo hS hd (c:=c') (n:=w.drawn) (Nat.le_refl n) (Nat.le_refl n) (by rw[<-Array.length_toList,<-h2.length,Lo hf,Hw,hzl];omega) ?_ h2 (List.prefix_refl _) h;simp only[execOp,he,Instr.buildSlice,Sem.run_bind,run_underlying hu,Result.andThen_ok,Bg hie];rw[if_neg (by simp;omega)];simp only[h0] at h1;simp only[hplace,hmap,h0,if_true,Sem.run_bind,Sem.run_pure,Result.andThen_ok,h1];simp [newRow];rfl
    ·obtain⟨c',h1,h2⟩:=Mz _ _ _ _ _ _ hb hl hpr hf;refine Qo hS hd (c:=c') (n:=w.drawn) (Nat.le_refl n) (Nat.le_refl n) (by rw[<-Array.length_toList,<-h2.length,Lo hf,Hw,hzl];omega) ?_ h2 (List.prefix_refl _) h;simp only[execOp,he,Instr.buildSlice,Sem.run_bind,run_underlying hu,Result.andThen_ok,Bg hie];rw[if_neg (by simp;omega)];simp only[hplace,hmap,h0,if_false];simp [hv,h1,newRow];rfl
end
end Go.Dl

-- THE DATA LEVEL, PART R: further operations: addresses, slices, append, calls.
namespace Go.Dl
open Go
section
variable {P:Program} {G:Nat->DVal} {N:Fr}
variable {o:Oper} {s:DS} {a:Act} {w:World} {K:DK} {Qx:Exit->Act->World->Prop}
theorem Ak4 (hS:Sim G N s a w) (hd:Be N o.dst=true) {t:TypeId} {x:Operand} {f:Nat} (hx:Ay N x=true) (he:o.op= .fieldAddr t x f)
  (h:Fp P f (dev G s.env x) o.dst (P.underlying t) K s):PV P o s a w K:=by
 have r:=Aq hS hx;cases hu:P.underlying t with
 | none=>rw[hu] at h;exact h.elim
 | some td=>
  rw[hu] at h;cases td<;>try exact h.elim
  rename_i fs
  simp only[Fp] at h;cases hf:fs[f]? with
  | none=>rw[hf] at h;exact h.elim
  | some fd=>
   rw[hf] at h;obtain⟨hsz,h⟩:=h;obtain⟨d,hd',hK⟩:=Eg h;have hi:(P.info? fd.type).isSome=true:=by
    cases hi:P.info? fd.type with
    | none=>simp [Program.cellsOf,hi] at hsz
    | some i=>rfl
   have key: ∀b off,a.eval x= .pointer (some ⟨b,off,none⟩)->(execOp a.eval o).run P w= .ok (.value (.pointer (some ⟨b,off+fd.offset,none⟩))) w:=by
    intro b off hp;simp [execOp,he,hp,Instr.fieldAt,run_underlying hu,hf,Instr.sureAddr,fieldPlace,Bg hi,Nat.pos_iff_ne_zero.1 hsz,Ez]
   cases hv:dev G s.env x<;>rw[hv] at hd' r<;>simp only[Il] at hd'<;>try (cases hd';done)
   case vptr cs off=>
    cases hd';simp only[Rel] at r;obtain⟨b,o',xs,hp,hc,hl⟩:=r;refine pvI hS hd (key _ _ hp) ?_ hK;simp only[Rel];exact⟨b,o',xs,by rw[Nat.add_assoc],hc,hl⟩
   case optr r0 off=>
    cases hd';simp only[Rel] at r;exact pvI hS hd (key _ _ r) (by simp [Rel]) hK
theorem Bc2 {size:Nat} {ag:Option Bool} {t:TypeId} (hag:Br P t=ag) (hsz:P.cellsOf t=size) {cs:List DVal} {xs:Array Value} {H:Aa} (hr:Ap w H cs xs.toList) {off:Nat} {dst:Option Nat}
  (h:Vm size cs off dst ag K s): ∃d x,(part t xs off).run P w= .ok x w/\Rel w H d x/\Av dst d K s:=by
 subst hsz;cases ag with
 | none=>exact h.elim
 | some ag=>
  cases ag with
  | true=>
   refine⟨_, .agg (xs.extract off (off+P.cellsOf t)),by simp [part,Fz hag,Bg (Jq hag)], ?_,h⟩;have:(xs.extract off (off+P.cellsOf t)).toList=(xs.toList.drop off).take (P.cellsOf t):=by simp [Array.toList_extract,List.extract]
   simp only[Rel];exact⟨_,rfl,by rw[this];exact(hr.drop off).take _⟩
  | false=>
   obtain⟨d,hd,hK⟩:=Eg h;obtain⟨x,hx,hrel⟩:=hr.get hd;have:xs[off]? =some x:=by simpa using hx
   exact⟨d,x,by simp [part,Fz hag,this],hrel,hK⟩
theorem Cf1 (hS:Sim G N s a w) (hd:Be N o.dst=true) {t:TypeId} {x:Operand} {f:Nat} (hx:Ay N x=true) (he:o.op= .field t x f)
  (h:Pj P f o.dst (P.underlying t) (dev G s.env x) K s):PV P o s a w K:=by
 have r:=Aq hS hx;cases hu:P.underlying t with
 | none=>rw[hu] at h;exact h.elim
 | some td=>
  rw[hu] at h;cases td<;>try (cases dev G s.env x<;>exact h.elim)
  rename_i fs
  cases hv:dev G s.env x<;>rw[hv] at h r<;>try exact h.elim
  rename_i cs
  simp only[Pj] at h;simp only[Rel] at r;obtain⟨xs,hp,hl⟩:=r;cases hf:fs[f]? with
  | none=>rw[hf] at h;exact h.elim
  | some fd=>
   rw[hf] at h;obtain⟨d,y,hrun,hrel,hK⟩:=Bc2 (w:=w) rfl rfl hl h;refine pvI hS hd ?_ hrel hK;simp [execOp,he,hp,Instr.field,run_underlying hu,hf,asAgg,hrun]
theorem Ak5 (hS:Sim G N s a w) (hd:Be N o.dst=true) {t:TypeId} {x i:Operand} (hx:Ay N x=true) (hi:Ay N i=true) (he:o.op= .indexAddr t x i)
  (h:Fq P o.dst (P.underlying t) (dev G s.env x) (dev G s.env i) K s):PV P o s a w K:=by
 have rx:=Aq hS hx;have ri:=Aq hS hi;generalize hu:P.underlying t=u at h;generalize dev G s.env x=dx at h rx;generalize dev G s.env i=di at h ri;unfold Fq at h;split at h
 ·rename_i e cs len k n
  obtain⟨hie,h0,hlt,hle,hK⟩:=h;simp only[Rel] at rx ri;obtain⟨ad,cap,hp,hcap,hc⟩:=rx;rcases hc with rfl | ⟨b,o',xs,rfl,hc,hl⟩
  ·simp at hle
  ·refine pvI hS hd (x:= .pointer (some ⟨b,o'+n.toNat*P.cellsOf e,none⟩)) ?_ (by simp only[Rel];exact⟨b,o',xs,rfl,hc,hl⟩) hK;simp [execOp,he,hp,ri,Instr.indexAt,asIntOf,run_underlying hu,Bg hie,h0,hlt,Ez]
 ·rename_i e _ r0 off len lo k n
  obtain⟨hie,h0,hlt,hK⟩:=h;simp only[Rel] at rx ri;obtain⟨o',cap,hp,hlo,hcap,hoff,_⟩:=rx;have:o'=off:=by rcases hoff with e | e<;>omega
  subst this;refine pvI hS hd (x:= .pointer (some ⟨r0,o'+n.toNat*P.cellsOf e,none⟩)) ?_ (by simp [Rel]) hK;simp [execOp,he,hp,ri,Instr.indexAt,asIntOf,run_underlying hu,Bg hie,h0,hlt,Ez]
 ·rename_i m e k n
  obtain⟨hie,h0,hlt,h⟩:=h;simp only[Rel] at ri;obtain⟨d,hd',hK⟩:=Eg h;have key: ∀b off,a.eval x= .pointer (some ⟨b,off,none⟩)->(execOp a.eval o).run P w= .ok (.value (.pointer (some ⟨b,off+n.toNat*P.cellsOf e,none⟩))) w:=by
   intro b off hp;simp [execOp,he,hp,ri,Instr.indexAt,asIntOf,run_underlying hu,Bg hie,Instr.sureAddr,h0,hlt,Ez]
  cases dx<;>simp only[Il] at hd'<;>try (cases hd';done)
  case vptr cs off=>
   cases hd';simp only[Rel] at rx;obtain⟨b,o',xs,hp,hc,hl⟩:=rx;refine pvI hS hd (key _ _ hp) ?_ hK;simp only[Rel];exact⟨b,o',xs,by rw[Nat.add_assoc],hc,hl⟩
  case optr r0 off=>
   cases hd';simp only[Rel] at rx;exact pvI hS hd (key _ _ rx) (by simp [Rel]) hK
 ·exact h.elim
theorem Cf2 (hS:Sim G N s a w) (hd:Be N o.dst=true) {t:TypeId} {x i:Operand} (hx:Ay N x=true) (hi:Ay N i=true) (he:o.op= .index t x i)
  (h:Sh P o.dst (P.underlying t) (dev G s.env x) (dev G s.env i) K s):PV P o s a w K:=by
 have rx:=Aq hS hx;have ri:=Aq hS hi;generalize hu:P.underlying t=u at h;generalize dev G s.env x=dx at h rx;generalize dev G s.env i=di at h ri;unfold Sh at h;split at h
 ·rename_i m e cs k n
  obtain⟨h0,hlt,h⟩:=h;simp only[Rel] at rx ri;obtain⟨xs,hp,hl⟩:=rx;have hie:(P.info? e).isSome=true:=by
   cases hag:Br P e with
   | none=>rw[hag] at h;exact h.elim
   | some b=>exact Jq hag
  obtain⟨d,y,hrun,hrel,hK⟩:=Bc2 (w:=w) rfl rfl hl h;refine pvI hS hd ?_ hrel hK;simp [execOp,he,hp,ri,Instr.index,asIntOf,run_underlying hu,h0,hlt,Bg hie,hrun]
 ·rename_i l k n
  obtain⟨h0,h⟩:=h;obtain⟨d,hd',hK⟩:=Eg h;simp only[Option.map_eq_some_iff] at hd';obtain⟨c,hc,rfl⟩:=hd';simp only[Rel] at rx ri;refine pvI hS hd (x:= .int .u8 c.toNat) ?_ (by simp [Rel]) hK;have hb:(ByteArray.mk ⟨l⟩)[n.toNat]? =some c:=by
   have hlt:n.toNat<l.length:=by
    rcases Nat.lt_or_ge n.toNat l.length with h' | h'
    ·exact h'
    ·rw[List.getElem?_eq_none h'] at hc;cases hc
   rw[List.getElem?_eq_getElem hlt] at hc;cases hc;have:n.toNat<(ByteArray.mk ⟨l⟩).size:=hlt;rw[getElem?_pos (ByteArray.mk ⟨l⟩) n.toNat this];rfl
  simp [execOp,he,rx,ri,Instr.index,asIntOf,run_underlying hu,h0,hb]
 ·exact h.elim
theorem Ga {t:TypeId} {z:DVal} (h:Ax P t=some z): ∃i v,P.info? t=some i/\i.zero=some v/\z=Bn v:=by
 unfold Ax at h;cases hi:P.info? t with
 | none=>simp [hi] at h
 | some i=>
  cases hz:i.zero with
  | none=>simp [hi,hz] at h
  | some v=>
   simp [hi,hz] at h;exact⟨i,v,rfl,hz,h.symm⟩
theorem Ak6 (hS:Sim G N s a w) (hd:Be N o.dst=true) {t:TypeId} {l c:Operand} (hl:Ay N l=true) (hc:Ay N c=true) (he:o.op= .makeSlice t l c)
  (h:Ha P o.dst (P.underlying t) (dev G s.env l) (dev G s.env c) K s):o.wp P a w (Dg G N K s w) Qx:=by
 have rl:=Aq hS hl;have rc:=Aq hS hc;generalize hu:P.underlying t=u at h;generalize dev G s.env l=dl at h rl;generalize dev G s.env c=dc at h rc;unfold Ha at h;split at h
 ·rename_i e k n k' m
  simp only[Rel] at rl rc;cases hz:Ax P e with
  | none=>rw[hz] at h;exact h.elim
  | some z=>
   rw[hz] at h;obtain⟨h0,hle,hb,hm,hzl,hpos,h⟩:=h;obtain⟨ie,v,hie,hiz,rfl⟩:=Ga hz;have hby:P.bytesOf e=ie.bytes:=by simp [Program.bytesOf,hie]
   have hcs:P.cellsOf e=ie.size:=by simp [Program.cellsOf,hie]
   rw[hby] at hb;have hvr:Ap w s.heap (Bn v).cells v.cells.toList:=Fa (Cs w s.heap v);have hr:=Oi hvr m.toNat (m.toNat*ie.size) (by rw[hzl,hcs]);have hrun:=run_make (P:=P) w t e ie v hu hie hiz k k' n m h0 hle (by rw[Int.mul_comm];omega) (by omega);exact Qo hS hd (n:=w.drawn) (Nat.le_refl _) (by omega) (by simp [hcs]) (by simp [execOp,he,rl,rc,hrun];rfl) hr (List.prefix_refl _) h
 ·exact h.elim
theorem Vu (hS:Sim G N s a w) {x:Option Operand} (hx:(match x with | some x=>Ay N x | none=>true)=true):
  (x=none/\Hu G s.env x=none)\/ ∃y,x=some y/\Hu G s.env x=some (dev G s.env y)/\Rel w s.heap (dev G s.env y) (a.eval y):=by
 cases x with
 | none=>exact .inl ⟨rfl,rfl⟩
 | some y=>exact .inr ⟨y,rfl,rfl,Aq hS hx⟩
theorem By {k:IntKind} {n:Int} {y:Nat} {c:BoundsCode} (h0:0<=n) (h1:n<=y):(Instr.sliceBound (.int k n) y c).run P w= .ok n.toNat w:=by
 simp [Instr.sliceBound,asIntOf,h0,h1]
theorem Qr (hS:Sim G N s a w) {x:Option Operand} (hx:(match x with | some x=>Ay N x | none=>true)=true) {n:Int} (h:dLo (Hu G s.env x)=some n):
  (x=none/\n=0)\/ ∃y k,x=some y/\a.eval y= .int k n:=by
 rcases Vu hS hx with⟨rfl,e⟩ | ⟨y,rfl,e,r⟩
 ·rw[e] at h;simp [dLo] at h;exact .inl ⟨rfl,h.symm⟩
 ·rw[e] at h
  cases hd:dev G s.env y<;>rw[hd] at h r<;>simp [dLo] at h
  subst h
  simp only[Rel] at r
  exact .inr ⟨y,_,rfl,r⟩
theorem Br4 (hS:Sim G N s a w) {x:Option Operand} (hx:(match x with | some x=>Ay N x | none=>true)=true) {l:Nat} {n:Int} (h:dHi l (Hu G s.env x)=some n):
  (x=none/\n=l)\/ ∃y k,x=some y/\a.eval y= .int k n:=by
 rcases Vu hS hx with⟨rfl,e⟩ | ⟨y,rfl,e,r⟩
 ·rw[e] at h;simp [dHi] at h;exact .inl ⟨rfl,h.symm⟩
 ·rw[e] at h
  cases hd:dev G s.env y<;>rw[hd] at h r<;>simp [dHi] at h
  subst h
  simp only[Rel] at r
  exact .inr ⟨y,_,rfl,r⟩
theorem Gb (hS:Sim G N s a w) {lo hi:Option Operand} (hlo:(match lo with | some x=>Ay N x | none=>true)=true) (hhi:(match hi with | some x=>Ay N x | none=>true)=true)
  {b:Bool} {len cap:Nat} {l h:Int} (el:dLo (Hu G s.env lo)=some l) (eh:dHi len (Hu G s.env hi)=some h) (h0:0<=l) (h1:l<=h) (h2:h<=cap):
  (Instr.sliceBounds b len cap (lo.map a.eval) (hi.map a.eval) none).run P w= .ok (l.toNat,h.toNat,cap) w:=by
 rcases Qr hS hlo el with⟨rfl,rfl⟩ | ⟨y,k,rfl,ey⟩<;>rcases Br4 hS hhi eh with⟨rfl,rfl⟩ | ⟨z,k',rfl,ez⟩
 ·simp [Instr.sliceBounds]
 ·simp [Instr.sliceBounds,ez,By (P:=P) (w:=w) (k:=k') (n:=h) (y:=cap) (by omega) h2]
 ·simp [Instr.sliceBounds,ey,By (P:=P) (w:=w) (k:=k) (n:=l) (y:=len) h0 h1]
 ·have:l<=(h.toNat:Int):=by omega
  simp [Instr.sliceBounds,ey,ez,By (P:=P) (w:=w) (k:=k') (n:=h) (y:=cap) (by omega) h2,By (P:=P) (w:=w) (k:=k) (n:=l) (y:=h.toNat) h0 this]
theorem Ak7 (hS:Sim G N s a w) {lo hi mx:Option Operand} (hlo:(match lo with | some x=>Ay N x | none=>true)=true) (hhi:(match hi with | some x=>Ay N x | none=>true)=true) (hmx:(match mx with | some x=>Ay N x | none=>true)=true)
  {b:Bool} {len cap:Nat} {l h m:Int} (el:dLo (Hu G s.env lo)=some l) (nh:hi≠none) (nm:mx≠none) (eh:dLo (Hu G s.env hi)=some h) (em:dLo (Hu G s.env mx)=some m) (h0:0<=l) (h1:l<=h) (h2:h<=m) (h3:m<=cap):
  (Instr.sliceBounds b len cap (lo.map a.eval) (hi.map a.eval) (mx.map a.eval)).run P w= .ok (l.toNat,h.toNat,m.toNat) w:=by
 obtain⟨z,kz,rfl,ez⟩:=(Qr hS hhi eh).resolve_left (fun e=>nh e.1)
 obtain⟨u,ku,rfl,eu⟩:=(Qr hS hmx em).resolve_left (fun e=>nm e.1)
 have r1:h<=(m.toNat:Int):=by omega
 have r2:l<=(h.toNat:Int):=by omega
 rcases Qr hS hlo el with⟨rfl,rfl⟩ | ⟨y,k,rfl,ey⟩
 ·simp [Instr.sliceBounds,ez,eu,By (P:=P) (w:=w) (k:=ku) (n:=m) (y:=cap) (by omega) h3,By (P:=P) (w:=w) (k:=kz) (n:=h) (y:=m.toNat) (by omega) r1]
 ·simp [Instr.sliceBounds,ez,eu,ey,By (P:=P) (w:=w) (k:=ku) (n:=m) (y:=cap) (by omega) h3,By (P:=P) (w:=w) (k:=kz) (n:=h) (y:=m.toNat) (by omega) r1,By (P:=P) (w:=w) (k:=k) (n:=l) (y:=h.toNat) h0 r2]
theorem Bg6.le {r n m:Nat} (h:Bg6 w r n) (hm:m<=n):Bg6 w r m:=⟨h.1,fun k hk=>Nat.le_trans hm (h.2 k hk)⟩
theorem Cf3 (hS:Sim G N s a w) (hd:Be N o.dst=true) {t:TypeId} {x:Operand} {lo hi mx:Option Operand} (hx:Ay N x=true)
  (hlo:(match lo with | some x=>Ay N x | none=>true)=true) (hhi:(match hi with | some x=>Ay N x | none=>true)=true) (hmx:(match mx with | some x=>Ay N x | none=>true)=true) (he:o.op= .slice t x lo hi mx)
  (h:Ph P (Hu G s.env lo) (Hu G s.env hi) o.dst (P.underlying t) (dev G s.env x) (Hu G s.env mx) K s):PV P o s a w K:=by
 have rx:=Aq hS hx
 generalize hu:P.underlying t=u at h
 generalize dev G s.env x=dx at h rx
 generalize hm:Hu G s.env mx=dm at h
 have hmn:dm=none->mx=none:=by
  intro e;subst e
  cases mx with
  | none=>rfl
  | some y=>simp [Hu] at hm
 unfold Ph at h
 split at h
 ·-- a string
  rename_i l
  obtain rfl:=hmn rfl
  simp only[Rel] at rx
  unfold Of at h
  split at h<;>try exact h.elim
  rename_i lo' hi' el eh
  obtain⟨h0,h1,h2,hK⟩:=h
  have hb:=Gb (P:=P) hS hlo hhi (b:=false) (cap:=l.length) el eh h0 h1 h2
  refine pvI hS hd (x:= .string ⟨⟨(l.drop lo'.toNat).take (hi'.toNat-lo'.toNat)⟩⟩) ?_ (by simp [Rel]) hK
  have hsz:(ByteArray.mk ⟨l⟩).size=l.length:=rfl
  have hex:(ByteArray.mk ⟨l⟩).extract lo'.toNat hi'.toNat=⟨⟨(l.drop lo'.toNat).take (hi'.toNat-lo'.toNat)⟩⟩:=by
   apply ByteArray.ext
   rw[ByteArray.data_extract]
   apply Array.ext'
   simp [Array.toList_extract,List.extract]
  simp [execOp,he,rx,Instr.sliceAt,Instr.slice,run_underlying hu,hsz,hb,hex]
 ·-- a nil slice
  rename_i e
  obtain rfl:=hmn rfl
  obtain⟨hie,h⟩:=h
  simp only[Rel] at rx
  unfold Ut at h
  split at h<;>try exact h.elim
  rename_i lo' hi' el eh
  obtain⟨rfl,rfl,hK⟩:=h
  have hb:=Gb (P:=P) hS hlo hhi (b:=true) (cap:=0) el eh (by omega) (by omega) (by omega)
  refine pvI hS hd (x:= .slice none 0 0) ?_ (by simp [Rel]) hK
  simp [execOp,he,rx,Instr.sliceAt,Instr.slice,run_underlying hu,hb,Bg hie]
 ·-- memory that lasts
  rename_i e cs len
  obtain rfl:=hmn rfl
  obtain⟨hie,h⟩:=h
  simp only[Rel] at rx
  obtain⟨ad,cap,hp,hcap,hc⟩:=rx
  unfold Og at h
  split at h<;>try exact h.elim
  rename_i lo' hi' el eh
  obtain⟨h0,h1,h2,hK⟩:=h
  have hb:=Gb (P:=P) hS hlo hhi (b:=true) (cap:=cap) el eh h0 h1 (by omega)
  refine pvI hS hd (x:= .slice (if cap=lo'.toNat then ad else ad.map (·.add (lo'.toNat*P.cellsOf e))) (hi'.toNat-lo'.toNat) (cap-lo'.toNat)) ?_ ?_ hK
  ·simp [execOp,he,hp,Instr.sliceAt,Instr.slice,run_underlying hu,hb,Bg hie]
  ·simp only[Rel]
   refine⟨_,_,rfl,by omega, ?_⟩
   by_cases hcl:cap=lo'.toNat
   ·have:hi'.toNat-lo'.toNat=0:=by omega
    rw[this];exact .inl (by simp)
   ·rw[if_neg hcl]
    rcases hc with rfl | ⟨b,o',xs,rfl,hc,hl⟩
    ·exact .inl (by simp)
    ·refine .inr ⟨b,o'+lo'.toNat*P.cellsOf e,(xs.drop (lo'.toNat*P.cellsOf e)).take ((hi'.toNat-lo'.toNat)*P.cellsOf e),by simp [Ez], ?_,(hl.drop _).take _⟩
     rcases hc with rfl | ⟨g1,g2⟩
     ·exact .inl (by simp)
     ·exact .inr ⟨g1,(Fd.drop g2).take⟩
 ·-- a slice of the call's own
  rename_i e sz r0 off len lo0
  obtain rfl:=hmn rfl
  obtain⟨hie,rfl,h⟩:=h
  simp only[Rel] at rx
  obtain⟨o',cap,hp,hlo0,hcap,hoff,hroom⟩:=rx
  unfold Jn at h
  split at h<;>try exact h.elim
  rename_i lo' hi' mx' el eh em
  cases em
  obtain⟨h0,h1,h2,h3,hK⟩:=h
  have hb:=Gb (P:=P) hS hlo hhi (b:=true) (cap:=cap) el eh h0 h1 (by omega)
  refine pvI hS hd (x:= .slice (if cap=lo'.toNat then some ⟨r0,o',none⟩ else some ⟨r0,o'+lo'.toNat*P.cellsOf e,none⟩) (hi'.toNat-lo'.toNat) (cap-lo'.toNat)) ?_ ?_ hK
  ·simp [execOp,he,hp,Instr.sliceAt,Instr.slice,run_underlying hu,hb,Bg hie,Ez]
  ·simp only[Rel]
   have hsub:(cap-lo'.toNat)*P.cellsOf e+lo'.toNat*P.cellsOf e=cap*P.cellsOf e:=by
    rw[<-Nat.add_mul];congr 1;omega
   by_cases hcl:cap=lo'.toNat
   ·exact⟨o',cap-lo'.toNat,by simp [hcl],by omega,by omega, .inl (by omega),hroom.le (by omega)⟩
   ·refine⟨o'+lo'.toNat*P.cellsOf e,cap-lo'.toNat,by simp [hcl],by omega,by omega, .inr ?_,hroom.le (by omega)⟩
    rcases hoff with e1 | e1
    ·omega
    ·rw[e1]
 ·-- a slice of the call's own, with a third index
  rename_i e sz r0 off len lo0 m
  obtain⟨hie,rfl,hhs,h⟩:=h
  simp only[Rel] at rx
  obtain⟨o',cap,hp,hlo0,hcap,hoff,hroom⟩:=rx
  unfold Jn at h
  split at h<;>try exact h.elim
  rename_i lo' hi' mx' el eh em
  obtain⟨h0,h1,h2,h3,hK⟩:=h
  have hhn:hi≠none:=by rintro rfl;simp [Hu] at hhs
  have hmn':mx≠none:=by rintro rfl;simp [Hu] at hm
  have hb:=Ak7 (P:=P) hS hlo hhi hmx (b:=true) (len:=len) (cap:=cap) el hhn hmn' eh (by rw[hm];exact em) h0 h1 h2 (by omega)
  refine pvI hS hd (x:= .slice (if mx'.toNat=lo'.toNat then some ⟨r0,o',none⟩ else some ⟨r0,o'+lo'.toNat*P.cellsOf e,none⟩) (hi'.toNat-lo'.toNat) (mx'.toNat-lo'.toNat)) ?_ ?_ hK
  ·simp [execOp,he,hp,Instr.sliceAt,Instr.slice,run_underlying hu,hb,Bg hie,Ez]
  ·simp only[Rel]
   have hsub:(mx'.toNat-lo'.toNat)*P.cellsOf e+lo'.toNat*P.cellsOf e=mx'.toNat*P.cellsOf e:=by
    rw[<-Nat.add_mul];congr 1;omega
   have hmc:mx'.toNat*P.cellsOf e<=cap*P.cellsOf e:=Nat.mul_le_mul_right _ (by omega)
   by_cases hcl:mx'.toNat=lo'.toNat
   ·exact⟨o',mx'.toNat-lo'.toNat,by simp [hcl],by omega,by omega, .inl (by omega),hroom.le (by omega)⟩
   ·refine⟨o'+lo'.toNat*P.cellsOf e,mx'.toNat-lo'.toNat,by simp [hcl],by omega,by omega, .inr ?_,hroom.le (by omega)⟩
    rcases hoff with e1 | e1
    ·omega
    ·rw[e1]
 ·-- an array of the call's own
  rename_i n e r0 off
  obtain rfl:=hmn rfl
  obtain⟨hie,hrm,h⟩:=h
  simp only[Rel] at rx
  have hroom:Bg6 w r0 (off+n*P.cellsOf e):=by
   cases hh:s.heap r0 with
   | none=>rw[hh] at hrm;exact hrm.elim
   | some ob=>
    cases ob with
    | loop=>rw[hh] at hrm;exact hrm.elim
    | iter=>rw[hh] at hrm;exact hrm.elim
    | map=>rw[hh] at hrm;exact hrm.elim
    | cells cs e'=>
     rw[hh] at hrm
     obtain⟨xs,c,fz,g1,g2,g3,g4⟩:=hS.heap r0 _ hh
     refine⟨hS.heap.lt (by simp [hh]),fun k hk=> ?_⟩
     rw[g1] at hk
     simp [Hs] at hk
     have:=g3.length
     have:=g2.length_le
     simp only[Array.length_toList] at this
     simp only[Bb5] at hrm
     omega
  unfold Jn at h
  split at h<;>try exact h.elim
  rename_i lo' hi' mx' el eh em
  cases em
  obtain⟨h0,h1,h2,h3,hK⟩:=h
  have hb:=Gb (P:=P) hS hlo hhi (b:=false) (cap:=n) el eh h0 h1 h2
  refine pvI hS hd (x:= .slice (some (if n=lo'.toNat then⟨r0,off,none⟩ else⟨r0,off+lo'.toNat*P.cellsOf e,none⟩)) (hi'.toNat-lo'.toNat) (n-lo'.toNat)) ?_ ?_ hK
  ·simp [execOp,he,rx,Instr.sliceAt,run_underlying hu,Instr.sureAddr,hb,Bg hie,Ez]
  ·simp only[Rel]
   have hsub:(n-lo'.toNat)*P.cellsOf e+lo'.toNat*P.cellsOf e=n*P.cellsOf e:=by
    rw[<-Nat.add_mul];congr 1;omega
   by_cases hcl:n=lo'.toNat
   ·exact⟨off,n-lo'.toNat,by simp [hcl],by omega,by omega, .inl (by omega),hroom.le (by omega)⟩
   ·exact⟨off+lo'.toNat*P.cellsOf e,n-lo'.toNat,by simp [hcl],by omega,by omega, .inr rfl,hroom.le (by omega)⟩
 ·-- an array in memory that lasts
  rename_i n e cs off
  obtain rfl:=hmn rfl
  obtain⟨hie,hle,h⟩:=h
  simp only[Rel] at rx
  obtain⟨b,o',xs,hp,hc,hl⟩:=rx
  unfold Og at h
  split at h<;>try exact h.elim
  rename_i lo' hi' el eh
  obtain⟨h0,h1,h2,hK⟩:=h
  have hb:=Gb (P:=P) hS hlo hhi (b:=false) (cap:=n) el eh h0 h1 h2
  refine pvI hS hd (x:= .slice (some (if n=lo'.toNat then⟨b,o'+off,none⟩ else⟨b,o'+off+lo'.toNat*P.cellsOf e,none⟩)) (hi'.toNat-lo'.toNat) (n-lo'.toNat)) ?_ ?_ hK
  ·simp [execOp,he,hp,Instr.sliceAt,run_underlying hu,Instr.sureAddr,hb,Bg hie,Ez]
  ·simp only[Rel]
   refine⟨_,_,rfl,by omega, ?_⟩
   by_cases hcl:n=lo'.toNat
   ·have:hi'.toNat-lo'.toNat=0:=by omega
    rw[this];exact .inl (by simp)
   ·rw[if_neg hcl]
    refine .inr ⟨b,o'+off+lo'.toNat*P.cellsOf e,((((xs.drop off).take (n*P.cellsOf e)).drop (lo'.toNat*P.cellsOf e)).take ((hi'.toNat-lo'.toNat)*P.cellsOf e)),rfl, ?_,(((hl.drop _).take _).drop _).take _⟩
    rcases hc with rfl | ⟨g1,g2⟩
    ·exact .inl (by simp)
    ·exact .inr ⟨g1,(Fd.drop (Fd.take (Fd.drop g2))).take⟩
 ·exact h.elim
end
end Go.Dl

-- THE DATA LEVEL, PART T: further operations: type assertions, built-in functions, calls.
namespace Go.Dl
open Go
section
variable {P:Program} {G:Nat->DVal} {N:Fr}
variable {o:Oper} {s:DS} {a:Act} {w:World} {K:DK} {Q:DExit->DS->Prop} {Qx:Exit->Act->World->Prop}
theorem Ov {t:TypeId} (h:Bl (P.underlying t)=true): ∃d,P.underlying t=some d/\ ∀m,d≠ .interface m:=by
 cases hu:P.underlying t with
 | none=>rw[hu] at h;cases h
 | some d=>refine⟨d,rfl,fun m e=> ?_⟩;rw[hu,e] at h;cases h
theorem Ac5 (hS:Sim G N s a w) (hd:Be N o.dst=true) {x:Operand} {xt t:TypeId} {ok:Bool} (hx:Ay N x=true) (he:o.op= .typeAssert x xt t ok)
  (h:Ck P t ok o.dst (Bl (P.underlying t)) (dev G s.env x) K s):PV P o s a w K:=by
 have rx:=Aq hS hx;generalize hn:Bl (P.underlying t)=nb at h;generalize dev G s.env x=dx at h rx;unfold Ck at h;split at h
 ·rename_i t0 v0
  obtain⟨d,hu,hni⟩:=Ov hn;simp only[Rel] at rx;obtain⟨y,hp,hy⟩:=rx;have hrun:(execOp a.eval o).run P w=((Instr.typeAssert (.iface t0 y) xt t ok).run P w).andThen fun v w'=> .ok (.value v) w':=by
   simp [execOp,he,hp]
  have hta:(Instr.typeAssert (.iface t0 y) xt t ok).run P w=if t0=t then .ok (if ok then .tuple #[y, .bool true] else y) w else((if ok then(do pure (.tuple #[<-zeroValue t, .bool false])) else runtimePanic (.typeAssertion (some xt) (some t0) t "")):Sem Value).run P w:=by
   simp only[Instr.typeAssert,Sem.run_bind,run_underlying hu,Result.andThen_ok];cases d<;>first | exact absurd rfl (hni _) | (by_cases e:t0=t<;>simp [e])
  by_cases e:t0=t
  ·subst e;simp only[decide_true] at h;rw[hta,if_pos rfl] at hrun;cases ok
   ·exact pvI hS hd hrun hy h
   ·refine pvI hS hd hrun ?_ h;simp only[Rel];exact⟨_,rfl,by simp only[if_true,Ap,Rel];exact⟨_,_,rfl,hy,_,_,rfl,rfl,rfl⟩⟩
  ·simp only[e,decide_false] at h;cases ok
   ·exact h.elim
   ·simp only[Iu] at h;cases hz:Ax P t with
    | none=>rw[hz] at h;exact h.elim
    | some z=>
     rw[hz] at h;obtain⟨i,v,hi,hiz,rfl⟩:=Ga hz;have hzv:(zeroValue t).run P w= .ok v w:=by simp [zeroValue,Im hi,hiz]
     rw[hta,if_neg e] at hrun;refine pvI hS hd (x:= .tuple #[v, .bool false]) (by rw[hrun];simp [hzv]) ?_ h;simp only[Rel];exact⟨_,rfl,by simp only[Ap,Rel];exact⟨_,_,rfl,Cs w s.heap v,_,_,rfl,rfl,rfl⟩⟩
 ·obtain⟨d,hu,hni⟩:=Ov hn;obtain⟨rfl,h⟩:=h;simp only[Rel] at rx;cases hz:Ax P t with
  | none=>rw[hz] at h;exact h.elim
  | some z=>
   rw[hz] at h;obtain⟨i,v,hi,hiz,rfl⟩:=Ga hz;have hzv:(zeroValue t).run P w= .ok v w:=by simp [zeroValue,Im hi,hiz]
   refine pvI hS hd (x:= .tuple #[v, .bool false]) ?_ ?_ h
   ·simp only[execOp,he,rx,Instr.typeAssert,Sem.run_bind,run_underlying hu,Result.andThen_ok];cases d<;>first | exact absurd rfl (hni _) | simp [hzv]
   ·simp only[Rel];exact⟨_,rfl,by simp only[Ap,Rel];exact⟨_,_,rfl,Cs w s.heap v,_,_,rfl,rfl,rfl⟩⟩
 ·exact h.elim
theorem Dq {c:Call} {b:Builtin} (he:o.op= .call c) (hc:c.callee= .builtin b):
  execOp a.eval o=builtin b c.argTypes o.type (c.args.map fun | .const _=>true | _=>false) (c.args.map a.eval):=by
 simp only[execOp,he,resolve,hc];rfl
theorem Qs {xs:List Operand} {d:DVal} (h:Cj G s.env xs= [d]): ∃x,xs= [x]/\dev G s.env x=d:=by
 cases xs with
 | nil=>simp [Cj] at h
 | cons x xs=>cases xs with
  | nil=>simp [Cj] at h;exact⟨x,rfl,h⟩
  | cons y ys=>simp [Cj] at h
theorem Ak8 {xs:List Operand} {d e:DVal} (h:Cj G s.env xs= [d,e]): ∃x y,xs= [x,y]/\dev G s.env x=d/\dev G s.env y=e:=by
 cases xs with
 | nil=>simp [Cj] at h
 | cons x xs=>cases xs with
  | nil=>simp [Cj] at h
  | cons y ys=>cases ys with
   | nil=>simp [Cj] at h;exact⟨x,y,rfl,h.1,h.2⟩
   | cons z zs=>simp [Cj] at h
theorem Cy5 (hS:Sim G N s a w) (hd:Be N o.dst=true) {c:Call} {x:Operand} (hx:Ay N x=true) (he:o.op= .call c) (hc:c.callee= .builtin .len) (hargs:c.args.toList= [x]) {t:TypeId} (hts:c.argTypes.toList= [t])
  (h:Bg7 o.dst (P.underlying t) (dev G s.env x) K s):PV P o s a w K:=by
 have rx:=Aq hS hx;have hm:c.args.map a.eval= #[a.eval x]:=by apply Array.ext';simp [hargs]
 have hex:=Dq (a:=a) he hc;rw[hm] at hex;have ht':c.argTypes[0]? =some t:=by rw[<-Array.getElem?_toList,hts];rfl
 generalize hu:P.underlying t=u at h;generalize dev G s.env x=dx at h rx;unfold Bg7 at h;split at h
 ·simp only[Rel] at rx;exact Ln hS hd (by rw[hex];simp [builtin,Builtin.len_,ht',run_underlying hu,rx,goInt];rfl) h
 ·exact Ln hS hd (by rw[hex];simp [builtin,Builtin.len_,ht',run_underlying hu,goInt]) h
 ·simp only[Rel] at rx;exact Ln hS hd (by rw[hex];simp [builtin,Builtin.len_,ht',run_underlying hu,rx,goInt]) h
 ·simp only[Rel] at rx;obtain⟨_,_,rx,_⟩:=rx;exact Ln hS hd (by rw[hex];simp [builtin,Builtin.len_,ht',run_underlying hu,rx,goInt]) h
 ·simp only[Rel] at rx;obtain⟨_,_,rx,_⟩:=rx;exact Ln hS hd (by rw[hex];simp [builtin,Builtin.len_,ht',run_underlying hu,rx,goInt]) h
 ·exact h.elim
theorem Tw {H:Aa} (isMax:Bool): ∀(ys:List DVal) (vs:List Value) (x:DVal) (v:Value) (r:DVal),Ap w H ys vs->Rel w H x v->Gp isMax (some x) ys=some r->
  ∃u,(vs.foldlM (if isMax then Builtin.max2 else Builtin.min2) v).run P w= .ok u w/\Rel w H r u
 | [],vs,x,v,r,hl,hx,h=>by
  simp only[Ap] at hl;subst hl;simp only[Gp] at h;cases h;exact⟨v,by simp,hx⟩
 | y::ys,vs,x,v,r,hl,hx,h=>by
  simp only[Ap] at hl;obtain⟨u,us,rfl,hy,hl⟩:=hl;simp only[Gp] at h;cases hm:dMM isMax x y with
  | none=>rw[hm] at h;cases ys<;>cases h
  | some z=>
   rw[hm] at h;unfold dMM at hm;split at hm<;>try (cases hm;done)
   rename_i k m k' n
   simp only[Rel] at hx hy;subst hx;subst hy;cases hm;obtain⟨q,hq,hr⟩:=Tw isMax ys us _ (.int k (if isMax then(if n>m then n else m) else(if n<m then n else m))) r hl (by simp [Rel]) h;refine⟨q, ?_,hr⟩;cases isMax
   ·simpa [Builtin.min2] using hq
   ·simpa [Builtin.max2] using hq
theorem Ak9 (hS:Sim G N s a w) (hd:Be N o.dst=true) {c:Call} {isMax:Bool} (hx:c.args.toList.all (Ay N)=true) (he:o.op= .call c) (hc:c.callee= .builtin (if isMax then .max else .min))
  (h:Fh o.dst (Fm isMax (Cj G s.env c.args.toList)) K s):PV P o s a w K:=by
 have rl:=Jc hS hx;have hex:=Dq (a:=a) he hc;obtain⟨d,hd',hK⟩:=Eg h;have hm:(c.args.map a.eval).toList=c.args.toList.map a.eval:=by simp
 generalize hvs:c.args.toList.map a.eval=vs at rl hm;generalize Cj G s.env c.args.toList=ds at rl hd';cases ds with
 | nil=>cases hd'
 | cons x rest=>
  simp only[Ap] at rl;obtain⟨v,us,rfl,hx',hl⟩:=rl;simp only[Fm] at hd';obtain⟨u,hu,hr⟩:=Tw (P:=P) isMax rest us x v d hl hx' hd';refine pvI hS hd ?_ hr hK;rw[hex];cases isMax
  ·simp at hu;simp only[builtin,Builtin.min_,hm,Bool.false_eq_true,if_false,Sem.run_bind,hu,Result.andThen_ok,Sem.run_pure]
  ·simp at hu;simp only[builtin,Builtin.max_,hm,if_true,Sem.run_bind,hu,Result.andThen_ok,Sem.run_pure]
end
end Go.Dl
