/- The data level and the contracts of the functions that are reached (part 2). -/
import Derived.Laws.BytesString
import Derived.Laws.RangeString
import Derived.Test.YtddbdpcgikmiaaaGreatDoorPka
set_option linter.unusedSimpArgs false
set_option linter.unusedVariables false
set_option linter.unusedSectionVars false
-- THE DATA LEVEL, PART T: further operations: type assertions, built-in functions, calls.
namespace Go.Dl
open Go
section
variable {P:Program} {G:Nat->DVal} {N:Fr}
variable {o:Oper} {s:DS} {a:Act} {w:World} {K:DK} {Q:DExit->DS->Prop} {Qx:Exit->Act->World->Prop}
theorem Rs {t:TypeId} (h:Cv (P.underlying t)=true): ∃d,P.underlying t=some d/\ ∀m,d≠ .interface m:=by
 cases hu:P.underlying t with
 | none=>rw[hu] at h;cases h
 | some d=>refine⟨d,rfl,fun m e=> ?_⟩;rw[hu,e] at h;cases h
theorem Aq5 (hS:Sim G N s a w) (hd:Bu N o.dst=true) {x:Operand} {xt t:TypeId} {ok:Bool} (hx:Bf N x=true) (he:o.op= .typeAssert x xt t ok)
  (h:Kg P t ok o.dst (Cv (P.underlying t)) (dev G s.env x) K s):PV P o s a w K:=by
 have rx:=Ax hS hx;generalize hn:Cv (P.underlying t)=nb at h;generalize dev G s.env x=dx at h rx;unfold Kg at h;split at h
 ·rename_i t0 v0
  obtain⟨d,hu,hni⟩:=Rs hn;simp only[Rel] at rx;obtain⟨y,hp,hy⟩:=rx;have hrun:(execOp a.eval o).run P w=((Instr.typeAssert (.iface t0 y) xt t ok).run P w).andThen fun v w'=> .ok (.value v) w':=by
   simp [execOp,he,hp]
  have hta:(Instr.typeAssert (.iface t0 y) xt t ok).run P w=if t0=t then .ok (if ok then .tuple #[y, .bool true] else y) w else((if ok then(do pure (.tuple #[<-zeroValue t, .bool false])) else runtimePanic (.typeAssertion (some xt) (some t0) t "")):Sem Value).run P w:=by
   simp only[Instr.typeAssert,Sem.run_bind,run_underlying hu,Result.andThen_ok];cases d<;>first | exact absurd rfl (hni _) | (by_cases e:t0=t<;>simp [e])
  by_cases e:t0=t
  ·subst e;simp only[decide_true] at h;rw[hta,if_pos rfl] at hrun;cases ok
   ·exact pvI hS hd hrun hy h
   ·refine pvI hS hd hrun ?_ h;simp only[Rel];exact⟨_,rfl,by simp only[if_true,An,Rel];exact⟨_,_,rfl,hy,_,_,rfl,rfl,rfl⟩⟩
  ·simp only[e,decide_false] at h;cases ok
   ·exact h.elim
   ·simp only[Vo] at h;cases hz:Bm P t with
    | none=>rw[hz] at h;exact h.elim
    | some z=>
     rw[hz] at h;obtain⟨i,v,hi,hiz,rfl⟩:=Iq hz;have hzv:(zeroValue t).run P w= .ok v w:=by simp [zeroValue,Kv hi,hiz]
     rw[hta,if_neg e] at hrun;refine pvI hS hd (x:= .tuple #[v, .bool false]) (by rw[hrun];simp [hzv]) ?_ h;simp only[Rel];exact⟨_,rfl,by simp only[An,Rel];exact⟨_,_,rfl,Ej w s.heap v,_,_,rfl,rfl,rfl⟩⟩
 ·obtain⟨d,hu,hni⟩:=Rs hn;obtain⟨rfl,h⟩:=h;simp only[Rel] at rx;cases hz:Bm P t with
  | none=>rw[hz] at h;exact h.elim
  | some z=>
   rw[hz] at h;obtain⟨i,v,hi,hiz,rfl⟩:=Iq hz;have hzv:(zeroValue t).run P w= .ok v w:=by simp [zeroValue,Kv hi,hiz]
   refine pvI hS hd (x:= .tuple #[v, .bool false]) ?_ ?_ h
   ·simp only[execOp,he,rx,Instr.typeAssert,Sem.run_bind,run_underlying hu,Result.andThen_ok];cases d<;>first | exact absurd rfl (hni _) | simp [hzv]
   ·simp only[Rel];exact⟨_,rfl,by simp only[An,Rel];exact⟨_,_,rfl,Ej w s.heap v,_,_,rfl,rfl,rfl⟩⟩
 ·exact h.elim
theorem Fi {c:Call} {b:Builtin} (he:o.op= .call c) (hc:c.callee= .builtin b):
  execOp a.eval o=builtin b c.argTypes o.type (c.args.map fun | .const _=>true | _=>false) (c.args.map a.eval):=by
 simp only[execOp,he,resolve,hc];rfl
theorem Tx {xs:List Operand} {d:DVal} (h:El G s.env xs= [d]): ∃x,xs= [x]/\dev G s.env x=d:=by
 cases xs with
 | nil=>simp [El] at h
 | cons x xs=>cases xs with
  | nil=>simp [El] at h;exact⟨x,rfl,h⟩
  | cons y ys=>simp [El] at h
theorem Ay0 {xs:List Operand} {d e:DVal} (h:El G s.env xs= [d,e]): ∃x y,xs= [x,y]/\dev G s.env x=d/\dev G s.env y=e:=by
 cases xs with
 | nil=>simp [El] at h
 | cons x xs=>cases xs with
  | nil=>simp [El] at h
  | cons y ys=>cases ys with
   | nil=>simp [El] at h;exact⟨x,y,rfl,h.1,h.2⟩
   | cons z zs=>simp [El] at h
theorem Du5 (hS:Sim G N s a w) (hd:Bu N o.dst=true) {c:Call} {x:Operand} (hx:Bf N x=true) (he:o.op= .call c) (hc:c.callee= .builtin .len) (hargs:c.args.toList= [x]) {t:TypeId} (hts:c.argTypes.toList= [t])
  (h:dLen o.dst (P.underlying t) (dev G s.env x) K s):PV P o s a w K:=by
 have rx:=Ax hS hx;have hm:c.args.map a.eval= #[a.eval x]:=by apply Array.ext';simp [hargs]
 have hex:=Fi (a:=a) he hc;rw[hm] at hex;have ht':c.argTypes[0]? =some t:=by rw[<-Array.getElem?_toList,hts];rfl
 generalize hu:P.underlying t=u at h;generalize dev G s.env x=dx at h rx;unfold dLen at h;split at h
 ·simp only[Rel] at rx;exact Nx hS hd (by rw[hex];simp [builtin,Builtin.len_,ht',run_underlying hu,rx,goInt];rfl) h
 ·exact Nx hS hd (by rw[hex];simp [builtin,Builtin.len_,ht',run_underlying hu,goInt]) h
 ·simp only[Rel] at rx;exact Nx hS hd (by rw[hex];simp [builtin,Builtin.len_,ht',run_underlying hu,rx,goInt]) h
 ·simp only[Rel] at rx;obtain⟨_,_,rx,_⟩:=rx;exact Nx hS hd (by rw[hex];simp [builtin,Builtin.len_,ht',run_underlying hu,rx,goInt]) h
 ·simp only[Rel] at rx;obtain⟨_,_,rx,_⟩:=rx;exact Nx hS hd (by rw[hex];simp [builtin,Builtin.len_,ht',run_underlying hu,rx,goInt]) h
 ·exact h.elim
theorem Xr {H:Ab} (isMax:Bool): ∀(ys:List DVal) (vs:List Value) (x:DVal) (v:Value) (r:DVal),An w H ys vs->Rel w H x v->Px isMax (some x) ys=some r->
  ∃u,(vs.foldlM (if isMax then Builtin.max2 else Builtin.min2) v).run P w= .ok u w/\Rel w H r u
 | [],vs,x,v,r,hl,hx,h=>by
  simp only[An] at hl;subst hl;simp only[Px] at h;cases h;exact⟨v,by simp,hx⟩
 | y::ys,vs,x,v,r,hl,hx,h=>by
  simp only[An] at hl;obtain⟨u,us,rfl,hy,hl⟩:=hl;simp only[Px] at h;cases hm:dMM isMax x y with
  | none=>rw[hm] at h;cases ys<;>cases h
  | some z=>
   rw[hm] at h;unfold dMM at hm;split at hm<;>try (cases hm;done)
   rename_i k m k' n
   simp only[Rel] at hx hy;subst hx;subst hy;cases hm;obtain⟨q,hq,hr⟩:=Xr isMax ys us _ (.int k (if isMax then(if n>m then n else m) else(if n<m then n else m))) r hl (by simp [Rel]) h;refine⟨q, ?_,hr⟩;cases isMax
   ·simpa [Builtin.min2] using hq
   ·simpa [Builtin.max2] using hq
theorem Ay1 (hS:Sim G N s a w) (hd:Bu N o.dst=true) {c:Call} {isMax:Bool} (hx:c.args.toList.all (Bf N)=true) (he:o.op= .call c) (hc:c.callee= .builtin (if isMax then .max else .min))
  (h:Mz o.dst (Re isMax (El G s.env c.args.toList)) K s):PV P o s a w K:=by
 have rl:=Ls hS hx;have hex:=Fi (a:=a) he hc;obtain⟨d,hd',hK⟩:=Gb h;have hm:(c.args.map a.eval).toList=c.args.toList.map a.eval:=by simp
 generalize hvs:c.args.toList.map a.eval=vs at rl hm;generalize El G s.env c.args.toList=ds at rl hd';cases ds with
 | nil=>cases hd'
 | cons x rest=>
  simp only[An] at rl;obtain⟨v,us,rfl,hx',hl⟩:=rl;simp only[Re] at hd';obtain⟨u,hu,hr⟩:=Xr (P:=P) isMax rest us x v d hl hx' hd';refine pvI hS hd ?_ hr hK;rw[hex];cases isMax
  ·simp at hu;simp only[builtin,Builtin.min_,hm,Bool.false_eq_true,if_false,Sem.run_bind,hu,Result.andThen_ok,Sem.run_pure]
  ·simp at hu;simp only[builtin,Builtin.max_,hm,if_true,Sem.run_bind,hu,Result.andThen_ok,Sem.run_pure]
end
end Go.Dl

-- THE DATA LEVEL, PART U: append.
namespace Go.Dl
open Go
section
variable {P:Program} {G:Nat->DVal} {N:Fr}
variable {o:Oper} {s:DS} {a:Act} {w:World} {K:DK} {Q:DExit->DS->Prop} {Qx:Exit->Act->World->Prop}
def Bi2 (P:Program) (w:World) (size:Nat) (x:Value) (n:Nat) (vs:List Value):Prop:=
 (Builtin.lenOf x).run P w= .ok n w/\ ∀k,(Builtin.firstCells size n x).run P { w with drawn:=k }= .ok vs.toArray { w with drawn:=k }
theorem Pz {b off k:Nat} {xs:List Value} (h:Kq w b off xs):Kq { w with drawn:=k } b off xs:=h
theorem Bi3 {size:Nat} {y:DVal} {v:Value} {H:Ab} (hH:Av w H) (hv:Rel w H y v) {n:Nat} {news:List DVal} (hs:Pt size H y=some (n,news)) (hl:news.length=n*size):
  ∃vs,Bi2 P w size v n vs/\An w H news vs:=by
 unfold Pt at hs;split at hs
 ·cases hs;simp only[Rel] at hv;subst hv;exact⟨[],⟨by simp [Builtin.lenOf],fun k=>by simp [Builtin.firstCells]⟩,by simp [An]⟩
 ·cases hs;simp only[Rel] at hv;obtain⟨ad,cap,rfl,_,hc⟩:=hv;rcases hc with rfl | ⟨b,o',xs,rfl,hc,hr⟩
  ·have hz:n*size=0:=by simpa using hl.symm
   refine⟨[],⟨by simp [Builtin.lenOf],fun k=> ?_⟩,by simp [An]⟩;cases ad with
   | none=>simp [Builtin.firstCells]
   | some ad=>
    simp [Builtin.firstCells,hz,loadCells,loadCellsFrom]
  ·refine⟨xs.take (n*size),⟨by simp [Builtin.lenOf],fun k=> ?_⟩,hr.take _⟩;have hlx:=hr.length;have hlen:(xs.take (n*size)).length=n*size:=by
    simp only[List.length_take] at hl⊢;omega
   have:=Di (P:=P) (w:= { w with drawn:=k }) (Kq.take (n:=n*size) (Pz hc.holds));rw[hlen] at this;simpa [Builtin.firstCells] using this
 ·rename_i sz r off n' lo
  unfold Ak5 at hs;split at hs<;>try (cases hs;done)
  rename_i cs e hh
  cases hs;simp only[Rel] at hv;obtain⟨o',cap,rfl,_,hcap,hoff,_⟩:=hv;obtain⟨xs,hr,hho⟩:=hH.holds hh;by_cases hc0:cap=0
  ·have hn:n=0:=by omega
   subst hn;refine⟨[],⟨by simp [Builtin.lenOf],fun k=>by simp [Builtin.firstCells,loadCells,loadCellsFrom]⟩, ?_⟩;simp [An]
  ·have:o'=off:=hoff.resolve_left hc0;subst this;refine⟨(xs.drop o').take (n*size),⟨by simp [Builtin.lenOf],fun k=> ?_⟩,(hr.drop _).take _⟩;have hlx:=hr.length;have hlen:((xs.drop o').take (n*size)).length=n*size:=by
    simp only[List.length_take,List.length_drop] at hl⊢;omega
   have h1:Kq w r o' (xs.drop o'):=by simpa using hho.drop (n:=o')
   have:=Di (P:=P) (w:= { w with drawn:=k }) (Kq.take (n:=n*size) (Pz h1));rw[hlen] at this;simpa [Builtin.firstCells] using this
 ·rename_i l
  cases hs;simp only[Rel] at hv;subst hv;have hsz:(ByteArray.mk ⟨l⟩).size=l.length:=rfl;refine⟨l.map fun b=> .int .u8 b.toNat,⟨by simp [Builtin.lenOf,hsz],fun k=> ?_⟩, ?_⟩
  ·simp [Builtin.firstCells]
  ·refine An.mk (by simp) fun i d x h1 h2=> ?_;simp only[List.getElem?_map,Option.map_eq_some_iff] at h1 h2;obtain⟨b1,e1,rfl⟩:=h1;obtain⟨b2,e2,rfl⟩:=h2;rw[e1] at e2;cases e2;simp [Rel]
 ·cases hs
variable {t t' e:TypeId} {ty:TypeId} {i:TypeInfo} {z:Value} {u:TypeDesc}
theorem Qa (ht:P.underlying t=some (.slice e)) (hu:P.underlying t'=some u) (hu':(∃e',u= .slice e')\/u= .string) (hi:P.info? e=some i) (hz:i.zero=some z)
  {b:Option Addr} {len cap n:Nat} {x:Value} {vs:List Value} (hsrc:Bi2 P w i.size x n vs) (hg:cap<len+n) (hfit:(len+n)*i.bytes<=35184372088832) (hbytes:(len+n:Nat)<=35184372088832)
  {olds:List Value} (ho: ∀k,(Builtin.firstCells i.size len (.slice b len cap)).run P { w with drawn:=k }= .ok olds.toArray { w with drawn:=k }):
  ∃c,len+n<=c/\(Builtin.append_ #[t,t'] ty #[.slice b len cap,x]).run P w=
   .ok (.slice (some ⟨w.heap.size,0,none⟩) (len+n) c) { w.alloc (.cells (olds.toArray++(vs.toArray++Builtin.zeroCells z.cells (c-(len+n)))) e) with drawn:=w.drawn+1 }:=by
 obtain⟨hlen,hcells⟩:=hsrc;refine⟨(Question.appendCap (len+n) cap e).cut (w.tape w.drawn (.appendCap (len+n) cap e)),by simp [Question.cut], ?_⟩;have hn: ¬(len+n<=cap):=by omega
 have h48: ¬(Builtin.nextslicecap (len+n) cap*i.bytes>281474976710656):=by
  have:=growslice_fits (need:=len+n) (old:=cap) (bytes:=i.bytes) hg (by omega);omega
 have hc1:=hcells (w.drawn+1);have ho1:=ho (w.drawn+1);have h63: ¬(9223372036854775807<((len:Int)+(n:Int))):=by omega
 simp only[World.drew_eq] at hc1 ho1;rcases hu' with⟨e',rfl⟩ | rfl
 ·simp [Builtin.append_,run_underlying ht,run_underlying hu,sizeOf,typeInfo,zeroValue,hi,hz,hlen,hn,h48,h63,Question.forced,hc1,ho1,newRow];rfl
 ·simp [Builtin.append_,run_underlying ht,run_underlying hu,sizeOf,typeInfo,zeroValue,hi,hz,hlen,hn,h48,h63,Question.forced,hc1,ho1,newRow];rfl
theorem Ke (ht:P.underlying t=some (.slice e)) (hu:P.underlying t'=some u) (hu':(∃e',u= .slice e')\/u= .string) (hi:P.info? e=some i)
  {b:Option Addr} {len cap n:Nat} {x:Value} {vs:List Value} (hsrc:Bi2 P w i.size x n vs) (hg:len+n<=cap) {w':World}
  (hst:(match b with | some ad=>storeCells (ad.add (len*i.size)) vs 0 | none=>pure ()).run P w= .ok () w'):
  (Builtin.append_ #[t,t'] ty #[.slice b len cap,x]).run P w= .ok (.slice b (len+n) cap) w':=by
 obtain⟨hlen,hcells⟩:=hsrc
 have hc1:=hcells w.drawn
 have hw: { w with drawn:=w.drawn }=w:=rfl
 rw[hw] at hc1
 rcases hu' with⟨e',rfl⟩ | rfl
 ·cases b with
  | none=>simp at hst;subst hst;simp [Builtin.append_,run_underlying ht,run_underlying hu,sizeOf,typeInfo,hi,hlen,hg,hc1]
  | some ad=>simp at hst;simp [Builtin.append_,run_underlying ht,run_underlying hu,sizeOf,typeInfo,hi,hlen,hg,hc1,hst]
 ·cases b with
  | none=>simp at hst;subst hst;simp [Builtin.append_,run_underlying ht,run_underlying hu,sizeOf,typeInfo,hi,hlen,hg,hc1]
  | some ad=>simp at hst;simp [Builtin.append_,run_underlying ht,run_underlying hu,sizeOf,typeInfo,hi,hlen,hg,hc1,hst]
theorem Aq6 {u:Option TypeDesc} (h:Vp u=true): ∃d,u=some d/\((∃e',d= .slice e')\/d= .string):=by
 cases u with
 | none=>cases h
 | some d=>cases d<;>first | (exact⟨_,rfl, .inl ⟨_,rfl⟩⟩) | (exact⟨_,rfl, .inr rfl⟩) | (cases h;done)
theorem Bi4 {H:Ab} (hH:Av w H) {r p:Nat} {cs ds:List DVal} {e:TypeId} (hr:H r=some (.cells cs e)) {vs:List Value} (hv:An w H ds vs) (h1:ds.all (·.one)=true) (hp:p<=cs.length)
  (hroom: ∀c fz,w.heap[r]? =some (.cells c e fz)->p+ds.length<=c.size) {cs':List DVal} (hcs:cs'=cs.take p++ds):
  ∃w',(storeCells ⟨r,p,none⟩ vs 0).run P w= .ok () w'/\Av w' (upd (upd H r none) r (some (.cells cs' e)))/\Ext H w (upd (upd H r none) r (some (.cells cs' e))) w':=by
 subst hcs;obtain⟨xs,c,fz,g1,g2,g3,g4⟩:=hH r _ hr;obtain⟨tl,htl⟩:=g2;have hlx:=g3.length;have hlv:=hv.length;have hcs:c.size=xs.length+tl.length:=by rw[<-Array.length_toList,<-htl];simp
 have hrm:=hroom c fz g1;obtain⟨w',c',hrun,hheap,hlist,hother,hsize,hos,htape,hout⟩:=Ih (P:=P) r p e fz vs 0 c w g1 (by omega) (Zx hv h1) g4;have hcsz:c'.size=c.size:=by
  rw[<-Array.length_toList,hlist];simp;omega
 have hupd:upd (upd H r none) r (some (.cells (cs.take p++ds) e))=upd H r (some (.cells (cs.take p++ds) e)):=by
  funext j;simp only[upd];split<;>rfl
 rw[hupd];have hE:Ext H w (upd H r (some (.cells (cs.take p++ds) e))) w':=by
  refine⟨hos,htape,hout,by omega,fun b hb hn=>hother b (fun hbr=>by subst hbr;rw[hr] at hn;cases hn),fun b hb=> ?_,fun b hb=> ?_,fun a _ _=>by
   unfold World.frozen?;by_cases hbr:a.block=r
   ·rw[hbr,hheap,g1]
   ·rw[hother _ hbr]⟩
  ·by_cases hbr:b=r
   ·subst hbr;exact .inl (by rw[hr];simp)
   ·simp only[upd,if_neg hbr] at hb;exact .inl hb
  ·by_cases hbr:b=r
   ·subst hbr;rw[hheap,g1];simp [Ji,hcsz]
   ·rw[hother b hbr]
 refine⟨w',hrun,fun r' o' ho'=> ?_,hE⟩;by_cases hbr:r'=r
 ·subst hbr;simp only[upd,if_pos] at ho';cases ho';refine⟨xs.take p++vs,c',fz,hheap, ?_,(An.lasts hE.lasts _ _ (g3.take p)).append (An.lasts hE.lasts _ _ hv),by rw[hcsz];exact g4⟩;refine⟨c.toList.drop (p+0+vs.length), ?_⟩;rw[hlist,<-htl,Nat.add_zero,List.take_append_of_le_length (by omega)]
 ·simp only[upd,if_neg hbr] at ho';rw[hother r' hbr];exact(hH r' o' ho').lasts hE.lasts
theorem Av.letGo {H:Ab} (hH:Av w H) (r:Nat):Av w (upd H r none):=by
 have hl:Lasts H w (upd H r none) w:=⟨fun b i x hb hc=>⟨by simp only[upd];split;rfl;exact hb,hc⟩,Nat.le_refl _,fun _ _=>rfl⟩;intro r' o' ho';by_cases hbr:r'=r
 ·subst hbr;simp [upd] at ho'
 ·simp only[upd,if_neg hbr] at ho';exact(hH r' o' ho').lasts hl
theorem Bz0 {H:Ab} (r:Nat):Ext H w (upd H r none) w:=
 ⟨rfl,rfl,rfl,Nat.le_refl _,fun _ _ _=>rfl,fun b hb=> .inl (by simp only[upd] at hb;split at hb<;>simp_all),fun _ _=>rfl,fun _ _ _=>rfl⟩
theorem Ko (size:Nat) (k:Nat):(Builtin.firstCells size 0 (.slice none 0 0)).run P { w with drawn:=k }= .ok #[] { w with drawn:=k }:=by simp [Builtin.firstCells]
theorem Sg {α:Type} (l m:List α):l<+:l++m:=⟨m,rfl⟩
theorem Cl3 (hS:Sim G N s a w) (hd:Bu N o.dst=true) {c:Call} {x y:Operand} (hx:Bf N x=true) (hy:Bf N y=true) (he:o.op= .call c) (hc:c.callee= .builtin .append) (hargs:c.args.toList= [x,y]) {t t':TypeId} (htys:c.argTypes.toList= [t,t'])
  (h:Yy P (Vp (P.underlying t')) (dev G s.env x) (dev G s.env y) o.dst (P.underlying t) K s):o.wp P a w (Fd G N K s w) Qx:=by
 have rx:=Ax hS hx;have ry:=Ax hS hy;have hm:c.args.map a.eval= #[a.eval x,a.eval y]:=by apply Array.ext';simp [hargs]
 have hat:c.argTypes= #[t,t']:=by apply Array.ext';simp [htys]
 have hex:execOp a.eval o=(do pure (.value (←Builtin.append_ #[t,t'] o.type #[a.eval x,a.eval y]))):=by
  rw[Fi he hc,hm,hat];rfl
 generalize hut:P.underlying t=ut at h;unfold Yy at h;split at h<;>try exact h.elim
 rename_i e
 obtain⟨hni,hzs,hzc,hpos,hbpos,h⟩:=h;obtain⟨u,hu,hu'⟩:=Aq6 hni;obtain⟨zd,hz⟩:=Option.isSome_iff_exists.1 hzs;rw[hz] at hzc;simp only[Option.all_some,decide_eq_true_eq] at hzc;obtain⟨i,z,hi,hiz,rfl⟩:=Iq hz;have hcsz:P.cellsOf e=i.size:=by simp [Program.cellsOf,hi]
 have hbsz:P.bytesOf e=i.bytes:=by simp [Program.bytesOf,hi]
 have hzlen:z.cells.size=i.size:=by
  have:=(Hf (Ej w s.heap z)).length;rw[<-hcsz,<-hzc,this];simp
 rw[hcsz,hbsz] at h;rw[hcsz] at hpos;rw[hbsz] at hbpos;cases hsc:Pt i.size s.heap (dev G s.env y) with
 | none=>rw[hsc] at h;exact h.elim
 | some nn=>
  obtain⟨n,news⟩:=nn;rw[hsc] at h;obtain⟨hnl,hone,h⟩:=h;obtain⟨vs,hsrc,hrel⟩:=Bi3 (P:=P) hS.heap ry hsc hnl;have hvl:=hrel.length;generalize dev G s.env x=dx at h rx;unfold Jn at h;split at h
  ·-- nil
   obtain⟨h0,h1⟩:=h;simp only[Rel] at rx;by_cases hn:n=0
   ·have hK:=h0 hn;subst hn;have hvs:vs= []:=List.length_eq_zero_iff.1 (by omega);subst hvs;have hrun:=Ke (ty:=o.type) (b:=none) (len:=0) (cap:=0) hut hu hu' hi hsrc (by omega) (w':=w) (by simp);refine Gg hS hd (x:= .slice none 0 0) ?_ (by simp [Rel]) hK;rw[hex,rx];simp [hrun]
   ·obtain⟨hfit,hK⟩:=h1 hn;have hn45:n<=35184372088832:=Nat.le_trans (Nat.le_mul_of_pos_right n hbpos) hfit;obtain⟨cp,hcp,hrun⟩:=Qa (ty:=o.type) (b:=none) (len:=0) (cap:=0) (olds:= []) hut hu hu' hi hiz hsrc (by omega) (by simpa using hfit) (by omega) (fun k=>Ko i.size k);refine Tt hS hd (sz:=i.size) (lo:=n) (cap:=cp) (n:=w.drawn+1) (len:=n) (e:=e) (c:= #[]++(vs.toArray++Builtin.zeroCells z.cells (cp-(0+n)))) (by omega) (by omega) ?_ ?_ hrel ?_ hK
    ·simp only[Array.size_append,size_zeroCells,hzlen,List.size_toArray,jB,Nat.zero_add];have:vs.length=n*i.size:=by omega
     rw[this,<-Nat.add_mul];exact Nat.mul_le_mul_right _ (by omega)
    ·rw[hex,rx];simp only[Nat.zero_add] at hrun;simp [hrun]
    ·simp only[Array.toList_append,jG];exact Sg _ _
  ·-- a slice of the call's own
   rename_i sz r off len lo
   obtain⟨rfl,h⟩:=h;simp only[Rel] at rx;obtain⟨o',cap,hp,hlo,hcap,hoff,hroom⟩:=rx;cases hh:s.heap r with
   | none=>rw[hh] at h;exact h.elim
   | some ob=>
    cases ob with
    | loop=>rw[hh] at h;exact h.elim
    | iter=>rw[hh] at h;exact h.elim
    | map=>rw[hh] at h;exact h.elim
    | cells cs e'=>
     rw[hh] at h;obtain⟨rfl,hin,hout⟩:=h;by_cases hle:len+n<=lo
     ·-- in place, within what is known
      obtain⟨hfits,hK⟩:=hin hle;have hmul:(len+n)*i.size=len*i.size+n*i.size:=Nat.add_mul _ _ _;by_cases hc0:cap=0
      ·have hl0:len=0:=by omega
       have hn0:n=0:=by omega
       subst hl0;subst hn0;have hvs:vs= []:=List.length_eq_zero_iff.1 (by omega);have hns:news= []:=List.length_eq_zero_iff.1 (by omega);subst hvs;subst hns;have hrun:=Ke (ty:=o.type) (b:=some ⟨r,o',none⟩) (len:=0) (cap:=cap) hut hu hu' hi hsrc (by omega) (w':=w) (by simp [storeCells]);have hsp:Cj cs (off+0*i.size) []=cs:=by simp [Cj]
       have hup:upd s.heap r (some (.cells (Cj cs (off+0*i.size) []) e'))=s.heap:=by
        funext j;rw[hsp];simp only[upd];split
        ·rename_i hj;rw[hj,hh]
        ·rfl
       rw[hup] at hK;refine Gg hS hd (x:= .slice (some ⟨r,o',none⟩) 0 cap) ?_ ?_ hK
       ·rw[hex,hp];simp [hrun]
       ·simp only[Rel];exact⟨o',cap,rfl,hlo,by omega,hoff,hroom⟩
      ·have:o'=off:=hoff.resolve_left hc0;subst this;obtain⟨w',hst,hH,hE⟩:=Vs (P:=P) hS.heap hh hrel hone (off:=o'+len*i.size) (by omega);have hrun:=Ke (ty:=o.type) (b:=some ⟨r,o',none⟩) (len:=len) (cap:=cap) hut hu hu' hi hsrc (by omega) (w':=w') (by simpa [He] using hst);refine Fh hS hd (x:= .slice (some ⟨r,o',none⟩) (len+n) cap) ?_ hE hH ?_ hK
       ·rw[hex,hp];simp [hrun]
       ·simp only[Rel];exact⟨o',cap,rfl,hlo,by omega, .inr rfl,hE.lasts.room hroom⟩
     ·-- the room is not known
      obtain⟨hfits,hfit,hK⟩:=hout hle;have hn45:len+n<=35184372088832:=Nat.le_trans (Nat.le_mul_of_pos_right _ hbpos) hfit;obtain⟨xs,hxr,hxh⟩:=hS.heap.holds hh;have hxl:=hxr.length;by_cases hin':len+n<=cap
      ·-- in place
       have:o'=off:=hoff.resolve_left (by omega);subst this;have hrm: ∀c fz,w.heap[r]? =some (.cells c e' fz)->o'+len*i.size+news.length<=c.size:=by
        intro c fz hcc;have:=hroom.2 c.size (by rw[hcc];rfl);have h2:(len+n)*i.size<=cap*i.size:=Nat.mul_le_mul_right _ hin';rw[Nat.add_mul] at h2;omega
       obtain⟨w',hst,hH,hE⟩:=Bi4 (P:=P) hS.heap hh hrel hone (p:=o'+len*i.size) hfits hrm (cs':=cs.take o'++(cs.drop o').take (len*i.size)++news) (by rw[List.take_add]);have hrun:=Ke (ty:=o.type) (b:=some ⟨r,o',none⟩) (len:=len) (cap:=cap) hut hu hu' hi hsrc hin' (w':=w') (by simpa [He] using hst);have hK':=hK r (cs.take o') (by simp [upd]) (fun e0=>by simp [e0]);rw[if_pos (.inr rfl)] at hK';have hlt:(cs.take o').length=o':=by simp;omega
       rw[hlt] at hK';refine Fh hS hd (x:= .slice (some ⟨r,o',none⟩) (len+n) cap) ?_ hE hH ?_ hK'
       ·rw[hex,hp];simp [hrun]
       ·simp only[Rel];exact⟨o',cap,rfl,by omega,by omega, .inr rfl,hE.lasts.room hroom⟩
      ·-- a new row
       have holds: ∃olds,An w s.heap ((cs.drop off).take (len*i.size)) olds/\olds.length=len*i.size/\ ∀k,(Builtin.firstCells i.size len (.slice (some ⟨r,o',none⟩) len cap)).run P { w with drawn:=k }= .ok olds.toArray { w with drawn:=k }:=by
        by_cases hc0:cap=0
        ·have hl0:len=0:=by omega
         subst hl0;exact⟨[],by simp [An],by simp,fun k=>by simp [Builtin.firstCells,loadCells,loadCellsFrom]⟩
        ·have:o'=off:=hoff.resolve_left hc0;subst this;have hlen:((xs.drop o').take (len*i.size)).length=len*i.size:=by
          simp only[List.length_take,List.length_drop];omega
         refine⟨_,(hxr.drop _).take _,hlen,fun k=> ?_⟩;have h1:Kq w r o' (xs.drop o'):=by simpa using hxh.drop (n:=o')
         have:=Di (P:=P) (w:= { w with drawn:=k }) (Kq.take (n:=len*i.size) (Pz h1));rw[hlen] at this;simpa [Builtin.firstCells] using this
       obtain⟨olds,hor,hol,hof⟩:=holds;obtain⟨cp,hcp,hrun⟩:=Qa (ty:=o.type) hut hu hu' hi hiz hsrc (by omega) hfit hn45 hof;have hfin: ∀HH:Ab,Av w HH->Ext s.heap w HH w->K ⟨Ep s.env o.dst (.oslice i.size w.heap.size 0 (len+n) (len+n)),upd HH w.heap.size (some (.cells ((cs.drop off).take (len*i.size)++news) e'))⟩->o.wp P a w (Fd G N K s w) Qx:=by
        intro HH hH0 hE0 hK';have hcont:An w HH ((cs.drop off).take (len*i.size)++news) (olds++vs):=
         (An.lasts hE0.lasts _ _ hor).append (An.lasts hE0.lasts _ _ hrel)
        have hpre:(olds++vs)<+:(olds.toArray++(vs.toArray++Builtin.zeroCells z.cells (cp-(len+n)))).toList:=by
         simp only[Array.toList_append,<-jO];exact Sg _ _
        have hsize:cp*i.size<=(olds.toArray++(vs.toArray++Builtin.zeroCells z.cells (cp-(len+n)))).size:=by
         simp only[Array.size_append,size_zeroCells,hzlen,List.size_toArray,hol];have h1:vs.length=n*i.size:=by omega
         rw[h1,<-Nat.add_mul,<-Nat.add_mul];exact Nat.mul_le_mul_right _ (by omega)
        refine Fh hS hd (x:= .slice (some ⟨w.heap.size,0,none⟩) (len+n) cp) ?_ ((hE0.trans (Rf hH0 _ _ _)).drawn (w.drawn+1)) ((Mx hH0 hcont _ hpre e').drawn (w.drawn+1)) ?_ hK'
        ·rw[hex,hp];simp [hrun]
        ·simp only[Rel];refine⟨0,cp,rfl,by omega,by omega, .inr rfl, ?_⟩;constructor
         ·show w.heap.size<(w.alloc _).heap.size;simp
         ·intro k hk;have h1:(w.alloc (.cells (olds.toArray++(vs.toArray++Builtin.zeroCells z.cells (cp-(len+n)))) e')).heap[w.heap.size]? =some (.cells (olds.toArray++(vs.toArray++Builtin.zeroCells z.cells (cp-(len+n)))) e'):=by
           show(w.heap.push _)[w.heap.size]? =_;simp
          have hk':Ji (w.alloc (.cells (olds.toArray++(vs.toArray++Builtin.zeroCells z.cells (cp-(len+n)))) e')).heap[w.heap.size]? =some k:=hk;rw[h1] at hk';simp only[Ji,Option.some.injEq] at hk';omega
       have hH1:=hS.heap.letGo r;have hK':=hK w.heap.size [] hH1.fresh (fun _=>rfl);simp only[jG,jB] at hK';by_cases hkeep:len<=lo\/w.heap.size=r
       ·rw[if_pos hkeep] at hK';exact hfin _ hH1 (Bz0 r) hK'
       ·rw[if_neg hkeep] at hK';exact hfin _ hS.heap (Ext.refl _ _) hK'
  ·exact h.elim
end
end Go.Dl

-- THE DATA LEVEL, PART C: cap, clear, append of zeros.
namespace Go.Dl
open Go
section
variable {P:Program} {G:Nat->DVal} {N:Fr}
variable {o:Oper} {s:DS} {a:Act} {w:World} {K:DK} {Qx:Exit->Act->World->Prop}
theorem Du6 (hS:Sim G N s a w) (hd:Bu N o.dst=true) {c:Call} {x:Operand} {t:TypeId} (hx:Bf N x=true) (he:o.op= .call c) (hc:c.callee= .builtin .cap) (hargs:c.args.toList= [x]) (hts:c.argTypes.toList= [t])
  (h:Ck5 o.dst (P.underlying t) (dev G s.env x) K s):PV P o s a w K:=by
 have rx:=Ax hS hx;have hm:c.args.map a.eval= #[a.eval x]:=by apply Array.ext';simp [hargs]
 have hex:=Fi (a:=a) he hc;rw[hm] at hex;have ht':c.argTypes[0]? =some t:=by rw[<-Array.getElem?_toList,hts];rfl
 generalize hu:P.underlying t=u at h;generalize dev G s.env x=dx at h rx;unfold Ck5 at h;split at h
 ·simp only[Rel] at rx;exact Nx hS hd (by rw[hex];simp [builtin,Builtin.cap_,ht',run_underlying hu,rx,goInt]) h
 ·simp only[Rel] at rx;obtain⟨_,cap,rx,hle,_⟩:=rx;exact Nx hS hd (by rw[hex];simp [builtin,Builtin.cap_,ht',run_underlying hu,rx,goInt]) (h cap hle)
 ·simp only[Rel] at rx;obtain⟨_,cap,rx,h1,h2,_⟩:=rx;exact Nx hS hd (by rw[hex];simp [builtin,Builtin.cap_,ht',run_underlying hu,rx,goInt]) (h cap h2 h1)
 ·exact h.elim
theorem Yp {e t t' ty:TypeId} {i:TypeInfo} {z:Value} {k:IntKind} (ht:P.underlying t=some (.slice e)) (hu:P.underlying t'=some (.int k)) (hi:P.info? e=some i) (hz:i.zero=some z) (hp:0<i.size)
  {n:Int} (h0:0<n) (hfit:n*i.bytes<=35184372088832) (hn:n<=35184372088832):
  ∃c,n.toNat<=c/\(Builtin.append_ #[t,t'] ty #[.slice none 0 0, .int .i64 n]).run P w=
   .ok (.slice (some ⟨w.heap.size,0,none⟩) n.toNat c) { w.alloc (.cells (#[]++(Builtin.zeroCells z.cells n.toNat++Builtin.zeroCells z.cells (c-n.toNat))) e) with drawn:=w.drawn+1 }:=by
 obtain⟨m,rfl⟩: ∃m:Nat,n=m:=⟨n.toNat,by omega⟩;simp only[jD];have hw:IntKind.wrap .i64 (m:Int)=m:=IntWalk.i64_in m ⟨by omega,by omega⟩;have hfit':m*i.bytes<=35184372088832:=by
  have:((m*i.bytes:Nat):Int)<=35184372088832:=by rw[Int.natCast_mul];exact hfit
  omega
 refine⟨(Question.appendCap m 0 e).cut (w.tape w.drawn (.appendCap m 0 e)),by simp [Question.cut], ?_⟩;have h48: ¬(Builtin.nextslicecap m 0*i.bytes>281474976710656):=by
  have:=growslice_fits (need:=m) (old:=0) (bytes:=i.bytes) (by omega) (by omega);omega
 have h1: ¬((m:Int)<0):=by omega
 have h2: ¬(281474976710656<(m:Int)*(i.bytes:Int)):=by omega
 have h3: ¬(9223372036854775807<(m:Int)):=by omega
 have h4:m≠0:=by omega
 have h5: ¬(m*i.size=0):=by
  intro e;rcases Nat.mul_eq_zero.1 e with e | e<;>omega
 have hf:=Ko (P:=P) (w:=w) i.size (w.drawn+1);simp only[World.drew_eq] at hf;simp [hf,Builtin.append_,run_underlying ht,run_underlying hu,sizeOf,typeInfo,zeroValue,hi,hz,asInt,asIntOf,hw,h1,h2,h3,h4,h5,h48,Question.forced,newRow,Ko];rfl
theorem Bz1 (hS:Sim G N s a w) (hd:Bu N o.dst=true) {c:Call} {x y:Operand} (hx:Bf N x=true) (hy:Bf N y=true) (he:o.op= .call c) (hc:c.callee= .builtin .append) (hargs:c.args.toList= [x,y]) {t t':TypeId} (htys:c.argTypes.toList= [t,t'])
  (hit:Jo (P.underlying t')=true) (h:Tp P (dev G s.env x) (dev G s.env y) o.dst (P.underlying t) K s):o.wp P a w (Fd G N K s w) Qx:=by
 have rx:=Ax hS hx;have ry:=Ax hS hy;have hm:c.args.map a.eval= #[a.eval x,a.eval y]:=by apply Array.ext';simp [hargs]
 have hat:c.argTypes= #[t,t']:=by apply Array.ext';simp [htys]
 have hex:execOp a.eval o=(do pure (.value (←Builtin.append_ #[t,t'] o.type #[a.eval x,a.eval y]))):=by
  rw[Fi he hc,hm,hat];rfl
 generalize hut:P.underlying t=ut at h;unfold Tp at h;split at h<;>try exact h.elim
 rename_i e
 obtain⟨k,hu⟩: ∃k,P.underlying t'=some (.int k):=by
  cases hq:P.underlying t' with
  | none=>rw[hq] at hit;cases hit
  | some d=>cases d<;>first | exact⟨_,rfl⟩ | (rw[hq] at hit;cases hit)
 generalize dev G s.env x=dx at h rx;generalize dev G s.env y=dy at h ry;generalize hzo:Bm P e=zo at h;unfold Zq at h;split at h<;>try exact h.elim
 obtain⟨h0,hp,hk0,hk1⟩:=h
 rename_i n zd
 obtain⟨i,z,hi,hiz,rfl⟩:=Iq hzo;have hby:P.bytesOf e=i.bytes:=by simp [Program.bytesOf,hi]
 have hcs:P.cellsOf e=i.size:=by simp [Program.cellsOf,hi]
 simp only[Rel] at rx ry;by_cases hn:n=0
 ·have hK:=hk0 hn;subst hn;refine Gg hS hd (x:= .slice none 0 0) ?_ (by simp [Rel]) hK;rw[hex,rx,ry];have hw:IntKind.wrap .i64 0=0:=by rfl
  simp [Builtin.append_,run_underlying hut,run_underlying hu,sizeOf,typeInfo,hi,asInt,asIntOf,hw]
 ·obtain⟨hfit,hle,hzl,hK⟩:=hk1 hn;rw[hby] at hfit;rw[hcs] at hp hzl hK;have hvr:An w s.heap (Cu z).cells z.cells.toList:=Hf (Ej w s.heap z);have hzs:z.cells.size=i.size:=by rw[<-hzl,hvr.length];simp
  obtain⟨cp,hcp,hrun⟩:=Yp (w:=w) (ty:=o.type) hut hu hi hiz hp (n:=n) (by omega) hfit hle;have hr:=Rg hvr n.toNat (n.toNat*z.cells.size) (by rw[hzl,hzs]);refine Tt hS hd (sz:=i.size) (lo:=n.toNat) (cap:=cp) (n:=w.drawn+1) (len:=n.toNat) (e:=e) (c:= #[]++(Builtin.zeroCells z.cells n.toNat++Builtin.zeroCells z.cells (cp-n.toNat))) (by omega) (by omega) ?_ ?_ hr ?_ hK
  ·simp only[Array.size_append,size_zeroCells,hzs,List.size_toArray,jB,Nat.zero_add];rw[<-Nat.add_mul];exact Nat.mul_le_mul_right _ (by omega)
  ·rw[hex,rx,ry];simp [hrun]
  ·simp only[Array.toList_append,jG];exact Sg _ _
theorem Da7 (hS:Sim G N s a w) (hd:Bu N o.dst=true) {c:Call} {x:Operand} {t:TypeId} (hx:Bf N x=true) (he:o.op= .call c) (hc:c.callee= .builtin .clear) (hargs:c.args.toList= [x]) (hts:c.argTypes.toList= [t])
  (h:Zr P o.dst (P.underlying t) (dev G s.env x) K s):o.wp P a w (Fd G N K s w) Qx:=by
 have rx:=Ax hS hx;have hm:c.args.map a.eval= #[a.eval x]:=by apply Array.ext';simp [hargs]
 have hex:=Fi (a:=a) he hc;rw[hm] at hex;have ht':c.argTypes[0]? =some t:=by rw[<-Array.getElem?_toList,hts];rfl
 generalize hu:P.underlying t=u at h;generalize dev G s.env x=dx at h rx;unfold Zr at h;split at h<;>try exact h.elim
 rename_i e
 generalize hzo:Bm P e=zo at h;unfold Aq0 at h;split at h<;>try exact h.elim
 ·simp only[Rel] at rx;refine Gg hS hd (x:= .tuple #[]) ?_ (by simp [Rel,An]) h;rw[hex];simp [builtin,Builtin.clear_,ht',run_underlying hu,rx]
 ·rename_i z sz r off n lo
  obtain⟨rfl,hnl,h⟩:=h;obtain⟨i,v,hi,hiz,rfl⟩:=Iq hzo;have hcs:P.cellsOf e=i.size:=by simp [Program.cellsOf,hi]
  simp only[Rel] at rx;obtain⟨o',cap,hp,hlo,hcap,hoff,hroom⟩:=rx;cases hh:s.heap r with
  | none=>rw[hh] at h;exact h.elim
  | some ob=>
   cases ob with
   | loop=>rw[hh] at h;exact h.elim
   | iter=>rw[hh] at h;exact h.elim
   | map=>rw[hh] at h;exact h.elim
   | cells cs e'=>
    rw[hh] at h;obtain⟨hzl,hone,hle,hK⟩:=h;rw[hcs] at hzl hle;have hvr:An w s.heap (Cu v).cells v.cells.toList:=Hf (Ej w s.heap v);have hzs:v.cells.size=i.size:=by rw[<-hzl,hvr.length];simp
    by_cases hn:n=0
    ·subst hn;have hsp:Cj cs off (Bj 0 (Cu v).cells)=cs:=by simp [Cj,Bj]
     rw[hsp] at hK;have hup:upd s.heap r (some (.cells cs e'))=s.heap:=by
      funext j;simp only[upd];split
      ·rename_i hj;rw[hj,hh]
      ·rfl
     rw[hup] at hK;refine Gg hS hd (x:= .tuple #[]) ?_ (by simp [Rel,An]) hK;rw[hex];simp [builtin,Builtin.clear_,ht',run_underlying hu,hp]
    ·have:o'=off:=hoff.resolve_left (by omega);subst this;have hr:=Rg hvr n (n*v.cells.size) (by rw[hzl,hzs]);have hall:(Bj n (Cu v).cells).all (·.one)=true:=by
      rw[List.all_eq_true] at hone⊢
      intro d hd';simp only[Bj,List.mem_flatten,List.mem_replicate] at hd';obtain⟨l,⟨_,rfl⟩,hm⟩:=hd';exact hone d hm
     obtain⟨w',hst,hH,hE⟩:=Vs (P:=P) hS.heap hh hr hall (off:=o') (by rw[Bs,hzl];exact hle);refine Fh hS hd (x:= .tuple #[]) ?_ hE hH (by simp [Rel,An]) hK;rw[hex];obtain⟨n',rfl⟩: ∃n',n=n'+1:=⟨n-1,by omega⟩;have hst':Sem.run P (storeCells ⟨r,o',none⟩ (Builtin.zeroCells v.cells (n'+1)).toList 0) w= .ok () w':=hst;simp [builtin,Builtin.clear_,ht',run_underlying hu,hp,zeroValue,typeInfo,hi,hiz,hst']
end
end Go.Dl

-- THE DATA LEVEL, PART M: objects that are no rows of cells; maps.
namespace Go.Dl
open Go
section
def Jc:Obj->Bool
 | .loop _=>true
 | .deferred _=>true
 | .map _ _=>true
 | .stringIter _ _=>true
 | _=>false
theorem Ty {w:World} {l:Nat} {o o':Obj} (hl:w.heap[l]? =some o) (h:Jc o=true) (h':Jc o'=true) (b:Nat):Ji (w.putObj l o').heap[b]? =Ji w.heap[b]? :=by
 have hlt:l<w.heap.size:=(Array.getElem?_eq_some_iff.1 hl).1;by_cases e:b=l
 ·subst e;rw[World.putObj_heap_same hlt,hl];cases o<;>first | cases h;done | (cases o'<;>first | rfl | cases h';done)
 ·rw[World.putObj_heap_other e]
theorem Nz {w:World} {l:Nat} {o o':Obj} (hl:w.heap[l]? =some o) (h:Jc o=true) (h':Jc o'=true) (H:Ab):Lasts H w H (w.putObj l o'):=by
 refine⟨fun b i x hb hc=>⟨hb, ?_⟩,by simp [World.putObj],fun b hb=>Ty hl h h' b⟩;by_cases e:b=l
 ·subst e;unfold World.cell? at hc;rw[hl] at hc;cases o<;>first | cases h;done | simp at hc
 ·unfold World.cell? at hc⊢
  simp only[World.putObj_heap_other e];exact hc
theorem Ak9 {w:World} {l:Nat} {o o':Obj} (hl:w.heap[l]? =some o) (h:Jc o=true) (h':Jc o'=true) (a:Addr):(w.putObj l o').frozen? a=w.frozen? a:=by
 have hlt:l<w.heap.size:=(Array.getElem?_eq_some_iff.1 hl).1;unfold World.frozen?;by_cases e:a.block=l
 ·rw[e,World.putObj_heap_same hlt,hl];cases o<;>first | cases h;done | (cases o'<;>first | rfl | cases h';done)
 ·rw[World.putObj_heap_other e]
theorem Bi5 {w:World} {l:Nat} {o o':Obj} {H:Ab} (hl:w.heap[l]? =some o) (h:Jc o=true) (h':Jc o'=true) (hH:Av w H) (hn:H l=none):Av (w.putObj l o') H:=by
 intro r ob ho;have hr:r≠l:=fun e=>by rw[e,hn] at ho;cases ho
 rw[World.putObj_heap_other hr];exact(hH r ob ho).lasts (Nz hl h h' H)
theorem Mo {P:Program} {w:World} {r:Nat} {o:Obj} (h:w.heap[r]? =some o) (hb:Jc o=true):(getObj r).run P w= .ok o w:=by
 simp only[getObj,Sem.run,h];cases o<;>first | rfl | cases hb
theorem Is {P:Program} {w:World} {r:Nat} {o:Obj} (o':Obj) (h:w.heap[r]? =some o) (hb:Jc o=true):(setObj r o').run P w= .ok () (w.putObj r o'):=by
 simp only[setObj,Sem.run,h,World.putObj];cases o<;>first | rfl | cases hb
theorem Qb {w:World} {H:Ab} {r:Nat} {o o':Obj} {ob:DObj} (hH:Av w H) (hr:H r≠none) (ho:w.heap[r]? =some o) (h:Jc o=true) (h':Jc o'=true)
  (hob: ∀w' H',Lasts H w H' w'->Sb w' H' ob (some o')):Av (w.putObj r o') (upd H r (some ob))/\Ext H w (upd H r (some ob)) (w.putObj r o'):=by
 have hlt:r<w.heap.size:=(Array.getElem?_eq_some_iff.1 ho).1;have hl:Lasts H w (upd H r (some ob)) (w.putObj r o'):=by
  have h1:=Nz ho h h' H;refine⟨fun b i x hb hc=>⟨?_,(h1.cell b i x hb hc).2⟩,h1.size,h1.keep⟩;have:b≠r:=fun e=>hr (e▸hb);simp [upd,this,hb]
 refine⟨fun b x hx=> ?_,by rfl,by rfl,by rfl,by simp,fun b hb hn=> ?_,fun b hb=> ?_,fun b hb=>Ty ho h h' b,fun a _ _=>Ak9 ho h h' a⟩
 ·by_cases e:b=r
  ·subst e;simp only[upd,if_pos] at hx;cases hx;rw[World.putObj_heap_same hlt];exact hob _ _ hl
  ·simp only[upd,if_neg e] at hx;rw[World.putObj_heap_other e];exact(hH b x hx).lasts hl
 ·rw[World.putObj_heap_other (fun e=>hr (by rw[<-e];exact hn))]
 ·by_cases e:b=r
  ·exact .inl (e▸hr)
  ·simp only[upd,if_neg e] at hb;exact .inl hb
theorem Ay2 {w:World} {H:Ab} {o:Obj} {ob:DObj} (hH:Av w H) (h:Jc o=true)
  (hob: ∀w' H',Lasts H w H' w'->Sb w' H' ob (some o)):Av (w.alloc o) (upd H w.heap.size (some ob))/\Ext H w (upd H w.heap.size (some ob)) (w.alloc o):=by
 have hbl: ∀b,b<w.heap.size->(w.alloc o).heap[b]? =w.heap[b]? :=fun b hb=>by
  show(w.heap.push o)[b]? =_;rw[Array.getElem?_push,if_neg (by omega)]
 have hE:Ext H w (upd H w.heap.size (some ob)) (w.alloc o):=by
  refine⟨rfl,rfl,rfl,by simp,fun b hb _=>hbl b hb,fun b hb=> ?_,fun b hb=>by rw[hbl b hb],fun a _ _=> ?_⟩
  ·by_cases eb:b=w.heap.size
   ·exact .inr (by omega)
   ·simp only[upd,if_neg eb] at hb;exact .inl hb
  ·unfold World.frozen?;have hh:(w.alloc o).heap[a.block]? =if a.block=w.heap.size then some o else w.heap[a.block]? :=by
    show(w.heap.push o)[a.block]? =_;rw[Array.getElem?_push]
   rw[hh];by_cases e:a.block=w.heap.size
   ·rw[if_pos e,e,Array.getElem?_eq_none (Nat.le_refl _)];cases o<;>first | cases h;done | rfl
   ·rw[if_neg e]
 refine⟨fun r x hx=> ?_,hE⟩;by_cases e:r=w.heap.size
 ·subst e;simp only[upd,if_pos] at hx;cases hx;have:(w.alloc o).heap[w.heap.size]? =some o:=by
   show(w.heap.push o)[w.heap.size]? =_;simp
  rw[this];exact hob _ _ hE.lasts
 ·simp only[upd,if_neg e] at hx;rw[hbl r (hH.lt (by simp [hx]))];exact(hH r x hx).lasts hE.lasts
end
section
variable {P:Program} {G:Nat->DVal} {N:Fr}
variable {o:Oper} {s:DS} {a:Act} {w:World} {K:DK} {Qx:Exit->Act->World->Prop}
theorem Vx {H:Ab}: ∀ {ds:List DVal} {vs:List Value} {l:List UInt8},An w H ds vs->Rq ds=some l-> ∃ns:List Int,vs=ns.map (Value.int .u8)/\l=ns.map fun n=>UInt8.ofNat n.toNat
 | [],vs,l,hr,hl=>by
  simp only[An] at hr;subst hr;simp only[Rq,Option.some.injEq] at hl;subst hl;exact⟨[],rfl,rfl⟩
 | d::ds,vs,l,hr,hl=>by
  simp only[An] at hr;obtain⟨y,ys,rfl,h1,h2⟩:=hr;unfold Rq at hl;split at hl<;>try (cases hl;done)
  ·rename_i e;cases e
  ·rename_i n ds' e
   obtain⟨rfl,rfl⟩:=List.cons.inj e;obtain⟨l',h3,rfl⟩:=Option.map_eq_some_iff.1 hl;obtain⟨ns,rfl,rfl⟩:=Vx h2 h3;simp only[Rel] at h1;subst h1;exact⟨n::ns,rfl,rfl⟩
theorem Al0: ∀(ns:List Int) (s:ByteArray),(ns.foldl (fun r n=>r.push (UInt8.ofNat n.toNat)) s).data.toList=s.data.toList++ns.map fun n=>UInt8.ofNat n.toNat
 | [],s=>by simp
 | n::ns,s=>by rw[List.foldl_cons,Al0 ns];simp [ByteArray.push]
theorem Aa0 (ns:List Int):ns.foldl (fun r n=>r.push (UInt8.ofNat n.toNat)) ByteArray.empty=⟨⟨ns.map fun n=>UInt8.ofNat n.toNat⟩⟩:=by
 have:=Al0 ns ByteArray.empty;cases h:ns.foldl (fun r n=>r.push (UInt8.ofNat n.toNat)) ByteArray.empty with
 | mk d=>
  rw[h] at this;congr 1;apply Array.ext';simpa using this
theorem Da8 (hS:Sim G N s a w) (hd:Bu N o.dst=true) {src t:TypeId} {x:Operand} (hx:Bf N x=true) (he:o.op= .convert src t x)
  (h:Ps P o.dst (P.underlying src) (P.underlying t) (dev G s.env x) K s):PV P o s a w K:=by
 have r:=Ax hS hx;by_cases hc: ∃e,P.underlying src=some (.slice e)/\P.underlying t=some .string
 ·obtain⟨e,hs,ht⟩:=hc;rw[hs,ht] at h;obtain⟨hu,h⟩:=h;generalize dev G s.env x=dx at h r;cases hb:(Sc s.heap dx).bind Rq with
  | none=>rw[hb] at h;exact h.elim
  | some l=>
   rw[hb] at h;obtain⟨ds,h1,h2⟩:=Option.bind_eq_some_iff.1 hb;refine pvI hS hd (x:= .string ⟨⟨l⟩⟩) ?_ (by simp [Rel]) h;have go: ∀(ad:Option Addr) (n c:Nat),a.eval x= .slice ad n c->(Conv.bytesToString (.slice ad n c)).run P w= .ok (.string ⟨⟨l⟩⟩) w->(execOp a.eval o).run P w= .ok (.value (.string ⟨⟨l⟩⟩)) w:=by
    intro ad n c e1 e2;simp [execOp,he,e1,run_convert_bytes_string w src t e ad n c hs hu ht,e2]
   unfold Sc at h1;split at h1<;>try (cases h1;done)
   ·cases h1;simp only[Rq,Option.some.injEq] at h2;subst h2;simp only[Rel] at r;exact go none 0 0 r (by simp [Conv.bytesToString];rfl)
   ·rename_i cs n
    split at h1<;>cases h1
    rename_i hle
    simp only[Rel] at r;obtain⟨ad,cap,e1,_,hc⟩:=r;refine go ad n cap e1 ?_;rcases hc with rfl | ⟨b,o',xs,rfl,hc,hr⟩
    ·have hn:n=0:=by simpa using hle
     subst hn;simp only[List.take_nil,Rq,Option.some.injEq] at h2;subst h2;cases ad with
     | none=>simp [Conv.bytesToString];rfl
     | some ad=>exact run_bytesToString w ad 0 cap [] (by simp [loadCells,loadCellsFrom])
    ·obtain⟨ns,e2,rfl⟩:=Vx (hr.take n) h2;have hlx:=hr.length;have hl:(ns.map (Value.int .u8)).length=n:=by rw[<-e2];simp;omega
     have:=Di (P:=P) (w:=w) (Kq.take (n:=n) hc.holds);rw[e2,hl] at this;rw[run_bytesToString w _ n cap ns this,Aa0]
   ·rename_i sz r' off n lo
    unfold Bs8 at h1;split at h1<;>try (cases h1;done)
    rename_i cs e' hh
    split at h1<;>cases h1
    rename_i hle
    simp only[Rel] at r;obtain⟨o',cap,e1,_,hcap,hoff,_⟩:=r;refine go _ n cap e1 ?_;obtain⟨xs,hr,hho⟩:=hS.heap.holds hh;by_cases hc0:cap=0
    ·have hn:n=0:=by omega
     subst hn;simp only[jR,Rq,Option.some.injEq] at h2;subst h2;exact run_bytesToString w _ 0 cap [] (by simp [loadCells,loadCellsFrom])
    ·have:o'=off:=hoff.resolve_left hc0;subst this;obtain⟨ns,e2,rfl⟩:=Vx ((hr.drop o').take n) h2;have hlx:=hr.length;have hl:(ns.map (Value.int .u8)).length=n:=by rw[<-e2];simp;omega
     have h3:Kq w r' o' (xs.drop o'):=by simpa using hho.drop (n:=o')
     have:=Di (P:=P) (w:=w) (Kq.take (n:=n) h3);rw[e2,hl] at this;rw[run_bytesToString w _ n cap ns this,Aa0]
 ·refine By7 hS hd hx he ?_;revert h;generalize hs:P.underlying src=us at hc;generalize ht:P.underlying t=ut at hc;intro h;unfold Ps at h;split at h
  ·exact absurd ⟨_,rfl,rfl⟩ hc
  ·exact h
theorem Da9 (hS:Sim G N s a w) (hd:Bu N o.dst=true) {t:TypeId} {x:Operand} (hx:Bf N x=true) (he:o.op= .range t x)
  (h:Ap8 o.dst (P.underlying t) (dev G s.env x) K s):o.wp P a w (Fd G N K s w) Qx:=by
 have r:=Ax hS hx;generalize dev G s.env x=dx at h r;generalize hu:P.underlying t=u at h;unfold Ap8 at h;split at h<;>try exact h.elim
 rename_i l
 simp only[Rel] at r;obtain⟨k1,k2⟩:=Ay2 (o:= .stringIter ⟨⟨l⟩⟩ 0) (ob:= .iter l 0) hS.heap rfl (fun w' H' _=>rfl);refine Fh hS hd (x:= .pointer (some ⟨w.heap.size,0,none⟩)) ?_ k2 k1 (by simp [Rel]) (h _ hS.heap.fresh);simp [execOp,he,r,run_range_string w t _ hu,World.iter]
theorem Do4 (hS:Sim G N s a w) (hd:Bu N o.dst=true) {b:Bool} {x:Operand} (hx:Bf N x=true) (he:o.op= .next x b)
  (h:Bs9 o.dst b (dev G s.env x) K s):o.wp P a w (Fd G N K s w) Qx:=by
 have r:=Ax hS hx;generalize dev G s.env x=dx at h r;unfold Bs9 at h;split at h<;>try exact h.elim
 rename_i r0
 simp only[Rel] at r;generalize hh:s.heap r0=ob at h;unfold Bh5 at h;split at h<;>try exact h.elim
 rename_i l pos
 have ho:w.heap[r0]? =some (.stringIter ⟨⟨l⟩⟩ pos):=hS.heap _ _ hh;have hg:=Mo (P:=P) ho rfl;have hsz:(ByteArray.mk ⟨l⟩).size=l.length:=rfl;by_cases hp:pos<l.length
 ·obtain⟨k1,k2⟩:=Qb (o':= .stringIter ⟨⟨l⟩⟩ (pos+(Ll l pos).2)) (ob:= .iter l (pos+(Ll l pos).2)) hS.heap (by rw[hh];simp) ho rfl rfl (fun w' H' _=>rfl);refine Fh hS hd (x:= .tuple #[.bool true, .int .i64 pos, .int .i32 (Ll l pos).1]) ?_ k2 k1 (by simp [Rel,An]) (h.1 hp);have hs':=Is (P:=P) (.stringIter ⟨⟨l⟩⟩ (pos+(Ll l pos).2)) ho rfl;simp only[execOp,he,r,Instr.next,Sem.run_bind,hg,Result.andThen_ok,hsz,if_pos hp];show Result.andThen (Result.andThen ((setObj r0 (.stringIter ⟨⟨l⟩⟩ (pos+(Ll l pos).2))).run P w) _) _=_;rw[hs'];simp [goInt,Ll]
 ·refine Gg hS hd (x:= .tuple #[.bool false]) ?_ (by simp [Rel,An]) (h.2 hp);simp [execOp,he,r,Instr.next,hg,hsz,hp]
theorem Bz2 (hS:Sim G N s a w) (hd:Bu N o.dst=true) {t:TypeId} {x:Option Operand} (hx:(match x with | some x=>Bf N x | none=>true)=true) (he:o.op= .makeMap t x)
  (h:Pw o.dst (P.underlying t) (Kn G s.env x) K s):o.wp P a w (Fd G N K s w) Qx:=by
 obtain⟨k1,k2⟩:=Ay2 (o:= .map #[] 0) (ob:= .map []) hS.heap rfl (fun w' H' _=>⟨#[],0,rfl,rfl⟩)
 have hfr:=hS.heap.fresh
 generalize hu:P.underlying t=u at h
 rcases Zz hS hx with⟨rfl,e⟩ | ⟨y,rfl,e,r⟩
 ·rw[e] at h
  unfold Pw at h
  split at h<;>try exact h.elim
  ·refine Fh hS hd (x:= .map (some w.heap.size)) ?_ k2 k1 (by simp [Rel]) (h _ hfr)
   simp [execOp,he,Instr.makeMap,run_newObj_alloc]
  ·rename_i e2;cases e2
 ·rw[e] at h
  cases hdv:dev G s.env y<;>rw[hdv] at h r<;>(unfold Pw at h;split at h<;>try exact h.elim)
  all_goals try (rename_i e2;cases e2;done)
  all_goals
   simp only[Rel] at r
   refine Fh hS hd (x:= .map (some w.heap.size)) ?_ k2 k1 (by simp [Rel]) (h _ hfr)
   simp [execOp,he,Instr.makeMap,run_newObj_alloc,run_underlying hu,r,asInt,asIntOf]
theorem Pr.len {w:World} {H:Ab}: ∀ {es:List (DVal×DVal)} {ms:List MapEntry},Pr w H es ms->es.length=ms.length
 | [],_,h=>by rw[show _=_ from h];rfl
 | p::es,ms,h=>by
  obtain⟨m,ms',rfl,_,_,h3⟩:=h;simp [Pr.len h3]
theorem Pr.get {w:World} {H:Ab}: ∀ {es:List (DVal×DVal)} {ms:List MapEntry},Pr w H es ms-> ∀ {i:Nat} {p:DVal×DVal},es[i]? =some p-> ∃m,ms[i]? =some m/\Rel w H p.1 m.key/\Rel w H p.2 m.val
 | [],_,_,i,p,hp=>by simp at hp
 | q::es,ms,h,i,p,hp=>by
  obtain⟨m,ms',rfl,h1,h2,h3⟩:=h;cases i with
  | zero=>simp at hp;subst hp;exact⟨m,rfl,h1,h2⟩
  | succ i=>simp at hp;obtain⟨m',e1,e2⟩:=Pr.get h3 hp;exact⟨m',by simpa using e1,e2⟩
theorem Pr.app {w:World} {H:Ab}: ∀ {es fs:List (DVal×DVal)} {ms ns:List MapEntry},Pr w H es ms->Pr w H fs ns->Pr w H (es++fs) (ms++ns)
 | [],_,_,_,h,k=>by rw[show _=_ from h];exact k
 | p::es,fs,ms,ns,h,k=>by
  obtain⟨m,ms',rfl,h1,h2,h3⟩:=h;exact⟨m,ms'++ns,rfl,h1,h2,Pr.app h3 k⟩
theorem Pr.erase {w:World} {H:Ab}: ∀ {es:List (DVal×DVal)} {ms:List MapEntry},Pr w H es ms-> ∀(i:Nat),Pr w H (es.eraseIdx i) (ms.eraseIdx i)
 | [],_,h,i=>by rw[show _=_ from h];exact rfl
 | q::es,ms,h,0=>by
  obtain⟨m',ms',rfl,h1,h2,h3⟩:=h;exact h3
 | q::es,ms,h,i+1=>by
  obtain⟨m',ms',rfl,h1,h2,h3⟩:=h;exact⟨m',_,rfl,h1,h2,Pr.erase h3 i⟩
theorem Cl4 {w:World} {H:Ab} {d:TypeDesc} {k k':DVal} {x x':Value} (hk:Mk (some d) k=true) (h:Rel w H k x) (h':Rel w H k' x') {b:Bool} (hb:Pu k k'=some b):Instr.sameNow d x x'=some b:=by
 cases k<;>first | (cases d<;>(simp [Mk] at hk;done)) | skip
 case int kk n=>
  cases d<;>simp [Mk] at hk;subst hk;cases k'<;>simp only[Pu] at hb<;>try (cases hb;done)
  rename_i k2 m
  split at hb
  ·rename_i e;subst e
   cases hb;simp only[Rel] at h h';subst h;subst h';simp only[Instr.sameNow,if_true];rfl
  ·cases hb
 case str l=>
  cases d<;>simp [Mk] at hk;cases k'<;>simp only[Pu] at hb<;>try (cases hb;done)
  cases hb;simp only[Rel] at h h';subst h;subst h';simp only[Instr.sameNow]
  rename_i s1
  have e1:((⟨⟨l⟩⟩:ByteArray)==⟨⟨s1⟩⟩)=((⟨l⟩:Array UInt8)==⟨s1⟩):=rfl;rw[e1];congr 1;rw[Bool.eq_iff_iff];simp
 case bool l=>
  cases d<;>simp [Mk] at hk;cases k'<;>simp only[Pu] at hb<;>try (cases hb;done)
  cases hb;simp only[Rel] at h h';subst h;subst h';simp only[Instr.sameNow]
  rename_i b1;cases l<;>cases b1<;>rfl
theorem Ay3 {w:World} {H:Ab} {d:TypeDesc} {k:DVal} {x:Value} (hk:Mk (some d) k=true) (h:Rel w H k x): ∀ {es:List (DVal×DVal)} {ms:List MapEntry},Pr w H es ms-> ∀(i:Nat) {r:Option Nat},Jb k es i=some r->
  Instr.findNow d x ms i=some (r.bind fun j=>(ms[j-i]?).map fun m=>(j,m.val))/\ ∀j,r=some j->i<=j
 | [],ms,hm,i,r,hf=>by
  rw[show ms= [] from hm];simp only[Jb] at hf;cases hf;exact⟨rfl,fun j hj=>by cases hj⟩
 | p::es,ms,hm,i,r,hf=>by
  obtain⟨m,ms',rfl,h1,h2,h3⟩:=hm;simp only[Jb] at hf;cases hb:Pu k p.1 with
  | none=>rw[hb] at hf;cases hf
  | some b=>
   rw[hb] at hf;have hs:=Cl4 hk h h1 hb;cases b with
   | true=>
    simp only[Sd] at hf;cases hf;simp only[Instr.findNow,hs];exact⟨by simp,fun j hj=>by cases hj;exact Nat.le_refl _⟩
   | false=>
    simp only[Sd] at hf;obtain⟨g1,g2⟩:=Ay3 hk h h3 (i+1) hf;simp only[Instr.findNow,hs,g1];refine⟨?_,fun j hj=>by have:=g2 j hj;omega⟩;cases r with
    | none=>rfl
    | some j=>
     have:=g2 j rfl;simp only[Option.bind_some];rw[show j-i=(j-(i+1))+1 by omega];simp
theorem Ay4 {w:World} {H:Ab} {kt:TypeId} {k:DVal} {x:Value} (hk:Mk (P.underlying kt) k=true) (h:Rel w H k x) {es:List (DVal×DVal)} {ms:List MapEntry} (hm:Pr w H es ms) {r:Option Nat} (hf:Jb k es 0=some r):
  (Instr.findKey kt x ms).run P w= .ok (r.bind fun j=>(ms[j]?).map fun m=>(j,m.val)) w:=by
 cases hu:P.underlying kt with
 | none=>rw[hu] at hk;cases hk
 | some d=>
  rw[hu] at hk;obtain⟨g1,_⟩:=Ay3 hk h hm 0 hf;simp only[Nat.sub_zero] at g1;simp [Instr.findKey,run_underlying hu,g1]
theorem Aq7 {w:World} {H:Ab} {kt:TypeId} {k:DVal} {x:Value} {b:Bool} (hk:Mk (P.underlying kt) k=true) (h:Rel w H k x) (n:Nat):(Instr.checkKey b (n+1) kt x).run P w= .ok () w:=by
 cases hu:P.underlying kt with
 | none=>rw[hu] at hk;cases hk
 | some d=>
  rw[hu] at hk;unfold Mk at hk;split at hk<;>first | (cases hk;done) | (rename_i e;cases e;simp only[Rel] at h;subst h;simp [Instr.checkKey,run_underlying hu])
theorem Bi6 {t:Option TypeDesc} (h:Ak6 P t=true): ∃e ie,t=some (.array 2 e)/\P.underlying e=some .bool/\P.info? e=some ie/\P.cellsOf e=1:=by
 unfold Ak6 at h;split at h
 ·rename_i e
  simp only[jF,beq_iff_eq] at h;obtain⟨⟨h1,h2⟩,h3⟩:=h;obtain⟨ie,hie⟩:=Option.isSome_iff_exists.1 h2;refine⟨e,ie,rfl, ?_,hie,h3⟩;unfold Bt2 at h1;split at h1
  ·rename_i e1;exact e1
  ·cases h1
 ·cases h
theorem Al1 {t:Option TypeDesc} {k:DVal} (h:Pv P t k=true):Mk t k=true\/ ∃a b,k= .agg [.bool a, .bool b]/\Ak6 P t=true:=by
 unfold Pv at h;split at h
 ·exact .inr ⟨_,_,rfl,h⟩
 ·exact .inl h
theorem Do5 {t e:TypeId} {ie:TypeInfo} {a b c d:Bool} (h1:P.underlying t=some (.array 2 e)) (h2:P.underlying e=some .bool) (h3:P.info? e=some ie) (h4:P.cellsOf e=1):
  Vl P 2 t [.bool a, .bool b] [.bool c, .bool d]=some (decide (a=c)&&decide (b=d)):=by
 have hag:Dv P e=some false:=by simp [Dv,h2]
 have hr:List.range 2= [0,1]:=rfl;simp only[Vl,h1,Rp,h3,Option.isSome_some,if_true,hr,Aw6,h2,hag,h4,Ft,Aw7,List.drop,List.take,Nat.mul_one];cases a<;>cases b<;>cases c<;>cases d<;>rfl
theorem Bt9 {a b:Bool} {k':DVal} {r:Bool} (h:Pu (.agg [.bool a, .bool b]) k'=some r): ∃c d,k'= .agg [.bool c, .bool d]/\r=(decide (a=c)&&decide (b=d)):=by
 unfold Pu at h;split at h;all_goals first | (cases h;done) | skip
 all_goals first | (rename_i heq;cases heq;done) | skip
 rename_i heq
 cases heq;cases h;exact⟨_,_,rfl,rfl⟩
theorem Aq8 {w:World} {H:Ab} {t:TypeId} {a b:Bool} {k':DVal} {x x':Value} {r:Bool} (hk:Ak6 P (P.underlying t)=true) (h:Rel w H (.agg [.bool a, .bool b]) x) (h':Rel w H k' x') (hb:Pu (.agg [.bool a, .bool b]) k'=some r):
  (Op.equal t x x').run P w= .ok r w:=by
 obtain⟨e,ie,h1,h2,h3,h4⟩:=Bi6 hk;have hag:Dv P t=some true:=by simp [Dv,h1]
 obtain⟨c,d,rfl,rfl⟩:=Bt9 hb;have g: ∃xs,x= .agg xs/\An w H [.bool a, .bool b] xs.toList:=h;have g': ∃xs,x'= .agg xs/\An w H [.bool c, .bool d] xs.toList:=h';obtain⟨xs,rfl,hx⟩:=g;obtain⟨ys,rfl,hy⟩:=g';exact Jp (P:=P) (w:=w) (H:=H) 2 Op.maxDepth (by decide) t _ _ _ _ true _ hag hx hy (fun _=>⟨_,rfl⟩) (fun _=>⟨_,rfl⟩) (Do5 h1 h2 h3 h4)
theorem Xs {w:World} {H:Ab} {t:TypeId} {a b:Bool} {x:Value} (hk:Ak6 P (P.underlying t)=true) (h:Rel w H (.agg [.bool a, .bool b]) x): ∀ {es:List (DVal×DVal)} {ms:List MapEntry},Pr w H es ms-> ∀(i:Nat) {r:Option Nat},Jb (.agg [.bool a, .bool b]) es i=some r->
  (Instr.findAsking t x ms i).run P w= .ok (r.bind fun j=>(ms[j-i]?).map fun m=>(j,m.val)) w/\ ∀j,r=some j->i<=j
 | [],ms,hm,i,r,hf=>by
  rw[show ms= [] from hm];simp only[Jb] at hf;cases hf;exact⟨by simp [Instr.findAsking],fun j hj=>by cases hj⟩
 | p::es,ms,hm,i,r,hf=>by
  obtain⟨m,ms',rfl,h1,h2,h3⟩:=hm;simp only[Jb] at hf;cases hb:Pu (.agg [.bool a, .bool b]) p.1 with
  | none=>rw[hb] at hf;cases hf
  | some b'=>
   rw[hb] at hf;have hs:=Aq8 hk h h1 hb;cases b' with
   | true=>
    simp only[Sd] at hf;cases hf;refine⟨by simp [Instr.findAsking,hs],fun j hj=>by cases hj;exact Nat.le_refl _⟩
   | false=>
    simp only[Sd] at hf;obtain⟨g1,g2⟩:=Xs hk h h3 (i+1) hf;refine⟨?_,fun j hj=>by have:=g2 j hj;omega⟩;simp only[Instr.findAsking,Sem.run_bind,hs,Result.andThen_ok,Bool.false_eq_true,if_false,g1];cases r with
    | none=>rfl
    | some j=>
     have:=g2 j rfl;simp only[Option.bind_some];rw[show j-i=(j-(i+1))+1 by omega];simp
theorem Kw {w:World} {H:Ab} {kt:TypeId} {k:DVal} {x:Value} (hk:Pv P (P.underlying kt) k=true) (h:Rel w H k x) {es:List (DVal×DVal)} {ms:List MapEntry} (hm:Pr w H es ms) {r:Option Nat} (hf:Jb k es 0=some r):
  (Instr.findKey kt x ms).run P w= .ok (r.bind fun j=>(ms[j]?).map fun m=>(j,m.val)) w:=by
 rcases Al1 hk with hk | ⟨a,b,rfl,hk⟩
 ·exact Ay4 hk h hm hf
 ·obtain⟨g1,_⟩:=Xs hk h hm 0 hf;simp only[Nat.sub_zero] at g1;obtain⟨e,ie,h1,h2,h3,h4⟩:=Bi6 hk;cases ms with
  | nil=>
   have:es= []:=by cases es with
    | nil=>rfl
    | cons p es=>obtain⟨m,ms',e,_⟩:=hm;cases e
   subst this;simp only[Jb] at hf;cases hf;simp [Instr.findKey,run_underlying h1,Instr.findNow]
  | cons m ms=>
   have hn:Instr.findNow (.array 2 e) x (m::ms) 0=none:=by simp [Instr.findNow,Instr.sameNow]
   simp [Instr.findKey,run_underlying h1,hn,g1]
theorem Kf {w:World} {H:Ab} {kt:TypeId} {k:DVal} {x:Value} {b:Bool} (hk:Pv P (P.underlying kt) k=true) (h:Rel w H k x):(Instr.checkKey b (9999+1) kt x).run P w= .ok () w:=by
 rcases Al1 hk with hk | ⟨c,d,rfl,hk⟩
 ·exact Aq7 hk h 9999
 ·obtain⟨e,ie,h1,h2,h3,h4⟩:=Bi6 hk;simp only[Rel,An] at h;obtain⟨xs,rfl,y,ys,hx,rfl,z,zs,rfl,rfl,rfl⟩:=h;have hag:Dv P e=some false:=by simp [Dv,h2]
  have hxs:xs= #[.bool c, .bool d]:=by apply Array.ext';simpa using hx
  subst hxs;have hp0:(part e #[Value.bool c, .bool d] 0).run P w= .ok (.bool c) w:=by simp [part,Ip hag]
  have hp1:(part e #[Value.bool c, .bool d] 1).run P w= .ok (.bool d) w:=by simp [part,Ip hag]
  have hsz:=Bz (P:=P) (w:=w) (t:=e) (by rw[h3];rfl);rw[h4] at hsz;have main: ∀n,(Instr.checkKey b (n+1+1) kt (.agg #[.bool c, .bool d])).run P w= .ok () w:=fun n=>by
   simp [Instr.checkKey,run_underlying h1,run_underlying h2,hsz,Std.Legacy.Range.forIn_eq_forIn_range',Std.Legacy.Range.size,List.range',hp0,hp1]
  exact main 9998
theorem Cl5 (hS:Sim G N s a w) (hd:Bu N o.dst=true) {t:TypeId} {x k:Operand} {ok:Bool} (hx:Bf N x=true) (hk:Bf N k=true) (he:o.op= .lookup t x k ok)
  (h:Yz P ok o.dst (P.underlying t) (dev G s.env x) (dev G s.env k) K s):o.wp P a w (Fd G N K s w) Qx:=by
 have rx:=Ax hS hx;have rk:=Ax hS hk;generalize hu:P.underlying t=u at h;generalize dev G s.env x=dx at h rx;generalize dev G s.env k=dk at h rk;unfold Yz at h;split at h<;>try exact h.elim
 ·rename_i kt e r
  obtain⟨hkt,h⟩:=h;simp only[Rel] at rx;cases hh:s.heap r with
  | none=>rw[hh] at h;exact h.elim
  | some ob=>
   cases ob with
   | loop=>rw[hh] at h;exact h.elim
   | iter=>rw[hh] at h;exact h.elim
   | cells=>rw[hh] at h;exact h.elim
   | map es=>
    rw[hh] at h;simp only[Bh8] at h;obtain⟨ms,clock,ho,hm⟩:=hS.heap r _ hh;cases hf:Jb dk es 0 with
    | none=>rw[hf] at h;cases hz:Bm P e<;>rw[hz] at h<;>exact h.elim
    | some fi=>
     rw[hf] at h;have hfk:=Kw (P:=P) (w:=w) hkt rk hm hf;have hck:=fun b=>Kf (P:=P) (w:=w) (b:=b) hkt rk;have hgo:=Mo (P:=P) ho rfl;cases fi with
     | some i=>
      have h': ∃p,es[i]? =some p/\Bh7 ok o.dst p.2 true K s:=by
       cases hz:Bm P e<;>rw[hz] at h<;>exact h
      obtain⟨p,hp,hK⟩:=h';obtain⟨m,hmi,r1,r2⟩:=hm.get hp;have hmi':ms[i]? =some m:=by rw[<-Array.getElem?_toList];exact hmi
      simp only[Option.bind_some,hmi,Option.map_some] at hfk;refine Gg hS hd (x:=if ok then .tuple #[m.val, .bool true] else m.val) ?_ ?_ hK
      ·cases ok<;>simp [execOp,he,rx,Instr.lookup,run_underlying hu,hgo,hck,hfk]
      ·cases ok
       ·exact r2
       ·simp only[if_true,Rel,An];exact⟨_,rfl,_,_,rfl,r2,_,_,rfl,rfl,rfl⟩
     | none=>
      simp only[Option.bind_none] at hfk;cases hz:Bm P e with
      | none=>rw[hz] at h;exact h.elim
      | some z=>
       rw[hz] at h;obtain⟨ie,v,hie,hiz,rfl⟩:=Iq hz;refine Gg hS hd (x:=if ok then .tuple #[v, .bool false] else v) ?_ ?_ h
       ·cases ok<;>simp [execOp,he,rx,Instr.lookup,run_underlying hu,hgo,hck,hfk,zeroValue,typeInfo,hie,hiz]
       ·cases ok
        ·exact Ej w s.heap v
        ·simp only[if_true,Rel,An];exact⟨_,rfl,_,_,rfl,Ej w s.heap v,_,_,rfl,rfl,rfl⟩
 ·rename_i kt e
  obtain⟨hkt,h⟩:=h;simp only[Rel] at rx;have hfk:=Kw (P:=P) (w:=w) (es:= []) (ms:= []) hkt rk rfl (r:=none) rfl;have hck:=fun b=>Kf (P:=P) (w:=w) (b:=b) hkt rk;simp only[Option.bind_none] at hfk;cases hz:Bm P e with
  | none=>rw[hz] at h;exact h.elim
  | some z=>
   rw[hz] at h;obtain⟨ie,v,hie,hiz,rfl⟩:=Iq hz;refine Gg hS hd (x:=if ok then .tuple #[v, .bool false] else v) ?_ ?_ h
   ·cases ok<;>simp [execOp,he,rx,Instr.lookup,run_underlying hu,hck,hfk,zeroValue,typeInfo,hie,hiz]
   ·cases ok
    ·exact Ej w s.heap v
    ·simp only[if_true,Rel,An];exact⟨_,rfl,_,_,rfl,Ej w s.heap v,_,_,rfl,rfl,rfl⟩
theorem Cl6 (hS:Sim G N s a w) (hd:Bu N o.dst=true) {c:Call} {x k:Operand} {t:TypeId} {ts:List TypeId} (hx:Bf N x=true) (hk:Bf N k=true) (he:o.op= .call c) (hc:c.callee= .builtin .delete) (hargs:c.args.toList= [x,k]) (hts:c.argTypes.toList=t::ts)
  (h:Ts P o.dst (P.underlying t) (dev G s.env x) (dev G s.env k) K s):o.wp P a w (Fd G N K s w) Qx:=by
 have rx:=Ax hS hx;have rk:=Ax hS hk;have hm':c.args.map a.eval= #[a.eval x,a.eval k]:=by apply Array.ext';simp [hargs]
 have hex:=Fi (a:=a) he hc;rw[hm'] at hex;have ht':c.argTypes[0]? =some t:=by rw[<-Array.getElem?_toList,hts];rfl
 generalize hu:P.underlying t=u at h;generalize dev G s.env x=dx at h rx;generalize dev G s.env k=dk at h rk;unfold Ts at h;split at h<;>try exact h.elim
 rename_i kt e r
 obtain⟨hkt,h⟩:=h;simp only[Rel] at rx;cases hh:s.heap r with
 | none=>rw[hh] at h;exact h.elim
 | some ob=>
  cases ob with
  | loop=>rw[hh] at h;exact h.elim
  | iter=>rw[hh] at h;exact h.elim
  | cells=>rw[hh] at h;exact h.elim
  | map es=>
   rw[hh] at h;simp only[Zv] at h;obtain⟨ms,clock,ho,hm⟩:=hS.heap r _ hh;cases hf:Jb dk es 0 with
   | none=>rw[hf] at h;exact h.elim
   | some fi=>
    rw[hf] at h;simp only[Zu] at h;have hfk:=Kw (P:=P) (w:=w) hkt rk hm hf;have hck:=fun b=>Kf (P:=P) (w:=w) (b:=b) hkt rk;have hgo:=Mo (P:=P) ho rfl;have hnn:s.heap r≠none:=by rw[hh];simp
    cases fi with
    | none=>
     simp only[Option.bind_none] at hfk;obtain⟨k1,k2⟩:=Qb (o':= .map ms clock) (ob:= .map es) hS.heap hnn ho rfl rfl (fun w' H' hl=>⟨ms,clock,rfl,hm.lasts hl⟩);have hso:=Is (P:=P) (.map ms clock) ho rfl;refine Fh hS hd (x:= .tuple #[]) ?_ k2 k1 (by simp [Rel,An]) h;rw[hex];simp [builtin,Builtin.delete_,ht',run_underlying hu,rx,hgo,hck,hfk,hso]
    | some i=>
     cases hmi:ms.toList[i]? with
     | none=>
      have hle:ms.toList.length<=i:=by rwa [List.getElem?_eq_none_iff] at hmi
      have he1:es.eraseIdx i=es:=List.eraseIdx_of_length_le (by rw[hm.len];exact hle);simp only[Option.bind_some,hmi,Option.map_none] at hfk;simp only[Ax1,he1] at h;obtain⟨k1,k2⟩:=Qb (o':= .map ms clock) (ob:= .map es) hS.heap hnn ho rfl rfl (fun w' H' hl=>⟨ms,clock,rfl,hm.lasts hl⟩);have hso:=Is (P:=P) (.map ms clock) ho rfl;refine Fh hS hd (x:= .tuple #[]) ?_ k2 k1 (by simp [Rel,An]) h;rw[hex];simp [builtin,Builtin.delete_,ht',run_underlying hu,rx,hgo,hck,hfk,hso]
     | some m=>
      simp only[Option.bind_some,hmi,Option.map_some] at hfk;obtain⟨k1,k2⟩:=Qb (o':= .map (ms.eraseIdxIfInBounds i) clock) (ob:= .map (es.eraseIdx i)) hS.heap hnn ho rfl rfl (fun w' H' hl=>⟨_,clock,rfl,by
       rw[Array.toList_eraseIdxIfInBounds];exact(hm.lasts hl).erase i⟩)
      have hso:=Is (P:=P) (.map (ms.eraseIdxIfInBounds i) clock) ho rfl;refine Fh hS hd (x:= .tuple #[]) ?_ k2 k1 (by simp [Rel,An]) h;rw[hex];simp [builtin,Builtin.delete_,ht',run_underlying hu,rx,hgo,hck,hfk,hso]
theorem Pr.modify {w:World} {H:Ab} {f:MapEntry->MapEntry}: ∀ {es:List (DVal×DVal)} {ms:List MapEntry},Pr w H es ms-> ∀(i:Nat) {p:DVal×DVal},(∀m,Rel w H p.1 (f m).key/\Rel w H p.2 (f m).val)->Pr w H (es.set i p) (ms.modify i f)
 | [],_,h,i,p,_=>by rw[show _=_ from h];cases i<;>exact rfl
 | q::es,ms,h,0,p,k=>by
  obtain⟨m',ms',rfl,h1,h2,h3⟩:=h;exact⟨f m',ms',rfl,(k m').1,(k m').2,h3⟩
 | q::es,ms,h,i+1,p,k=>by
  obtain⟨m',ms',rfl,h1,h2,h3⟩:=h;exact⟨m',_,rfl,h1,h2,Pr.modify h3 i k⟩
theorem Aa1 {k:DVal}: ∀ {es:List (DVal×DVal)} {n i:Nat},Jb k es n=some (some i)-> ∃p,n<=i/\es[i-n]? =some p/\Pu k p.1=some true
 | [],n,i,h=>by simp [Jb] at h
 | q::es,n,i,h=>by
  simp only[Jb] at h;cases hb:Pu k q.1 with
  | none=>rw[hb] at h;cases h
  | some b=>
   rw[hb] at h;cases b with
   | true=>simp only[Sd] at h;cases h;exact⟨q,Nat.le_refl _,by simp,hb⟩
   | false=>
    simp only[Sd] at h;obtain⟨p,h1,h2,h3⟩:=Aa1 h;refine⟨p,by omega, ?_,h3⟩;rw[show i-n=(i-(n+1))+1 by omega];simpa using h2
theorem Bz3 {w:World} {H:Ab} {k k':DVal} {x x':Value} (h:Rel w H k x) (h':Rel w H k' x') (hb:Pu k k'=some true) (n:Nat):Instr.sameBits (n+1) x' x=true:=by
 cases k<;>(try (simp [Pu] at hb;done))<;>cases k'<;>simp only[Pu] at hb<;>(try (cases hb;done))
 ·simp only[Rel] at h h';subst h;subst h';simp at hb;subst hb;cases n<;>simp [Instr.sameBits]
 ·split at hb<;>simp at hb
  rename_i e;subst e;subst hb
  simp only[Rel] at h h';subst h;subst h';cases n<;>simp [Instr.sameBits]
 ·simp only[Rel] at h h';subst h;subst h';simp at hb;subst hb;have e1: ∀l:List UInt8,((⟨⟨l⟩⟩:ByteArray)==⟨⟨l⟩⟩)=true:=fun l=>by
   show((⟨l⟩:Array UInt8)==⟨l⟩)=true;simp
  cases n<;>simp [Instr.sameBits,e1]
 ·rename_i cs1 cs2
  have hb:Pu (.agg cs1) (.agg cs2)=some true:=hb;obtain⟨a,b,e1⟩: ∃a b,cs1= [.bool a, .bool b]:=by
   unfold Pu at hb;split at hb;all_goals first | (cases hb;done) | skip
   all_goals first | (rename_i heq _;cases heq;done) | skip
   rename_i h1 h2
   cases h1;exact⟨_,_,rfl⟩
  subst e1;obtain⟨c,d,e2,e3⟩:=Bt9 hb;cases e2;have e3:=e3.symm;simp only[jF,decide_eq_true_eq] at e3;obtain⟨rfl,rfl⟩:=e3;have g: ∃xs,x= .agg xs/\An w H [.bool a, .bool b] xs.toList:=h;have g': ∃xs,x'= .agg xs/\An w H [.bool a, .bool b] xs.toList:=h';obtain⟨xs,rfl,hx⟩:=g;obtain⟨ys,rfl,hy⟩:=g';simp only[An,Rel] at hx hy;obtain⟨_,_,hx,rfl,_,_,rfl,rfl,rfl⟩:=hx;obtain⟨_,_,hy,rfl,_,_,rfl,rfl,rfl⟩:=hy;have hxs:xs= #[.bool a, .bool b]:=by apply Array.ext';simpa using hx
  have hys:ys= #[.bool a, .bool b]:=by apply Array.ext';simpa using hy
  subst hxs;subst hys;cases n<;>simp [Instr.sameBits]
theorem Ay5 (hS:Sim G N s a w) {t:TypeId} {x k y:Operand} (hx:Bf N x=true) (hk:Bf N k=true) (hy:Bf N y=true) (he:o.op= .mapUpdate t x k y\/o.op= .insert t x k y)
  (h:Rc P o.dst (P.underlying t) (dev G s.env x) (dev G s.env k) (dev G s.env y) K s):o.wp P a w (Fd G N K s w) Qx:=by
 have rx:=Ax hS hx;have rk:=Ax hS hk;have ry:=Ax hS hy;generalize hu:P.underlying t=u at h;generalize dev G s.env x=dx at h rx;generalize dev G s.env k=dk at h rk;generalize dev G s.env y=dy at h ry;unfold Rc at h;split at h<;>try exact h.elim
 rename_i kt e r
 obtain⟨hdst,hkt,h⟩:=h;simp only[Rel] at rx;cases hh:s.heap r with
 | none=>rw[hh] at h;exact h.elim
 | some ob=>
  cases ob with
  | loop=>rw[hh] at h;exact h.elim
  | iter=>rw[hh] at h;exact h.elim
  | cells=>rw[hh] at h;exact h.elim
  | map es=>
   rw[hh] at h;obtain⟨hone,h⟩:=h;obtain⟨ms,clock,ho,hm⟩:=hS.heap r _ hh;cases hf:Jb dk es 0 with
   | none=>rw[hf] at h;exact h.elim
   | some fi=>
    rw[hf] at h;simp only[Tr] at h;have hfk:=Kw (P:=P) (w:=w) hkt rk hm hf;have hck:=fun b=>Kf (P:=P) (w:=w) (b:=b) hkt rk;have hgo:=Mo (P:=P) ho rfl;have hnn:s.heap r≠none:=by rw[hh];simp
    have fin: ∀ {o':Obj} {es':List (DVal×DVal)},Jc o'=true->(∀w' H',Lasts s.heap w H' w'->Sb w' H' (.map es') (some o'))->(execOp a.eval o).run P w= .ok .skip (w.putObj r o')->K ⟨s.env,upd s.heap r (some (.map es'))⟩->o.wp P a w (Fd G N K s w) Qx:=by
     intro o' es' hb' hob hrun hK;obtain⟨k1,k2⟩:=Qb hS.heap hnn ho rfl hb' hob;unfold Oper.wp;rw[hrun];show Fd G N K s w (a.put o.dst undef) _;rw[hdst];exact⟨_,hK,hS.ext k2 k1,k2⟩
    cases fi with
    | none=>
     simp only[Option.bind_none] at hfk;have hso:=Is (P:=P) (.map (ms.push { key:=a.eval k,val:=a.eval y,born:=clock }) (clock+1)) ho rfl;refine fin (o':= .map (ms.push { key:=a.eval k,val:=a.eval y,born:=clock }) (clock+1)) rfl (fun w' H' hl=>⟨_,_,rfl, ?_⟩) ?_ h
     ·rw[Array.toList_push];exact(hm.lasts hl).app (fs:= [(dk,dy)]) ⟨_,[],rfl,Rel.lasts hl _ _ rk,Rel.lasts hl _ _ ry,rfl⟩
     ·rcases he with he | he<;>simp [execOp,he,rx,Instr.mapUpdate,run_underlying hu,hgo,hck,hfk,hso]
    | some i=>
     obtain⟨p,_,hp,hkey⟩:=Aa1 hf;rw[Nat.sub_zero] at hp;obtain⟨m,hmi,r1,r2⟩:=hm.get hp;have hmi':ms[i]? =some m:=by rw[<-Array.getElem?_toList];exact hmi
     simp only[Option.bind_some,hmi,Option.map_some] at hfk;have hsb:=Bz3 rk r1 hkey 9999;have hso:=Is (P:=P) (.map (ms.modify i fun e=> { e with key:=a.eval k,val:=a.eval y }) clock) ho rfl;refine fin (o':= .map (ms.modify i fun e=> { e with key:=a.eval k,val:=a.eval y }) clock) rfl (fun w' H' hl=>⟨_,_,rfl, ?_⟩) ?_ h
     ·rw[Array.toList_modify];exact(hm.lasts hl).modify i (fun m=>⟨Rel.lasts hl _ _ rk,Rel.lasts hl _ _ ry⟩)
     ·rcases he with he | he<;>simp [execOp,he,rx,Instr.mapUpdate,run_underlying hu,hgo,hck,hfk,hmi',Instr.keyThatStays,hsb,hso]
end
end Go.Dl

-- THE DATA LEVEL, PART V: calls, regions, code: what the data level says of a piece of code is true of the model's.
namespace Go.Dl
open Go
section
variable {P:Program} {G:Nat->DVal} {N:Fr}
variable {o:Oper} {s s0:DS} {a:Act} {w w0:World} {K:DK} {Q:DExit->DS->Prop}
theorem Ae.mono {f:FuncId} {args:List DVal} {H:Ab} {R R':DEnd->Ab->Prop} (h:Ae P G f args H R) (hr: ∀e H',R e H'->R' e H'):Ae P G f args H R':=
 ⟨h.1,fun vs w hv hH hG=>(h.2 vs w hv hH hG).mono fun e w' ⟨e',H',r,k⟩=>⟨e',H',hr _ _ r,k⟩⟩
theorem Yv.mono {l:Nat} {args:List DVal} {H:Ab} {R R':DEnd->Ab->Prop} (h:Yv P G l args H R) (hr: ∀e H',R e H'->R' e H'):Yv P G l args H R':=
 fun F n hF vs w hv hH hG=>by
  obtain⟨fn,tmps,asg,body,h1,h2⟩:=h F n hF vs w hv hH hG;exact⟨fn,tmps,asg,body,h1,h2.mono fun e w' ⟨e',H',r,k⟩=>⟨e',H',hr _ _ r,k⟩⟩
theorem Do6 (hS:Sim G N s a w) (hE0:Ext s0.heap w0 s.heap w) (hd:Bu N o.dst=true) {c:Call} {f:Operand} (hf:Bf N f=true) (hx:c.args.toList.all (Bf N)=true) (he:o.op= .call c) (hc:c.callee= .value f)
  (hny: ∀l,dev G s.env f≠ .func (.yield l) [] []) (h:Zw P G (El G s.env c.args.toList) o.dst Q (dev G s.env f) K s):o.wp P a w (Fd G N K s w) (Kp G N Q s0 w0):=by
 have rf:=Ax hS hf;have rl:=Ls hS hx;generalize dev G s.env f=df at h rf hny;generalize El G s.env c.args.toList=ds at h rl;unfold Zw at h;split at h<;>try first | exact h.elim | exact(hny _ rfl).elim
 rename_i k first captured
 simp only[Rel] at rf;obtain⟨xs,ys,hfv,h1,h2⟩:=rf;obtain⟨hcall,hcalls⟩:=h;have hargs:An w s.heap (first++ds++captured) (xs.toList++c.args.toList.map a.eval++ys.toList):=(h1.append rl).append h2;have harr:(xs++c.args.map a.eval++ys)=(xs.toList++c.args.toList.map a.eval++ys.toList).toArray:=by apply Array.ext';simp
 have hrun:(execOp a.eval o).run P w= .ok (.enter k (xs++c.args.map a.eval++ys)) w:=by
  simp only[execOp,he,resolve,hc,hfv,Deferred.ofValue,Sem.run_bind,Sem.run_pure,Result.andThen_ok,invoke,hcall]
 unfold Oper.wp;rw[hrun,harr];refine(hcalls _ _ hargs hS.heap hS.glob).mono fun e w' ⟨e',H',hR,hre,hH',hE⟩=> ?_;cases hre with
 | ret d v hv=>exact⟨_,hR,(hS.ext hE hH').put hd hv,hE⟩
 | panic d v hv=>exact⟨_,_,hR, .panic _ _ hv,hS.ext hE hH',hE0.trans hE⟩
theorem Jq (h:Gr N o=true):Bu N o.dst=true:=by
 unfold Gr at h;rw[jF] at h;unfold Bu;exact h.1
theorem Aa2 {α:Type} (p:α->Bool) (xs:Array α):xs.all p=xs.toList.all p:=by
 rw[<-Array.all_toList]
theorem Ay6 {x:DVal} {v:Value} (hS:Sim G N s a w) (hE0:Ext s0.heap w0 s.heap w) (hrun:(execOp a.eval o).run P w=((Instr.panic v).run P w).andThen fun v w'=> .ok (.value v) w') (hv:Rel w s.heap x v) (h:Se Q s x) {next:Act->World->Prop}:o.wp P a w next (Kp G N Q s0 w0):=by
 unfold Se at h;split at h<;>try exact h.elim
 have hv':=hv;simp only[Rel] at hv;obtain⟨y,rfl,hy⟩:=hv;unfold Oper.wp;rw[hrun];simp only[Instr.panic,goPanic,Sem.run_halt,Result.andThen_halt];exact⟨_,s,h, .panic _ _ hv',hS,hE0⟩
theorem Bz4 (hny: ∀c f l,o.op= .call c->c.callee= .value f->dev G s.env f≠ .func (.yield l) [] []) (hok:Gr N o=true) (hS:Sim G N s a w) (hE0:Ext s0.heap w0 s.heap w) (h:dop P G o.dst K Q s o.op):o.wp P a w (Fd G N K s w) (Kp G N Q s0 w0):=by
 have hd:=Jq hok
 unfold Gr at hok
 rw[jF] at hok
 have hop:=hok.2
 rw[Aa2] at hop
 cases hq:o.op<;>rw[hq] at h hop<;>simp only[Op.operands,Call.operands,List.all_cons,List.all_nil,Bool.and_true,jF] at hop<;>try (exact h.elim)
 case move x=>exact(Dn8 hS hd hop hq h).wp hS hd
 case assign x=>exact(Ck8 hS hd hop hq h).wp hS hd
 case pick c x y=>exact(Dn9 hS hd hop.1 hop.2.1 hop.2.2 hq h).wp hS hd
 case alloc e=>exact Da1 hS hd hq h
 case box e x=>exact Du4 hS hd hop hq h
 case build t ps=>exact Da3 hS hd (by simpa [Function.comp_def] using hop) hq h
 case buildSlice t n ps=>exact Aq4 hS hd (by simpa [Function.comp_def] using hop) hq h
 case load t x=>exact(Do0 hS hd hop hq h).wp hS hd
 case store t x y=>exact Da2 hS hop.1 hop.2 hq h
 case nilCheck x=>exact(Bi0 hS hd hop hq h).wp hS hd
 case binOp op t x y t'=>exact(Do3 hS hd hop.1 hop.2 hq h).wp hS hd
 case unOp op t x=>exact(Do1 hS hd hop hq h).wp hS hd
 case convert src t x=>exact(Da8 hS hd hop hq h).wp hS hd
 case range t x=>exact Da9 hS hd hop hq h
 case next x b=>exact Do4 hS hd hop hq h
 case makeInterface t x=>exact(Ax4 hS hd hop hq h).wp hS hd
 case makeFunc fn fs cs=>
  simp only[Array.toList_append,List.all_append,jF] at hop
  exact(Bi1 hS hd hop.1 hop.2 hq h).wp hS hd
 case makeMap t x=>
  have opt: ∀(z:Option Operand),z.toArray.toList.all (Bf N)=true->(match z with | some x=>Bf N x | none=>true)=true:=by
   intro z hz;cases z with
   | none=>rfl
   | some z=>simpa using hz
  exact Bz2 hS hd (opt _ hop) hq h
 case lookup t x k ok=>exact Cl5 hS hd hop.1 hop.2 hq h
 case mapUpdate t m k x=>exact Ay5 hS hop.1 hop.2.1 hop.2.2 (.inl hq) h
 case insert t m k x=>exact Ay5 hS hop.1 hop.2.1 hop.2.2 (.inr hq) h
 case makeSlice t l c=>exact Ax8 hS hd hop.1 hop.2 hq h
 case slice t x lo hi mx=>
  simp only[Array.toList_append,List.all_append,jF,List.all_cons,List.all_nil,Bool.and_true] at hop
  have opt: ∀(z:Option Operand),z.toArray.toList.all (Bf N)=true->(match z with | some x=>Bf N x | none=>true)=true:=by
   intro z hz;cases z with
   | none=>rfl
   | some z=>simpa using hz
  exact(Da6 hS hd hop.1.1.1 (opt _ hop.1.1.2) (opt _ hop.1.2) (opt _ hop.2) hq h).wp hS hd
 case fieldAddr t x f=>exact(Ax6 hS hd hop hq h).wp hS hd
 case field t x f=>exact(Da4 hS hd hop hq h).wp hS hd
 case indexAddr t x i=>exact(Ax7 hS hd hop.1 hop.2 hq h).wp hS hd
 case index t x i=>exact(Da5 hS hd hop.1 hop.2 hq h).wp hS hd
 case typeAssert x t u ok=>exact(Aq5 hS hd hop hq h).wp hS hd
 case extract x i=>exact(By6 hS hd hop hq h).wp hS hd
 case panic x=>
  exact Ay6 hS hE0 (v:=a.eval x) (by simp [execOp,hq]) (Ax hS hop) h
 case call c=>
  simp only[dop] at h
  simp only[Array.toList_append,List.all_append,jF] at hop
  obtain⟨hcal,hargs⟩:=hop
  cases hc:c.callee with
  | invoke r m=>rw[hc] at h;exact h.elim
  | value f=>
   rw[hc] at h hcal
   simp only[Nv] at h
   exact Do6 hS hE0 hd (by simpa using hcal) hargs hq hc (fun l=>hny c f l hq hc) h
  | builtin b=>
   rw[hc] at h
   simp only[Nv] at h
   cases b<;>(try (cases hdv:El G s.env c.args.toList<;>rw[hdv] at h<;>exact h.elim))
   case len=>
    cases hdv:El G s.env c.args.toList with
    | nil=>rw[hdv] at h;exact h.elim
    | cons d ds=>cases ds with
     | cons d2 ds=>rw[hdv] at h;exact h.elim
     | nil=>
      obtain⟨x,hx,rfl⟩:=Tx hdv
      rw[hdv] at h
      rw[hx] at hargs
      simp only[Hv] at h
      cases hts:c.argTypes.toList with
      | nil=>rw[hts] at h;exact h.elim
      | cons t ts=>cases ts with
       | nil=>rw[hts] at h;exact(Du5 hS hd (by simpa using hargs) hq hc hx hts h).wp hS hd
       | cons t' ts'=>rw[hts] at h;exact h.elim
   case cap=>
    cases hdv:El G s.env c.args.toList with
    | nil=>rw[hdv] at h;exact h.elim
    | cons d ds=>cases ds with
     | cons d2 ds=>rw[hdv] at h;exact h.elim
     | nil=>
      obtain⟨x,hx,rfl⟩:=Tx hdv
      rw[hdv] at h
      rw[hx] at hargs
      simp only[Hv] at h
      cases hts:c.argTypes.toList with
      | nil=>rw[hts] at h;exact h.elim
      | cons t ts=>cases ts with
       | nil=>rw[hts] at h;exact(Du6 hS hd (by simpa using hargs) hq hc hx hts h).wp hS hd
       | cons t' ts'=>rw[hts] at h;exact h.elim
   case clear=>
    cases hdv:El G s.env c.args.toList with
    | nil=>rw[hdv] at h;exact h.elim
    | cons d ds=>cases ds with
     | cons d2 ds=>rw[hdv] at h;exact h.elim
     | nil=>
      obtain⟨x,hx,rfl⟩:=Tx hdv
      rw[hdv] at h
      rw[hx] at hargs
      simp only[Hv] at h
      cases hts:c.argTypes.toList with
      | nil=>rw[hts] at h;exact h.elim
      | cons t ts=>cases ts with
       | nil=>rw[hts] at h;exact Da7 hS hd (by simpa using hargs) hq hc hx hts h
       | cons t' ts'=>rw[hts] at h;exact h.elim
   case delete=>
    cases hdv:El G s.env c.args.toList with
    | nil=>rw[hdv] at h;exact h.elim
    | cons d ds=>cases ds with
     | nil=>rw[hdv] at h;exact h.elim
     | cons d2 ds=>cases ds with
      | cons d3 ds=>rw[hdv] at h;exact h.elim
      | nil=>
       obtain⟨x,y,hx,rfl,rfl⟩:=Ay0 hdv
       rw[hdv] at h
       rw[hx] at hargs
       simp only[List.all_cons,List.all_nil,Bool.and_true,jF] at hargs
       simp only[Hv] at h
       cases hts:c.argTypes.toList with
       | nil=>rw[hts] at h;exact h.elim
       | cons t ts=>rw[hts] at h;exact Cl6 hS hd hargs.1 hargs.2 hq hc hx hts h
   case append=>
    cases hdv:El G s.env c.args.toList with
    | nil=>rw[hdv] at h;exact h.elim
    | cons d ds=>cases ds with
     | nil=>rw[hdv] at h;exact h.elim
     | cons d2 ds=>cases ds with
      | cons d3 ds=>rw[hdv] at h;exact h.elim
      | nil=>
       obtain⟨x,y,hx,rfl,rfl⟩:=Ay0 hdv
       rw[hdv] at h
       rw[hx] at hargs
       simp only[List.all_cons,List.all_nil,Bool.and_true,jF] at hargs
       simp only[Hv] at h
       cases hts:c.argTypes.toList with
       | nil=>rw[hts] at h;exact h.elim
       | cons t ts=>cases ts with
        | nil=>rw[hts] at h;exact h.elim
        | cons t' ts'=>cases ts' with
         | nil=>
          rw[hts] at h
          simp only[Vq] at h
          cases hit:Jo (P.underlying t') with
          | true=>rw[hit] at h;exact Bz1 hS hd hargs.1 hargs.2 hq hc hx hts hit h
          | false=>rw[hit] at h;exact Cl3 hS hd hargs.1 hargs.2 hq hc hx hts h
         | cons t3 ts3=>rw[hts] at h;exact h.elim
   case min=>exact(Ay1 (isMax:=false) hS hd hargs hq hc h).wp hS hd
   case max=>exact(Ay1 (isMax:=true) hS hd hargs hq hc h).wp hS hd
   case panic=>
    cases hdv:El G s.env c.args.toList with
    | nil=>rw[hdv] at h;exact h.elim
    | cons d ds=>cases ds with
     | cons d2 ds=>rw[hdv] at h;exact h.elim
     | nil=>
      obtain⟨x,hx,rfl⟩:=Tx hdv
      rw[hdv] at h
      rw[hx] at hargs
      have hm:c.args.map a.eval= #[a.eval x]:=by apply Array.ext';simp [hx]
      refine Ay6 hS hE0 (v:=a.eval x) ?_ (Ax hS (by simpa using hargs)) h
      rw[Fi hq hc,hm]
      simp [builtin]
theorem Tz: ∀(all:List Oper) (j:Nat),Ml all j=(all[j]?).bind (·.dst)
 | [],j=>by simp [Ml]
 | o::r,0=>by simp [Ml]
 | o::r,j+1=>by simp [Ml,Tz r j]
theorem Ay7 {dst:Option Nat} {K:DK} {Q:DExit->DS->Prop} {s:DS} {op:Op} (h:dop P G dst K Q s op) (c:Call):op≠ .defer c:=by
 intro e;subst e;exact h
theorem Db0 {F:Fence} {n:Nat} (hF:FOk F) (hS:Sim G N s a w) (hE0:Ext s0.heap w0 s.heap w) (hd:Bu N o.dst=true) {c:Call} {f:Operand} {l:Nat} (hf:Bf N f=true) (hx:c.args.toList.all (Bf N)=true) (he:o.op= .call c) (hc:c.callee= .value f)
  (hy:dev G s.env f= .func (.yield l) [] []) (h:Yv P G l (El G s.env c.args.toList) s.heap (Bh9 o.dst K Q s.env)):o.wpIn F n P a w (Fd G N K s w) (Kp G N Q s0 w0):=by
 have rf:=Ax hS hf;have rl:=Ls hS hx;rw[hy] at rf;generalize El G s.env c.args.toList=ds at h rl;simp only[Rel,An] at rf;obtain⟨xs,ys,hfv,h1,h2⟩:=rf;have hxs:xs= #[]:=by cases xs;simp at h1;subst h1;rfl
 subst hxs;obtain⟨fn,tmps,asg,body,hrun,hround⟩:=h F (n-1) hF _ w rl hS.heap hS.glob;have hrun':(execOp a.eval o).run P w= .ok (.round l fn tmps asg body) w:=by
  have:(c.args.toList.map a.eval).toArray=c.args.map a.eval:=by apply Array.ext';simp
  rw[this] at hrun;simp only[execOp,he,resolve,hc,hfv,Deferred.ofValue,Sem.run_bind,Sem.run_pure,Result.andThen_ok,invoke];simpa using hrun
 refine⟨fun f _=>hF.fn f, ?_⟩;rw[Oper.semAt_eq _ _ _ (by intro c' e;rw[he] at e;cases e),hrun',Oper.uponIn_round];refine⟨(by rw[hF.depth];intro hh;cases hh),hround.mono fun e w' ⟨e',H',hR,hre,hH',hE⟩=> ?_⟩;cases hre with
 | ret d v hv=>exact⟨_,hR,(hS.ext hE hH').put hd hv,hE⟩
 | panic d v hv=>exact⟨_,_,hR, .panic _ _ hv,hS.ext hE hH',hE0.trans hE⟩
theorem Mp {F:Fence} {n:Nat} (hF:FOk F) (hok:Gr N o=true) (hS:Sim G N s a w) (hE0:Ext s0.heap w0 s.heap w) (h:dop P G o.dst K Q s o.op):o.wpIn F n P a w (Fd G N K s w) (Kp G N Q s0 w0):=by
 by_cases hy: ∃c f l,o.op= .call c/\c.callee= .value f/\dev G s.env f= .func (.yield l) [] []
 ·obtain⟨c,f,l,h1,h2,h3⟩:=hy;have hd:=Jq hok;unfold Gr at hok;rw[jF] at hok;have hop:=hok.2;rw[Aa2] at hop;rw[h1] at h hop;simp only[Op.operands,Call.operands,Array.toList_append,List.all_append,jF] at hop;obtain⟨hcal,hargs⟩:=hop;rw[h2] at hcal;simp only[dop,h2,Nv,h3,Zw] at h;exact Db0 hF hS hE0 hd (by simpa using hcal) hargs h1 h2 h3 h
 ·exact hF.oper (Ay7 h) (Bz4 (fun c f l h1 h2 h3=>hy ⟨c,f,l,h1,h2,h3⟩) hok hS hE0 h)
theorem Sh {F:Fence} {n:Nat} (hF:FOk F) (all:List Oper) (hall:all.all (Gr N)=true): ∀(rest:List Oper),rest.all (Gr N)=true-> ∀(s:DS) (a:Act) (w:World),Sim G N s a w->Ext s0.heap w0 s.heap w->Ku P G all Q rest s->
  wpListIn F n P all.toArray (Kp G N Q s0 w0) rest a w
 | [],_,s,a,w,hS,hE,h=>⟨.normal,s,h, .normal,hS,hE⟩
 | o::rest,hr,s,a,w,hS,hE,h=>by
  simp only[List.all_cons,jF] at hr;have next: ∀(o:Oper) s a w,Sim G N s a w->Ext s0.heap w0 s.heap w->Gr N o=true->dop P G o.dst (Ku P G all Q rest) Q s o.op->o.wpIn F n P a w (wpListIn F n P all.toArray (Kp G N Q s0 w0) rest) (Kp G N Q s0 w0):=by
   intro o s a w hS hE hok hd;exact Oper.wpIn_mono (fun a' w' ⟨s',hK,hS',hE'⟩=>Sh hF all hall rest hr.2 s' a' w' hS' (hE.trans hE') hK) (Mp hF hok hS hE hd)
  have skip:Bb o.dst Cr (Ku P G all Q rest) s->wpListIn F n P all.toArray (Kp G N Q s0 w0) rest (a.put o.dst undef) w:=fun hp=>
   Sh hF all hall rest hr.2 _ _ _ (hS.put (Jq hr.1) (Nw w s.heap)) hE hp
  unfold wpListIn;simp only[Ku] at h;cases hg:o.guard with
  | none=>
   rw[hg] at h;rw[if_pos (by simp [Region.wanted,hg])];exact(next o s a w hS hE hr.1 h)
  | some jb=>
   obtain⟨j,b⟩:=jb;rw[hg] at h;simp only at h;cases hj:Ml all j with
   | none=>rw[hj] at h;exact h.elim
   | some g=>
    rw[hj] at h;simp only at h;have hjo:(all[j]?).bind (·.dst)=some g:=by rw[<-Tz];exact hj
    obtain⟨oj,hoj,hdj⟩:=Option.bind_eq_some_iff.1 hjo;have hmem:oj∈all:=List.mem_of_getElem? hoj;have hgN:g<N:=by
     have:=List.all_eq_true.1 hall oj hmem;have:=Jq this;rw[hdj] at this;simpa [Bu] using this
    have hrel:=hS.tmps g hgN;by_cases hun:s.env g= .tuple []
    ·rw[hun] at h hrel;simp only[Rel,An] at hrel;obtain⟨xs,hxs,hx0⟩:=hrel;have hy:yielded all.toArray a.tmps j=none:=by
      have h2: ∀z,a.tmps[g]? =some z->z= .tuple xs:=fun z hz=>by
       rw[Array.getD_eq_getD_getElem?,hz] at hxs;simpa using hxs
      unfold yielded;simp only[List.getElem?_toArray,hjo,Option.bind_some];cases hz:a.tmps[g]? with
      | none=>rfl
      | some z=>rw[h2 z hz]
     rw[if_neg (by simp [Region.wanted,hg,hy])];exact⟨fun f _=>hF.fn f,skip h⟩
    split at h<;>(try exact h.elim)<;>(try (rename_i hv;exact absurd hv hun))
    rename_i v hv
    rw[hv] at hrel;simp only[Rel] at hrel;have hy:yielded all.toArray a.tmps j=some v:=by
     have h1:a.tmps[g]? =some (.bool v):=by
      rw[Array.getD_eq_getD_getElem?] at hrel;cases hq:a.tmps[g]? with
      | none=>
       have:=hS.size;rw[Array.getElem?_eq_none_iff] at hq;omega
      | some z=>rw[hq] at hrel;simpa using hrel
     simp [yielded,hoj,hdj,h1]
    by_cases hvb:v=b
    ·rw[if_pos (by simp [Region.wanted,hg,hy,hvb])];exact(next o s a w hS hE hr.1 (h.1 hvb))
    ·rw[if_neg (by simp [Region.wanted,hg,hy,hvb])];exact⟨fun f _=>hF.fn f,skip (h.2 hvb)⟩
end
end Go.Dl

-- THE DATA LEVEL, PART E: the equations by which a piece of code is worked out.
namespace Go.Dl
open Go
section
variable {P:Program} {G:Nat->DVal} {N:Nat} {all:List Oper} {Q:DExit->DS->Prop} {s:DS} {rest:List Oper}
theorem Cl7:Ku P G all Q [] s=Q .normal s:=rfl
theorem Bz5 {dst:Option Nat} {op:Op} {t:TypeId} {p:String} {a:Array Edge}:Ku P G all Q (⟨dst,op,t,p,a,none⟩::rest) s=dop P G dst (Ku P G all Q rest) Q s op:=rfl
theorem Bz6 (dst:Option Nat) (op:Op) (b:Bool) (g:DVal):Vr P G all Q dst op rest s b g=(match g with
  | .bool v=>(v=b->dop P G dst (Ku P G all Q rest) Q s op)/\(v≠b->Bb dst Cr (Ku P G all Q rest) s)
  | .tuple []=>Bb dst Cr (Ku P G all Q rest) s
  | _=>False):=by
 cases g with
 | bool v=>cases b<;>cases v<;>simp [Vr]
 | tuple l=>cases l<;>cases b<;>rfl
 | _=>cases b<;>rfl
theorem Bi7 {dst:Option Nat} {op:Op} {t:TypeId} {p:String} {a:Array Edge} {j:Nat} {b:Bool}:
  Ku P G all Q (⟨dst,op,t,p,a,some (j,b)⟩::rest) s=Aq1 P G all Q dst op rest s b (Ml all j):=by
 rw[Ku];cases h:Ml all j with
 | none=>simp [Aq1,h]
 | some g=>
  simp only[Aq1,h,Bz6];rfl
theorem Aq9 {dst:Option Nat} {op:Op} {b v:Bool} (ht:v=true->Vr P G all Q dst op rest s b (.bool true)) (hf:v=false->Vr P G all Q dst op rest s b (.bool false)):
  Vr P G all Q dst op rest s b (.bool v):=by
 cases v
 ·exact hf rfl
 ·exact ht rfl
theorem Ay8 {X Y:DK} {v:Bool} (ht:v=true->Ax2 X Y s (.bool true)) (hf:v=false->Ax2 X Y s (.bool false)):Ax2 X Y s (.bool v):=by
 cases v
 ·exact hf rfl
 ·exact ht rfl
theorem Cl8:dwp P G N .skip Q s=Q .normal s:=rfl
theorem Bz7 {l:Nat}:dwp P G N (.label l) Q s=Q .normal s:=rfl
theorem Bi8 {id:Nat} {ops:List Oper}:dwp P G N (.region id ops.toArray false) Q s=Ku P G ops Q ops s:=rfl
theorem Db1 {a b:Code}:dwp P G N (.seq a b) Q s=dwp P G N a (Xq (dwp P G N b Q) Q) s:=rfl
theorem Cl9 {c:Operand} {a b:Code}:dwp P G N (.cond c a b) Q s=Ax2 (dwp P G N a Q) (dwp P G N b Q) s (dev G s.env c):=rfl
theorem Bz8 {id:Nat} {c:Code}:dwp P G N (.block id c) Q s=dwp P G N c (Aq3 id Q) s:=rfl
theorem Cm0 {c:Code}:dwp P G N (.loop c) Q s=Bt4 G (dwp P G N c) Q s:=rfl
theorem Bz9 {c:Code}:dwp P G N (.scope c) Q s=dwp P G N c (Bt3 Q) s:=rfl
theorem Cm1 {id:Nat}:dwp P G N (.exit id) Q s=Q (.exit id) s:=rfl
theorem Db2:dwp P G N .ret Q s=Q .ret s:=rfl
theorem Aa {α:Type} (f:Nat->α) (i:Nat) (v:α):upd f i v i=v:=by simp [upd]
theorem Ca0 {α:Type} (f:Nat->α) (i j:Nat) (v:α):upd f i v j=if j=i then v else f j:=rfl
theorem Cm2 (n:Nat) (z:DVal):Bj n [z]=List.replicate n z:=by
 unfold Bj
 induction n with
 | zero=>rfl
 | succ n ih=>simp [List.replicate_succ,ih]
end
section
variable {P:Program} {s:DS}
theorem Bi9 (e:TypeId):Dn5 (some (.slice e))=true:=rfl
theorem Db3 {t:TypeId} {c:Bool} {op:BinOp} {dst:Option Nat} {cs:List DVal} {n:Nat} {y:DVal} {K:DK}:Xn P t c op dst true (.vslice cs n) y K s=(Dn5 (P.underlying t)=true/\Dj9 cs op dst K s):=rfl
theorem Ca1 {t:TypeId} {c:Bool} {op:BinOp} {dst:Option Nat} {y:DVal} {K:DK}:Xn P t c op dst true .nilSlice y K s=Km P t c op dst .nilSlice y K s:=rfl
theorem Db4 {t:TypeId} {c:Bool} {op:BinOp} {dst:Option Nat} {z r o n l:Nat} {y:DVal} {K:DK}:Xn P t c op dst true (.oslice z r o n l) y K s=Km P t c op dst (.oslice z r o n l) y K s:=rfl
theorem Bj0 (t:Nat):Fu (.tmp t)=false:=rfl
theorem Ai5 (t:Nat):Fu (.global t)=false:=rfl
theorem Ay9 (t:Nat):Fu (.func t)=false:=rfl
theorem Bj1 (k:IntKind) (n:Int):Fu (.const (.int k n))=false:=rfl
theorem Az0 (b:Bool):Fu (.const (.bool b))=false:=rfl
theorem Bj2 (b:ByteArray):Fu (.const (.string b))=false:=rfl
theorem Bj3 (b:Option Addr):Fu (.const (.pointer b))=false:=rfl
theorem Bj4 (b:Option Nat):Fu (.const (.map b))=false:=rfl
theorem Ca2:Fu (.const .nilFunc)=false:=rfl
theorem Ca3:Fu (.const .nilIface)=false:=rfl
theorem Bj5 (a:Array Value):Fu (.const (.agg a))=false:=rfl
theorem Bj6:Fu (.const (.slice none 0 0))=true:=rfl
end
attribute [go_sem] Bi9 Mm Db3 Ca1 Db4 Bj0 Ai5 Ay9 Bj1 Az0 Bj2 Bj3 Bj4 Ca2 Ca3 Bj5 Bj6
theorem Si {P:Program} {t:TypeId} {c:Bool} {op:BinOp} {dst:Option Nat} {K:DK} {s:DS} {a:Bool} {b:Bool}:Km P t c op dst (.bool a) (.bool b) K s=Lk dst (Mf op) (Pg c (P.underlying t) (.bool a) (.bool b)) K s:=rfl
theorem Sj {P:Program} {t:TypeId} {c:Bool} {op:BinOp} {dst:Option Nat} {K:DK} {s:DS}:Km P t c op dst (.nilPtr) (.nilPtr) K s=Lk dst (Mf op) (Pg c (P.underlying t) (.nilPtr) (.nilPtr)) K s:=rfl
theorem Qc {P:Program} {t:TypeId} {c:Bool} {op:BinOp} {dst:Option Nat} {K:DK} {s:DS} {r:Nat} {o:Nat}:Km P t c op dst (.nilPtr) (.optr r o) K s=Lk dst (Mf op) (Pg c (P.underlying t) (.nilPtr) (.optr r o)) K s:=rfl
theorem Ph {P:Program} {t:TypeId} {c:Bool} {op:BinOp} {dst:Option Nat} {K:DK} {s:DS} {o:Nat} {cs:List DVal}:Km P t c op dst (.nilPtr) (.vptr cs o) K s=Lk dst (Mf op) (Pg c (P.underlying t) (.nilPtr) (.vptr cs o)) K s:=rfl
theorem Qd {P:Program} {t:TypeId} {c:Bool} {op:BinOp} {dst:Option Nat} {K:DK} {s:DS} {r:Nat} {o:Nat}:Km P t c op dst (.optr r o) (.nilPtr) K s=Lk dst (Mf op) (Pg c (P.underlying t) (.optr r o) (.nilPtr)) K s:=rfl
theorem Pj {P:Program} {t:TypeId} {c:Bool} {op:BinOp} {dst:Option Nat} {K:DK} {s:DS} {o:Nat} {cs:List DVal}:Km P t c op dst (.vptr cs o) (.nilPtr) K s=Lk dst (Mf op) (Pg c (P.underlying t) (.vptr cs o) (.nilPtr)) K s:=rfl
theorem Na {P:Program} {t:TypeId} {c:Bool} {op:BinOp} {dst:Option Nat} {K:DK} {s:DS} {i:TypeId} {v:DVal}:Km P t c op dst (.nilIface) (.iface i v) K s=Lk dst (Mf op) (Pg c (P.underlying t) (.nilIface) (.iface i v)) K s:=rfl
theorem Nb {P:Program} {t:TypeId} {c:Bool} {op:BinOp} {dst:Option Nat} {K:DK} {s:DS} {i:TypeId} {v:DVal}:Km P t c op dst (.iface i v) (.nilIface) K s=Lk dst (Mf op) (Pg c (P.underlying t) (.iface i v) (.nilIface)) K s:=rfl
theorem Oa {P:Program} {t:TypeId} {c:Bool} {op:BinOp} {dst:Option Nat} {K:DK} {s:DS}:Km P t c op dst (.nilIface) (.nilIface) K s=Lk dst (Mf op) (Pg c (P.underlying t) (.nilIface) (.nilIface)) K s:=rfl
theorem Qe {P:Program} {t:TypeId} {c:Bool} {op:BinOp} {dst:Option Nat} {K:DK} {s:DS}:Km P t c op dst (.nilFunc) (.nilFunc) K s=Lk dst (Mf op) (Pg c (P.underlying t) (.nilFunc) (.nilFunc)) K s:=rfl
theorem Nc {P:Program} {t:TypeId} {c:Bool} {op:BinOp} {dst:Option Nat} {K:DK} {s:DS} {f:Fn} {x:List DVal} {y:List DVal}:Km P t c op dst (.func f x y) (.nilFunc) K s=Lk dst (Mf op) (Pg c (P.underlying t) (.func f x y) (.nilFunc)) K s:=rfl
theorem Nd {P:Program} {t:TypeId} {c:Bool} {op:BinOp} {dst:Option Nat} {K:DK} {s:DS} {f:Fn} {x:List DVal} {y:List DVal}:Km P t c op dst (.nilFunc) (.func f x y) K s=Lk dst (Mf op) (Pg c (P.underlying t) (.nilFunc) (.func f x y)) K s:=rfl
theorem Ob {P:Program} {t:TypeId} {c:Bool} {op:BinOp} {dst:Option Nat} {K:DK} {s:DS}:Km P t c op dst (.nilSlice) (.nilSlice) K s=Lk dst (Mf op) (Pg c (P.underlying t) (.nilSlice) (.nilSlice)) K s:=rfl
theorem Jr {P:Program} {t:TypeId} {c:Bool} {op:BinOp} {dst:Option Nat} {K:DK} {s:DS} {r:Nat} {o:Nat} {n:Nat} {l:Nat} {z:Nat}:Km P t c op dst (.oslice z r o n l) (.nilSlice) K s=Lk dst (Mf op) (Pg c (P.underlying t) (.oslice z r o n l) (.nilSlice)) K s:=rfl
theorem Js {P:Program} {t:TypeId} {c:Bool} {op:BinOp} {dst:Option Nat} {K:DK} {s:DS} {r:Nat} {o:Nat} {n:Nat} {l:Nat} {z:Nat}:Km P t c op dst (.nilSlice) (.oslice z r o n l) K s=Lk dst (Mf op) (Pg c (P.underlying t) (.nilSlice) (.oslice z r o n l)) K s:=rfl
theorem Bj7 {P:Program} {dst:Option Nat} {K:DK} {s:DS} {k k1 k2:IntKind} {n:Int}:Ps P dst (some (.int k)) (some (.int k1)) (.int k2 n) K s=Bb dst (.int k1 (k1.wrap n)) K s:=rfl
theorem Bj8 {P:Program} {dst:Option Nat} {K:DK} {s:DS} {l:List UInt8}:Ps P dst (some .string) (some .string) (.str l) K s=Bb dst (.str l) K s:=rfl
theorem Ca4 (t:Nat):Fa (.tmp t)=false:=rfl
theorem Ca5 (t:Nat):Fa (.global t)=false:=rfl
theorem Ca6 (t:Nat):Fa (.func t)=false:=rfl
theorem Db5 (P:Program) (n:Nat) (t:TypeId) (xs ys:List DVal):Vl P (n+1) t xs ys=Rp P (Vl P n) t xs ys (P.underlying t):=rfl
theorem Ca7 (v:Value):(DVal.raw v).cells= [.raw v]:=rfl
theorem Bj9 (b:Bool):(DVal.bool b).cells= [.bool b]:=rfl
theorem Cm3 (b:Bool):(DVal.bool b).one=true:=rfl
theorem Ca8 (k:IntKind) (n:Int):(DVal.int k n).cells= [.int k n]:=rfl
theorem Db6 (k:IntKind) (n:Int):(DVal.int k n).one=true:=rfl
theorem Ca9 (s:List UInt8):(DVal.str s).cells= [.str s]:=rfl
theorem Db7 (s:List UInt8):(DVal.str s).one=true:=rfl
theorem Ar0:(DVal.nilPtr).cells= [.nilPtr]:=rfl
theorem Bk0:(DVal.nilPtr).one=true:=rfl
theorem Bk1 (c:List DVal) (o:Nat):(DVal.vptr c o).cells= [.vptr c o]:=rfl
theorem Cm4 (c:List DVal) (o:Nat):(DVal.vptr c o).one=true:=rfl
theorem Bk2 (r o:Nat):(DVal.optr r o).cells= [.optr r o]:=rfl
theorem Cm5 (r o:Nat):(DVal.optr r o).one=true:=rfl
theorem Aa3:(DVal.nilSlice).cells= [.nilSlice]:=rfl
theorem Ar1:(DVal.nilSlice).one=true:=rfl
theorem Ar2 (c:List DVal) (n:Nat):(DVal.vslice c n).cells= [.vslice c n]:=rfl
theorem Bk3 (c:List DVal) (n:Nat):(DVal.vslice c n).one=true:=rfl
theorem Ar3 (z r o n l:Nat):(DVal.oslice z r o n l).cells= [.oslice z r o n l]:=rfl
theorem Bk4 (z r o n l:Nat):(DVal.oslice z r o n l).one=true:=rfl
theorem Ar4:(DVal.nilMap).cells= [.nilMap]:=rfl
theorem Bk5:(DVal.nilMap).one=true:=rfl
theorem Bk6 (r:Nat):(DVal.omap r).cells= [.omap r]:=rfl
theorem Cm6 (r:Nat):(DVal.omap r).one=true:=rfl
theorem Bk7 (f:Fn) (a c:List DVal):(DVal.func f a c).cells= [.func f a c]:=rfl
theorem Cm7 (f:Fn) (a c:List DVal):(DVal.func f a c).one=true:=rfl
theorem Ai6:(DVal.nilFunc).cells= [.nilFunc]:=rfl
theorem Az1:(DVal.nilFunc).one=true:=rfl
theorem Az2 (t:TypeId) (v:DVal):(DVal.iface t v).cells= [.iface t v]:=rfl
theorem Cb0 (t:TypeId) (v:DVal):(DVal.iface t v).one=true:=rfl
theorem Aa4:(DVal.nilIface).cells= [.nilIface]:=rfl
theorem Ar5:(DVal.nilIface).one=true:=rfl
theorem Az3 (v:List DVal):(DVal.tuple v).cells= [.tuple v]:=rfl
theorem Cb1 (v:List DVal):(DVal.tuple v).one=false:=rfl
theorem Cb2 (c:List DVal):(DVal.agg c).cells=c:=rfl
theorem Db8 (c:List DVal):(DVal.agg c).one=false:=rfl
theorem Cb3:Ei .add=false:=rfl
theorem Cb4:Ei .sub=false:=rfl
theorem Cb5:Ei .mul=false:=rfl
theorem Cb6:Ei .quo=false:=rfl
theorem Cb7:Ei .rem=false:=rfl
theorem Cb8:Ei .and=false:=rfl
theorem Cm8:Ei .or=false:=rfl
theorem Cb9:Ei .xor=false:=rfl
theorem Ar6:Ei .andNot=false:=rfl
theorem Cc0:Ei .eql=false:=rfl
theorem Cc1:Ei .neq=false:=rfl
theorem Cc2:Ei .lss=false:=rfl
theorem Cc3:Ei .leq=false:=rfl
theorem Cc4:Ei .gtr=false:=rfl
theorem Cc5:Ei .geq=false:=rfl
theorem Cc6:Ei .shl=true:=rfl
theorem Cc7:Ei .shr=true:=rfl
theorem Ai7:Cv (some (.bool))=true:=rfl
theorem Az4:Jo (some (.bool))=false:=rfl
theorem Ar7 (k:IntKind):Cv (some (.int k))=true:=rfl
theorem Yq:Cv (some (.string))=true:=rfl
theorem Ai8:Jo (some (.string))=false:=rfl
theorem Ai9:Vp (some (.string))=true:=rfl
theorem Vy (e:TypeId):Cv (some (.pointer e))=true:=rfl
theorem Aa5 (e:TypeId):Jo (some (.pointer e))=false:=rfl
theorem Aa6 (e:TypeId):Cv (some (.slice e))=true:=rfl
theorem Ar8 (e:TypeId):Jo (some (.slice e))=false:=rfl
theorem Ar9 (e:TypeId):Vp (some (.slice e))=true:=rfl
theorem Aa7 (n:Nat) (e:TypeId):Cv (some (.array n e))=true:=rfl
theorem As0 (n:Nat) (e:TypeId):Jo (some (.array n e))=false:=rfl
theorem As1 (k e:TypeId):Cv (some (.map k e))=true:=rfl
theorem Bk8 (k e:TypeId):Jo (some (.map k e))=false:=rfl
theorem Yr (f:Array Field):Cv (some (.struct f))=true:=rfl
theorem Aj0 (f:Array Field):Jo (some (.struct f))=false:=rfl
theorem Aj1 (p r:Array TypeId) (v:Bool):Cv (some (.func p r v))=true:=rfl
theorem Az5 (p r:Array TypeId) (v:Bool):Jo (some (.func p r v))=false:=rfl
theorem Aa8 (e:Array TypeId):Cv (some (.tuple e))=true:=rfl
theorem As2 (e:Array TypeId):Jo (some (.tuple e))=false:=rfl
theorem Sk (m:Array (String×TypeId)):Cv (some (.interface m))=false:=rfl
theorem Bk9 (b:Bool):Cu (.bool b)= .bool b:=rfl
theorem Cc8 (k:IntKind) (n:Int):Cu (.int k n)= .int k n:=rfl
theorem As3 (l:List UInt8):Cu (.string (ByteArray.mk l.toArray))= .str l:=rfl
theorem As4:Cu (.pointer none)= .nilPtr:=rfl
theorem Aa9:Cu (.slice none 0 0)= .nilSlice:=rfl
theorem As5:Cu (.map none)= .nilMap:=rfl
theorem Aj2:Cu (.nilFunc)= .nilFunc:=rfl
theorem Ab0:Cu (.nilIface)= .nilIface:=rfl
theorem Cc9 (l:List Value):Cu (.agg l.toArray)= .agg (Fq l):=rfl
theorem Az6 (l:List Value):Cu (.tuple l.toArray)= .tuple (Fq l):=rfl
theorem Bl0 (f:Fn) (a c:List Value):Cu (.func f a.toArray c.toArray)= .func f (Fq a) (Fq c):=rfl
attribute [go_sem] Cl7 Bz5 Bi7 Cl8 Bz7 Bi8 Db1 Cl9 Bz8 Cm0 Bz9 Cm1 Db2 Aa Ca0 Cm2 List.toList_toArray jI jG List.getElem?_cons_zero List.getElem?_cons_succ List.getElem?_nil true_and and_true eq_self
attribute [go_sem] dop.eq_1 dop.eq_2 dop.eq_3 dop.eq_4 dop.eq_5 dop.eq_6 dop.eq_7 dop.eq_8 dop.eq_9 dop.eq_10 dop.eq_11 dop.eq_12
attribute [go_sem] dop.eq_13 dop.eq_14 dop.eq_15 dop.eq_16 dop.eq_17 dop.eq_18 dop.eq_19 dop.eq_20 dop.eq_21 dop.eq_22 dop.eq_23 dop.eq_24
attribute [go_sem] dop.eq_25 dop.eq_26 dop.eq_27 dop.eq_28 dop.eq_29 dop.eq_30 dop.eq_31 Rq.eq_1 Rq.eq_2 Du3.eq_1 Du3.eq_2 Bs8.eq_1
attribute [go_sem] Sc.eq_1 Sc.eq_2 Sc.eq_3 Dn6.eq_1 Ps.eq_1 Ap8.eq_1 Bh5.eq_1 Bs9.eq_1 Bb.eq_1 Mz.eq_1 Mz.eq_2 dev.eq_1
attribute [go_sem] dev.eq_2 dev.eq_3 dev.eq_4 El.eq_1 El.eq_2 Kn.eq_1 Kn.eq_2 Hq.eq_1 Hq.eq_2 Ep.eq_1 Ep.eq_2 Aw5.eq_1
attribute [go_sem] Ck4.eq_1 Ck4.eq_2 Ap4.eq_1 Ap4.eq_2 Ox.eq_1 Ox.eq_2 Bh3.eq_1 Zl.eq_1 Bh4.eq_1 Bh4.eq_2 Tk.eq_1 Tk.eq_2
attribute [go_sem] Mj.eq_1 Zm.eq_1 Zm.eq_2 Zm.eq_3 Ap5.eq_1 Ak4.eq_1 Ak4.eq_2 Bs3.eq_1 Ap6.eq_1 Rb.eq_1 Rb.eq_2 Rb.eq_3
attribute [go_sem] Rb.eq_4 Rb.eq_5 Pg.eq_1 Pg.eq_2 Pg.eq_3 Pg.eq_4 Pg.eq_5 Pg.eq_6 Pg.eq_7 Pg.eq_8 Pg.eq_9 Pg.eq_10
attribute [go_sem] Pg.eq_11 Pg.eq_12 Pg.eq_13 Pg.eq_14 Pg.eq_15 Dn4.eq_1 Dn4.eq_2 Ft.eq_1 Ft.eq_2 Ft.eq_3 Bs4.eq_1 Bs4.eq_2
attribute [go_sem] Aw6.eq_1 Aw6.eq_2 Aw7.eq_1 Bs5.eq_1 Bs6.eq_1 Dj8.eq_1 Dj8.eq_2 Rp.eq_1 Rp.eq_2 Rp.eq_3 Rp.eq_4 Rp.eq_5
attribute [go_sem] Lk.eq_1 Lk.eq_2 Mf.eq_1 Mf.eq_2 Fa.eq_1 Yw.eq_1 Yw.eq_2 Yw.eq_3 Yw.eq_4 Yw.eq_5 Yw.eq_6 Yw.eq_7
attribute [go_sem] Yw.eq_8 Yw.eq_9 Yw.eq_10 Yw.eq_11 Yw.eq_12 Yw.eq_13 Yw.eq_14 Yw.eq_15 Ap7.eq_1 Ap7.eq_2 Tl.eq_1 Tl.eq_2
attribute [go_sem] Tl.eq_3 Tl.eq_4 Tl.eq_5 Tl.eq_6 Tl.eq_7 Bs7.eq_1 Bs7.eq_2 Km.eq_1 Km.eq_2 Km.eq_3 dUn.eq_1 dUn.eq_2
attribute [go_sem] dUn.eq_3 Tm.eq_1 Tm.eq_2 Nr.eq_1 Nr.eq_2 Xo.eq_1 Xo.eq_2 Ns.eq_1 dLo.eq_1 dLo.eq_2 dHi.eq_1 dHi.eq_2
attribute [go_sem] Vm.eq_1 Tn.eq_1 Nu.eq_1 Ap9.eq_1 Dk0.eq_1 Vn.eq_1 Vn.eq_2 Vn.eq_3 Vn.eq_4 Vn.eq_5 Vn.eq_6 Vn.eq_7
attribute [go_sem] Yx.eq_1 Yx.eq_2 Xp.eq_1 Xp.eq_2 Lm.eq_1 Aw8.eq_1 Aw8.eq_2 Aw8.eq_3 Bt0.eq_1 Bt0.eq_2 Zn.eq_1 Ln.eq_1
attribute [go_sem] Ln.eq_2 Ln.eq_3 Zo.eq_1 Zo.eq_2 To.eq_1 Zp.eq_1 Zp.eq_2 Vo.eq_1 Vo.eq_2 Vo.eq_3 Vo.eq_4 Kg.eq_1
attribute [go_sem] Kg.eq_2 dLen.eq_1 dLen.eq_2 dLen.eq_3 dLen.eq_4 dLen.eq_5 Bh6.eq_1 Ak5.eq_1 Pt.eq_1 Pt.eq_2 Pt.eq_3 Pt.eq_4
attribute [go_sem] Jn.eq_1 Jn.eq_2 Aw9.eq_1 Aw9.eq_2 Yy.eq_1 Vq.eq_1 Ck5.eq_1 Ck5.eq_2 Ck5.eq_3 Ck6.eq_1 Zq.eq_1 Bt1.eq_1
attribute [go_sem] Aq0.eq_1 Aq0.eq_2 Zr.eq_1 Ax0.eq_1 Jo.eq_1 Tp.eq_1 Tq.eq_1 Tq.eq_2 Pu.eq_1 Pu.eq_2 Pu.eq_3 Pu.eq_4
attribute [go_sem] Sd.eq_1 Sd.eq_2 Sd.eq_3 Jb.eq_1 Jb.eq_2 Mk.eq_1 Mk.eq_2 Mk.eq_3 Bt2.eq_1 Ak6.eq_1 Pv.eq_1 Da0.eq_1
attribute [go_sem] Da0.eq_2 Tr.eq_1 Zs.eq_1 Rc.eq_1 Bh7.eq_1 Zt.eq_1 Zt.eq_2 Bh8.eq_1 Yz.eq_1 Yz.eq_2 Ax1.eq_1 Ax1.eq_2
attribute [go_sem] Zu.eq_1 Zv.eq_1 Ts.eq_1 Ak7.eq_1 Pw.eq_1 Pw.eq_2 dMM.eq_1 Px.eq_1 Px.eq_2 Px.eq_3 Re.eq_1 Re.eq_2
attribute [go_sem] Bh9.eq_1 Bh9.eq_2 Zw.eq_1 Zw.eq_2 Se.eq_1 Hv.eq_1 Hv.eq_2 Hv.eq_3 Hv.eq_4 Hv.eq_5 Hv.eq_6 Hv.eq_7
attribute [go_sem] Hv.eq_8 Nv.eq_1 Nv.eq_2 Nv.eq_3 Ml.eq_1 Ml.eq_2 Ml.eq_3 Vr.eq_1 Vr.eq_2 Vr.eq_3 Vr.eq_4 Vr.eq_5
attribute [go_sem] Vr.eq_6 Aq1.eq_1 Aq1.eq_2 Xq.eq_1 Xq.eq_2 Xq.eq_3 Xq.eq_4 Xq.eq_5 Aq2.eq_1 Aq2.eq_2 Aq3.eq_1 Aq3.eq_2
attribute [go_sem] Aq3.eq_3 Aq3.eq_4 Aq3.eq_5 Bt3.eq_1 Bt3.eq_2 Bt3.eq_3 Bt3.eq_4 Bt3.eq_5 Ax2.eq_1 Ax2.eq_2 Cr.eq_1 Fq.eq_1
attribute [go_sem] Fq.eq_2 Si Sj Qc Ph Qd Pj Na Nb Oa Qe Nc
attribute [go_sem] Nd Ob Jr Js Bj7 Bj8 Ca4 Ca5 Ca6 Db5 Ca7 Bj9
attribute [go_sem] Cm3 Ca8 Db6 Ca9 Db7 Ar0 Bk0 Bk1 Cm4 Bk2 Cm5 Aa3
attribute [go_sem] Ar1 Ar2 Bk3 Ar3 Bk4 Ar4 Bk5 Bk6 Cm6 Bk7 Cm7 Ai6
attribute [go_sem] Az1 Az2 Cb0 Aa4 Ar5 Az3 Cb1 Cb2 Db8 Cb3 Cb4 Cb5
attribute [go_sem] Cb6 Cb7 Cb8 Cm8 Cb9 Ar6 Cc0 Cc1 Cc2 Cc3 Cc4 Cc5
attribute [go_sem] Cc6 Cc7 Ai7 Az4 Ar7 Yq Ai8 Ai9 Vy Aa5 Aa6 Ar8
attribute [go_sem] Ar9 Aa7 As0 As1 Bk8 Yr Aj0 Aj1 Az5 Aa8 As2 Sk
attribute [go_sem] Bk9 Cc8 As3 As4 Aa9 As5 Aj2 Ab0 Cc9 Az6 Bl0
end Go.Dl

-- THE DATA LEVEL, PART W: code, functions.
namespace Go.Dl
open Go
section
variable {P:Program} {G:Nat->DVal} {N:Fr}
variable {s s0:DS} {a:Act} {w w0:World} {Q:DExit->DS->Prop}
theorem Lq.refl (s:DS):Lq G s s:=fun w hH hG=>⟨hH,fun b h=>h,hG,fun i x h=>h⟩
theorem Lq.sim {s':DS} (h:Lq G s s') (hS:Sim G N s a w):Sim G N s' a w/\Ext s.heap w s'.heap w:=by
 obtain⟨h1,h2,h3,h4⟩:=h w hS.heap hS.glob;exact⟨⟨hS.size,hS.defers.less h2,fun i hi=>h4 i _ (hS.tmps i hi),h1,h3,hS.base⟩,⟨rfl,rfl,rfl,Nat.le_refl _,fun _ _ _=>rfl,fun b hb=> .inl (h2 b hb),fun _ _=>rfl,fun _ _ _=>rfl⟩⟩
theorem Bl1 {e:Exit} {a':Act} {w' w1:World} {s1:DS} (h:Kp G N Q s1 w1 e a' w') (hE:Ext s0.heap w0 s1.heap w1):Kp G N Q s0 w0 e a' w':=by
 obtain⟨e',s',hq,hx,hS,hE'⟩:=h;exact⟨e',s',hq,hx,hS,hE.trans hE'⟩
theorem Bl2 {F:Fence} {n:Nat} {c:Code} {ι:Type} (I:ι->DS->Prop) (μ:ι->Nat) (i:ι) (hS:Sim G N s a w) (hI:I i s) (hE:Ext s0.heap w0 s.heap w)
  (round: ∀i s a w,Sim G N s a w->I i s->c.wpIn F n P (Kp G N (Xq (fun s1=> ∃j s2,Lq G s1 s2/\I j s2/\μ j<μ i) Q) s w) a w):(Code.loop c).wpIn F n P (Kp G N Q s0 w0) a w:=by
 intro b k cs hro hb hr;have key: ∀n i s a w,μ i=n->I i s->Sim G N s a w->Ext s0.heap w0 s.heap w->
   ∃e a' w',Kp G N Q s0 w0 e a' w'/\ArrivesIn (Machine.fenced P F) P (lone (b.atR a (.code c:: .inLoop c::k)) cs w) b k cs e a' w':=by
  intro n
  induction n using Nat.strongRecOn with
  | _ n ih=>
   intro i s a w hn hI hS hE;obtain⟨e,a₁,w₁,hq,harr⟩:=round i s a w hS hI b (.inLoop c::k) cs hro hb hr;obtain⟨e',s₁,hQ,hX,hS₁,hE₁⟩:=hq;have hE':=hE.trans hE₁;cases hX with
   | normal=>
    obtain⟨j,s₂,hg,hI₂,hlt⟩:=hQ;obtain⟨hS₂,hE₂⟩:=hg.sim hS₁;obtain⟨e₂,a₂,w₂,hq₂,harr₂⟩:=ih (μ j) (hn▸hlt) j s₂ a₁ w₁ rfl hI₂ hS₂ (hE'.trans hE₂);exact⟨e₂,a₂,w₂,hq₂, .of_steps (StepsIn.trans harr (.one (fenced_calm hb hr rfl) stepR_inLoop)) harr₂⟩
   | exit id=>exact⟨_,a₁,w₁,⟨_,s₁,hQ, .exit id,hS₁,hE'⟩, .pass (x:= .inLoop c) rfl (fun _ _=> .inl (by simp)) harr⟩
   | goto l=>exact⟨_,a₁,w₁,⟨_,s₁,hQ, .goto l,hS₁,hE'⟩, .pass (x:= .inLoop c) rfl (fun _ _=> .inl (by simp)) harr⟩
   | ret=>exact⟨_,a₁,w₁,⟨_,s₁,hQ, .ret,hS₁,hE'⟩, .pass (x:= .inLoop c) rfl (fun _ _=> .inl (by simp)) harr⟩
   | panic d v hv=>exact⟨_,a₁,w₁,⟨_,s₁,hQ, .panic d v hv,hS₁,hE'⟩, .pass (x:= .inLoop c) rfl (fun _ _=> .inl (by simp)) harr⟩
 obtain⟨e,a',w',hq,harr⟩:=key _ i s a w rfl hI hS hE;exact⟨e,a',w',hq, .of_steps (.one (fenced_calm hb hr rfl) stepR_loop) harr⟩
theorem Rn {F:Fence} {n:Nat} {c:Code} {Q1 Q2:Exit->Act->World->Prop} (h:c.wpIn F n P Q1 a w) (hq: ∀e a w,Q1 e a w->(∀l,e≠ .goto l)/\Q2 e a w):(Code.scope c).wpIn F n P Q2 a w:=by
 intro b k cs hro hb hr;have h0:(lone (b.atR a (.code (.scope c)::k)) cs w).fenced P F:=fenced_calm hb hr rfl;have s0:step P (lone (b.atR a (.code (.scope c)::k)) cs w)= .next (lone (b.atR a (.code c:: .inScope c::k)) cs w):=step_lone_go (by simp [stepG,stepG.exec,Frame.atR])
 have s1: ∀(a:Act) (w:World),step P (lone (b.atR a (.inScope c::k)) cs w)= .next (lone (b.atR a k) cs w):=fun a w=>step_lone_go (by simp [stepG,stepG.exec,Frame.atR])
 obtain⟨e,a₁,w₁,hq1,harr⟩:=h b (.inScope c::k) cs hro hb hr;obtain⟨hg,hq2⟩:=hq _ _ _ hq1;cases e with
 | normal=>exact⟨.normal,a₁,w₁,hq2, .head h0 s0 (StepsIn.trans harr (.one (fenced_calm hb hr rfl) (s1 _ _)))⟩
 | exit id=>
  have hx:exitTo id (.inScope c::k)=exitTo id k:=by simp [exitTo]
  exact⟨.exit id,a₁,w₁,hq2,fun k' hk=> .head h0 s0 (harr.1 k' (by rw[hx];exact hk)),
   fun hr' hk=>let ⟨k₁,h1,h2⟩:=harr.2 hr' (by rw[hx];exact hk);⟨k₁,h1, .head h0 s0 h2⟩⟩
 | goto l=>exact absurd rfl (hg l)
 | ret=>exact⟨_,a₁,w₁,hq2, .of_steps (.one h0 s0) harr⟩
 | panic ch=>exact⟨_,a₁,w₁,hq2, .of_steps (.one h0 s0) harr⟩
 | outgrown=>exact⟨_,a₁,w₁,hq2, .of_steps (.one h0 s0) harr⟩
def Pk:Code->Bool
 | .seq a b=>Pk a&&Pk b
 | .cond _ a b=>Pk a&&Pk b
 | .block _ c=>Pk c
 | .loop c=>Pk c
 | .scope c=>Pk c
 | .rangeFunc _ _ _ _=>false
 | _=>true
theorem Em {N:Nat} {F:Fence} {n:Nat} {B:Base} (hF:FOk F): ∀(c:Code),Fe N c=true->(F=Fence.wide/\B.still=false\/Pk c=true)-> ∀(Q:DExit->DS->Prop) (s:DS),dwp P G N c Q s->
  ∀(a:Act) (w:World),Sim G ⟨N,B⟩ s a w->c.wpIn F n P (fun e a' w'=> ∃e' s',Q e' s'/\RelX w' s'.heap e' e/\Sim G ⟨N,B⟩ s' a' w'/\Ext s.heap w s'.heap w') a w
 | .skip,_,_,Q,s,h=>fun a w hS=>wpIn_skip ⟨.normal,s,h, .normal,hS,Ext.refl _ _⟩
 | .label l,_,_,Q,s,h=>fun a w hS=>wpIn_label ⟨.normal,s,h, .normal,hS,Ext.refl _ _⟩
 | .region id ops false,hok,_,Q,s,h=>fun a w hS=>by
  have hok':ops.toList.all (Gr N)=true:=by
   have:ops.all (Gr N)=true:=hok;rw[Aa2] at this;exact this
  have h1:=Sh (n:=n) hF (P:=P) (G:=G) (N:=⟨N,B⟩) (s0:=s) (w0:=w) (Q:=Q) ops.toList hok' ops.toList hok' s a w hS (Ext.refl _ _) h;have:ops=ops.toList.toArray:=by simp
  rw[this];exact wpIn_region_lit h1
 | .region id ops true,_,_,Q,s,h=>fun a w hS=>h F n B hF a w hS
 | .seq x y,hok,hfl,Q,s,h=>fun a w hS=>by
  simp only[Fe,jF] at hok;simp only[Pk,jF] at hfl;refine wpIn_seq (wpIn_mono (Em hF x hok.1 (hfl.imp id (·.1)) _ s h a w hS) ?_);rintro e a' w' ⟨e',s',hQ,hX,hS',hE⟩;cases hX with
  | normal=>exact wpIn_mono (Em hF y hok.2 (hfl.imp id (·.2)) Q s' hQ a' w' hS') fun e a w he=>Bl1 he hE
  | exit id=>exact⟨_,s',hQ, .exit id,hS',hE⟩
  | goto l=>exact⟨_,s',hQ, .goto l,hS',hE⟩
  | ret=>exact⟨_,s',hQ, .ret,hS',hE⟩
  | panic d v hv=>exact⟨_,s',hQ, .panic d v hv,hS',hE⟩
 | .cond c x y,hok,hfl,Q,s,h=>fun a w hS=>by
  simp only[Fe,jF] at hok;simp only[Pk,jF] at hfl;have r:=Ax hS hok.1.1;simp only[dwp] at h;cases hv:dev G s.env c<;>rw[hv] at h r<;>try exact h.elim
  rename_i b
  simp only[Rel] at r;cases b
  ·exact wpIn_cond_false r (Em hF y hok.2 (hfl.imp id (·.2)) Q s h a w hS)
  ·exact wpIn_cond_true r (Em hF x hok.1.2 (hfl.imp id (·.1)) Q s h a w hS)
 | .block id c,hok,hfl,Q,s,h=>fun a w hS=>by
  simp only[Fe] at hok;simp only[Pk] at hfl;refine wpIn_block (wpIn_mono (Em hF c hok hfl _ s h a w hS) ?_);rintro e a' w' ⟨e',s',hQ,hX,hS',hE⟩;cases hX with
  | normal=>exact⟨_,s',hQ, .normal,hS',hE⟩
  | exit id'=>
   simp only[Exit.inBlock];simp only[Aq3] at hQ;by_cases hid:id'=id
   ·rw[if_pos hid];simp only[hid,decide_true,Aq2] at hQ;exact⟨_,s',hQ, .normal,hS',hE⟩
   ·rw[if_neg hid];simp only[hid,decide_false,Aq2] at hQ;exact⟨_,s',hQ, .exit id',hS',hE⟩
  | goto l=>exact⟨_,s',hQ, .goto l,hS',hE⟩
  | ret=>exact⟨_,s',hQ, .ret,hS',hE⟩
  | panic d v hv=>exact⟨_,s',hQ, .panic d v hv,hS',hE⟩
 | .loop c,hok,hfl,Q,s,h=>fun a w hS=>by
  simp only[Fe] at hok;simp only[Pk] at hfl;obtain⟨ι,I,μ,⟨i,s',hg,hI⟩,hround⟩:=h;obtain⟨hS',hE'⟩:=hg.sim hS;exact Bl2 I μ i hS' hI hE' fun i1 s1 a1 w1 hS1 hI1=>Em hF c hok hfl _ s1 (hround i1 s1 hI1) a1 w1 hS1
 | .rangeFunc _ _ _ _,_,hfl,_,_,h=>fun a w hS=>by
  rcases hfl with⟨rfl,hst⟩ | hfl
  ·exact h n B hst a w hS
  ·cases hfl
 | .exit id,_,_,Q,s,h=>fun a w hS=>wpIn_exit ⟨.exit id,s,h, .exit id,hS,Ext.refl _ _⟩
 | .scope c,hok,hfl,Q,s,h=>fun a w hS=>by
  simp only[Fe] at hok;simp only[Pk] at hfl;refine Rn (Em hF c hok hfl _ s h a w hS) ?_;rintro e a' w' ⟨e',s',hQ,hX,hS',hE⟩;cases hX with
  | normal=>exact⟨by simp,_,s',hQ, .normal,hS',hE⟩
  | exit id'=>exact⟨by simp,_,s',hQ, .exit id',hS',hE⟩
  | goto l=>exact hQ.elim
  | ret=>exact⟨by simp,_,s',hQ, .ret,hS',hE⟩
  | panic d v hv=>exact⟨by simp,_,s',hQ, .panic d v hv,hS',hE⟩
 | .goto l,_,_,Q,s,h=>fun a w hS=>wpIn_goto ⟨.goto l,s,h, .goto l,hS,Ext.refl _ _⟩
 | .ret,_,_,Q,s,h=>fun a w hS=>wpIn_ret ⟨.ret,s,h, .ret,hS,Ext.refl _ _⟩
 | .refuse _,_,_,_,_,h=>h.elim
theorem Bl3 {N:Nat} (c:Code) (hok:Fe N c=true) (Q:DExit->DS->Prop) (s:DS) (h:dwp P G N c Q s):Du2 P G N c Q s:=
 fun _ _ hst a w hS=>Em (.inl rfl) c hok (.inl ⟨rfl,hst⟩) Q s h a w hS
def Bl4 (size:Nat) (cs:List DVal) (off:Nat):Option Bool->Option DVal
 | some true=>if off+size<=cs.length then some (.agg ((cs.drop off).take size)) else none
 | some false=>cs[off]?
 | none=>none
def Ua (size:Nat) (ag:Option Bool) (off:Nat):Option DObj->Option DVal
 | some (.cells cs _)=>Bl4 size cs off ag
 | _=>none
def Cm9 (size:Nat) (ag:Option Bool) (H:Ab):DVal->Option DVal
 | .optr r off=>Ua size ag off (H r)
 | _=>none
def Az7 (P:Program) (s:DS):ResultVar->Option DVal
 | .tmp t=>some (s.env t)
 | .cell x t=>Cm9 (P.cellsOf t) (Dv P t) s.heap (s.env x)
def Dk3:Option DVal->Option (List DVal)->Option (List DVal)
 | some d,some ds=>some (d::ds)
 | _,_=>none
def Kh (P:Program) (s:DS):List ResultVar->Option (List DVal)
 | []=>some []
 | r::rs=>Dk3 (Az7 P s r) (Kh P s rs)
def Hr:Option (List DVal)->Option DVal
 | some [d]=>some d
 | some ds=>some (.tuple ds)
 | none=>none
def Pl (R:DEnd->Ab->Prop) (v:DVal) (H:Ab):Prop:=
 ∃v' H',(∀w,Av w H->Av w H'/\(∀b,H' b≠none->H b≠none)/\ ∀x,Rel w H v x->Rel w H' v' x)/\R (.ret v') H'
def Bu0 (R:DEnd->Ab->Prop) (v:DVal) (H:Ab):Prop:=
 ∃v' H',(∀w,Av w H->Av w H'/\(∀b,H' b≠none->H b≠none)/\ ∀x,Rel w H v x->Rel w H' v' x)/\R (.panic v') H'
def Al2 (R:DEnd->Ab->Prop) (H:Ab):Option DVal->Prop
 | some v=>Pl R v H
 | none=>False
def Cn0 (P:Program) (rs:List ResultVar) (R:DEnd->Ab->Prop):DExit->DS->Prop
 | .normal,s=>Al2 R s.heap (Hr (Kh P s rs))
 | .ret,s=>Al2 R s.heap (Hr (Kh P s rs))
 | .panic v,s=>Bu0 R v s.heap
 | _,_=>False
def Lt:List DVal->Nat->(Nat->DVal)
 | [],_=>fun _=>Cr
 | x::xs,k=>upd (Lt xs (k+1)) k x
def Ab1 (N:Nat):ResultVar->Bool
 | .tmp t=>decide (t<N)
 | .cell x _=>decide (x<N)
theorem Pl.refl {R:DEnd->Ab->Prop} {v:DVal} {H:Ab} (h:R (.ret v) H):Pl R v H:=⟨v,H,fun w hH=>⟨hH,fun b hb=>hb,fun x hx=>hx⟩,h⟩
theorem Bu0.refl {R:DEnd->Ab->Prop} {v:DVal} {H:Ab} (h:R (.panic v) H):Bu0 R v H:=⟨v,H,fun w hH=>⟨hH,fun b hb=>hb,fun x hx=>hx⟩,h⟩
theorem Cn1 (hS:Sim G N s a w) {r:ResultVar} (hr:Ab1 N r=true) {d:DVal} (h:Az7 P s r=some d):
  ∃x,((match r with
  | .tmp t=>pure (a.tmps.getD t undef)
  | .cell x t=>do loadVar t (←asAddr (a.tmps.getD x undef))):Sem Value).run P w= .ok x w/\Rel w s.heap d x:=by
 cases r with
 | tmp t=>
  simp only[Az7] at h;cases h
  exact⟨_,rfl,hS.tmps t (by simpa [Ab1] using hr)⟩
 | cell x t=>
  simp only[Az7] at h
  have rx:=hS.tmps x (by simpa [Ab1] using hr)
  cases hv:s.env x<;>rw[hv] at h rx<;>simp only[Cm9] at h<;>try (cases h;done)
  rename_i r0 off
  simp only[Rel] at rx
  cases hh:s.heap r0 with
  | none=>rw[hh] at h;cases h
  | some ob=>
   cases ob with
   | loop=>rw[hh] at h;simp only[Ua] at h;cases h
   | iter=>rw[hh] at h;simp only[Ua] at h;cases h
   | map=>rw[hh] at h;simp only[Ua] at h;cases h
   | cells cs e=>
    rw[hh] at h
    simp only[Ua] at h
    obtain⟨xs,hl,hho⟩:=hS.heap.holds hh
    have hlx:=hl.length
    have e0: ∀z,(do loadVar t (←asAddr z):Sem Value)=(do let ad<-asAddr z;loadVar t ad):=fun z=>rfl
    simp only[rx,asAddr]
    cases hag:Dv P t with
    | none=>rw[hag] at h;cases h
    | some ag=>
     rw[hag] at h
     cases ag with
     | true=>
      simp only[Bl4] at h
      split at h<;>try (cases h;done)
      rename_i hle
      cases h
      have hx:Kq w r0 off ((xs.drop off).take (P.cellsOf t)):=by
       have:=(hho.drop (n:=off)).take (n:=P.cellsOf t)
       simpa using this
      have hln:((xs.drop off).take (P.cellsOf t)).length=P.cellsOf t:=by
       simp;omega
      refine⟨_,by simp [Oy hag hx hln];rfl, ?_⟩
      simp only[Rel]
      exact⟨_,rfl,(hl.drop off).take _⟩
     | false=>
      simp only[Bl4] at h
      obtain⟨x,hx,hrel⟩:=hl.get h
      have:=hho off x hx
      rw[Nat.zero_add] at this
      exact⟨x,by simp [Oz hag this],hrel⟩
theorem Az8 (hS:Sim G N s a w): ∀ {rs:List ResultVar},rs.all (Ab1 N)=true-> ∀ {ds:List DVal},Kh P s rs=some ds->
  ∃xs,(rs.mapM (fun r=>(match r with
  | .tmp t=>pure (a.tmps.getD t undef)
  | .cell x t=>do loadVar t (←asAddr (a.tmps.getD x undef)):Sem Value))).run P w= .ok xs w/\An w s.heap ds xs
 | [],_,ds,h=>by
  simp only[Kh] at h;cases h
  exact⟨[],by simp,by simp [An]⟩
 | r::rs,hok,ds,h=>by
  simp only[List.all_cons,jF] at hok
  simp only[Kh] at h
  cases h1:Az7 P s r with
  | none=>rw[h1] at h;cases h
  | some d=>
   cases h2:Kh P s rs with
   | none=>rw[h1,h2] at h;cases h
   | some ds'=>
    rw[h1,h2] at h
    simp only[Dk3] at h;cases h
    obtain⟨x,hx,hr⟩:=Cn1 (P:=P) hS hok.1 h1
    obtain⟨xs,hxs,hrs⟩:=Az8 hS hok.2 h2
    refine⟨x::xs, ?_,by simp only[An];exact⟨x,xs,rfl,hr,hrs⟩⟩
    simp only[List.mapM_cons,Sem.run_bind,hx,hxs,Result.andThen_ok,Sem.run_pure]
theorem Xt (hS:Sim G N s a w) {fn:Func} (hok:fn.results.toList.all (Ab1 N)=true) {d:DVal} (h:Hr (Kh P s fn.results.toList)=some d):
  ∃x,(results fn a.tmps).run P w= .ok x w/\Rel w s.heap d x:=by
 cases h2:Kh P s fn.results.toList with
 | none=>rw[h2] at h;cases h
 | some ds=>
  rw[h2] at h
  obtain⟨xs,hxs,hrs⟩:=Az8 (P:=P) hS hok h2
  have hrun:(results fn a.tmps).run P w= .ok (if h:xs.toArray.size=1 then xs.toArray[0] else .tuple xs.toArray) w:=by
   unfold results
   rw[Array.mapM_eq_mapM_toList]
   simp only[Sem.run_bind,Sem.run_map]
   have:(fn.results.toList.mapM (fun r=>(match r with
    | .tmp t=>pure (a.tmps.getD t undef)
    | .cell x t=>do loadVar t (←asAddr (a.tmps.getD x undef)):Sem Value))).run P w= .ok xs w:=hxs
   first
    | rw[this]
    | (show((Sem.run P (fn.results.toList.mapM (fun r=>(match r with
    | .tmp t=>pure (a.tmps.getD t undef)
    | .cell x t=>do loadVar t (←asAddr (a.tmps.getD x undef)):Sem Value))) w).andThen _).andThen _=_;rw[this])
   rfl
  have hl:=hrs.length
  refine⟨_,hrun, ?_⟩
  cases ds with
  | nil=>
   simp only[Hr] at h;cases h
   simp only[An] at hrs;subst hrs
   simp only[Rel]
   exact⟨#[],rfl,by simp [An]⟩
  | cons d1 ds=>
   cases ds with
   | nil=>
    simp only[Hr] at h;cases h
    simp only[An] at hrs
    obtain⟨y,ys,rfl,hy,rfl⟩:=hrs
    simpa using hy
   | cons d2 ds=>
    simp only[Hr] at h;cases h
    have:xs.toArray.size≠1:=by simp at hl⊢;omega
    rw[dif_neg this]
    simp only[Rel]
    exact⟨_,rfl,hrs⟩
theorem Vz: ∀(args:List DVal) (k i:Nat),Lt args k (k+i)=args.getD i Cr
 | [],k,i=>rfl
 | x::xs,k,0=>by simp [Lt,upd]
 | x::xs,k,i+1=>by
  simp only[Lt,upd];rw[if_neg (by omega)];have:=Vz xs (k+1) i;rw[show k+(i+1)=k+1+i by omega,this];simp
def Du7 (fn:Func) (n:Nat):Bool:=
 decide (n<=fn.ntmps)&&(match fn.body with | some c=>Fe fn.ntmps c | none=>false)&&fn.results.toList.all (Ab1 fn.ntmps)
theorem Cd0 {w:World} {D:Nat} (hD:w.heap[D]? =some (.deferred (some []))) (H:Ab):Lasts H w H (w.putObj D (.deferred none)):=Nz hD rfl rfl H
theorem Db9 {w:World} {D:Nat} {H:Ab} (hD:w.heap[D]? =some (.deferred (some []))) (hH:Av w H) (hn:H D=none):Av (w.putObj D (.deferred none)) H:=Bi5 hD rfl rfl hH hn
theorem Dc0 {w w0:World} {D:Nat} {H H0:Ab} (hD:w.heap[D]? =some (.deferred (some []))) (hB:w0.heap.size<=D) (hE:Ext H0 w0 H w):Ext H0 w0 H (w.putObj D (.deferred none)):=by
 refine⟨hE.os,hE.tape,hE.output,by simpa [World.putObj] using hE.size,fun b hb hn=> ?_,hE.own,fun b hb=> ?_,fun a ha hn=> ?_⟩
 ·rw[World.putObj_heap_other (by omega)];exact hE.block b hb hn
 ·rw[World.putObj_heap_other (by omega)];exact hE.keep b hb
 ·rw[<-hE.fz a ha hn];exact Ak9 hD rfl rfl a
theorem Sim.leaveT {F:Fence} {n:Nat} {H0:Ab} {w0:World} {fn:Func} {tmps:Array Value} {R:Ending->World->Prop} {u:FrameMode} {T:List Deferred} (hu:u≠ .run) (hB:N.base=⟨w0.heap.size,T,false⟩) {a:Act}:
  ∀(Ds:List Nat) (w:World),Ds.Nodup->(∀D∈Ds,(N.base.b<=D/\N.base.still=false)/\w.heap[D]? =some (.deferred (some []))/\s.heap D=none)->
   Sim G N s { tmps:=a.tmps,defers:=Ds.map (fun D=>({ target:= .collected D,args:= #[] }:Deferred))++T } w->Ext H0 w0 s.heap w->
   (∀w',Sim G N s { tmps:=a.tmps,defers:=T } w'->Ext H0 w0 s.heap w'->Lasts s.heap w s.heap w'->LeavesInM F n P fn tmps R T u w')->
   LeavesInM F n P fn tmps R (Ds.map (fun D=>({ target:= .collected D,args:= #[] }:Deferred))++T) u w
 | [],w,_,_,hS,hE,h=>h w hS hE (Ext.refl _ _).lasts
 | D::Ds,w,h2,h3,hS,hE,h=>by
  have hB':N.base.b=w0.heap.size:=by rw[hB]
  have hT:N.base.late=T:=by rw[hB]
  obtain⟨g1,g2,g3⟩:=h3 D (by simp);have hl:=Cd0 g2 s.heap;have hnd:=List.nodup_cons.1 h2;have h4: ∀D'∈Ds,(N.base.b<=D'/\N.base.still=false)/\(w.putObj D (.deferred none)).heap[D']? =some (.deferred (some []))/\s.heap D'=none:=fun D' hD'=>⟨(h3 D' (by simp [hD'])).1,by
   have hne:D'≠D:=fun e=>hnd.1 (by rw[<-e];exact hD');rw[World.putObj_heap_other hne];exact(h3 D' (by simp [hD'])).2.1,(h3 D' (by simp [hD'])).2.2⟩
  refine⟨hu, .inl ⟨D,_,rfl,run_takeDeferred g2,Sim.leaveT hu hB Ds _ hnd.2 h4 ?_ (Dc0 g2 (by omega) hE) fun w' hS' hE' hl'=>h w' hS' hE' ?_⟩⟩
  ·exact⟨hS.size,⟨Ds,by rw[hT],hnd.2,h4⟩,
    fun i hi=>Rel.lasts hl _ _ (hS.tmps i hi),Db9 g2 hS.heap g3,hS.glob.lasts hl,by simpa [World.putObj] using hS.base⟩
  ·exact⟨fun b i x hb hc=>hl'.cell b i x hb (hl.cell b i x hb hc).2,Nat.le_trans hl.size hl'.size,fun b hb=>by rw[hl'.keep b (Nat.lt_of_lt_of_le hb hl.size),hl.keep b hb]⟩
theorem Sim.leaveL {F:Fence} {n:Nat} {H0:Ab} {w0:World} {fn:Func} {tmps:Array Value} {R:Ending->World->Prop} {u:FrameMode} {T:List Deferred} (hu:u≠ .run) (hB:N.base=⟨w0.heap.size,T,false⟩) {a:Act}
  (ds:List Deferred) (w:World) (hS:Sim G N s { tmps:=a.tmps,defers:=ds } w) (hE:Ext H0 w0 s.heap w)
  (h: ∀w',Sim G N s { tmps:=a.tmps,defers:=T } w'->Ext H0 w0 s.heap w'->Lasts s.heap w s.heap w'->LeavesInM F n P fn tmps R T u w'):LeavesInM F n P fn tmps R ds u w:=by
 obtain⟨Ds,h1,h2,h3⟩:=hS.defers;have hT:N.base.late=T:=by rw[hB]
 rw[hT] at h1;dsimp only at h1;subst h1;exact Sim.leaveT hu hB Ds w h2 h3 hS hE h
theorem Sim.leave {F:Fence} {n:Nat} {H0:Ab} {w0:World} {fn:Func} {tmps:Array Value} {R:Ending->World->Prop} {u:FrameMode} (hu:u≠ .run) (hB:N.base=⟨w0.heap.size,[],false⟩) {a:Act}:
  ∀(ds:List Deferred) (w:World),Sim G N s { tmps:=a.tmps,defers:=ds } w->Ext H0 w0 s.heap w->
   (∀w',Sim G N s { tmps:=a.tmps,defers:= [] } w'->Ext H0 w0 s.heap w'->Lasts s.heap w s.heap w'->LeavesIn F n P fn tmps R [] u w')->LeavesInM F n P fn tmps R ds u w:=
 fun ds w hS hE h=>Sim.leaveL (T:= []) hu hB ds w hS hE h
theorem Ac {f:FuncId} {fn:Func} {c:Code} {args:List DVal} {H:Ab} {R:DEnd->Ab->Prop} (hf:P.funcs[f]? =some fn)
  (hcall: ∀vs w,(callFunc f vs).run P w= .ok (.enter f vs) w) (hb:fn.body=some c) (hk:Du7 fn args.length=true)
  (h:dwp P G fn.ntmps c (Cn0 P fn.results.toList R) ⟨Lt args 0,H⟩):Ae P G f args H R:=by
 unfold Du7 at hk;rw[hb] at hk;simp only[jF,decide_eq_true_eq] at hk;obtain⟨⟨hA,hok⟩,hres⟩:=hk;refine⟨hcall,fun vs w hv hH hG=> ?_⟩;have hl:=hv.length;refine(callsIn_wide (n:=0)).1 (callsIn_of_wp_marks hf hb trivial ?_);have hS:Sim G ⟨fn.ntmps,⟨w.heap.size,[],false⟩⟩ ⟨Lt args 0,H⟩ { tmps:=vs.toArray++Array.replicate (fn.ntmps-vs.toArray.size) undef,defers:= [] } w:=by
  refine⟨by simp;omega,Dfs.nil _ _ _,fun i hi=> ?_,hH,hG,Nat.le_refl _⟩;have h0:=Vz args 0 i;rw[Nat.zero_add] at h0;show Rel w H (Lt args 0 i) _;rw[h0];by_cases hlt:i<args.length
  ·have h1:args[i]? =some (args.getD i Cr):=by simp [List.getD,List.getElem?_eq_getElem hlt]
   obtain⟨x,hx,hr⟩:=hv.get h1;have:(vs.toArray++Array.replicate (fn.ntmps-vs.toArray.size) undef).getD i undef=x:=by
    have hlt':i<vs.length:=by omega
    rw[Array.getD_eq_getD_getElem?,Array.getElem?_append_left (by simpa using hlt')];simp [hx]
   rw[this];exact hr
  ·have h1:args.getD i Cr=Cr:=by simp [List.getD,List.getElem?_eq_none (Nat.le_of_not_lt hlt)]
   have:(vs.toArray++Array.replicate (fn.ntmps-vs.toArray.size) undef).getD i undef=undef:=by
    rw[Array.getD_eq_getD_getElem?,Array.getElem?_append_right (by simp;omega)];simp only[Array.getElem?_replicate];split<;>rfl
   rw[h1,this];exact Nw w H
 refine wpIn_mono (Bl3 c hok _ _ h 0 ⟨w.heap.size,[],false⟩ rfl _ w hS) ?_;rintro e a' w1 ⟨e',s',hQ,hX,hS1,hE1⟩;have fin: ∀(v:DVal),Hr (Kh P s' fn.results.toList)=some v->Pl R v s'.heap->
   LeavesInM Fence.wide 0 P fn a'.tmps (fun e w'=> ∃e' H',R e' H'/\RelE w' H' e' e/\Av w' H'/\Ext H w H' w') a'.defers .returning w1:=by
  intro v hv hfin;refine Sim.leave (a:=a') (by simp) rfl a'.defers w1 hS1 hE1 fun w' hS' hE' _=> ?_;obtain⟨x,hx,hr⟩:=Xt (P:=P) hS' hres hv;obtain⟨v',H',hg,hR⟩:=hfin;obtain⟨g1,g2,g3⟩:=hg w' hS'.heap;exact⟨x,hx, .ret v',H',hR, .ret v' x (g3 x hr),g1,hE'.trans ⟨rfl,rfl,rfl,Nat.le_refl _,fun _ _ _=>rfl,fun b hb=> .inl (g2 b hb),fun _ _=>rfl,fun _ _ _=>rfl⟩⟩
 cases hX with
 | normal=>
  simp only[Cn0] at hQ;cases hd:Hr (Kh P s' fn.results.toList) with
  | none=>rw[hd] at hQ;exact hQ.elim
  | some v=>rw[hd] at hQ;exact fin v hd hQ
 | ret=>
  simp only[Cn0] at hQ;cases hd:Hr (Kh P s' fn.results.toList) with
  | none=>rw[hd] at hQ;exact hQ.elim
  | some v=>rw[hd] at hQ;exact fin v hd hQ
 | exit id=>exact hQ.elim
 | goto l=>exact hQ.elim
 | panic d v hv=>
  obtain⟨v',H',hg,hR⟩:=hQ;refine Sim.leave (a:=a') (by simp) rfl a'.defers w1 hS1 hE1 fun w' hS' hE' hl=> ?_;obtain⟨g1,g2,g3⟩:=hg w' hS'.heap;exact⟨.panic v',H',hR, .panic v' v (g3 v (Rel.lasts hl _ _ hv)),g1,hE'.trans ⟨rfl,rfl,rfl,Nat.le_refl _,fun _ _ _=>rfl,fun b hb=> .inl (g2 b hb),fun _ _=>rfl,fun _ _ _=>rfl⟩⟩
end
attribute [go_sem] Bl4.eq_1 Bl4.eq_2 Ua.eq_1 Cm9.eq_1 Az7.eq_1 Az7.eq_2 Dk3.eq_1 Kh.eq_1 Kh.eq_2 Hr.eq_1 Al2.eq_1 Cn0.eq_1 Cn0.eq_2 Cn0.eq_3 Lt.eq_1 Lt.eq_2
theorem Bl5 (x y:DVal) (zs:List DVal):Hr (some (x::y::zs))=some (.tuple (x::y::zs)):=rfl
theorem Bl6:Hr (some [])=some (.tuple []):=rfl
attribute [go_sem] Bl5 Bl6
end Go.Dl

-- THE DATA LEVEL, PART X: plain data seen at this level; small words.
namespace Go.Dl
open Go
theorem Cd1 {n:Int} (h1: -9223372036854775808<=n) (h2:n<=9223372036854775807):IntKind.wrap .i64 n=n:=IntWalk.i64_in n ⟨h1,h2⟩
abbrev dI (n:Int):DVal:= .int .i64 n
theorem Bt4.run {G:Nat->DVal} {body:(DExit->DS->Prop)->DK} {Q:DExit->DS->Prop} {s:DS} {ι:Type} (I:ι->(Nat->DVal)->Ab->Prop) (μ:ι->Nat) (i:ι) (h0:I i s.env s.heap)
  (hr: ∀i env heap,I i env heap->body (Xq (fun s1=> ∃j s2,Lq G s1 s2/\I j s2.env s2.heap/\μ j<μ i) Q) ⟨env,heap⟩):Bt4 G body Q s:=
 ⟨ι,fun i s=>I i s.env s.heap,μ,⟨i,s,Lq.refl s,h0⟩,fun i s h=>hr i s.env s.heap h⟩
theorem Dk4 {G:Nat->DVal} {ι:Type} {I:ι->(Nat->DVal)->Ab->Prop} {μ:ι->Nat} {s:DS} {m:Nat} (j:ι) (h:I j s.env s.heap) (hm:μ j<m): ∃j s2,Lq G s s2/\I j s2.env s2.heap/\μ j<m:=⟨j,s,Lq.refl s,h,hm⟩
theorem Do7 {a b:Prop} (h:a):(a/\b)=b:=by simp [h]
theorem Cn2 {p:Prop} [Decidable p] (h:p):decide p=true:=by simp [h]
theorem Cd2 {p:Prop} [Decidable p] (h: ¬p):decide p=false:=by simp [h]
theorem Aj {α:Type} (f:Nat->α) (i j:Nat) (v:α) (h:j≠i):upd f i v j=f j:=by simp [upd,h]
end Go.Dl
