/- The data level and the contracts of the functions that are reached (part 2). -/
import Derived.Laws.BytesString
import Derived.Laws.RangeString
import Derived.Orders
import Derived.Test.YtpcbhialfjiaaaaGreatDoorPfa
set_option linter.unusedSimpArgs false
set_option linter.unusedVariables false
set_option linter.unusedSectionVars false
-- THE DATA LEVEL, PART T: further operations: type assertions, built-in functions, calls.
namespace Go.Dl
open Go
section
variable {P:Program} {G:Nat->DVal} {N:Fr}
variable {o:Oper} {s:DS} {a:Act} {w:World} {K:DK} {Q:DExit->DS->Prop} {Qx:Exit->Act->World->Prop}
theorem Ry {t:TypeId} (h:Df (P.underlying t)=true): ∃d,P.underlying t=some d/\ ∀m,d≠ .interface m:=by
 cases hu:P.underlying t with
 | none=>rw[hu] at h;cases h
 | some d=>refine⟨d,rfl,fun m e=> ?_⟩;rw[hu,e] at h;cases h
theorem Ar3 (hS:Sim G N s a w) (hd:By N o.dst=true) {x:Operand} {xt t:TypeId} {ok:Bool} (hx:Bf N x=true) (he:o.op= .typeAssert x xt t ok)
  (h:Ke P t ok o.dst (Df (P.underlying t)) (dev G s.env x) K s):PV P o s a w K:=by
 have rx:=Ax hS hx;generalize hn:Df (P.underlying t)=nb at h;generalize dev G s.env x=dx at h rx;unfold Ke at h;split at h
 ·rename_i t0 v0
  obtain⟨d,hu,hni⟩:=Ry hn;simp only[Rel] at rx;obtain⟨y,hp,hy⟩:=rx;have hrun:(execOp a.eval o).run P w=((Instr.typeAssert (.iface t0 y) xt t ok).run P w).andThen fun v w'=> .ok (.value v) w':=by
   simp [execOp,he,hp]
  have hta:(Instr.typeAssert (.iface t0 y) xt t ok).run P w=if t0=t then .ok (if ok then .tuple #[y, .bool true] else y) w else((if ok then(do pure (.tuple #[<-zeroValue t, .bool false])) else runtimePanic (.typeAssertion (some xt) (some t0) t "")):Sem Value).run P w:=by
   simp only[Instr.typeAssert,Sem.run_bind,run_underlying hu,Result.andThen_ok];cases d<;>first | exact absurd rfl (hni _) | (by_cases e:t0=t<;>simp [e])
  by_cases e:t0=t
  ·subst e;simp only[decide_true] at h;rw[hta,if_pos rfl] at hrun;cases ok
   ·exact pvI hS hd hrun hy h
   ·refine pvI hS hd hrun ?_ h;simp only[Rel];exact⟨_,rfl,by simp only[if_true,Aq,Rel];exact⟨_,_,rfl,hy,_,_,rfl,rfl,rfl⟩⟩
  ·simp only[e,decide_false] at h;cases ok
   ·exact h.elim
   ·simp only[Vu] at h;cases hz:Bj P t with
    | none=>rw[hz] at h;exact h.elim
    | some z=>
     rw[hz] at h;obtain⟨i,v,hi,hiz,rfl⟩:=Ip hz;have hzv:(zeroValue t).run P w= .ok v w:=by simp [zeroValue,Kw hi,hiz]
     rw[hta,if_neg e] at hrun;refine pvI hS hd (x:= .tuple #[v, .bool false]) (by rw[hrun];simp [hzv]) ?_ h;simp only[Rel];exact⟨_,rfl,by simp only[Aq,Rel];exact⟨_,_,rfl,Em w s.heap v,_,_,rfl,rfl,rfl⟩⟩
 ·obtain⟨d,hu,hni⟩:=Ry hn;obtain⟨rfl,h⟩:=h;simp only[Rel] at rx;cases hz:Bj P t with
  | none=>rw[hz] at h;exact h.elim
  | some z=>
   rw[hz] at h;obtain⟨i,v,hi,hiz,rfl⟩:=Ip hz;have hzv:(zeroValue t).run P w= .ok v w:=by simp [zeroValue,Kw hi,hiz]
   refine pvI hS hd (x:= .tuple #[v, .bool false]) ?_ ?_ h
   ·simp only[execOp,he,rx,Instr.typeAssert,Sem.run_bind,run_underlying hu,Result.andThen_ok];cases d<;>first | exact absurd rfl (hni _) | simp [hzv]
   ·simp only[Rel];exact⟨_,rfl,by simp only[Aq,Rel];exact⟨_,_,rfl,Em w s.heap v,_,_,rfl,rfl,rfl⟩⟩
 ·exact h.elim
theorem Fm {c:Call} {b:Builtin} (he:o.op= .call c) (hc:c.callee= .builtin b):
  execOp a.eval o=builtin b c.argTypes o.type (c.args.map fun | .const _=>true | _=>false) (c.args.map a.eval):=by
 simp only[execOp,he,resolve,hc];rfl
theorem Ua {xs:List Operand} {d:DVal} (h:Eo G s.env xs= [d]): ∃x,xs= [x]/\dev G s.env x=d:=by
 cases xs with
 | nil=>simp [Eo] at h
 | cons x xs=>cases xs with
  | nil=>simp [Eo] at h;exact⟨x,rfl,h⟩
  | cons y ys=>simp [Eo] at h
theorem Ay5 {xs:List Operand} {d e:DVal} (h:Eo G s.env xs= [d,e]): ∃x y,xs= [x,y]/\dev G s.env x=d/\dev G s.env y=e:=by
 cases xs with
 | nil=>simp [Eo] at h
 | cons x xs=>cases xs with
  | nil=>simp [Eo] at h
  | cons y ys=>cases ys with
   | nil=>simp [Eo] at h;exact⟨x,y,rfl,h.1,h.2⟩
   | cons z zs=>simp [Eo] at h
theorem Dm9 (hS:Sim G N s a w) (hd:By N o.dst=true) {c:Call} {x:Operand} (hx:Bf N x=true) (he:o.op= .call c) (hc:c.callee= .builtin .len) (hargs:c.args.toList= [x]) {t:TypeId} (hts:c.argTypes.toList= [t])
  (h:dLen o.dst (P.underlying t) (dev G s.env x) K s):PV P o s a w K:=by
 have rx:=Ax hS hx;have hm:c.args.map a.eval= #[a.eval x]:=by apply Array.ext';simp [hargs]
 have hex:=Fm (a:=a) he hc;rw[hm] at hex;have ht':c.argTypes[0]? =some t:=by rw[<-Array.getElem?_toList,hts];rfl
 generalize hu:P.underlying t=u at h;generalize dev G s.env x=dx at h rx;unfold dLen at h;split at h
 ·simp only[Rel] at rx;exact Ol hS hd (by rw[hex];simp [builtin,Builtin.len_,ht',run_underlying hu,rx,goInt];rfl) h
 ·exact Ol hS hd (by rw[hex];simp [builtin,Builtin.len_,ht',run_underlying hu,goInt]) h
 ·simp only[Rel] at rx;exact Ol hS hd (by rw[hex];simp [builtin,Builtin.len_,ht',run_underlying hu,rx,goInt]) h
 ·simp only[Rel] at rx;obtain⟨_,_,rx,_⟩:=rx;exact Ol hS hd (by rw[hex];simp [builtin,Builtin.len_,ht',run_underlying hu,rx,goInt]) h
 ·simp only[Rel] at rx;obtain⟨_,_,rx,_⟩:=rx;exact Ol hS hd (by rw[hex];simp [builtin,Builtin.len_,ht',run_underlying hu,rx,goInt]) h
 ·exact h.elim
theorem Xt {H:Ac} (isMax:Bool): ∀(ys:List DVal) (vs:List Value) (x:DVal) (v:Value) (r:DVal),Aq w H ys vs->Rel w H x v->Qi isMax (some x) ys=some r->
  ∃u,(vs.foldlM (if isMax then Builtin.max2 else Builtin.min2) v).run P w= .ok u w/\Rel w H r u
 | [],vs,x,v,r,hl,hx,h=>by
  simp only[Aq] at hl;subst hl;simp only[Qi] at h;cases h;exact⟨v,by simp,hx⟩
 | y::ys,vs,x,v,r,hl,hx,h=>by
  simp only[Aq] at hl;obtain⟨u,us,rfl,hy,hl⟩:=hl;simp only[Qi] at h;cases hm:dMM isMax x y with
  | none=>rw[hm] at h;cases ys<;>cases h
  | some z=>
   rw[hm] at h;unfold dMM at hm;split at hm<;>try (cases hm;done)
   rename_i k m k' n
   simp only[Rel] at hx hy;subst hx;subst hy;cases hm;obtain⟨q,hq,hr⟩:=Xt isMax ys us _ (.int k (if isMax then(if n>m then n else m) else(if n<m then n else m))) r hl (by simp [Rel]) h;refine⟨q,?_,hr⟩;cases isMax
   ·simpa [Builtin.min2] using hq
   ·simpa [Builtin.max2] using hq
theorem Ay6 (hS:Sim G N s a w) (hd:By N o.dst=true) {c:Call} {isMax:Bool} (hx:c.args.toList.all (Bf N)=true) (he:o.op= .call c) (hc:c.callee= .builtin (if isMax then .max else .min))
  (h:Nm o.dst (Rj isMax (Eo G s.env c.args.toList)) K s):PV P o s a w K:=by
 have rl:=Ls hS hx;have hex:=Fm (a:=a) he hc;obtain⟨d,hd',hK⟩:=Gc h;have hm:(c.args.map a.eval).toList=c.args.toList.map a.eval:=by simp
 generalize hvs:c.args.toList.map a.eval=vs at rl hm;generalize Eo G s.env c.args.toList=ds at rl hd';cases ds with
 | nil=>cases hd'
 | cons x rest=>
  simp only[Aq] at rl;obtain⟨v,us,rfl,hx',hl⟩:=rl;simp only[Rj] at hd';obtain⟨u,hu,hr⟩:=Xt (P:=P) isMax rest us x v d hl hx' hd';refine pvI hS hd ?_ hr hK;rw[hex];cases isMax
  ·simp at hu;simp only[builtin,Builtin.min_,hm,Bool.false_eq_true,if_false,Sem.run_bind,hu,Result.andThen_ok,Sem.run_pure]
  ·simp at hu;simp only[builtin,Builtin.max_,hm,if_true,Sem.run_bind,hu,Result.andThen_ok,Sem.run_pure]
end
end Go.Dl

-- THE DATA LEVEL, PART U: append.
namespace Go.Dl
open Go
section
variable {P:Program} {G:Nat->DVal} {N:Fr}
variable {o:Oper} {s:DS} {a:Act} {w:World} {K:DK} {Q:DExit->DS->Prop} {Qx:Exit->Act->World->Prop}
def Bj4 (P:Program) (w:World) (size:Nat) (x:Value) (n:Nat) (vs:List Value):Prop:=
 (Builtin.lenOf x).run P w= .ok n w/\ ∀k,(Builtin.firstCells size n x).run P { w with drawn:=k }= .ok vs.toArray { w with drawn:=k }
theorem Qk {b off k:Nat} {xs:List Value} (h:Ie w b off xs):Ie { w with drawn:=k } b off xs:=h
theorem Bj5 {size:Nat} {y:DVal} {v:Value} {H:Ac} (hH:Av w H) (hv:Rel w H y v) {n:Nat} {news:List DVal} (hs:Qg size H y=some (n,news)) (hl:news.length=n*size):
  ∃vs,Bj4 P w size v n vs/\Aq w H news vs:=by
 unfold Qg at hs;split at hs
 ·cases hs;simp only[Rel] at hv;subst hv;exact⟨[],⟨by simp [Builtin.lenOf],fun k=>by simp [Builtin.firstCells]⟩,by simp [Aq]⟩
 ·cases hs;simp only[Rel] at hv;obtain⟨ad,cap,rfl,_,hc⟩:=hv;rcases hc with rfl | ⟨b,o',xs,rfl,hc,hr⟩
  ·have hz:n*size=0:=by simpa using hl.symm
   refine⟨[],⟨by simp [Builtin.lenOf],fun k=> ?_⟩,by simp [Aq]⟩;cases ad with
   | none=>simp [Builtin.firstCells]
   | some ad=>
    simp [Builtin.firstCells,hz,loadCells,loadCellsFrom]
  ·refine⟨xs.take (n*size),⟨by simp [Builtin.lenOf],fun k=> ?_⟩,hr.take _⟩;have hlx:=hr.length;have hlen:(xs.take (n*size)).length=n*size:=by
    simp only[List.length_take] at hl⊢;omega
   have:=Dq (P:=P) (w:= { w with drawn:=k }) (Ie.take (n:=n*size) (Qk hc.holds));rw[hlen] at this;simpa [Builtin.firstCells] using this
 ·rename_i sz r off n' lo
  unfold Am2 at hs;split at hs<;>try (cases hs;done)
  rename_i cs e hh
  cases hs;simp only[Rel] at hv;obtain⟨o',cap,rfl,_,hcap,hoff,_⟩:=hv;obtain⟨xs,hr,hho⟩:=hH.holds hh;by_cases hc0:cap=0
  ·have hn:n=0:=by omega
   subst hn;refine⟨[],⟨by simp [Builtin.lenOf],fun k=>by simp [Builtin.firstCells,loadCells,loadCellsFrom]⟩,?_⟩;simp [Aq]
  ·have:o'=off:=hoff.resolve_left hc0;subst this;refine⟨(xs.drop o').take (n*size),⟨by simp [Builtin.lenOf],fun k=> ?_⟩,(hr.drop _).take _⟩;have hlx:=hr.length;have hlen:((xs.drop o').take (n*size)).length=n*size:=by
    simp only[List.length_take,List.length_drop] at hl⊢;omega
   have h1:Ie w r o' (xs.drop o'):=by simpa using hho.drop (n:=o')
   have:=Dq (P:=P) (w:= { w with drawn:=k }) (Ie.take (n:=n*size) (Qk h1));rw[hlen] at this;simpa [Builtin.firstCells] using this
 ·rename_i l
  cases hs;simp only[Rel] at hv;subst hv;have hsz:(ByteArray.mk ⟨l⟩).size=l.length:=rfl;refine⟨l.map fun b=> .int .u8 b.toNat,⟨by simp [Builtin.lenOf,hsz],fun k=> ?_⟩,?_⟩
  ·simp [Builtin.firstCells]
  ·refine Aq.mk (by simp) fun i d x h1 h2=> ?_;simp only[List.getElem?_map,Option.map_eq_some_iff] at h1 h2;obtain⟨b1,e1,rfl⟩:=h1;obtain⟨b2,e2,rfl⟩:=h2;rw[e1] at e2;cases e2;simp [Rel]
 ·cases hs
variable {t t' e:TypeId} {ty:TypeId} {i:TypeInfo} {z:Value} {u:TypeDesc}
theorem Ql (ht:P.underlying t=some (.slice e)) (hu:P.underlying t'=some u) (hu':(∃e',u= .slice e')\/u= .string) (hi:P.info? e=some i) (hz:i.zero=some z)
  {b:Option Addr} {len cap n:Nat} {x:Value} {vs:List Value} (hsrc:Bj4 P w i.size x n vs) (hg:cap<len+n) (hfit:(len+n)*i.bytes<=35184372088832) (hbytes:(len+n:Nat)<=35184372088832)
  {olds:List Value} (ho: ∀k,(Builtin.firstCells i.size len (.slice b len cap)).run P { w with drawn:=k }= .ok olds.toArray { w with drawn:=k }):
  ∃c,len+n<=c/\(Builtin.append_ #[t,t'] ty #[.slice b len cap,x]).run P w=
   .ok (.slice (some ⟨w.heap.size,0,none⟩) (len+n) c) { w.alloc (.cells (olds.toArray++(vs.toArray++Builtin.zeroCells z.cells (c-(len+n)))) e) with drawn:=w.drawn+1 }:=by
 obtain⟨hlen,hcells⟩:=hsrc;refine⟨(Question.appendCap (len+n) cap e).cut (w.tape w.drawn (.appendCap (len+n) cap e)),by simp [Question.cut],?_⟩;have hn: ¬(len+n<=cap):=by omega
 have h48: ¬(Builtin.nextslicecap (len+n) cap*i.bytes>281474976710656):=by
  have:=growslice_fits (need:=len+n) (old:=cap) (bytes:=i.bytes) hg (by omega);omega
 have hc1:=hcells (w.drawn+1);have ho1:=ho (w.drawn+1);have h63: ¬(9223372036854775807<((len:Int)+(n:Int))):=by omega
 simp only[World.drew_eq] at hc1 ho1;rcases hu' with⟨e',rfl⟩ | rfl
 ·simp [Builtin.append_,run_underlying ht,run_underlying hu,sizeOf,typeInfo,zeroValue,hi,hz,hlen,hn,h48,h63,Question.forced,hc1,ho1,newRow];rfl
 ·simp [Builtin.append_,run_underlying ht,run_underlying hu,sizeOf,typeInfo,zeroValue,hi,hz,hlen,hn,h48,h63,Question.forced,hc1,ho1,newRow];rfl
theorem Kc (ht:P.underlying t=some (.slice e)) (hu:P.underlying t'=some u) (hu':(∃e',u= .slice e')\/u= .string) (hi:P.info? e=some i)
  {b:Option Addr} {len cap n:Nat} {x:Value} {vs:List Value} (hsrc:Bj4 P w i.size x n vs) (hg:len+n<=cap) {w':World}
  (hst:(match b with | some ad=>storeCells (ad.add (len*i.size)) vs 0 | none=>pure ()).run P w= .ok () w'):
  (Builtin.append_ #[t,t'] ty #[.slice b len cap,x]).run P w= .ok (.slice b (len+n) cap) w':=by
 obtain⟨hlen,hcells⟩:=hsrc
 have hc1:=hcells w.drawn
 have hw: { w with drawn:=w.drawn }=w:=rfl
 rw[hw] at hc1
 rcases hu' with⟨e',rfl⟩ | rfl
 ·cases b with
  | none=>simp at hst;subst hst;simp [Builtin.append_,run_underlying ht,run_underlying hu,sizeOf,typeInfo,hi,hlen,hg,hc1]
  | some ad=>simp at hst;simp [Builtin.append_,run_underlying ht,run_underlying hu,sizeOf,typeInfo,hi,hlen,hg,hc1,hst]
 ·cases b with
  | none=>simp at hst;subst hst;simp [Builtin.append_,run_underlying ht,run_underlying hu,sizeOf,typeInfo,hi,hlen,hg,hc1]
  | some ad=>simp at hst;simp [Builtin.append_,run_underlying ht,run_underlying hu,sizeOf,typeInfo,hi,hlen,hg,hc1,hst]
theorem Ar4 {u:Option TypeDesc} (h:Vv u=true): ∃d,u=some d/\((∃e',d= .slice e')\/d= .string):=by
 cases u with
 | none=>cases h
 | some d=>cases d<;>first | (exact⟨_,rfl, .inl ⟨_,rfl⟩⟩) | (exact⟨_,rfl, .inr rfl⟩) | (cases h;done)
theorem Bj6 {H:Ac} (hH:Av w H) {r p:Nat} {cs ds:List DVal} {e:TypeId} (hr:H r=some (.cells cs e)) {vs:List Value} (hv:Aq w H ds vs) (h1:ds.all (·.one)=true) (hp:p<=cs.length)
  (hroom: ∀c fz,w.heap[r]? =some (.cells c e fz)->p+ds.length<=c.size) {cs':List DVal} (hcs:cs'=cs.take p++ds):
  ∃w',(storeCells ⟨r,p,none⟩ vs 0).run P w= .ok () w'/\Av w' (upd (upd H r none) r (some (.cells cs' e)))/\Ext H w (upd (upd H r none) r (some (.cells cs' e))) w':=by
 subst hcs;obtain⟨xs,c,fz,g1,g2,g3,g4⟩:=hH r _ hr;obtain⟨tl,htl⟩:=g2;have hlx:=g3.length;have hlv:=hv.length;have hcs:c.size=xs.length+tl.length:=by rw[<-Array.length_toList,<-htl];simp
 have hrm:=hroom c fz g1;obtain⟨w',c',hrun,hheap,hlist,hother,hsize,hos,htape,hout⟩:=Io (P:=P) r p e fz vs 0 c w g1 (by omega) (Ab4 hv h1) g4;have hcsz:c'.size=c.size:=by
  rw[<-Array.length_toList,hlist];simp;omega
 have hupd:upd (upd H r none) r (some (.cells (cs.take p++ds) e))=upd H r (some (.cells (cs.take p++ds) e)):=by
  funext j;simp only[upd];split<;>rfl
 rw[hupd];have hE:Ext H w (upd H r (some (.cells (cs.take p++ds) e))) w':=by
  refine⟨hos,htape,hout,by omega,fun b hb hn=>hother b (fun hbr=>by subst hbr;rw[hr] at hn;cases hn),fun b hb=> ?_,fun b hb=> ?_,fun a _ _=>by
   unfold World.frozen?;by_cases hbr:a.block=r
   ·rw[hbr,hheap,g1]
   ·rw[hother _ hbr]⟩
  ·by_cases hbr:b=r
   ·subst hbr;exact .inl (by rw[hr];simp)
   ·simp only[upd,if_neg hbr] at hb;exact .inl hb
  ·by_cases hbr:b=r
   ·subst hbr;rw[hheap,g1];simp [Jg,hcsz]
   ·rw[hother b hbr]
 refine⟨w',hrun,fun r' o' ho'=> ?_,hE⟩;by_cases hbr:r'=r
 ·subst hbr;simp only[upd,if_pos] at ho';cases ho';refine⟨xs.take p++vs,c',fz,hheap,?_,(Aq.lasts hE.lasts _ _ (g3.take p)).append (Aq.lasts hE.lasts _ _ hv),by rw[hcsz];exact g4⟩;refine⟨c.toList.drop (p+0+vs.length),?_⟩;rw[hlist,<-htl,Nat.add_zero,List.take_append_of_le_length (by omega)]
 ·simp only[upd,if_neg hbr] at ho';rw[hother r' hbr];exact(hH r' o' ho').lasts hE.lasts
theorem Av.letGo {H:Ac} (hH:Av w H) (r:Nat):Av w (upd H r none):=by
 have hl:Lasts H w (upd H r none) w:=⟨fun b i x hb hc=>⟨by simp only[upd];split;rfl;exact hb,hc⟩,Nat.le_refl _,fun _ _=>rfl⟩;intro r' o' ho';by_cases hbr:r'=r
 ·subst hbr;simp [upd] at ho'
 ·simp only[upd,if_neg hbr] at ho';exact(hH r' o' ho').lasts hl
theorem Bx7 {H:Ac} (r:Nat):Ext H w (upd H r none) w:=
 ⟨rfl,rfl,rfl,Nat.le_refl _,fun _ _ _=>rfl,fun b hb=> .inl (by simp only[upd] at hb;split at hb<;>simp_all),fun _ _=>rfl,fun _ _ _=>rfl⟩
theorem Kr (size:Nat) (k:Nat):(Builtin.firstCells size 0 (.slice none 0 0)).run P { w with drawn:=k }= .ok #[] { w with drawn:=k }:=by simp [Builtin.firstCells]
theorem Sn {α:Type} (l m:List α):l<+:l++m:=⟨m,rfl⟩
theorem Ci3 (hS:Sim G N s a w) (hd:By N o.dst=true) {c:Call} {x y:Operand} (hx:Bf N x=true) (hy:Bf N y=true) (he:o.op= .call c) (hc:c.callee= .builtin .append) (hargs:c.args.toList= [x,y]) {t t':TypeId} (htys:c.argTypes.toList= [t,t'])
  (h:Zi P (Vv (P.underlying t')) (dev G s.env x) (dev G s.env y) o.dst (P.underlying t) K s):o.wp P a w (Fg G N K s w) Qx:=by
 have rx:=Ax hS hx;have ry:=Ax hS hy;have hm:c.args.map a.eval= #[a.eval x,a.eval y]:=by apply Array.ext';simp [hargs]
 have hat:c.argTypes= #[t,t']:=by apply Array.ext';simp [htys]
 have hex:execOp a.eval o=(do pure (.value (←Builtin.append_ #[t,t'] o.type #[a.eval x,a.eval y]))):=by
  rw[Fm he hc,hm,hat];rfl
 generalize hut:P.underlying t=ut at h;unfold Zi at h;split at h<;>try exact h.elim
 rename_i e
 obtain⟨hni,hzs,hzc,hpos,hbpos,h⟩:=h;obtain⟨u,hu,hu'⟩:=Ar4 hni;obtain⟨zd,hz⟩:=Option.isSome_iff_exists.1 hzs;rw[hz] at hzc;simp only[Option.all_some,decide_eq_true_eq] at hzc;obtain⟨i,z,hi,hiz,rfl⟩:=Ip hz;have hcsz:P.cellsOf e=i.size:=by simp [Program.cellsOf,hi]
 have hbsz:P.bytesOf e=i.bytes:=by simp [Program.bytesOf,hi]
 have hzlen:z.cells.size=i.size:=by
  have:=(Ho (Em w s.heap z)).length;rw[<-hcsz,<-hzc,this];simp
 rw[hcsz,hbsz] at h;rw[hcsz] at hpos;rw[hbsz] at hbpos;cases hsc:Qg i.size s.heap (dev G s.env y) with
 | none=>rw[hsc] at h;exact h.elim
 | some nn=>
  obtain⟨n,news⟩:=nn;rw[hsc] at h;obtain⟨hnl,hone,h⟩:=h;obtain⟨vs,hsrc,hrel⟩:=Bj5 (P:=P) hS.heap ry hsc hnl;have hvl:=hrel.length;generalize dev G s.env x=dx at h rx;unfold Jk at h;split at h
  ·-- nil
   obtain⟨h0,h1⟩:=h;simp only[Rel] at rx;by_cases hn:n=0
   ·have hK:=h0 hn;subst hn;have hvs:vs= []:=List.length_eq_zero_iff.1 (by omega);subst hvs;have hrun:=Kc (ty:=o.type) (b:=none) (len:=0) (cap:=0) hut hu hu' hi hsrc (by omega) (w':=w) (by simp);refine Gf hS hd (x:= .slice none 0 0) ?_ (by simp [Rel]) hK;rw[hex,rx];simp [hrun]
   ·obtain⟨hfit,hK⟩:=h1 hn;have hn45:n<=35184372088832:=Nat.le_trans (Nat.le_mul_of_pos_right n hbpos) hfit;obtain⟨cp,hcp,hrun⟩:=Ql (ty:=o.type) (b:=none) (len:=0) (cap:=0) (olds:= []) hut hu hu' hi hiz hsrc (by omega) (by simpa using hfit) (by omega) (fun k=>Kr i.size k);refine Tw hS hd (sz:=i.size) (lo:=n) (cap:=cp) (n:=w.drawn+1) (len:=n) (e:=e) (c:= #[]++(vs.toArray++Builtin.zeroCells z.cells (cp-(0+n)))) (by omega) (by omega) ?_ ?_ hrel ?_ hK
    ·simp only[Array.size_append,size_zeroCells,hzlen,List.size_toArray,List.length_nil,Nat.zero_add];have:vs.length=n*i.size:=by omega
     rw[this,<-Nat.add_mul];exact Nat.mul_le_mul_right _ (by omega)
    ·rw[hex,rx];simp only[Nat.zero_add] at hrun;simp [hrun]
    ·simp only[Array.toList_append,List.nil_append];exact Sn _ _
  ·-- a slice of the call's own
   rename_i sz r off len lo
   obtain⟨rfl,h⟩:=h;simp only[Rel] at rx;obtain⟨o',cap,hp,hlo,hcap,hoff,hroom⟩:=rx;cases hh:s.heap r with
   | none=>rw[hh] at h;exact h.elim
   | some ob=>
    cases ob with
    | loop=>rw[hh] at h;exact h.elim
    | iter=>rw[hh] at h;exact h.elim
    | map=>rw[hh] at h;exact h.elim
    | cells cs e'=>
     rw[hh] at h;obtain⟨rfl,hin,hout⟩:=h;by_cases hle:len+n<=lo
     ·-- in place, within what is known
      obtain⟨hfits,hK⟩:=hin hle;have hmul:(len+n)*i.size=len*i.size+n*i.size:=Nat.add_mul _ _ _;by_cases hc0:cap=0
      ·have hl0:len=0:=by omega
       have hn0:n=0:=by omega
       subst hl0;subst hn0;have hvs:vs= []:=List.length_eq_zero_iff.1 (by omega);have hns:news= []:=List.length_eq_zero_iff.1 (by omega);subst hvs;subst hns;have hrun:=Kc (ty:=o.type) (b:=some ⟨r,o',none⟩) (len:=0) (cap:=cap) hut hu hu' hi hsrc (by omega) (w':=w) (by simp [storeCells]);have hsp:Cz cs (off+0*i.size) []=cs:=by simp [Cz]
       have hup:upd s.heap r (some (.cells (Cz cs (off+0*i.size) []) e'))=s.heap:=by
        funext j;rw[hsp];simp only[upd];split
        ·rename_i hj;rw[hj,hh]
        ·rfl
       rw[hup] at hK;refine Gf hS hd (x:= .slice (some ⟨r,o',none⟩) 0 cap) ?_ ?_ hK
       ·rw[hex,hp];simp [hrun]
       ·simp only[Rel];exact⟨o',cap,rfl,hlo,by omega,hoff,hroom⟩
      ·have:o'=off:=hoff.resolve_left hc0;subst this;obtain⟨w',hst,hH,hE⟩:=Vx (P:=P) hS.heap hh hrel hone (off:=o'+len*i.size) (by omega);have hrun:=Kc (ty:=o.type) (b:=some ⟨r,o',none⟩) (len:=len) (cap:=cap) hut hu hu' hi hsrc (by omega) (w':=w') (by simpa [Hm] using hst);refine Fl hS hd (x:= .slice (some ⟨r,o',none⟩) (len+n) cap) ?_ hE hH ?_ hK
       ·rw[hex,hp];simp [hrun]
       ·simp only[Rel];exact⟨o',cap,rfl,hlo,by omega, .inr rfl,hE.lasts.room hroom⟩
     ·-- the room is not known
      obtain⟨hfits,hfit,hK⟩:=hout hle;have hn45:len+n<=35184372088832:=Nat.le_trans (Nat.le_mul_of_pos_right _ hbpos) hfit;obtain⟨xs,hxr,hxh⟩:=hS.heap.holds hh;have hxl:=hxr.length;by_cases hin':len+n<=cap
      ·-- in place
       have:o'=off:=hoff.resolve_left (by omega);subst this;have hrm: ∀c fz,w.heap[r]? =some (.cells c e' fz)->o'+len*i.size+news.length<=c.size:=by
        intro c fz hcc;have:=hroom.2 c.size (by rw[hcc];rfl);have h2:(len+n)*i.size<=cap*i.size:=Nat.mul_le_mul_right _ hin';rw[Nat.add_mul] at h2;omega
       obtain⟨w',hst,hH,hE⟩:=Bj6 (P:=P) hS.heap hh hrel hone (p:=o'+len*i.size) hfits hrm (cs':=cs.take o'++(cs.drop o').take (len*i.size)++news) (by rw[List.take_add]);have hrun:=Kc (ty:=o.type) (b:=some ⟨r,o',none⟩) (len:=len) (cap:=cap) hut hu hu' hi hsrc hin' (w':=w') (by simpa [Hm] using hst);have hK':=hK r (cs.take o') (by simp [upd]) (fun e0=>by simp [e0]);rw[if_pos (.inr rfl)] at hK';have hlt:(cs.take o').length=o':=by simp;omega
       rw[hlt] at hK';refine Fl hS hd (x:= .slice (some ⟨r,o',none⟩) (len+n) cap) ?_ hE hH ?_ hK'
       ·rw[hex,hp];simp [hrun]
       ·simp only[Rel];exact⟨o',cap,rfl,by omega,by omega, .inr rfl,hE.lasts.room hroom⟩
      ·-- a new row
       have holds: ∃olds,Aq w s.heap ((cs.drop off).take (len*i.size)) olds/\olds.length=len*i.size/\ ∀k,(Builtin.firstCells i.size len (.slice (some ⟨r,o',none⟩) len cap)).run P { w with drawn:=k }= .ok olds.toArray { w with drawn:=k }:=by
        by_cases hc0:cap=0
        ·have hl0:len=0:=by omega
         subst hl0;exact⟨[],by simp [Aq],by simp,fun k=>by simp [Builtin.firstCells,loadCells,loadCellsFrom]⟩
        ·have:o'=off:=hoff.resolve_left hc0;subst this;have hlen:((xs.drop o').take (len*i.size)).length=len*i.size:=by
          simp only[List.length_take,List.length_drop];omega
         refine⟨_,(hxr.drop _).take _,hlen,fun k=> ?_⟩;have h1:Ie w r o' (xs.drop o'):=by simpa using hxh.drop (n:=o')
         have:=Dq (P:=P) (w:= { w with drawn:=k }) (Ie.take (n:=len*i.size) (Qk h1));rw[hlen] at this;simpa [Builtin.firstCells] using this
       obtain⟨olds,hor,hol,hof⟩:=holds;obtain⟨cp,hcp,hrun⟩:=Ql (ty:=o.type) hut hu hu' hi hiz hsrc (by omega) hfit hn45 hof;have hfin: ∀HH:Ac,Av w HH->Ext s.heap w HH w->K ⟨Ev s.env o.dst (.oslice i.size w.heap.size 0 (len+n) (len+n)),upd HH w.heap.size (some (.cells ((cs.drop off).take (len*i.size)++news) e'))⟩->o.wp P a w (Fg G N K s w) Qx:=by
        intro HH hH0 hE0 hK';have hcont:Aq w HH ((cs.drop off).take (len*i.size)++news) (olds++vs):=
         (Aq.lasts hE0.lasts _ _ hor).append (Aq.lasts hE0.lasts _ _ hrel)
        have hpre:(olds++vs)<+:(olds.toArray++(vs.toArray++Builtin.zeroCells z.cells (cp-(len+n)))).toList:=by
         simp only[Array.toList_append,<-List.append_assoc];exact Sn _ _
        have hsize:cp*i.size<=(olds.toArray++(vs.toArray++Builtin.zeroCells z.cells (cp-(len+n)))).size:=by
         simp only[Array.size_append,size_zeroCells,hzlen,List.size_toArray,hol];have h1:vs.length=n*i.size:=by omega
         rw[h1,<-Nat.add_mul,<-Nat.add_mul];exact Nat.mul_le_mul_right _ (by omega)
        refine Fl hS hd (x:= .slice (some ⟨w.heap.size,0,none⟩) (len+n) cp) ?_ ((hE0.trans (Rk hH0 _ _ _)).drawn (w.drawn+1)) ((Nj hH0 hcont _ hpre e').drawn (w.drawn+1)) ?_ hK'
        ·rw[hex,hp];simp [hrun]
        ·simp only[Rel];refine⟨0,cp,rfl,by omega,by omega, .inr rfl,?_⟩;constructor
         ·show w.heap.size<(w.alloc _).heap.size;simp
         ·intro k hk;have h1:(w.alloc (.cells (olds.toArray++(vs.toArray++Builtin.zeroCells z.cells (cp-(len+n)))) e')).heap[w.heap.size]? =some (.cells (olds.toArray++(vs.toArray++Builtin.zeroCells z.cells (cp-(len+n)))) e'):=by
           show(w.heap.push _)[w.heap.size]? =_;simp
          have hk':Jg (w.alloc (.cells (olds.toArray++(vs.toArray++Builtin.zeroCells z.cells (cp-(len+n)))) e')).heap[w.heap.size]? =some k:=hk;rw[h1] at hk';simp only[Jg,Option.some.injEq] at hk';omega
       have hH1:=hS.heap.letGo r;have hK':=hK w.heap.size [] hH1.fresh (fun _=>rfl);simp only[List.nil_append,List.length_nil] at hK';by_cases hkeep:len<=lo\/w.heap.size=r
       ·rw[if_pos hkeep] at hK';exact hfin _ hH1 (Bx7 r) hK'
       ·rw[if_neg hkeep] at hK';exact hfin _ hS.heap (Ext.refl _ _) hK'
  ·exact h.elim
end
end Go.Dl

-- THE DATA LEVEL, PART C: cap, clear, append of zeros.
namespace Go.Dl
open Go
section
variable {P:Program} {G:Nat->DVal} {N:Fr}
variable {o:Oper} {s:DS} {a:Act} {w:World} {K:DK} {Qx:Exit->Act->World->Prop}
theorem Dn0 (hS:Sim G N s a w) (hd:By N o.dst=true) {c:Call} {x:Operand} {t:TypeId} (hx:Bf N x=true) (he:o.op= .call c) (hc:c.callee= .builtin .cap) (hargs:c.args.toList= [x]) (hts:c.argTypes.toList= [t])
  (h:Ch5 o.dst (P.underlying t) (dev G s.env x) K s):PV P o s a w K:=by
 have rx:=Ax hS hx;have hm:c.args.map a.eval= #[a.eval x]:=by apply Array.ext';simp [hargs]
 have hex:=Fm (a:=a) he hc;rw[hm] at hex;have ht':c.argTypes[0]? =some t:=by rw[<-Array.getElem?_toList,hts];rfl
 generalize hu:P.underlying t=u at h;generalize dev G s.env x=dx at h rx;unfold Ch5 at h;split at h
 ·simp only[Rel] at rx;exact Ol hS hd (by rw[hex];simp [builtin,Builtin.cap_,ht',run_underlying hu,rx,goInt]) h
 ·simp only[Rel] at rx;obtain⟨_,cap,rx,hle,_⟩:=rx;exact Ol hS hd (by rw[hex];simp [builtin,Builtin.cap_,ht',run_underlying hu,rx,goInt]) (h cap hle)
 ·simp only[Rel] at rx;obtain⟨_,cap,rx,h1,h2,_⟩:=rx;exact Ol hS hd (by rw[hex];simp [builtin,Builtin.cap_,ht',run_underlying hu,rx,goInt]) (h cap h2 h1)
 ·exact h.elim
theorem Yx {e t t' ty:TypeId} {i:TypeInfo} {z:Value} {k:IntKind} (ht:P.underlying t=some (.slice e)) (hu:P.underlying t'=some (.int k)) (hi:P.info? e=some i) (hz:i.zero=some z) (hp:0<i.size)
  {n:Int} (h0:0<n) (hfit:n*i.bytes<=35184372088832) (hn:n<=35184372088832):
  ∃c,n.toNat<=c/\(Builtin.append_ #[t,t'] ty #[.slice none 0 0, .int .i64 n]).run P w=
   .ok (.slice (some ⟨w.heap.size,0,none⟩) n.toNat c) { w.alloc (.cells (#[]++(Builtin.zeroCells z.cells n.toNat++Builtin.zeroCells z.cells (c-n.toNat))) e) with drawn:=w.drawn+1 }:=by
 obtain⟨m,rfl⟩: ∃m:Nat,n=m:=⟨n.toNat,by omega⟩;simp only[Int.toNat_natCast];have hw:IntKind.wrap .i64 (m:Int)=m:=IntWalk.i64_in m ⟨by omega,by omega⟩;have hfit':m*i.bytes<=35184372088832:=by
  have:((m*i.bytes:Nat):Int)<=35184372088832:=by rw[Int.natCast_mul];exact hfit
  omega
 refine⟨(Question.appendCap m 0 e).cut (w.tape w.drawn (.appendCap m 0 e)),by simp [Question.cut],?_⟩;have h48: ¬(Builtin.nextslicecap m 0*i.bytes>281474976710656):=by
  have:=growslice_fits (need:=m) (old:=0) (bytes:=i.bytes) (by omega) (by omega);omega
 have h1: ¬((m:Int)<0):=by omega
 have h2: ¬(281474976710656<(m:Int)*(i.bytes:Int)):=by omega
 have h3: ¬(9223372036854775807<(m:Int)):=by omega
 have h4:m≠0:=by omega
 have h5: ¬(m*i.size=0):=by
  intro e;rcases Nat.mul_eq_zero.1 e with e | e<;>omega
 have hf:=Kr (P:=P) (w:=w) i.size (w.drawn+1);simp only[World.drew_eq] at hf;simp [hf,Builtin.append_,run_underlying ht,run_underlying hu,sizeOf,typeInfo,zeroValue,hi,hz,asInt,asIntOf,hw,h1,h2,h3,h4,h5,h48,Question.forced,newRow,Kr];rfl
theorem Bx8 (hS:Sim G N s a w) (hd:By N o.dst=true) {c:Call} {x y:Operand} (hx:Bf N x=true) (hy:Bf N y=true) (he:o.op= .call c) (hc:c.callee= .builtin .append) (hargs:c.args.toList= [x,y]) {t t':TypeId} (htys:c.argTypes.toList= [t,t'])
  (hit:Jl (P.underlying t')=true) (h:Ts P (dev G s.env x) (dev G s.env y) o.dst (P.underlying t) K s):o.wp P a w (Fg G N K s w) Qx:=by
 have rx:=Ax hS hx;have ry:=Ax hS hy;have hm:c.args.map a.eval= #[a.eval x,a.eval y]:=by apply Array.ext';simp [hargs]
 have hat:c.argTypes= #[t,t']:=by apply Array.ext';simp [htys]
 have hex:execOp a.eval o=(do pure (.value (←Builtin.append_ #[t,t'] o.type #[a.eval x,a.eval y]))):=by
  rw[Fm he hc,hm,hat];rfl
 generalize hut:P.underlying t=ut at h;unfold Ts at h;split at h<;>try exact h.elim
 rename_i e
 obtain⟨k,hu⟩: ∃k,P.underlying t'=some (.int k):=by
  cases hq:P.underlying t' with
  | none=>rw[hq] at hit;cases hit
  | some d=>cases d<;>first | exact⟨_,rfl⟩ | (rw[hq] at hit;cases hit)
 generalize dev G s.env x=dx at h rx;generalize dev G s.env y=dy at h ry;generalize hzo:Bj P e=zo at h;unfold Aa5 at h;split at h<;>try exact h.elim
 obtain⟨h0,hp,hk0,hk1⟩:=h
 rename_i n zd
 obtain⟨i,z,hi,hiz,rfl⟩:=Ip hzo;have hby:P.bytesOf e=i.bytes:=by simp [Program.bytesOf,hi]
 have hcs:P.cellsOf e=i.size:=by simp [Program.cellsOf,hi]
 simp only[Rel] at rx ry;by_cases hn:n=0
 ·have hK:=hk0 hn;subst hn;refine Gf hS hd (x:= .slice none 0 0) ?_ (by simp [Rel]) hK;rw[hex,rx,ry];have hw:IntKind.wrap .i64 0=0:=by rfl
  simp [Builtin.append_,run_underlying hut,run_underlying hu,sizeOf,typeInfo,hi,asInt,asIntOf,hw]
 ·obtain⟨hfit,hle,hzl,hK⟩:=hk1 hn;rw[hby] at hfit;rw[hcs] at hp hzl hK;have hvr:Aq w s.heap (De z).cells z.cells.toList:=Ho (Em w s.heap z);have hzs:z.cells.size=i.size:=by rw[<-hzl,hvr.length];simp
  obtain⟨cp,hcp,hrun⟩:=Yx (w:=w) (ty:=o.type) hut hu hi hiz hp (n:=n) (by omega) hfit hle;have hr:=Rl hvr n.toNat (n.toNat*z.cells.size) (by rw[hzl,hzs]);refine Tw hS hd (sz:=i.size) (lo:=n.toNat) (cap:=cp) (n:=w.drawn+1) (len:=n.toNat) (e:=e) (c:= #[]++(Builtin.zeroCells z.cells n.toNat++Builtin.zeroCells z.cells (cp-n.toNat))) (by omega) (by omega) ?_ ?_ hr ?_ hK
  ·simp only[Array.size_append,size_zeroCells,hzs,List.size_toArray,List.length_nil,Nat.zero_add];rw[<-Nat.add_mul];exact Nat.mul_le_mul_right _ (by omega)
  ·rw[hex,rx,ry];simp [hrun]
  ·simp only[Array.toList_append,List.nil_append];exact Sn _ _
theorem Cv2 (hS:Sim G N s a w) (hd:By N o.dst=true) {c:Call} {x:Operand} {t:TypeId} (hx:Bf N x=true) (he:o.op= .call c) (hc:c.callee= .builtin .clear) (hargs:c.args.toList= [x]) (hts:c.argTypes.toList= [t])
  (h:Aa6 P o.dst (P.underlying t) (dev G s.env x) K s):o.wp P a w (Fg G N K s w) Qx:=by
 have rx:=Ax hS hx;have hm:c.args.map a.eval= #[a.eval x]:=by apply Array.ext';simp [hargs]
 have hex:=Fm (a:=a) he hc;rw[hm] at hex;have ht':c.argTypes[0]? =some t:=by rw[<-Array.getElem?_toList,hts];rfl
 generalize hu:P.underlying t=u at h;generalize dev G s.env x=dx at h rx;unfold Aa6 at h;split at h<;>try exact h.elim
 rename_i e
 generalize hzo:Bj P e=zo at h;unfold Aq8 at h;split at h<;>try exact h.elim
 ·simp only[Rel] at rx;refine Gf hS hd (x:= .tuple #[]) ?_ (by simp [Rel,Aq]) h;rw[hex];simp [builtin,Builtin.clear_,ht',run_underlying hu,rx]
 ·rename_i z sz r off n lo
  obtain⟨rfl,hnl,h⟩:=h;obtain⟨i,v,hi,hiz,rfl⟩:=Ip hzo;have hcs:P.cellsOf e=i.size:=by simp [Program.cellsOf,hi]
  simp only[Rel] at rx;obtain⟨o',cap,hp,hlo,hcap,hoff,hroom⟩:=rx;cases hh:s.heap r with
  | none=>rw[hh] at h;exact h.elim
  | some ob=>
   cases ob with
   | loop=>rw[hh] at h;exact h.elim
   | iter=>rw[hh] at h;exact h.elim
   | map=>rw[hh] at h;exact h.elim
   | cells cs e'=>
    rw[hh] at h;obtain⟨hzl,hone,hle,hK⟩:=h;rw[hcs] at hzl hle;have hvr:Aq w s.heap (De v).cells v.cells.toList:=Ho (Em w s.heap v);have hzs:v.cells.size=i.size:=by rw[<-hzl,hvr.length];simp
    by_cases hn:n=0
    ·subst hn;have hsp:Cz cs off (Cx 0 (De v).cells)=cs:=by simp [Cz,Cx]
     rw[hsp] at hK;have hup:upd s.heap r (some (.cells cs e'))=s.heap:=by
      funext j;simp only[upd];split
      ·rename_i hj;rw[hj,hh]
      ·rfl
     rw[hup] at hK;refine Gf hS hd (x:= .tuple #[]) ?_ (by simp [Rel,Aq]) hK;rw[hex];simp [builtin,Builtin.clear_,ht',run_underlying hu,hp]
    ·have:o'=off:=hoff.resolve_left (by omega);subst this;have hr:=Rl hvr n (n*v.cells.size) (by rw[hzl,hzs]);have hall:(Cx n (De v).cells).all (·.one)=true:=by
      rw[List.all_eq_true] at hone⊢
      intro d hd';simp only[Cx,List.mem_flatten,List.mem_replicate] at hd';obtain⟨l,⟨_,rfl⟩,hm⟩:=hd';exact hone d hm
     obtain⟨w',hst,hH,hE⟩:=Vx (P:=P) hS.heap hh hr hall (off:=o') (by rw[Kf,hzl];exact hle);refine Fl hS hd (x:= .tuple #[]) ?_ hE hH (by simp [Rel,Aq]) hK;rw[hex];obtain⟨n',rfl⟩: ∃n',n=n'+1:=⟨n-1,by omega⟩;have hst':Sem.run P (storeCells ⟨r,o',none⟩ (Builtin.zeroCells v.cells (n'+1)).toList 0) w= .ok () w':=hst;simp [builtin,Builtin.clear_,ht',run_underlying hu,hp,zeroValue,typeInfo,hi,hiz,hst']
end
end Go.Dl

-- THE DATA LEVEL, PART M: objects that are no rows of cells; maps.
namespace Go.Dl
open Go
section
def Iy:Obj->Bool
 | .loop _=>true
 | .deferred _=>true
 | .map _ _=>true
 | .stringIter _ _=>true
 | _=>false
theorem Ub {w:World} {l:Nat} {o o':Obj} (hl:w.heap[l]? =some o) (h:Iy o=true) (h':Iy o'=true) (b:Nat):Jg (w.putObj l o').heap[b]? =Jg w.heap[b]? :=by
 have hlt:l<w.heap.size:=(Array.getElem?_eq_some_iff.1 hl).1;by_cases e:b=l
 ·subst e;rw[World.putObj_heap_same hlt,hl];cases o<;>first | cases h;done | (cases o'<;>first | rfl | cases h';done)
 ·rw[World.putObj_heap_other e]
theorem On {w:World} {l:Nat} {o o':Obj} (hl:w.heap[l]? =some o) (h:Iy o=true) (h':Iy o'=true) (H:Ac):Lasts H w H (w.putObj l o'):=by
 refine⟨fun b i x hb hc=>⟨hb,?_⟩,by simp [World.putObj],fun b hb=>Ub hl h h' b⟩;by_cases e:b=l
 ·subst e;unfold World.cell? at hc;rw[hl] at hc;cases o<;>first | cases h;done | simp at hc
 ·unfold World.cell? at hc⊢
  simp only[World.putObj_heap_other e];exact hc
theorem Am5 {w:World} {l:Nat} {o o':Obj} (hl:w.heap[l]? =some o) (h:Iy o=true) (h':Iy o'=true) (a:Addr):(w.putObj l o').frozen? a=w.frozen? a:=by
 have hlt:l<w.heap.size:=(Array.getElem?_eq_some_iff.1 hl).1;unfold World.frozen?;by_cases e:a.block=l
 ·rw[e,World.putObj_heap_same hlt,hl];cases o<;>first | cases h;done | (cases o'<;>first | rfl | cases h';done)
 ·rw[World.putObj_heap_other e]
theorem Bj7 {w:World} {l:Nat} {o o':Obj} {H:Ac} (hl:w.heap[l]? =some o) (h:Iy o=true) (h':Iy o'=true) (hH:Av w H) (hn:H l=none):Av (w.putObj l o') H:=by
 intro r ob ho;have hr:r≠l:=fun e=>by rw[e,hn] at ho;cases ho
 rw[World.putObj_heap_other hr];exact(hH r ob ho).lasts (On hl h h' H)
theorem Mt {P:Program} {w:World} {r:Nat} {o:Obj} (h:w.heap[r]? =some o) (hb:Iy o=true):(getObj r).run P w= .ok o w:=by
 simp only[getObj,Sem.run,h];cases o<;>first | rfl | cases hb
theorem Ir {P:Program} {w:World} {r:Nat} {o:Obj} (o':Obj) (h:w.heap[r]? =some o) (hb:Iy o=true):(setObj r o').run P w= .ok () (w.putObj r o'):=by
 simp only[setObj,Sem.run,h,World.putObj];cases o<;>first | rfl | cases hb
theorem Qm {w:World} {H:Ac} {r:Nat} {o o':Obj} {ob:DObj} (hH:Av w H) (hr:H r≠none) (ho:w.heap[r]? =some o) (h:Iy o=true) (h':Iy o'=true)
  (hob: ∀w' H',Lasts H w H' w'->Sj w' H' ob (some o')):Av (w.putObj r o') (upd H r (some ob))/\Ext H w (upd H r (some ob)) (w.putObj r o'):=by
 have hlt:r<w.heap.size:=(Array.getElem?_eq_some_iff.1 ho).1;have hl:Lasts H w (upd H r (some ob)) (w.putObj r o'):=by
  have h1:=On ho h h' H;refine⟨fun b i x hb hc=>⟨?_,(h1.cell b i x hb hc).2⟩,h1.size,h1.keep⟩;have:b≠r:=fun e=>hr (e▸hb);simp [upd,this,hb]
 refine⟨fun b x hx=> ?_,by rfl,by rfl,by rfl,by simp,fun b hb hn=> ?_,fun b hb=> ?_,fun b hb=>Ub ho h h' b,fun a _ _=>Am5 ho h h' a⟩
 ·by_cases e:b=r
  ·subst e;simp only[upd,if_pos] at hx;cases hx;rw[World.putObj_heap_same hlt];exact hob _ _ hl
  ·simp only[upd,if_neg e] at hx;rw[World.putObj_heap_other e];exact(hH b x hx).lasts hl
 ·rw[World.putObj_heap_other (fun e=>hr (by rw[<-e];exact hn))]
 ·by_cases e:b=r
  ·exact .inl (e▸hr)
  ·simp only[upd,if_neg e] at hb;exact .inl hb
theorem Ay7 {w:World} {H:Ac} {o:Obj} {ob:DObj} (hH:Av w H) (h:Iy o=true)
  (hob: ∀w' H',Lasts H w H' w'->Sj w' H' ob (some o)):Av (w.alloc o) (upd H w.heap.size (some ob))/\Ext H w (upd H w.heap.size (some ob)) (w.alloc o):=by
 have hbl: ∀b,b<w.heap.size->(w.alloc o).heap[b]? =w.heap[b]? :=fun b hb=>by
  show(w.heap.push o)[b]? =_;rw[Array.getElem?_push,if_neg (by omega)]
 have hE:Ext H w (upd H w.heap.size (some ob)) (w.alloc o):=by
  refine⟨rfl,rfl,rfl,by simp,fun b hb _=>hbl b hb,fun b hb=> ?_,fun b hb=>by rw[hbl b hb],fun a _ _=> ?_⟩
  ·by_cases eb:b=w.heap.size
   ·exact .inr (by omega)
   ·simp only[upd,if_neg eb] at hb;exact .inl hb
  ·unfold World.frozen?;have hh:(w.alloc o).heap[a.block]? =if a.block=w.heap.size then some o else w.heap[a.block]? :=by
    show(w.heap.push o)[a.block]? =_;rw[Array.getElem?_push]
   rw[hh];by_cases e:a.block=w.heap.size
   ·rw[if_pos e,e,Array.getElem?_eq_none (Nat.le_refl _)];cases o<;>first | cases h;done | rfl
   ·rw[if_neg e]
 refine⟨fun r x hx=> ?_,hE⟩;by_cases e:r=w.heap.size
 ·subst e;simp only[upd,if_pos] at hx;cases hx;have:(w.alloc o).heap[w.heap.size]? =some o:=by
   show(w.heap.push o)[w.heap.size]? =_;simp
  rw[this];exact hob _ _ hE.lasts
 ·simp only[upd,if_neg e] at hx;rw[hbl r (hH.lt (by simp [hx]))];exact(hH r x hx).lasts hE.lasts
end
section
variable {P:Program} {G:Nat->DVal} {N:Fr}
variable {o:Oper} {s:DS} {a:Act} {w:World} {K:DK} {Qx:Exit->Act->World->Prop}
theorem Wc {H:Ac}: ∀ {ds:List DVal} {vs:List Value} {l:List UInt8},Aq w H ds vs->Rw ds=some l-> ∃ns:List Int,vs=ns.map (Value.int .u8)/\l=ns.map fun n=>UInt8.ofNat n.toNat
 | [],vs,l,hr,hl=>by
  simp only[Aq] at hr;subst hr;simp only[Rw,Option.some.injEq] at hl;subst hl;exact⟨[],rfl,rfl⟩
 | d::ds,vs,l,hr,hl=>by
  simp only[Aq] at hr;obtain⟨y,ys,rfl,h1,h2⟩:=hr;unfold Rw at hl;split at hl<;>try (cases hl;done)
  ·rename_i e;cases e
  ·rename_i n ds' e
   obtain⟨rfl,rfl⟩:=List.cons.inj e;obtain⟨l',h3,rfl⟩:=Option.map_eq_some_iff.1 hl;obtain⟨ns,rfl,rfl⟩:=Wc h2 h3;simp only[Rel] at h1;subst h1;exact⟨n::ns,rfl,rfl⟩
theorem Am6: ∀(ns:List Int) (s:ByteArray),(ns.foldl (fun r n=>r.push (UInt8.ofNat n.toNat)) s).data.toList=s.data.toList++ns.map fun n=>UInt8.ofNat n.toNat
 | [],s=>by simp
 | n::ns,s=>by rw[List.foldl_cons,Am6 ns];simp [ByteArray.push]
theorem Ab7 (ns:List Int):ns.foldl (fun r n=>r.push (UInt8.ofNat n.toNat)) ByteArray.empty=⟨⟨ns.map fun n=>UInt8.ofNat n.toNat⟩⟩:=by
 have:=Am6 ns ByteArray.empty;cases h:ns.foldl (fun r n=>r.push (UInt8.ofNat n.toNat)) ByteArray.empty with
 | mk d=>
  rw[h] at this;congr 1;apply Array.ext';simpa using this
theorem Cv3 (hS:Sim G N s a w) (hd:By N o.dst=true) {src t:TypeId} {x:Operand} (hx:Bf N x=true) (he:o.op= .convert src t x)
  (h:Qf P o.dst (P.underlying src) (P.underlying t) (dev G s.env x) K s):PV P o s a w K:=by
 have r:=Ax hS hx;by_cases hc: ∃e,P.underlying src=some (.slice e)/\P.underlying t=some .string
 ·obtain⟨e,hs,ht⟩:=hc;rw[hs,ht] at h;obtain⟨hu,h⟩:=h;generalize dev G s.env x=dx at h r;cases hb:(Sk s.heap dx).bind Rw with
  | none=>rw[hb] at h;exact h.elim
  | some l=>
   rw[hb] at h;obtain⟨ds,h1,h2⟩:=Option.bind_eq_some_iff.1 hb;refine pvI hS hd (x:= .string ⟨⟨l⟩⟩) ?_ (by simp [Rel]) h;have go: ∀(ad:Option Addr) (n c:Nat),a.eval x= .slice ad n c->(Conv.bytesToString (.slice ad n c)).run P w= .ok (.string ⟨⟨l⟩⟩) w->(execOp a.eval o).run P w= .ok (.value (.string ⟨⟨l⟩⟩)) w:=by
    intro ad n c e1 e2;simp [execOp,he,e1,run_convert_bytes_string w src t e ad n c hs hu ht,e2]
   unfold Sk at h1;split at h1<;>try (cases h1;done)
   ·cases h1;simp only[Rw,Option.some.injEq] at h2;subst h2;simp only[Rel] at r;exact go none 0 0 r (by simp [Conv.bytesToString];rfl)
   ·rename_i cs n
    split at h1<;>cases h1
    rename_i hle
    simp only[Rel] at r;obtain⟨ad,cap,e1,_,hc⟩:=r;refine go ad n cap e1 ?_;rcases hc with rfl | ⟨b,o',xs,rfl,hc,hr⟩
    ·have hn:n=0:=by simpa using hle
     subst hn;simp only[List.take_nil,Rw,Option.some.injEq] at h2;subst h2;cases ad with
     | none=>simp [Conv.bytesToString];rfl
     | some ad=>exact run_bytesToString w ad 0 cap [] (by simp [loadCells,loadCellsFrom])
    ·obtain⟨ns,e2,rfl⟩:=Wc (hr.take n) h2;have hlx:=hr.length;have hl:(ns.map (Value.int .u8)).length=n:=by rw[<-e2];simp;omega
     have:=Dq (P:=P) (w:=w) (Ie.take (n:=n) hc.holds);rw[e2,hl] at this;rw[run_bytesToString w _ n cap ns this,Ab7]
   ·rename_i sz r' off n lo
    unfold Bs9 at h1;split at h1<;>try (cases h1;done)
    rename_i cs e' hh
    split at h1<;>cases h1
    rename_i hle
    simp only[Rel] at r;obtain⟨o',cap,e1,_,hcap,hoff,_⟩:=r;refine go _ n cap e1 ?_;obtain⟨xs,hr,hho⟩:=hS.heap.holds hh;by_cases hc0:cap=0
    ·have hn:n=0:=by omega
     subst hn;simp only[List.take_zero,Rw,Option.some.injEq] at h2;subst h2;exact run_bytesToString w _ 0 cap [] (by simp [loadCells,loadCellsFrom])
    ·have:o'=off:=hoff.resolve_left hc0;subst this;obtain⟨ns,e2,rfl⟩:=Wc ((hr.drop o').take n) h2;have hlx:=hr.length;have hl:(ns.map (Value.int .u8)).length=n:=by rw[<-e2];simp;omega
     have h3:Ie w r' o' (xs.drop o'):=by simpa using hho.drop (n:=o')
     have:=Dq (P:=P) (w:=w) (Ie.take (n:=n) h3);rw[e2,hl] at this;rw[run_bytesToString w _ n cap ns this,Ab7]
 ·refine Bx4 hS hd hx he ?_;revert h;generalize hs:P.underlying src=us at hc;generalize ht:P.underlying t=ut at hc;intro h;unfold Qf at h;split at h
  ·exact absurd ⟨_,rfl,rfl⟩ hc
  ·exact h
theorem Cv4 (hS:Sim G N s a w) (hd:By N o.dst=true) {t:TypeId} {x:Operand} (hx:Bf N x=true) (he:o.op= .range t x)
  (h:Aq6 o.dst (P.underlying t) (dev G s.env x) K s):o.wp P a w (Fg G N K s w) Qx:=by
 have r:=Ax hS hx;generalize dev G s.env x=dx at h r;generalize hu:P.underlying t=u at h;unfold Aq6 at h;split at h<;>try exact h.elim
 rename_i l
 simp only[Rel] at r;obtain⟨k1,k2⟩:=Ay7 (o:= .stringIter ⟨⟨l⟩⟩ 0) (ob:= .iter l 0) hS.heap rfl (fun w' H' _=>rfl);refine Fl hS hd (x:= .pointer (some ⟨w.heap.size,0,none⟩)) ?_ k2 k1 (by simp [Rel]) (h _ hS.heap.fresh);simp [execOp,he,r,run_range_string w t _ hu,World.iter]
theorem Dh4 (hS:Sim G N s a w) (hd:By N o.dst=true) {b:Bool} {x:Operand} (hx:Bf N x=true) (he:o.op= .next x b)
  (h:Bt0 o.dst b (dev G s.env x) K s):o.wp P a w (Fg G N K s w) Qx:=by
 have r:=Ax hS hx;generalize dev G s.env x=dx at h r;unfold Bt0 at h;split at h<;>try exact h.elim
 rename_i r0
 simp only[Rel] at r;generalize hh:s.heap r0=ob at h;unfold Bi6 at h;split at h<;>try exact h.elim
 rename_i l pos
 have ho:w.heap[r0]? =some (.stringIter ⟨⟨l⟩⟩ pos):=hS.heap _ _ hh;have hg:=Mt (P:=P) ho rfl;have hsz:(ByteArray.mk ⟨l⟩).size=l.length:=rfl;by_cases hp:pos<l.length
 ·obtain⟨k1,k2⟩:=Qm (o':= .stringIter ⟨⟨l⟩⟩ (pos+(Ln l pos).2)) (ob:= .iter l (pos+(Ln l pos).2)) hS.heap (by rw[hh];simp) ho rfl rfl (fun w' H' _=>rfl);refine Fl hS hd (x:= .tuple #[.bool true, .int .i64 pos, .int .i32 (Ln l pos).1]) ?_ k2 k1 (by simp [Rel,Aq]) (h.1 hp);have hs':=Ir (P:=P) (.stringIter ⟨⟨l⟩⟩ (pos+(Ln l pos).2)) ho rfl;simp only[execOp,he,r,Instr.next,Sem.run_bind,hg,Result.andThen_ok,hsz,if_pos hp];show Result.andThen (Result.andThen ((setObj r0 (.stringIter ⟨⟨l⟩⟩ (pos+(Ln l pos).2))).run P w) _) _=_;rw[hs'];simp [goInt,Ln]
 ·refine Gf hS hd (x:= .tuple #[.bool false]) ?_ (by simp [Rel,Aq]) (h.2 hp);simp [execOp,he,r,Instr.next,hg,hsz,hp]
theorem Bx9 (hS:Sim G N s a w) (hd:By N o.dst=true) {t:TypeId} {x:Option Operand} (hx:(match x with | some x=>Bf N x | none=>true)=true) (he:o.op= .makeMap t x)
  (h:Qh o.dst (P.underlying t) (Kq G s.env x) K s):o.wp P a w (Fg G N K s w) Qx:=by
 obtain⟨k1,k2⟩:=Ay7 (o:= .map #[] 0) (ob:= .map []) hS.heap rfl (fun w' H' _=>⟨#[],0,rfl,rfl⟩)
 have hfr:=hS.heap.fresh
 generalize hu:P.underlying t=u at h
 rcases Ab6 hS hx with⟨rfl,e⟩ | ⟨y,rfl,e,r⟩
 ·rw[e] at h
  unfold Qh at h
  split at h<;>try exact h.elim
  ·refine Fl hS hd (x:= .map (some w.heap.size)) ?_ k2 k1 (by simp [Rel]) (h _ hfr)
   simp [execOp,he,Instr.makeMap,run_newObj_alloc]
  ·rename_i e2;cases e2
 ·rw[e] at h
  cases hdv:dev G s.env y<;>rw[hdv] at h r<;>(unfold Qh at h;split at h<;>try exact h.elim)
  all_goals try (rename_i e2;cases e2;done)
  all_goals
   simp only[Rel] at r
   refine Fl hS hd (x:= .map (some w.heap.size)) ?_ k2 k1 (by simp [Rel]) (h _ hfr)
   simp [execOp,he,Instr.makeMap,run_newObj_alloc,run_underlying hu,r,asInt,asIntOf]
theorem Si.len {w:World} {H:Ac}: ∀ {es:List (DVal×DVal)} {ms:List MapEntry},Si w H es ms->es.length=ms.length
 | [],_,h=>by rw[show _=_ from h];rfl
 | p::es,ms,h=>by
  obtain⟨m,ms',rfl,_,_,h3⟩:=h;simp [Si.len h3]
theorem Si.get {w:World} {H:Ac}: ∀ {es:List (DVal×DVal)} {ms:List MapEntry},Si w H es ms-> ∀ {i:Nat} {p:DVal×DVal},es[i]? =some p-> ∃m,ms[i]? =some m/\Rel w H p.1 m.key/\Rel w H p.2 m.val
 | [],_,_,i,p,hp=>by simp at hp
 | q::es,ms,h,i,p,hp=>by
  obtain⟨m,ms',rfl,h1,h2,h3⟩:=h;cases i with
  | zero=>simp at hp;subst hp;exact⟨m,rfl,h1,h2⟩
  | succ i=>simp at hp;obtain⟨m',e1,e2⟩:=Si.get h3 hp;exact⟨m',by simpa using e1,e2⟩
theorem Si.app {w:World} {H:Ac}: ∀ {es fs:List (DVal×DVal)} {ms ns:List MapEntry},Si w H es ms->Si w H fs ns->Si w H (es++fs) (ms++ns)
 | [],_,_,_,h,k=>by rw[show _=_ from h];exact k
 | p::es,fs,ms,ns,h,k=>by
  obtain⟨m,ms',rfl,h1,h2,h3⟩:=h;exact⟨m,ms'++ns,rfl,h1,h2,Si.app h3 k⟩
theorem Si.erase {w:World} {H:Ac}: ∀ {es:List (DVal×DVal)} {ms:List MapEntry},Si w H es ms-> ∀(i:Nat),Si w H (es.eraseIdx i) (ms.eraseIdx i)
 | [],_,h,i=>by rw[show _=_ from h];exact rfl
 | q::es,ms,h,0=>by
  obtain⟨m',ms',rfl,h1,h2,h3⟩:=h;exact h3
 | q::es,ms,h,i+1=>by
  obtain⟨m',ms',rfl,h1,h2,h3⟩:=h;exact⟨m',_,rfl,h1,h2,Si.erase h3 i⟩
theorem Ci4 {w:World} {H:Ac} {d:TypeDesc} {k k':DVal} {x x':Value} (hk:Nn (some d) k=true) (h:Rel w H k x) (h':Rel w H k' x') {b:Bool} (hb:Aa7 k k'=some b):Instr.sameNow d x x'=some b:=by
 cases k<;>first | (cases d<;>(simp [Nn] at hk;done)) | skip
 case int kk n=>
  cases d<;>simp [Nn] at hk;subst hk;cases k'<;>simp only[Aa7] at hb<;>try (cases hb;done)
  rename_i k2 m
  split at hb
  ·rename_i e;subst e
   cases hb;simp only[Rel] at h h';subst h;subst h';simp only[Instr.sameNow,if_true];rfl
  ·cases hb
 case str l=>
  cases d<;>simp [Nn] at hk;cases k'<;>simp only[Aa7] at hb<;>try (cases hb;done)
  cases hb;simp only[Rel] at h h';subst h;subst h';simp only[Instr.sameNow]
  rename_i s1
  have e1:((⟨⟨l⟩⟩:ByteArray)==⟨⟨s1⟩⟩)=((⟨l⟩:Array UInt8)==⟨s1⟩):=rfl;rw[e1];congr 1;rw[Bool.eq_iff_iff];simp
 case bool l=>
  cases d<;>simp [Nn] at hk;cases k'<;>simp only[Aa7] at hb<;>try (cases hb;done)
  cases hb;simp only[Rel] at h h';subst h;subst h';simp only[Instr.sameNow]
  rename_i b1;cases l<;>cases b1<;>rfl
theorem Ay8 {w:World} {H:Ac} {d:TypeDesc} {k:DVal} {x:Value} (hk:Nn (some d) k=true) (h:Rel w H k x): ∀ {es:List (DVal×DVal)} {ms:List MapEntry},Si w H es ms-> ∀(i:Nat) {r:Option Nat},Mp k es i=some r->
  Instr.findNow d x ms i=some (r.bind fun j=>(ms[j-i]?).map fun m=>(j,m.val))/\ ∀j,r=some j->i<=j
 | [],ms,hm,i,r,hf=>by
  rw[show ms= [] from hm];simp only[Mp] at hf;cases hf;exact⟨rfl,fun j hj=>by cases hj⟩
 | p::es,ms,hm,i,r,hf=>by
  obtain⟨m,ms',rfl,h1,h2,h3⟩:=hm;simp only[Mp] at hf;cases hb:Aa7 k p.1 with
  | none=>rw[hb] at hf;cases hf
  | some b=>
   rw[hb] at hf;have hs:=Ci4 hk h h1 hb;cases b with
   | true=>
    simp only[Aa8] at hf;cases hf;simp only[Instr.findNow,hs];exact⟨by simp,fun j hj=>by cases hj;exact Nat.le_refl _⟩
   | false=>
    simp only[Aa8] at hf;obtain⟨g1,g2⟩:=Ay8 hk h h3 (i+1) hf;simp only[Instr.findNow,hs,g1];refine⟨?_,fun j hj=>by have:=g2 j hj;omega⟩;cases r with
    | none=>rfl
    | some j=>
     have:=g2 j rfl;simp only[Option.bind_some];rw[show j-i=(j-(i+1))+1 by omega];simp
theorem Mu {w:World} {H:Ac} {kt:TypeId} {k:DVal} {x:Value} (hk:Nn (P.underlying kt) k=true) (h:Rel w H k x) {es:List (DVal×DVal)} {ms:List MapEntry} (hm:Si w H es ms) {r:Option Nat} (hf:Mp k es 0=some r):
  (Instr.findKey kt x ms).run P w= .ok (r.bind fun j=>(ms[j]?).map fun m=>(j,m.val)) w:=by
 cases hu:P.underlying kt with
 | none=>rw[hu] at hk;cases hk
 | some d=>
  rw[hu] at hk;obtain⟨g1,_⟩:=Ay8 hk h hm 0 hf;simp only[Nat.sub_zero] at g1;simp [Instr.findKey,run_underlying hu,g1]
theorem Ky {w:World} {H:Ac} {kt:TypeId} {k:DVal} {x:Value} {b:Bool} (hk:Nn (P.underlying kt) k=true) (h:Rel w H k x) (n:Nat):(Instr.checkKey b (n+1) kt x).run P w= .ok () w:=by
 cases hu:P.underlying kt with
 | none=>rw[hu] at hk;cases hk
 | some d=>
  rw[hu] at hk;unfold Nn at hk;split at hk<;>first | (cases hk;done) | (rename_i e;cases e;simp only[Rel] at h;subst h;simp [Instr.checkKey,run_underlying hu])
theorem Ci5 (hS:Sim G N s a w) (hd:By N o.dst=true) {t:TypeId} {x k:Operand} {ok:Bool} (hx:Bf N x=true) (hk:Bf N k=true) (he:o.op= .lookup t x k ok)
  (h:Zj P ok o.dst (P.underlying t) (dev G s.env x) (dev G s.env k) K s):o.wp P a w (Fg G N K s w) Qx:=by
 have rx:=Ax hS hx;have rk:=Ax hS hk;generalize hu:P.underlying t=u at h;generalize dev G s.env x=dx at h rx;generalize dev G s.env k=dk at h rk;unfold Zj at h;split at h<;>try exact h.elim
 ·rename_i kt e r
  obtain⟨hkt,h⟩:=h;simp only[Rel] at rx;cases hh:s.heap r with
  | none=>rw[hh] at h;exact h.elim
  | some ob=>
   cases ob with
   | loop=>rw[hh] at h;exact h.elim
   | iter=>rw[hh] at h;exact h.elim
   | cells=>rw[hh] at h;exact h.elim
   | map es=>
    rw[hh] at h;simp only[Bi9] at h;obtain⟨ms,clock,ho,hm⟩:=hS.heap r _ hh;cases hf:Mp dk es 0 with
    | none=>rw[hf] at h;cases hz:Bj P e<;>rw[hz] at h<;>exact h.elim
    | some fi=>
     rw[hf] at h;have hfk:=Mu (P:=P) (w:=w) hkt rk hm hf;have hck:=fun b=>Ky (P:=P) (w:=w) (b:=b) hkt rk 9999;have hgo:=Mt (P:=P) ho rfl;cases fi with
     | some i=>
      have h': ∃p,es[i]? =some p/\Bi8 ok o.dst p.2 true K s:=by
       cases hz:Bj P e<;>rw[hz] at h<;>exact h
      obtain⟨p,hp,hK⟩:=h';obtain⟨m,hmi,r1,r2⟩:=hm.get hp;have hmi':ms[i]? =some m:=by rw[<-Array.getElem?_toList];exact hmi
      simp only[Option.bind_some,hmi,Option.map_some] at hfk;refine Gf hS hd (x:=if ok then .tuple #[m.val, .bool true] else m.val) ?_ ?_ hK
      ·cases ok<;>simp [execOp,he,rx,Instr.lookup,run_underlying hu,hgo,hck,hfk]
      ·cases ok
       ·exact r2
       ·simp only[if_true,Rel,Aq];exact⟨_,rfl,_,_,rfl,r2,_,_,rfl,rfl,rfl⟩
     | none=>
      simp only[Option.bind_none] at hfk;cases hz:Bj P e with
      | none=>rw[hz] at h;exact h.elim
      | some z=>
       rw[hz] at h;obtain⟨ie,v,hie,hiz,rfl⟩:=Ip hz;refine Gf hS hd (x:=if ok then .tuple #[v, .bool false] else v) ?_ ?_ h
       ·cases ok<;>simp [execOp,he,rx,Instr.lookup,run_underlying hu,hgo,hck,hfk,zeroValue,typeInfo,hie,hiz]
       ·cases ok
        ·exact Em w s.heap v
        ·simp only[if_true,Rel,Aq];exact⟨_,rfl,_,_,rfl,Em w s.heap v,_,_,rfl,rfl,rfl⟩
 ·rename_i kt e
  obtain⟨hkt,h⟩:=h;simp only[Rel] at rx;have hfk:=Mu (P:=P) (w:=w) (es:= []) (ms:= []) hkt rk rfl (r:=none) rfl;have hck:=fun b=>Ky (P:=P) (w:=w) (b:=b) hkt rk 9999;simp only[Option.bind_none] at hfk;cases hz:Bj P e with
  | none=>rw[hz] at h;exact h.elim
  | some z=>
   rw[hz] at h;obtain⟨ie,v,hie,hiz,rfl⟩:=Ip hz;refine Gf hS hd (x:=if ok then .tuple #[v, .bool false] else v) ?_ ?_ h
   ·cases ok<;>simp [execOp,he,rx,Instr.lookup,run_underlying hu,hck,hfk,zeroValue,typeInfo,hie,hiz]
   ·cases ok
    ·exact Em w s.heap v
    ·simp only[if_true,Rel,Aq];exact⟨_,rfl,_,_,rfl,Em w s.heap v,_,_,rfl,rfl,rfl⟩
theorem Ci6 (hS:Sim G N s a w) (hd:By N o.dst=true) {c:Call} {x k:Operand} {t:TypeId} {ts:List TypeId} (hx:Bf N x=true) (hk:Bf N k=true) (he:o.op= .call c) (hc:c.callee= .builtin .delete) (hargs:c.args.toList= [x,k]) (hts:c.argTypes.toList=t::ts)
  (h:Tv P o.dst (P.underlying t) (dev G s.env x) (dev G s.env k) K s):o.wp P a w (Fg G N K s w) Qx:=by
 have rx:=Ax hS hx;have rk:=Ax hS hk;have hm':c.args.map a.eval= #[a.eval x,a.eval k]:=by apply Array.ext';simp [hargs]
 have hex:=Fm (a:=a) he hc;rw[hm'] at hex;have ht':c.argTypes[0]? =some t:=by rw[<-Array.getElem?_toList,hts];rfl
 generalize hu:P.underlying t=u at h;generalize dev G s.env x=dx at h rx;generalize dev G s.env k=dk at h rk;unfold Tv at h;split at h<;>try exact h.elim
 rename_i kt e r
 obtain⟨hkt,h⟩:=h;simp only[Rel] at rx;cases hh:s.heap r with
 | none=>rw[hh] at h;exact h.elim
 | some ob=>
  cases ob with
  | loop=>rw[hh] at h;exact h.elim
  | iter=>rw[hh] at h;exact h.elim
  | cells=>rw[hh] at h;exact h.elim
  | map es=>
   rw[hh] at h;simp only[Ab2] at h;obtain⟨ms,clock,ho,hm⟩:=hS.heap r _ hh;cases hf:Mp dk es 0 with
   | none=>rw[hf] at h;exact h.elim
   | some fi=>
    rw[hf] at h;simp only[Ab1] at h;have hfk:=Mu (P:=P) (w:=w) hkt rk hm hf;have hck:=fun b=>Ky (P:=P) (w:=w) (b:=b) hkt rk 9999;have hgo:=Mt (P:=P) ho rfl;have hnn:s.heap r≠none:=by rw[hh];simp
    cases fi with
    | none=>
     simp only[Option.bind_none] at hfk;obtain⟨k1,k2⟩:=Qm (o':= .map ms clock) (ob:= .map es) hS.heap hnn ho rfl rfl (fun w' H' hl=>⟨ms,clock,rfl,hm.lasts hl⟩);have hso:=Ir (P:=P) (.map ms clock) ho rfl;refine Fl hS hd (x:= .tuple #[]) ?_ k2 k1 (by simp [Rel,Aq]) h;rw[hex];simp [builtin,Builtin.delete_,ht',run_underlying hu,rx,hgo,hck,hfk,hso]
    | some i=>
     cases hmi:ms.toList[i]? with
     | none=>
      have hle:ms.toList.length<=i:=by rwa [List.getElem?_eq_none_iff] at hmi
      have he1:es.eraseIdx i=es:=List.eraseIdx_of_length_le (by rw[hm.len];exact hle);simp only[Option.bind_some,hmi,Option.map_none] at hfk;simp only[Ax7,he1] at h;obtain⟨k1,k2⟩:=Qm (o':= .map ms clock) (ob:= .map es) hS.heap hnn ho rfl rfl (fun w' H' hl=>⟨ms,clock,rfl,hm.lasts hl⟩);have hso:=Ir (P:=P) (.map ms clock) ho rfl;refine Fl hS hd (x:= .tuple #[]) ?_ k2 k1 (by simp [Rel,Aq]) h;rw[hex];simp [builtin,Builtin.delete_,ht',run_underlying hu,rx,hgo,hck,hfk,hso]
     | some m=>
      simp only[Option.bind_some,hmi,Option.map_some] at hfk;obtain⟨k1,k2⟩:=Qm (o':= .map (ms.eraseIdxIfInBounds i) clock) (ob:= .map (es.eraseIdx i)) hS.heap hnn ho rfl rfl (fun w' H' hl=>⟨_,clock,rfl,by
       rw[Array.toList_eraseIdxIfInBounds];exact(hm.lasts hl).erase i⟩)
      have hso:=Ir (P:=P) (.map (ms.eraseIdxIfInBounds i) clock) ho rfl;refine Fl hS hd (x:= .tuple #[]) ?_ k2 k1 (by simp [Rel,Aq]) h;rw[hex];simp [builtin,Builtin.delete_,ht',run_underlying hu,rx,hgo,hck,hfk,hso]
theorem Si.modify {w:World} {H:Ac} {f:MapEntry->MapEntry}: ∀ {es:List (DVal×DVal)} {ms:List MapEntry},Si w H es ms-> ∀(i:Nat) {p:DVal×DVal},(∀m,Rel w H p.1 (f m).key/\Rel w H p.2 (f m).val)->Si w H (es.set i p) (ms.modify i f)
 | [],_,h,i,p,_=>by rw[show _=_ from h];cases i<;>exact rfl
 | q::es,ms,h,0,p,k=>by
  obtain⟨m',ms',rfl,h1,h2,h3⟩:=h;exact⟨f m',ms',rfl,(k m').1,(k m').2,h3⟩
 | q::es,ms,h,i+1,p,k=>by
  obtain⟨m',ms',rfl,h1,h2,h3⟩:=h;exact⟨m',_,rfl,h1,h2,Si.modify h3 i k⟩
theorem Ab8 {k:DVal}: ∀ {es:List (DVal×DVal)} {n i:Nat},Mp k es n=some (some i)-> ∃p,n<=i/\es[i-n]? =some p/\Aa7 k p.1=some true
 | [],n,i,h=>by simp [Mp] at h
 | q::es,n,i,h=>by
  simp only[Mp] at h;cases hb:Aa7 k q.1 with
  | none=>rw[hb] at h;cases h
  | some b=>
   rw[hb] at h;cases b with
   | true=>simp only[Aa8] at h;cases h;exact⟨q,Nat.le_refl _,by simp,hb⟩
   | false=>
    simp only[Aa8] at h;obtain⟨p,h1,h2,h3⟩:=Ab8 h;refine⟨p,by omega,?_,h3⟩;rw[show i-n=(i-(n+1))+1 by omega];simpa using h2
theorem By0 {w:World} {H:Ac} {k k':DVal} {x x':Value} (h:Rel w H k x) (h':Rel w H k' x') (hb:Aa7 k k'=some true) (n:Nat):Instr.sameBits n x' x=true:=by
 cases k<;>(try (simp [Aa7] at hb;done))<;>cases k'<;>simp only[Aa7] at hb<;>(try (cases hb;done))
 ·simp only[Rel] at h h';subst h;subst h';simp at hb;subst hb;cases n<;>simp [Instr.sameBits]
 ·split at hb<;>simp at hb
  rename_i e;subst e;subst hb
  simp only[Rel] at h h';subst h;subst h';cases n<;>simp [Instr.sameBits]
 ·simp only[Rel] at h h';subst h;subst h';simp at hb;subst hb;have e1: ∀l:List UInt8,((⟨⟨l⟩⟩:ByteArray)==⟨⟨l⟩⟩)=true:=fun l=>by
   show((⟨l⟩:Array UInt8)==⟨l⟩)=true;simp
  cases n<;>simp [Instr.sameBits,e1]
theorem Ay9 (hS:Sim G N s a w) {t:TypeId} {x k y:Operand} (hx:Bf N x=true) (hk:Bf N k=true) (hy:Bf N y=true) (he:o.op= .mapUpdate t x k y\/o.op= .insert t x k y)
  (h:Ri P o.dst (P.underlying t) (dev G s.env x) (dev G s.env k) (dev G s.env y) K s):o.wp P a w (Fg G N K s w) Qx:=by
 have rx:=Ax hS hx;have rk:=Ax hS hk;have ry:=Ax hS hy;generalize hu:P.underlying t=u at h;generalize dev G s.env x=dx at h rx;generalize dev G s.env k=dk at h rk;generalize dev G s.env y=dy at h ry;unfold Ri at h;split at h<;>try exact h.elim
 rename_i kt e r
 obtain⟨hdst,hkt,h⟩:=h;simp only[Rel] at rx;cases hh:s.heap r with
 | none=>rw[hh] at h;exact h.elim
 | some ob=>
  cases ob with
  | loop=>rw[hh] at h;exact h.elim
  | iter=>rw[hh] at h;exact h.elim
  | cells=>rw[hh] at h;exact h.elim
  | map es=>
   rw[hh] at h;obtain⟨hone,h⟩:=h;obtain⟨ms,clock,ho,hm⟩:=hS.heap r _ hh;cases hf:Mp dk es 0 with
   | none=>rw[hf] at h;exact h.elim
   | some fi=>
    rw[hf] at h;simp only[Tu] at h;have hfk:=Mu (P:=P) (w:=w) hkt rk hm hf;have hck:=fun b=>Ky (P:=P) (w:=w) (b:=b) hkt rk 9999;have hgo:=Mt (P:=P) ho rfl;have hnn:s.heap r≠none:=by rw[hh];simp
    have fin: ∀ {o':Obj} {es':List (DVal×DVal)},Iy o'=true->(∀w' H',Lasts s.heap w H' w'->Sj w' H' (.map es') (some o'))->(execOp a.eval o).run P w= .ok .skip (w.putObj r o')->K ⟨s.env,upd s.heap r (some (.map es'))⟩->o.wp P a w (Fg G N K s w) Qx:=by
     intro o' es' hb' hob hrun hK;obtain⟨k1,k2⟩:=Qm hS.heap hnn ho rfl hb' hob;unfold Oper.wp;rw[hrun];show Fg G N K s w (a.put o.dst undef) _;rw[hdst];exact⟨_,hK,hS.ext k2 k1,k2⟩
    cases fi with
    | none=>
     simp only[Option.bind_none] at hfk;have hso:=Ir (P:=P) (.map (ms.push { key:=a.eval k,val:=a.eval y,born:=clock }) (clock+1)) ho rfl;refine fin (o':= .map (ms.push { key:=a.eval k,val:=a.eval y,born:=clock }) (clock+1)) rfl (fun w' H' hl=>⟨_,_,rfl,?_⟩) ?_ h
     ·rw[Array.toList_push];exact(hm.lasts hl).app (fs:= [(dk,dy)]) ⟨_,[],rfl,Rel.lasts hl _ _ rk,Rel.lasts hl _ _ ry,rfl⟩
     ·rcases he with he | he<;>simp [execOp,he,rx,Instr.mapUpdate,run_underlying hu,hgo,hck,hfk,hso]
    | some i=>
     obtain⟨p,_,hp,hkey⟩:=Ab8 hf;rw[Nat.sub_zero] at hp;obtain⟨m,hmi,r1,r2⟩:=hm.get hp;have hmi':ms[i]? =some m:=by rw[<-Array.getElem?_toList];exact hmi
     simp only[Option.bind_some,hmi,Option.map_some] at hfk;have hsb:=By0 rk r1 hkey 10000;have hso:=Ir (P:=P) (.map (ms.modify i fun e=> { e with key:=a.eval k,val:=a.eval y }) clock) ho rfl;refine fin (o':= .map (ms.modify i fun e=> { e with key:=a.eval k,val:=a.eval y }) clock) rfl (fun w' H' hl=>⟨_,_,rfl,?_⟩) ?_ h
     ·rw[Array.toList_modify];exact(hm.lasts hl).modify i (fun m=>⟨Rel.lasts hl _ _ rk,Rel.lasts hl _ _ ry⟩)
     ·rcases he with he | he<;>simp [execOp,he,rx,Instr.mapUpdate,run_underlying hu,hgo,hck,hfk,hmi',Instr.keyThatStays,hsb,hso]
end
end Go.Dl

-- THE DATA LEVEL, PART V: calls, regions, code: what the data level says of a piece of code is true of the model's.
namespace Go.Dl
open Go
section
variable {P:Program} {G:Nat->DVal} {N:Fr}
variable {o:Oper} {s s0:DS} {a:Act} {w w0:World} {K:DK} {Q:DExit->DS->Prop}
theorem Ai.mono {f:FuncId} {args:List DVal} {H:Ac} {R R':DEnd->Ac->Prop} (h:Ai P G f args H R) (hr: ∀e H',R e H'->R' e H'):Ai P G f args H R':=
 ⟨h.1,fun vs w hv hH hG=>(h.2 vs w hv hH hG).mono fun e w' ⟨e',H',r,k⟩=>⟨e',H',hr _ _ r,k⟩⟩
theorem Zf.mono {l:Nat} {args:List DVal} {H:Ac} {R R':DEnd->Ac->Prop} (h:Zf P G l args H R) (hr: ∀e H',R e H'->R' e H'):Zf P G l args H R':=
 fun F n hF vs w hv hH hG=>by
  obtain⟨fn,tmps,asg,body,h1,h2⟩:=h F n hF vs w hv hH hG;exact⟨fn,tmps,asg,body,h1,h2.mono fun e w' ⟨e',H',r,k⟩=>⟨e',H',hr _ _ r,k⟩⟩
theorem Dh5 (hS:Sim G N s a w) (hE0:Ext s0.heap w0 s.heap w) (hd:By N o.dst=true) {c:Call} {f:Operand} (hf:Bf N f=true) (hx:c.args.toList.all (Bf N)=true) (he:o.op= .call c) (hc:c.callee= .value f)
  (hny: ∀l,dev G s.env f≠ .func (.yield l) [] []) (h:Ab3 P G (Eo G s.env c.args.toList) o.dst Q (dev G s.env f) K s):o.wp P a w (Fg G N K s w) (Ks G N Q s0 w0):=by
 have rf:=Ax hS hf;have rl:=Ls hS hx;generalize dev G s.env f=df at h rf hny;generalize Eo G s.env c.args.toList=ds at h rl;unfold Ab3 at h;split at h<;>try first | exact h.elim | exact(hny _ rfl).elim
 rename_i k first captured
 simp only[Rel] at rf;obtain⟨xs,ys,hfv,h1,h2⟩:=rf;obtain⟨hcall,hcalls⟩:=h;have hargs:Aq w s.heap (first++ds++captured) (xs.toList++c.args.toList.map a.eval++ys.toList):=(h1.append rl).append h2;have harr:(xs++c.args.map a.eval++ys)=(xs.toList++c.args.toList.map a.eval++ys.toList).toArray:=by apply Array.ext';simp
 have hrun:(execOp a.eval o).run P w= .ok (.enter k (xs++c.args.map a.eval++ys)) w:=by
  simp only[execOp,he,resolve,hc,hfv,Deferred.ofValue,Sem.run_bind,Sem.run_pure,Result.andThen_ok,invoke,hcall]
 unfold Oper.wp;rw[hrun,harr];refine(hcalls _ _ hargs hS.heap hS.glob).mono fun e w' ⟨e',H',hR,hre,hH',hE⟩=> ?_;cases hre with
 | ret d v hv=>exact⟨_,hR,(hS.ext hE hH').put hd hv,hE⟩
 | panic d v hv=>exact⟨_,_,hR, .panic _ _ hv,hS.ext hE hH',hE0.trans hE⟩
theorem Jm (h:Gt N o=true):By N o.dst=true:=by
 unfold Gt at h;rw[Bool.and_eq_true] at h;unfold By;exact h.1
theorem Ab9 {α:Type} (p:α->Bool) (xs:Array α):xs.all p=xs.toList.all p:=by
 rw[<-Array.all_toList]
theorem Az0 {x:DVal} {v:Value} (hS:Sim G N s a w) (hE0:Ext s0.heap w0 s.heap w) (hrun:(execOp a.eval o).run P w=((Instr.panic v).run P w).andThen fun v w'=> .ok (.value v) w') (hv:Rel w s.heap x v) (h:Sl Q s x) {next:Act->World->Prop}:o.wp P a w next (Ks G N Q s0 w0):=by
 unfold Sl at h;split at h<;>try exact h.elim
 have hv':=hv;simp only[Rel] at hv;obtain⟨y,rfl,hy⟩:=hv;unfold Oper.wp;rw[hrun];simp only[Instr.panic,goPanic,Sem.run_halt,Result.andThen_halt];exact⟨_,s,h, .panic _ _ hv',hS,hE0⟩
theorem By1 (hny: ∀c f l,o.op= .call c->c.callee= .value f->dev G s.env f≠ .func (.yield l) [] []) (hok:Gt N o=true) (hS:Sim G N s a w) (hE0:Ext s0.heap w0 s.heap w) (h:dop P G o.dst K Q s o.op):o.wp P a w (Fg G N K s w) (Ks G N Q s0 w0):=by
 have hd:=Jm hok
 unfold Gt at hok
 rw[Bool.and_eq_true] at hok
 have hop:=hok.2
 rw[Ab9] at hop
 cases hq:o.op<;>rw[hq] at h hop<;>simp only[Op.operands,Call.operands,List.all_cons,List.all_nil,Bool.and_true,Bool.and_eq_true] at hop<;>try (exact h.elim)
 case move x=>exact(Dg8 hS hd hop hq h).wp hS hd
 case assign x=>exact(Ch8 hS hd hop hq h).wp hS hd
 case pick c x y=>exact(Dg9 hS hd hop.1 hop.2.1 hop.2.2 hq h).wp hS hd
 case alloc e=>exact Cu6 hS hd hq h
 case box e x=>exact Dm8 hS hd hop hq h
 case build t ps=>exact Cu8 hS hd (by simpa [Function.comp_def] using hop) hq h
 case buildSlice t n ps=>exact Ar2 hS hd (by simpa [Function.comp_def] using hop) hq h
 case load t x=>exact(Dh0 hS hd hop hq h).wp hS hd
 case store t x y=>exact Cu7 hS hop.1 hop.2 hq h
 case nilCheck x=>exact(Bj2 hS hd hop hq h).wp hS hd
 case binOp op t x y t'=>exact(Dh3 hS hd hop.1 hop.2 hq h).wp hS hd
 case unOp op t x=>exact(Dh1 hS hd hop hq h).wp hS hd
 case convert src t x=>exact(Cv3 hS hd hop hq h).wp hS hd
 case range t x=>exact Cv4 hS hd hop hq h
 case next x b=>exact Dh4 hS hd hop hq h
 case makeInterface t x=>exact(Ax9 hS hd hop hq h).wp hS hd
 case makeFunc fn fs cs=>
  simp only[Array.toList_append,List.all_append,Bool.and_eq_true] at hop
  exact(Bj3 hS hd hop.1 hop.2 hq h).wp hS hd
 case makeMap t x=>
  have opt: ∀(z:Option Operand),z.toArray.toList.all (Bf N)=true->(match z with | some x=>Bf N x | none=>true)=true:=by
   intro z hz;cases z with
   | none=>rfl
   | some z=>simpa using hz
  exact Bx9 hS hd (opt _ hop) hq h
 case lookup t x k ok=>exact Ci5 hS hd hop.1 hop.2 hq h
 case mapUpdate t m k x=>exact Ay9 hS hop.1 hop.2.1 hop.2.2 (.inl hq) h
 case insert t m k x=>exact Ay9 hS hop.1 hop.2.1 hop.2.2 (.inr hq) h
 case makeSlice t l c=>exact Ay3 hS hd hop.1 hop.2 hq h
 case slice t x lo hi mx=>
  simp only[Array.toList_append,List.all_append,Bool.and_eq_true,List.all_cons,List.all_nil,Bool.and_true] at hop
  have opt: ∀(z:Option Operand),z.toArray.toList.all (Bf N)=true->(match z with | some x=>Bf N x | none=>true)=true:=by
   intro z hz;cases z with
   | none=>rfl
   | some z=>simpa using hz
  exact(Cv1 hS hd hop.1.1.1 (opt _ hop.1.1.2) (opt _ hop.1.2) (opt _ hop.2) hq h).wp hS hd
 case fieldAddr t x f=>exact(Ay1 hS hd hop hq h).wp hS hd
 case field t x f=>exact(Cu9 hS hd hop hq h).wp hS hd
 case indexAddr t x i=>exact(Ay2 hS hd hop.1 hop.2 hq h).wp hS hd
 case index t x i=>exact(Cv0 hS hd hop.1 hop.2 hq h).wp hS hd
 case typeAssert x t u ok=>exact(Ar3 hS hd hop hq h).wp hS hd
 case extract x i=>exact(Bx3 hS hd hop hq h).wp hS hd
 case panic x=>
  exact Az0 hS hE0 (v:=a.eval x) (by simp [execOp,hq]) (Ax hS hop) h
 case call c=>
  simp only[dop] at h
  simp only[Array.toList_append,List.all_append,Bool.and_eq_true] at hop
  obtain⟨hcal,hargs⟩:=hop
  cases hc:c.callee with
  | invoke r m=>rw[hc] at h;exact h.elim
  | value f=>
   rw[hc] at h hcal
   simp only[Oj] at h
   exact Dh5 hS hE0 hd (by simpa using hcal) hargs hq hc (fun l=>hny c f l hq hc) h
  | builtin b=>
   rw[hc] at h
   simp only[Oj] at h
   cases b<;>(try (cases hdv:Eo G s.env c.args.toList<;>rw[hdv] at h<;>exact h.elim))
   case len=>
    cases hdv:Eo G s.env c.args.toList with
    | nil=>rw[hdv] at h;exact h.elim
    | cons d ds=>cases ds with
     | cons d2 ds=>rw[hdv] at h;exact h.elim
     | nil=>
      obtain⟨x,hx,rfl⟩:=Ua hdv
      rw[hdv] at h
      rw[hx] at hargs
      simp only[Ic] at h
      cases hts:c.argTypes.toList with
      | nil=>rw[hts] at h;exact h.elim
      | cons t ts=>cases ts with
       | nil=>rw[hts] at h;exact(Dm9 hS hd (by simpa using hargs) hq hc hx hts h).wp hS hd
       | cons t' ts'=>rw[hts] at h;exact h.elim
   case cap=>
    cases hdv:Eo G s.env c.args.toList with
    | nil=>rw[hdv] at h;exact h.elim
    | cons d ds=>cases ds with
     | cons d2 ds=>rw[hdv] at h;exact h.elim
     | nil=>
      obtain⟨x,hx,rfl⟩:=Ua hdv
      rw[hdv] at h
      rw[hx] at hargs
      simp only[Ic] at h
      cases hts:c.argTypes.toList with
      | nil=>rw[hts] at h;exact h.elim
      | cons t ts=>cases ts with
       | nil=>rw[hts] at h;exact(Dn0 hS hd (by simpa using hargs) hq hc hx hts h).wp hS hd
       | cons t' ts'=>rw[hts] at h;exact h.elim
   case clear=>
    cases hdv:Eo G s.env c.args.toList with
    | nil=>rw[hdv] at h;exact h.elim
    | cons d ds=>cases ds with
     | cons d2 ds=>rw[hdv] at h;exact h.elim
     | nil=>
      obtain⟨x,hx,rfl⟩:=Ua hdv
      rw[hdv] at h
      rw[hx] at hargs
      simp only[Ic] at h
      cases hts:c.argTypes.toList with
      | nil=>rw[hts] at h;exact h.elim
      | cons t ts=>cases ts with
       | nil=>rw[hts] at h;exact Cv2 hS hd (by simpa using hargs) hq hc hx hts h
       | cons t' ts'=>rw[hts] at h;exact h.elim
   case delete=>
    cases hdv:Eo G s.env c.args.toList with
    | nil=>rw[hdv] at h;exact h.elim
    | cons d ds=>cases ds with
     | nil=>rw[hdv] at h;exact h.elim
     | cons d2 ds=>cases ds with
      | cons d3 ds=>rw[hdv] at h;exact h.elim
      | nil=>
       obtain⟨x,y,hx,rfl,rfl⟩:=Ay5 hdv
       rw[hdv] at h
       rw[hx] at hargs
       simp only[List.all_cons,List.all_nil,Bool.and_true,Bool.and_eq_true] at hargs
       simp only[Ic] at h
       cases hts:c.argTypes.toList with
       | nil=>rw[hts] at h;exact h.elim
       | cons t ts=>rw[hts] at h;exact Ci6 hS hd hargs.1 hargs.2 hq hc hx hts h
   case append=>
    cases hdv:Eo G s.env c.args.toList with
    | nil=>rw[hdv] at h;exact h.elim
    | cons d ds=>cases ds with
     | nil=>rw[hdv] at h;exact h.elim
     | cons d2 ds=>cases ds with
      | cons d3 ds=>rw[hdv] at h;exact h.elim
      | nil=>
       obtain⟨x,y,hx,rfl,rfl⟩:=Ay5 hdv
       rw[hdv] at h
       rw[hx] at hargs
       simp only[List.all_cons,List.all_nil,Bool.and_true,Bool.and_eq_true] at hargs
       simp only[Ic] at h
       cases hts:c.argTypes.toList with
       | nil=>rw[hts] at h;exact h.elim
       | cons t ts=>cases ts with
        | nil=>rw[hts] at h;exact h.elim
        | cons t' ts'=>cases ts' with
         | nil=>
          rw[hts] at h
          simp only[Vw] at h
          cases hit:Jl (P.underlying t') with
          | true=>rw[hit] at h;exact Bx8 hS hd hargs.1 hargs.2 hq hc hx hts hit h
          | false=>rw[hit] at h;exact Ci3 hS hd hargs.1 hargs.2 hq hc hx hts h
         | cons t3 ts3=>rw[hts] at h;exact h.elim
   case min=>exact(Ay6 (isMax:=false) hS hd hargs hq hc h).wp hS hd
   case max=>exact(Ay6 (isMax:=true) hS hd hargs hq hc h).wp hS hd
   case panic=>
    cases hdv:Eo G s.env c.args.toList with
    | nil=>rw[hdv] at h;exact h.elim
    | cons d ds=>cases ds with
     | cons d2 ds=>rw[hdv] at h;exact h.elim
     | nil=>
      obtain⟨x,hx,rfl⟩:=Ua hdv
      rw[hdv] at h
      rw[hx] at hargs
      have hm:c.args.map a.eval= #[a.eval x]:=by apply Array.ext';simp [hx]
      refine Az0 hS hE0 (v:=a.eval x) ?_ (Ax hS (by simpa using hargs)) h
      rw[Fm hq hc,hm]
      simp [builtin]
theorem Uc: ∀(all:List Oper) (j:Nat),Mq all j=(all[j]?).bind (·.dst)
 | [],j=>by simp [Mq]
 | o::r,0=>by simp [Mq]
 | o::r,j+1=>by simp [Mq,Uc r j]
theorem Az1 {dst:Option Nat} {K:DK} {Q:DExit->DS->Prop} {s:DS} {op:Op} (h:dop P G dst K Q s op) (c:Call):op≠ .defer c:=by
 intro e;subst e;exact h
theorem Cv5 {F:Fence} {n:Nat} (hF:FOk F) (hS:Sim G N s a w) (hE0:Ext s0.heap w0 s.heap w) (hd:By N o.dst=true) {c:Call} {f:Operand} {l:Nat} (hf:Bf N f=true) (hx:c.args.toList.all (Bf N)=true) (he:o.op= .call c) (hc:c.callee= .value f)
  (hy:dev G s.env f= .func (.yield l) [] []) (h:Zf P G l (Eo G s.env c.args.toList) s.heap (Bj0 o.dst K Q s.env)):o.wpIn F n P a w (Fg G N K s w) (Ks G N Q s0 w0):=by
 have rf:=Ax hS hf;have rl:=Ls hS hx;rw[hy] at rf;generalize Eo G s.env c.args.toList=ds at h rl;simp only[Rel,Aq] at rf;obtain⟨xs,ys,hfv,h1,h2⟩:=rf;have hxs:xs= #[]:=by cases xs;simp at h1;subst h1;rfl
 subst hxs;obtain⟨fn,tmps,asg,body,hrun,hround⟩:=h F (n-1) hF _ w rl hS.heap hS.glob;have hrun':(execOp a.eval o).run P w= .ok (.round l fn tmps asg body) w:=by
  have:(c.args.toList.map a.eval).toArray=c.args.map a.eval:=by apply Array.ext';simp
  rw[this] at hrun;simp only[execOp,he,resolve,hc,hfv,Deferred.ofValue,Sem.run_bind,Sem.run_pure,Result.andThen_ok,invoke];simpa using hrun
 refine⟨fun f _=>hF.fn f,?_⟩;rw[Oper.semAt_eq _ _ _ (by intro c' e;rw[he] at e;cases e),hrun',Oper.uponIn_round];refine⟨(by rw[hF.depth];intro hh;cases hh),hround.mono fun e w' ⟨e',H',hR,hre,hH',hE⟩=> ?_⟩;cases hre with
 | ret d v hv=>exact⟨_,hR,(hS.ext hE hH').put hd hv,hE⟩
 | panic d v hv=>exact⟨_,_,hR, .panic _ _ hv,hS.ext hE hH',hE0.trans hE⟩
theorem Mv {F:Fence} {n:Nat} (hF:FOk F) (hok:Gt N o=true) (hS:Sim G N s a w) (hE0:Ext s0.heap w0 s.heap w) (h:dop P G o.dst K Q s o.op):o.wpIn F n P a w (Fg G N K s w) (Ks G N Q s0 w0):=by
 by_cases hy: ∃c f l,o.op= .call c/\c.callee= .value f/\dev G s.env f= .func (.yield l) [] []
 ·obtain⟨c,f,l,h1,h2,h3⟩:=hy;have hd:=Jm hok;unfold Gt at hok;rw[Bool.and_eq_true] at hok;have hop:=hok.2;rw[Ab9] at hop;rw[h1] at h hop;simp only[Op.operands,Call.operands,Array.toList_append,List.all_append,Bool.and_eq_true] at hop;obtain⟨hcal,hargs⟩:=hop;rw[h2] at hcal;simp only[dop,h2,Oj,h3,Ab3] at h;exact Cv5 hF hS hE0 hd (by simpa using hcal) hargs h1 h2 h3 h
 ·exact hF.oper (Az1 h) (By1 (fun c f l h1 h2 h3=>hy ⟨c,f,l,h1,h2,h3⟩) hok hS hE0 h)
theorem So {F:Fence} {n:Nat} (hF:FOk F) (all:List Oper) (hall:all.all (Gt N)=true): ∀(rest:List Oper),rest.all (Gt N)=true-> ∀(s:DS) (a:Act) (w:World),Sim G N s a w->Ext s0.heap w0 s.heap w->Kv P G all Q rest s->
  wpListIn F n P all.toArray (Ks G N Q s0 w0) rest a w
 | [],_,s,a,w,hS,hE,h=>⟨.normal,s,h, .normal,hS,hE⟩
 | o::rest,hr,s,a,w,hS,hE,h=>by
  simp only[List.all_cons,Bool.and_eq_true] at hr;have next: ∀(o:Oper) s a w,Sim G N s a w->Ext s0.heap w0 s.heap w->Gt N o=true->dop P G o.dst (Kv P G all Q rest) Q s o.op->o.wpIn F n P a w (wpListIn F n P all.toArray (Ks G N Q s0 w0) rest) (Ks G N Q s0 w0):=by
   intro o s a w hS hE hok hd;exact Oper.wpIn_mono (fun a' w' ⟨s',hK,hS',hE'⟩=>So hF all hall rest hr.2 s' a' w' hS' (hE.trans hE') hK) (Mv hF hok hS hE hd)
  have skip:Bb o.dst Dc (Kv P G all Q rest) s->wpListIn F n P all.toArray (Ks G N Q s0 w0) rest (a.put o.dst undef) w:=fun hp=>
   So hF all hall rest hr.2 _ _ _ (hS.put (Jm hr.1) (Ok w s.heap)) hE hp
  unfold wpListIn;simp only[Kv] at h;cases hg:o.guard with
  | none=>
   rw[hg] at h;rw[if_pos (by simp [Region.wanted,hg])];exact(next o s a w hS hE hr.1 h)
  | some jb=>
   obtain⟨j,b⟩:=jb;rw[hg] at h;simp only at h;cases hj:Mq all j with
   | none=>rw[hj] at h;exact h.elim
   | some g=>
    rw[hj] at h;simp only at h;have hjo:(all[j]?).bind (·.dst)=some g:=by rw[<-Uc];exact hj
    obtain⟨oj,hoj,hdj⟩:=Option.bind_eq_some_iff.1 hjo;have hmem:oj∈all:=List.mem_of_getElem? hoj;have hgN:g<N:=by
     have:=List.all_eq_true.1 hall oj hmem;have:=Jm this;rw[hdj] at this;simpa [By] using this
    have hrel:=hS.tmps g hgN;by_cases hun:s.env g= .tuple []
    ·rw[hun] at h hrel;simp only[Rel,Aq] at hrel;obtain⟨xs,hxs,hx0⟩:=hrel;have hy:yielded all.toArray a.tmps j=none:=by
      have h2: ∀z,a.tmps[g]? =some z->z= .tuple xs:=fun z hz=>by
       rw[Array.getD_eq_getD_getElem?,hz] at hxs;simpa using hxs
      unfold yielded;simp only[List.getElem?_toArray,hjo,Option.bind_some];cases hz:a.tmps[g]? with
      | none=>rfl
      | some z=>rw[h2 z hz]
     rw[if_neg (by simp [Region.wanted,hg,hy])];exact⟨fun f _=>hF.fn f,skip h⟩
    split at h<;>(try exact h.elim)<;>(try (rename_i hv;exact absurd hv hun))
    rename_i v hv
    rw[hv] at hrel;simp only[Rel] at hrel;have hy:yielded all.toArray a.tmps j=some v:=by
     have h1:a.tmps[g]? =some (.bool v):=by
      rw[Array.getD_eq_getD_getElem?] at hrel;cases hq:a.tmps[g]? with
      | none=>
       have:=hS.size;rw[Array.getElem?_eq_none_iff] at hq;omega
      | some z=>rw[hq] at hrel;simpa using hrel
     simp [yielded,hoj,hdj,h1]
    by_cases hvb:v=b
    ·rw[if_pos (by simp [Region.wanted,hg,hy,hvb])];exact(next o s a w hS hE hr.1 (h.1 hvb))
    ·rw[if_neg (by simp [Region.wanted,hg,hy,hvb])];exact⟨fun f _=>hF.fn f,skip (h.2 hvb)⟩
end
end Go.Dl

-- THE DATA LEVEL, PART E: the equations by which a piece of code is worked out.
namespace Go.Dl
open Go
section
variable {P:Program} {G:Nat->DVal} {N:Nat} {all:List Oper} {Q:DExit->DS->Prop} {s:DS} {rest:List Oper}
theorem Ci7:Kv P G all Q [] s=Q .normal s:=rfl
theorem By2 {dst:Option Nat} {op:Op} {t:TypeId} {p:String} {a:Array Edge}:Kv P G all Q (⟨dst,op,t,p,a,none⟩::rest) s=dop P G dst (Kv P G all Q rest) Q s op:=rfl
theorem By3 (dst:Option Nat) (op:Op) (b:Bool) (g:DVal):Bj1 P G all Q dst op rest s b g=(match g with
  | .bool v=>(v=b->dop P G dst (Kv P G all Q rest) Q s op)/\(v≠b->Bb dst Dc (Kv P G all Q rest) s)
  | .tuple []=>Bb dst Dc (Kv P G all Q rest) s
  | _=>False):=by
 cases g with
 | bool v=>cases b<;>cases v<;>simp [Bj1]
 | tuple l=>cases l<;>cases b<;>rfl
 | _=>cases b<;>rfl
theorem Bj8 {dst:Option Nat} {op:Op} {t:TypeId} {p:String} {a:Array Edge} {j:Nat} {b:Bool}:
  Kv P G all Q (⟨dst,op,t,p,a,some (j,b)⟩::rest) s=Aq9 P G all Q dst op rest s b (Mq all j):=by
 rw[Kv];cases h:Mq all j with
 | none=>simp [Aq9,h]
 | some g=>
  simp only[Aq9,h,By3];rfl
theorem Ci8:dwp P G N .skip Q s=Q .normal s:=rfl
theorem By4 {l:Nat}:dwp P G N (.label l) Q s=Q .normal s:=rfl
theorem Bj9 {id:Nat} {ops:List Oper}:dwp P G N (.region id ops.toArray false) Q s=Kv P G ops Q ops s:=rfl
theorem Cv6 {a b:Code}:dwp P G N (.seq a b) Q s=dwp P G N a (Xs (dwp P G N b Q) Q) s:=rfl
theorem Ci9 {c:Operand} {a b:Code}:dwp P G N (.cond c a b) Q s=De1 (dwp P G N a Q) (dwp P G N b Q) s (dev G s.env c):=rfl
theorem By5 {id:Nat} {c:Code}:dwp P G N (.block id c) Q s=dwp P G N c (Ar1 id Q) s:=rfl
theorem Cj0 {c:Code}:dwp P G N (.loop c) Q s=Bt4 G (dwp P G N c) Q s:=rfl
theorem By6 {c:Code}:dwp P G N (.scope c) Q s=dwp P G N c (Bt3 Q) s:=rfl
theorem Cj1 {id:Nat}:dwp P G N (.exit id) Q s=Q (.exit id) s:=rfl
theorem Cv7:dwp P G N .ret Q s=Q .ret s:=rfl
theorem Aa {α:Type} (f:Nat->α) (i:Nat) (v:α):upd f i v i=v:=by simp [upd]
theorem By7 {α:Type} (f:Nat->α) (i j:Nat) (v:α):upd f i v j=if j=i then v else f j:=rfl
theorem Cj2 (n:Nat) (z:DVal):Cx n [z]=List.replicate n z:=by
 unfold Cx
 induction n with
 | zero=>rfl
 | succ n ih=>simp [List.replicate_succ,ih]
end
section
variable {P:Program} {s:DS}
theorem Bk0 (e:TypeId):Dg6 (some (.slice e))=true:=rfl
theorem Cv8 {t:TypeId} {c:Bool} {op:BinOp} {dst:Option Nat} {cs:List DVal} {n:Nat} {y:DVal} {K:DK}:Xp P t c op dst true (.vslice cs n) y K s=(Dg6 (P.underlying t)=true/\Dd8 cs op dst K s):=rfl
theorem By8 {t:TypeId} {c:Bool} {op:BinOp} {dst:Option Nat} {y:DVal} {K:DK}:Xp P t c op dst true .nilSlice y K s=Kp P t c op dst .nilSlice y K s:=rfl
theorem Cv9 {t:TypeId} {c:Bool} {op:BinOp} {dst:Option Nat} {z r o n l:Nat} {y:DVal} {K:DK}:Xp P t c op dst true (.oslice z r o n l) y K s=Kp P t c op dst (.oslice z r o n l) y K s:=rfl
theorem Bk1 (t:Nat):Fy (.tmp t)=false:=rfl
theorem Aj8 (t:Nat):Fy (.global t)=false:=rfl
theorem Az2 (t:Nat):Fy (.func t)=false:=rfl
theorem Bk2 (k:IntKind) (n:Int):Fy (.const (.int k n))=false:=rfl
theorem Az3 (b:Bool):Fy (.const (.bool b))=false:=rfl
theorem Bk3 (b:ByteArray):Fy (.const (.string b))=false:=rfl
theorem Bk4 (b:Option Addr):Fy (.const (.pointer b))=false:=rfl
theorem Bk5 (b:Option Nat):Fy (.const (.map b))=false:=rfl
theorem By9:Fy (.const .nilFunc)=false:=rfl
theorem Bz0:Fy (.const .nilIface)=false:=rfl
theorem Bk6 (a:Array Value):Fy (.const (.agg a))=false:=rfl
theorem Bk7:Fy (.const (.slice none 0 0))=true:=rfl
end
attribute [go_sem] Bk0 Mr Cv8 By8 Cv9 Bk1 Aj8 Az2 Bk2 Az3 Bk3 Bk4 Bk5 By9 Bz0 Bk6 Bk7
theorem Sp {P:Program} {t:TypeId} {c:Bool} {op:BinOp} {dst:Option Nat} {K:DK} {s:DS} {a:Bool} {b:Bool}:Kp P t c op dst (.bool a) (.bool b) K s=Lm dst (Mk op) (Py c (P.underlying t) (.bool a) (.bool b)) K s:=rfl
theorem Sq {P:Program} {t:TypeId} {c:Bool} {op:BinOp} {dst:Option Nat} {K:DK} {s:DS}:Kp P t c op dst (.nilPtr) (.nilPtr) K s=Lm dst (Mk op) (Py c (P.underlying t) (.nilPtr) (.nilPtr)) K s:=rfl
theorem Qn {P:Program} {t:TypeId} {c:Bool} {op:BinOp} {dst:Option Nat} {K:DK} {s:DS} {r:Nat} {o:Nat}:Kp P t c op dst (.nilPtr) (.optr r o) K s=Lm dst (Mk op) (Py c (P.underlying t) (.nilPtr) (.optr r o)) K s:=rfl
theorem Pz {P:Program} {t:TypeId} {c:Bool} {op:BinOp} {dst:Option Nat} {K:DK} {s:DS} {o:Nat} {cs:List DVal}:Kp P t c op dst (.nilPtr) (.vptr cs o) K s=Lm dst (Mk op) (Py c (P.underlying t) (.nilPtr) (.vptr cs o)) K s:=rfl
theorem Qo {P:Program} {t:TypeId} {c:Bool} {op:BinOp} {dst:Option Nat} {K:DK} {s:DS} {r:Nat} {o:Nat}:Kp P t c op dst (.optr r o) (.nilPtr) K s=Lm dst (Mk op) (Py c (P.underlying t) (.optr r o) (.nilPtr)) K s:=rfl
theorem Qa {P:Program} {t:TypeId} {c:Bool} {op:BinOp} {dst:Option Nat} {K:DK} {s:DS} {o:Nat} {cs:List DVal}:Kp P t c op dst (.vptr cs o) (.nilPtr) K s=Lm dst (Mk op) (Py c (P.underlying t) (.vptr cs o) (.nilPtr)) K s:=rfl
theorem Nq {P:Program} {t:TypeId} {c:Bool} {op:BinOp} {dst:Option Nat} {K:DK} {s:DS} {i:TypeId} {v:DVal}:Kp P t c op dst (.nilIface) (.iface i v) K s=Lm dst (Mk op) (Py c (P.underlying t) (.nilIface) (.iface i v)) K s:=rfl
theorem Nr {P:Program} {t:TypeId} {c:Bool} {op:BinOp} {dst:Option Nat} {K:DK} {s:DS} {i:TypeId} {v:DVal}:Kp P t c op dst (.iface i v) (.nilIface) K s=Lm dst (Mk op) (Py c (P.underlying t) (.iface i v) (.nilIface)) K s:=rfl
theorem Oo {P:Program} {t:TypeId} {c:Bool} {op:BinOp} {dst:Option Nat} {K:DK} {s:DS}:Kp P t c op dst (.nilIface) (.nilIface) K s=Lm dst (Mk op) (Py c (P.underlying t) (.nilIface) (.nilIface)) K s:=rfl
theorem Qp {P:Program} {t:TypeId} {c:Bool} {op:BinOp} {dst:Option Nat} {K:DK} {s:DS}:Kp P t c op dst (.nilFunc) (.nilFunc) K s=Lm dst (Mk op) (Py c (P.underlying t) (.nilFunc) (.nilFunc)) K s:=rfl
theorem Ns {P:Program} {t:TypeId} {c:Bool} {op:BinOp} {dst:Option Nat} {K:DK} {s:DS} {f:Fn} {x:List DVal} {y:List DVal}:Kp P t c op dst (.func f x y) (.nilFunc) K s=Lm dst (Mk op) (Py c (P.underlying t) (.func f x y) (.nilFunc)) K s:=rfl
theorem Nt {P:Program} {t:TypeId} {c:Bool} {op:BinOp} {dst:Option Nat} {K:DK} {s:DS} {f:Fn} {x:List DVal} {y:List DVal}:Kp P t c op dst (.nilFunc) (.func f x y) K s=Lm dst (Mk op) (Py c (P.underlying t) (.nilFunc) (.func f x y)) K s:=rfl
theorem Oq {P:Program} {t:TypeId} {c:Bool} {op:BinOp} {dst:Option Nat} {K:DK} {s:DS}:Kp P t c op dst (.nilSlice) (.nilSlice) K s=Lm dst (Mk op) (Py c (P.underlying t) (.nilSlice) (.nilSlice)) K s:=rfl
theorem Jn {P:Program} {t:TypeId} {c:Bool} {op:BinOp} {dst:Option Nat} {K:DK} {s:DS} {r:Nat} {o:Nat} {n:Nat} {l:Nat} {z:Nat}:Kp P t c op dst (.oslice z r o n l) (.nilSlice) K s=Lm dst (Mk op) (Py c (P.underlying t) (.oslice z r o n l) (.nilSlice)) K s:=rfl
theorem Jo {P:Program} {t:TypeId} {c:Bool} {op:BinOp} {dst:Option Nat} {K:DK} {s:DS} {r:Nat} {o:Nat} {n:Nat} {l:Nat} {z:Nat}:Kp P t c op dst (.nilSlice) (.oslice z r o n l) K s=Lm dst (Mk op) (Py c (P.underlying t) (.nilSlice) (.oslice z r o n l)) K s:=rfl
theorem Bk8 {P:Program} {dst:Option Nat} {K:DK} {s:DS} {k k1 k2:IntKind} {n:Int}:Qf P dst (some (.int k)) (some (.int k1)) (.int k2 n) K s=Bb dst (.int k1 (k1.wrap n)) K s:=rfl
theorem Bk9 {P:Program} {dst:Option Nat} {K:DK} {s:DS} {l:List UInt8}:Qf P dst (some .string) (some .string) (.str l) K s=Bb dst (.str l) K s:=rfl
theorem Bz1 (t:Nat):Fe (.tmp t)=false:=rfl
theorem Bz2 (t:Nat):Fe (.global t)=false:=rfl
theorem Bz3 (t:Nat):Fe (.func t)=false:=rfl
theorem Cw0 (P:Program) (n:Nat) (t:TypeId) (xs ys:List DVal):Aa1 P (n+1) t xs ys=Tn P (Aa1 P n) t xs ys (P.underlying t):=rfl
theorem Bz4 (v:Value):(DVal.raw v).cells= [.raw v]:=rfl
theorem Bl0 (b:Bool):(DVal.bool b).cells= [.bool b]:=rfl
theorem Cj3 (b:Bool):(DVal.bool b).one=true:=rfl
theorem Bz5 (k:IntKind) (n:Int):(DVal.int k n).cells= [.int k n]:=rfl
theorem Cw1 (k:IntKind) (n:Int):(DVal.int k n).one=true:=rfl
theorem Bz6 (s:List UInt8):(DVal.str s).cells= [.str s]:=rfl
theorem Cw2 (s:List UInt8):(DVal.str s).one=true:=rfl
theorem Ar5:(DVal.nilPtr).cells= [.nilPtr]:=rfl
theorem Bl1:(DVal.nilPtr).one=true:=rfl
theorem Bl2 (c:List DVal) (o:Nat):(DVal.vptr c o).cells= [.vptr c o]:=rfl
theorem Cj4 (c:List DVal) (o:Nat):(DVal.vptr c o).one=true:=rfl
theorem Bl3 (r o:Nat):(DVal.optr r o).cells= [.optr r o]:=rfl
theorem Cj5 (r o:Nat):(DVal.optr r o).one=true:=rfl
theorem Ac0:(DVal.nilSlice).cells= [.nilSlice]:=rfl
theorem Ar6:(DVal.nilSlice).one=true:=rfl
theorem Ar7 (c:List DVal) (n:Nat):(DVal.vslice c n).cells= [.vslice c n]:=rfl
theorem Bl4 (c:List DVal) (n:Nat):(DVal.vslice c n).one=true:=rfl
theorem Ar8 (z r o n l:Nat):(DVal.oslice z r o n l).cells= [.oslice z r o n l]:=rfl
theorem Bl5 (z r o n l:Nat):(DVal.oslice z r o n l).one=true:=rfl
theorem Ar9:(DVal.nilMap).cells= [.nilMap]:=rfl
theorem Bl6:(DVal.nilMap).one=true:=rfl
theorem Bl7 (r:Nat):(DVal.omap r).cells= [.omap r]:=rfl
theorem Cj6 (r:Nat):(DVal.omap r).one=true:=rfl
theorem Bl8 (f:Fn) (a c:List DVal):(DVal.func f a c).cells= [.func f a c]:=rfl
theorem Cj7 (f:Fn) (a c:List DVal):(DVal.func f a c).one=true:=rfl
theorem Aj9:(DVal.nilFunc).cells= [.nilFunc]:=rfl
theorem Az4:(DVal.nilFunc).one=true:=rfl
theorem Az5 (t:TypeId) (v:DVal):(DVal.iface t v).cells= [.iface t v]:=rfl
theorem Bz7 (t:TypeId) (v:DVal):(DVal.iface t v).one=true:=rfl
theorem Ac1:(DVal.nilIface).cells= [.nilIface]:=rfl
theorem As0:(DVal.nilIface).one=true:=rfl
theorem Az6 (v:List DVal):(DVal.tuple v).cells= [.tuple v]:=rfl
theorem Bz8 (v:List DVal):(DVal.tuple v).one=false:=rfl
theorem Bz9 (c:List DVal):(DVal.agg c).cells=c:=rfl
theorem Cw3 (c:List DVal):(DVal.agg c).one=false:=rfl
theorem Ca0:El .add=false:=rfl
theorem Ca1:El .sub=false:=rfl
theorem Ca2:El .mul=false:=rfl
theorem Ca3:El .quo=false:=rfl
theorem Ca4:El .rem=false:=rfl
theorem Ca5:El .and=false:=rfl
theorem Cj8:El .or=false:=rfl
theorem Ca6:El .xor=false:=rfl
theorem As1:El .andNot=false:=rfl
theorem Ca7:El .eql=false:=rfl
theorem Ca8:El .neq=false:=rfl
theorem Ca9:El .lss=false:=rfl
theorem Cb0:El .leq=false:=rfl
theorem Cb1:El .gtr=false:=rfl
theorem Cb2:El .geq=false:=rfl
theorem Cb3:El .shl=true:=rfl
theorem Cb4:El .shr=true:=rfl
theorem Ak0:Df (some (.bool))=true:=rfl
theorem Az7:Jl (some (.bool))=false:=rfl
theorem As2 (k:IntKind):Df (some (.int k))=true:=rfl
theorem Yy:Df (some (.string))=true:=rfl
theorem Ak1:Jl (some (.string))=false:=rfl
theorem Ak2:Vv (some (.string))=true:=rfl
theorem Wd (e:TypeId):Df (some (.pointer e))=true:=rfl
theorem Ac2 (e:TypeId):Jl (some (.pointer e))=false:=rfl
theorem Ac3 (e:TypeId):Df (some (.slice e))=true:=rfl
theorem As3 (e:TypeId):Jl (some (.slice e))=false:=rfl
theorem As4 (e:TypeId):Vv (some (.slice e))=true:=rfl
theorem Ac4 (n:Nat) (e:TypeId):Df (some (.array n e))=true:=rfl
theorem As5 (n:Nat) (e:TypeId):Jl (some (.array n e))=false:=rfl
theorem As6 (k e:TypeId):Df (some (.map k e))=true:=rfl
theorem Bl9 (k e:TypeId):Jl (some (.map k e))=false:=rfl
theorem Yz (f:Array Field):Df (some (.struct f))=true:=rfl
theorem Ak3 (f:Array Field):Jl (some (.struct f))=false:=rfl
theorem Ak4 (p r:Array TypeId) (v:Bool):Df (some (.func p r v))=true:=rfl
theorem Az8 (p r:Array TypeId) (v:Bool):Jl (some (.func p r v))=false:=rfl
theorem Ac5 (e:Array TypeId):Df (some (.tuple e))=true:=rfl
theorem As7 (e:Array TypeId):Jl (some (.tuple e))=false:=rfl
theorem Sr (m:Array (String×TypeId)):Df (some (.interface m))=false:=rfl
theorem Bm0 (b:Bool):De (.bool b)= .bool b:=rfl
theorem Cb5 (k:IntKind) (n:Int):De (.int k n)= .int k n:=rfl
theorem As8 (l:List UInt8):De (.string (ByteArray.mk l.toArray))= .str l:=rfl
theorem As9:De (.pointer none)= .nilPtr:=rfl
theorem Ac6:De (.slice none 0 0)= .nilSlice:=rfl
theorem At0:De (.map none)= .nilMap:=rfl
theorem Ak5:De (.nilFunc)= .nilFunc:=rfl
theorem Ac7:De (.nilIface)= .nilIface:=rfl
theorem Cb6 (l:List Value):De (.agg l.toArray)= .agg (Fu l):=rfl
theorem Az9 (l:List Value):De (.tuple l.toArray)= .tuple (Fu l):=rfl
theorem Bm1 (f:Fn) (a c:List Value):De (.func f a.toArray c.toArray)= .func f (Fu a) (Fu c):=rfl
attribute [go_sem] Ci7 By2 Bj8 Ci8 By4 Bj9 Cv6 Ci9 By5 Cj0 By6 Cj1 Cv7 Aa By7 Cj2 List.toList_toArray List.cons_append List.nil_append List.getElem?_cons_zero List.getElem?_cons_succ List.getElem?_nil true_and and_true eq_self
attribute [go_sem] dop.eq_1 dop.eq_2 dop.eq_3 dop.eq_4 dop.eq_5 dop.eq_6 dop.eq_7 dop.eq_8 dop.eq_9 dop.eq_10 dop.eq_11 dop.eq_12
attribute [go_sem] dop.eq_13 dop.eq_14 dop.eq_15 dop.eq_16 dop.eq_17 dop.eq_18 dop.eq_19 dop.eq_20 dop.eq_21 dop.eq_22 dop.eq_23 dop.eq_24
attribute [go_sem] dop.eq_25 dop.eq_26 dop.eq_27 dop.eq_28 dop.eq_29 dop.eq_30 dop.eq_31 Rw.eq_1 Rw.eq_2 Dm7.eq_1 Dm7.eq_2 Bs9.eq_1
attribute [go_sem] Sk.eq_1 Sk.eq_2 Sk.eq_3 Dg7.eq_1 Qf.eq_1 Aq6.eq_1 Bi6.eq_1 Bt0.eq_1 Bb.eq_1 Nm.eq_1 Nm.eq_2 dev.eq_1
attribute [go_sem] dev.eq_2 dev.eq_3 dev.eq_4 Eo.eq_1 Eo.eq_2 Kq.eq_1 Kq.eq_2 Hw.eq_1 Hw.eq_2 Ev.eq_1 Ev.eq_2 Ax3.eq_1
attribute [go_sem] Ch4.eq_1 Ch4.eq_2 Aq2.eq_1 Aq2.eq_2 Pt.eq_1 Pt.eq_2 Bi4.eq_1 Zz.eq_1 Bi5.eq_1 Bi5.eq_2 Tm.eq_1 Tm.eq_2
attribute [go_sem] Mo.eq_1 Aa0.eq_1 Aa0.eq_2 Aa0.eq_3 Aq3.eq_1 Am1.eq_1 Am1.eq_2 Bs2.eq_1 Aq4.eq_1 Rh.eq_1 Rh.eq_2 Rh.eq_3
attribute [go_sem] Rh.eq_4 Rh.eq_5 Py.eq_1 Py.eq_2 Py.eq_3 Py.eq_4 Py.eq_5 Py.eq_6 Py.eq_7 Py.eq_8 Py.eq_9 Py.eq_10
attribute [go_sem] Py.eq_11 Py.eq_12 Py.eq_13 Py.eq_14 Py.eq_15 Dg5.eq_1 Dg5.eq_2 Gi.eq_1 Gi.eq_2 Gi.eq_3 Bs3.eq_1 Bs3.eq_2
attribute [go_sem] Bs4.eq_1 Bs4.eq_2 Bs5.eq_1 Bs6.eq_1 Bs7.eq_1 Dd7.eq_1 Dd7.eq_2 Tn.eq_1 Tn.eq_2 Tn.eq_3 Tn.eq_4 Tn.eq_5
attribute [go_sem] Lm.eq_1 Lm.eq_2 Mk.eq_1 Mk.eq_2 Fe.eq_1 Zg.eq_1 Zg.eq_2 Zg.eq_3 Zg.eq_4 Zg.eq_5 Zg.eq_6 Zg.eq_7
attribute [go_sem] Zg.eq_8 Zg.eq_9 Zg.eq_10 Zg.eq_11 Zg.eq_12 Zg.eq_13 Zg.eq_14 Zg.eq_15 Aq5.eq_1 Aq5.eq_2 To.eq_1 To.eq_2
attribute [go_sem] To.eq_3 To.eq_4 To.eq_5 To.eq_6 To.eq_7 Bs8.eq_1 Bs8.eq_2 Kp.eq_1 Kp.eq_2 Kp.eq_3 dUn.eq_1 dUn.eq_2
attribute [go_sem] Tp.eq_1 Tp.eq_2 Og.eq_1 Og.eq_2 Xq.eq_1 Xq.eq_2 Oh.eq_1 dLo.eq_1 dLo.eq_2 dHi.eq_1 dHi.eq_2 Vs.eq_1
attribute [go_sem] Tq.eq_1 Oi.eq_1 Aq7.eq_1 Dd9.eq_1 Vt.eq_1 Vt.eq_2 Vt.eq_3 Vt.eq_4 Vt.eq_5 Vt.eq_6 Vt.eq_7 Zh.eq_1
attribute [go_sem] Zh.eq_2 Xr.eq_1 Xr.eq_2 Lo.eq_1 Ax4.eq_1 Ax4.eq_2 Ax4.eq_3 Bt1.eq_1 Bt1.eq_2 Aa2.eq_1 Lp.eq_1 Lp.eq_2
attribute [go_sem] Lp.eq_3 Aa3.eq_1 Aa3.eq_2 Tr.eq_1 Aa4.eq_1 Aa4.eq_2 Vu.eq_1 Vu.eq_2 Vu.eq_3 Vu.eq_4 Ke.eq_1 Ke.eq_2
attribute [go_sem] dLen.eq_1 dLen.eq_2 dLen.eq_3 dLen.eq_4 dLen.eq_5 Bi7.eq_1 Am2.eq_1 Qg.eq_1 Qg.eq_2 Qg.eq_3 Qg.eq_4 Jk.eq_1
attribute [go_sem] Jk.eq_2 Ax5.eq_1 Ax5.eq_2 Zi.eq_1 Vw.eq_1 Ch5.eq_1 Ch5.eq_2 Ch5.eq_3 Ch6.eq_1 Aa5.eq_1 Bt2.eq_1 Aq8.eq_1
attribute [go_sem] Aq8.eq_2 Aa6.eq_1 Ax6.eq_1 Jl.eq_1 Ts.eq_1 Tt.eq_1 Tt.eq_2 Aa7.eq_1 Aa7.eq_2 Aa7.eq_3 Aa8.eq_1 Aa8.eq_2
attribute [go_sem] Aa8.eq_3 Mp.eq_1 Mp.eq_2 Nn.eq_1 Nn.eq_2 Nn.eq_3 Cu5.eq_1 Cu5.eq_2 Tu.eq_1 Aa9.eq_1 Ri.eq_1 Bi8.eq_1
attribute [go_sem] Ab0.eq_1 Ab0.eq_2 Bi9.eq_1 Zj.eq_1 Zj.eq_2 Ax7.eq_1 Ax7.eq_2 Ab1.eq_1 Ab2.eq_1 Tv.eq_1 Am3.eq_1 Qh.eq_1
attribute [go_sem] Qh.eq_2 dMM.eq_1 Qi.eq_1 Qi.eq_2 Qi.eq_3 Rj.eq_1 Rj.eq_2 Bj0.eq_1 Bj0.eq_2 Ab3.eq_1 Ab3.eq_2 Sl.eq_1
attribute [go_sem] Ic.eq_1 Ic.eq_2 Ic.eq_3 Ic.eq_4 Ic.eq_5 Ic.eq_6 Ic.eq_7 Ic.eq_8 Oj.eq_1 Oj.eq_2 Oj.eq_3 Mq.eq_1
attribute [go_sem] Mq.eq_2 Mq.eq_3 Bj1.eq_1 Bj1.eq_2 Bj1.eq_3 Bj1.eq_4 Bj1.eq_5 Bj1.eq_6 Aq9.eq_1 Aq9.eq_2 Xs.eq_1 Xs.eq_2
attribute [go_sem] Xs.eq_3 Xs.eq_4 Xs.eq_5 Ar0.eq_1 Ar0.eq_2 Ar1.eq_1 Ar1.eq_2 Ar1.eq_3 Ar1.eq_4 Ar1.eq_5 Bt3.eq_1 Bt3.eq_2
attribute [go_sem] Bt3.eq_3 Bt3.eq_4 Bt3.eq_5 De1.eq_1 De1.eq_2 Dc.eq_1 Fu.eq_1 Fu.eq_2 Sp Sq Qn Pz
attribute [go_sem] Qo Qa Nq Nr Oo Qp Ns Nt Oq Jn Jo Bk8
attribute [go_sem] Bk9 Bz1 Bz2 Bz3 Cw0 Bz4 Bl0 Cj3 Bz5 Cw1 Bz6 Cw2
attribute [go_sem] Ar5 Bl1 Bl2 Cj4 Bl3 Cj5 Ac0 Ar6 Ar7 Bl4 Ar8 Bl5
attribute [go_sem] Ar9 Bl6 Bl7 Cj6 Bl8 Cj7 Aj9 Az4 Az5 Bz7 Ac1 As0
attribute [go_sem] Az6 Bz8 Bz9 Cw3 Ca0 Ca1 Ca2 Ca3 Ca4 Ca5 Cj8 Ca6
attribute [go_sem] As1 Ca7 Ca8 Ca9 Cb0 Cb1 Cb2 Cb3 Cb4 Ak0 Az7 As2
attribute [go_sem] Yy Ak1 Ak2 Wd Ac2 Ac3 As3 As4 Ac4 As5 As6 Bl9
attribute [go_sem] Yz Ak3 Ak4 Az8 Ac5 As7 Sr Bm0 Cb5 As8 As9 Ac6
attribute [go_sem] At0 Ak5 Ac7 Cb6 Az9 Bm1
end Go.Dl

-- THE DATA LEVEL, PART W: code, functions.
namespace Go.Dl
open Go
section
variable {P:Program} {G:Nat->DVal} {N:Fr}
variable {s s0:DS} {a:Act} {w w0:World} {Q:DExit->DS->Prop}
theorem Ni.refl (s:DS):Ni G s s:=fun w hH hG=>⟨hH,fun b h=>h,hG,fun i x h=>h⟩
theorem Ni.sim {s':DS} (h:Ni G s s') (hS:Sim G N s a w):Sim G N s' a w/\Ext s.heap w s'.heap w:=by
 obtain⟨h1,h2,h3,h4⟩:=h w hS.heap hS.glob;exact⟨⟨hS.size,hS.defers.less h2,fun i hi=>h4 i _ (hS.tmps i hi),h1,h3,hS.base⟩,⟨rfl,rfl,rfl,Nat.le_refl _,fun _ _ _=>rfl,fun b hb=> .inl (h2 b hb),fun _ _=>rfl,fun _ _ _=>rfl⟩⟩
theorem Bm2 {e:Exit} {a':Act} {w' w1:World} {s1:DS} (h:Ks G N Q s1 w1 e a' w') (hE:Ext s0.heap w0 s1.heap w1):Ks G N Q s0 w0 e a' w':=by
 obtain⟨e',s',hq,hx,hS,hE'⟩:=h;exact⟨e',s',hq,hx,hS,hE.trans hE'⟩
theorem Bm3 {F:Fence} {n:Nat} {c:Code} {ι:Type} (I:ι->DS->Prop) (μ:ι->Nat) (i:ι) (hS:Sim G N s a w) (hI:I i s) (hE:Ext s0.heap w0 s.heap w)
  (round: ∀i s a w,Sim G N s a w->I i s->c.wpIn F n P (Ks G N (Xs (fun s1=> ∃j s2,Ni G s1 s2/\I j s2/\μ j<μ i) Q) s w) a w):(Code.loop c).wpIn F n P (Ks G N Q s0 w0) a w:=by
 intro b k cs hro hb hr;have key: ∀n i s a w,μ i=n->I i s->Sim G N s a w->Ext s0.heap w0 s.heap w->
   ∃e a' w',Ks G N Q s0 w0 e a' w'/\ArrivesIn (Machine.fenced P F) P (lone (b.atR a (.code c:: .inLoop c::k)) cs w) b k cs e a' w':=by
  intro n
  induction n using Nat.strongRecOn with
  | _ n ih=>
   intro i s a w hn hI hS hE;obtain⟨e,a₁,w₁,hq,harr⟩:=round i s a w hS hI b (.inLoop c::k) cs hro hb hr;obtain⟨e',s₁,hQ,hX,hS₁,hE₁⟩:=hq;have hE':=hE.trans hE₁;cases hX with
   | normal=>
    obtain⟨j,s₂,hg,hI₂,hlt⟩:=hQ;obtain⟨hS₂,hE₂⟩:=hg.sim hS₁;obtain⟨e₂,a₂,w₂,hq₂,harr₂⟩:=ih (μ j) (hn▸hlt) j s₂ a₁ w₁ rfl hI₂ hS₂ (hE'.trans hE₂);exact⟨e₂,a₂,w₂,hq₂, .of_steps (StepsIn.trans harr (.one (fenced_calm hb hr rfl) stepR_inLoop)) harr₂⟩
   | exit id=>exact⟨_,a₁,w₁,⟨_,s₁,hQ, .exit id,hS₁,hE'⟩, .pass (x:= .inLoop c) rfl (fun _ _=> .inl (by simp)) harr⟩
   | goto l=>exact⟨_,a₁,w₁,⟨_,s₁,hQ, .goto l,hS₁,hE'⟩, .pass (x:= .inLoop c) rfl (fun _ _=> .inl (by simp)) harr⟩
   | ret=>exact⟨_,a₁,w₁,⟨_,s₁,hQ, .ret,hS₁,hE'⟩, .pass (x:= .inLoop c) rfl (fun _ _=> .inl (by simp)) harr⟩
   | panic d v hv=>exact⟨_,a₁,w₁,⟨_,s₁,hQ, .panic d v hv,hS₁,hE'⟩, .pass (x:= .inLoop c) rfl (fun _ _=> .inl (by simp)) harr⟩
 obtain⟨e,a',w',hq,harr⟩:=key _ i s a w rfl hI hS hE;exact⟨e,a',w',hq, .of_steps (.one (fenced_calm hb hr rfl) stepR_loop) harr⟩
theorem Rs {F:Fence} {n:Nat} {c:Code} {Q1 Q2:Exit->Act->World->Prop} (h:c.wpIn F n P Q1 a w) (hq: ∀e a w,Q1 e a w->(∀l,e≠ .goto l)/\Q2 e a w):(Code.scope c).wpIn F n P Q2 a w:=by
 intro b k cs hro hb hr;have h0:(lone (b.atR a (.code (.scope c)::k)) cs w).fenced P F:=fenced_calm hb hr rfl;have s0:step P (lone (b.atR a (.code (.scope c)::k)) cs w)= .next (lone (b.atR a (.code c:: .inScope c::k)) cs w):=step_lone_go (by simp [stepG,stepG.exec,Frame.atR])
 have s1: ∀(a:Act) (w:World),step P (lone (b.atR a (.inScope c::k)) cs w)= .next (lone (b.atR a k) cs w):=fun a w=>step_lone_go (by simp [stepG,stepG.exec,Frame.atR])
 obtain⟨e,a₁,w₁,hq1,harr⟩:=h b (.inScope c::k) cs hro hb hr;obtain⟨hg,hq2⟩:=hq _ _ _ hq1;cases e with
 | normal=>exact⟨.normal,a₁,w₁,hq2, .head h0 s0 (StepsIn.trans harr (.one (fenced_calm hb hr rfl) (s1 _ _)))⟩
 | exit id=>
  have hx:exitTo id (.inScope c::k)=exitTo id k:=by simp [exitTo]
  exact⟨.exit id,a₁,w₁,hq2,fun k' hk=> .head h0 s0 (harr.1 k' (by rw[hx];exact hk)),
   fun hr' hk=>let ⟨k₁,h1,h2⟩:=harr.2 hr' (by rw[hx];exact hk);⟨k₁,h1, .head h0 s0 h2⟩⟩
 | goto l=>exact absurd rfl (hg l)
 | ret=>exact⟨_,a₁,w₁,hq2, .of_steps (.one h0 s0) harr⟩
 | panic ch=>exact⟨_,a₁,w₁,hq2, .of_steps (.one h0 s0) harr⟩
 | outgrown=>exact⟨_,a₁,w₁,hq2, .of_steps (.one h0 s0) harr⟩
def Qb:Code->Bool
 | .seq a b=>Qb a&&Qb b
 | .cond _ a b=>Qb a&&Qb b
 | .block _ c=>Qb c
 | .loop c=>Qb c
 | .scope c=>Qb c
 | .rangeFunc _ _ _ _=>false
 | _=>true
theorem Er {N:Nat} {F:Fence} {n:Nat} {B:Base} (hF:FOk F): ∀(c:Code),Fh N c=true->(F=Fence.wide/\B.still=false\/Qb c=true)-> ∀(Q:DExit->DS->Prop) (s:DS),dwp P G N c Q s->
  ∀(a:Act) (w:World),Sim G ⟨N,B⟩ s a w->c.wpIn F n P (fun e a' w'=> ∃e' s',Q e' s'/\RelX w' s'.heap e' e/\Sim G ⟨N,B⟩ s' a' w'/\Ext s.heap w s'.heap w') a w
 | .skip,_,_,Q,s,h=>fun a w hS=>wpIn_skip ⟨.normal,s,h, .normal,hS,Ext.refl _ _⟩
 | .label l,_,_,Q,s,h=>fun a w hS=>wpIn_label ⟨.normal,s,h, .normal,hS,Ext.refl _ _⟩
 | .region id ops false,hok,_,Q,s,h=>fun a w hS=>by
  have hok':ops.toList.all (Gt N)=true:=by
   have:ops.all (Gt N)=true:=hok;rw[Ab9] at this;exact this
  have h1:=So (n:=n) hF (P:=P) (G:=G) (N:=⟨N,B⟩) (s0:=s) (w0:=w) (Q:=Q) ops.toList hok' ops.toList hok' s a w hS (Ext.refl _ _) h;have:ops=ops.toList.toArray:=by simp
  rw[this];exact wpIn_region_lit h1
 | .region id ops true,_,_,Q,s,h=>fun a w hS=>h F n B hF a w hS
 | .seq x y,hok,hfl,Q,s,h=>fun a w hS=>by
  simp only[Fh,Bool.and_eq_true] at hok;simp only[Qb,Bool.and_eq_true] at hfl;refine wpIn_seq (wpIn_mono (Er hF x hok.1 (hfl.imp id (·.1)) _ s h a w hS) ?_);rintro e a' w' ⟨e',s',hQ,hX,hS',hE⟩;cases hX with
  | normal=>exact wpIn_mono (Er hF y hok.2 (hfl.imp id (·.2)) Q s' hQ a' w' hS') fun e a w he=>Bm2 he hE
  | exit id=>exact⟨_,s',hQ, .exit id,hS',hE⟩
  | goto l=>exact⟨_,s',hQ, .goto l,hS',hE⟩
  | ret=>exact⟨_,s',hQ, .ret,hS',hE⟩
  | panic d v hv=>exact⟨_,s',hQ, .panic d v hv,hS',hE⟩
 | .cond c x y,hok,hfl,Q,s,h=>fun a w hS=>by
  simp only[Fh,Bool.and_eq_true] at hok;simp only[Qb,Bool.and_eq_true] at hfl;have r:=Ax hS hok.1.1;simp only[dwp] at h;cases hv:dev G s.env c<;>rw[hv] at h r<;>try exact h.elim
  rename_i b
  simp only[Rel] at r;cases b
  ·exact wpIn_cond_false r (Er hF y hok.2 (hfl.imp id (·.2)) Q s h a w hS)
  ·exact wpIn_cond_true r (Er hF x hok.1.2 (hfl.imp id (·.1)) Q s h a w hS)
 | .block id c,hok,hfl,Q,s,h=>fun a w hS=>by
  simp only[Fh] at hok;simp only[Qb] at hfl;refine wpIn_block (wpIn_mono (Er hF c hok hfl _ s h a w hS) ?_);rintro e a' w' ⟨e',s',hQ,hX,hS',hE⟩;cases hX with
  | normal=>exact⟨_,s',hQ, .normal,hS',hE⟩
  | exit id'=>
   simp only[Exit.inBlock];simp only[Ar1] at hQ;by_cases hid:id'=id
   ·rw[if_pos hid];simp only[hid,decide_true,Ar0] at hQ;exact⟨_,s',hQ, .normal,hS',hE⟩
   ·rw[if_neg hid];simp only[hid,decide_false,Ar0] at hQ;exact⟨_,s',hQ, .exit id',hS',hE⟩
  | goto l=>exact⟨_,s',hQ, .goto l,hS',hE⟩
  | ret=>exact⟨_,s',hQ, .ret,hS',hE⟩
  | panic d v hv=>exact⟨_,s',hQ, .panic d v hv,hS',hE⟩
 | .loop c,hok,hfl,Q,s,h=>fun a w hS=>by
  simp only[Fh] at hok;simp only[Qb] at hfl;obtain⟨ι,I,μ,⟨i,s',hg,hI⟩,hround⟩:=h;obtain⟨hS',hE'⟩:=hg.sim hS;exact Bm3 I μ i hS' hI hE' fun i1 s1 a1 w1 hS1 hI1=>Er hF c hok hfl _ s1 (hround i1 s1 hI1) a1 w1 hS1
 | .rangeFunc _ _ _ _,_,hfl,_,_,h=>fun a w hS=>by
  rcases hfl with⟨rfl,hst⟩ | hfl
  ·exact h n B hst a w hS
  ·cases hfl
 | .exit id,_,_,Q,s,h=>fun a w hS=>wpIn_exit ⟨.exit id,s,h, .exit id,hS,Ext.refl _ _⟩
 | .scope c,hok,hfl,Q,s,h=>fun a w hS=>by
  simp only[Fh] at hok;simp only[Qb] at hfl;refine Rs (Er hF c hok hfl _ s h a w hS) ?_;rintro e a' w' ⟨e',s',hQ,hX,hS',hE⟩;cases hX with
  | normal=>exact⟨by simp,_,s',hQ, .normal,hS',hE⟩
  | exit id'=>exact⟨by simp,_,s',hQ, .exit id',hS',hE⟩
  | goto l=>exact hQ.elim
  | ret=>exact⟨by simp,_,s',hQ, .ret,hS',hE⟩
  | panic d v hv=>exact⟨by simp,_,s',hQ, .panic d v hv,hS',hE⟩
 | .goto l,_,_,Q,s,h=>fun a w hS=>wpIn_goto ⟨.goto l,s,h, .goto l,hS,Ext.refl _ _⟩
 | .ret,_,_,Q,s,h=>fun a w hS=>wpIn_ret ⟨.ret,s,h, .ret,hS,Ext.refl _ _⟩
 | .refuse _,_,_,_,_,h=>h.elim
theorem Bm4 {N:Nat} (c:Code) (hok:Fh N c=true) (Q:DExit->DS->Prop) (s:DS) (h:dwp P G N c Q s):Dm6 P G N c Q s:=
 fun _ _ hst a w hS=>Er (.inl rfl) c hok (.inl ⟨rfl,hst⟩) Q s h a w hS
def Bm5 (size:Nat) (cs:List DVal) (off:Nat):Option Bool->Option DVal
 | some true=>if off+size<=cs.length then some (.agg ((cs.drop off).take size)) else none
 | some false=>cs[off]?
 | none=>none
def Ud (size:Nat) (ag:Option Bool) (off:Nat):Option DObj->Option DVal
 | some (.cells cs _)=>Bm5 size cs off ag
 | _=>none
def Cj9 (size:Nat) (ag:Option Bool) (H:Ac):DVal->Option DVal
 | .optr r off=>Ud size ag off (H r)
 | _=>none
def Ba0 (P:Program) (s:DS):ResultVar->Option DVal
 | .tmp t=>some (s.env t)
 | .cell x t=>Cj9 (P.cellsOf t) (Ep P t) s.heap (s.env x)
def De3:Option DVal->Option (List DVal)->Option (List DVal)
 | some d,some ds=>some (d::ds)
 | _,_=>none
def Kg (P:Program) (s:DS):List ResultVar->Option (List DVal)
 | []=>some []
 | r::rs=>De3 (Ba0 P s r) (Kg P s rs)
def Hx:Option (List DVal)->Option DVal
 | some [d]=>some d
 | some ds=>some (.tuple ds)
 | none=>none
def Nu (R:DEnd->Ac->Prop) (v:DVal) (H:Ac):Prop:=
 ∃v' H',(∀w,Av w H->Av w H'/\(∀b,H' b≠none->H b≠none)/\ ∀x,Rel w H v x->Rel w H' v' x)/\R (.ret v') H'
def Bt9 (R:DEnd->Ac->Prop) (v:DVal) (H:Ac):Prop:=
 ∃v' H',(∀w,Av w H->Av w H'/\(∀b,H' b≠none->H b≠none)/\ ∀x,Rel w H v x->Rel w H' v' x)/\R (.panic v') H'
def Am7 (R:DEnd->Ac->Prop) (H:Ac):Option DVal->Prop
 | some v=>Nu R v H
 | none=>False
def Ck0 (P:Program) (rs:List ResultVar) (R:DEnd->Ac->Prop):DExit->DS->Prop
 | .normal,s=>Am7 R s.heap (Hx (Kg P s rs))
 | .ret,s=>Am7 R s.heap (Hx (Kg P s rs))
 | .panic v,s=>Bt9 R v s.heap
 | _,_=>False
def Lt:List DVal->Nat->(Nat->DVal)
 | [],_=>fun _=>Dc
 | x::xs,k=>upd (Lt xs (k+1)) k x
def Ac8 (N:Nat):ResultVar->Bool
 | .tmp t=>decide (t<N)
 | .cell x _=>decide (x<N)
theorem Nu.refl {R:DEnd->Ac->Prop} {v:DVal} {H:Ac} (h:R (.ret v) H):Nu R v H:=⟨v,H,fun w hH=>⟨hH,fun b hb=>hb,fun x hx=>hx⟩,h⟩
theorem Bt9.refl {R:DEnd->Ac->Prop} {v:DVal} {H:Ac} (h:R (.panic v) H):Bt9 R v H:=⟨v,H,fun w hH=>⟨hH,fun b hb=>hb,fun x hx=>hx⟩,h⟩
theorem Ck1 (hS:Sim G N s a w) {r:ResultVar} (hr:Ac8 N r=true) {d:DVal} (h:Ba0 P s r=some d):
  ∃x,((match r with
  | .tmp t=>pure (a.tmps.getD t undef)
  | .cell x t=>do loadVar t (←asAddr (a.tmps.getD x undef))):Sem Value).run P w= .ok x w/\Rel w s.heap d x:=by
 cases r with
 | tmp t=>
  simp only[Ba0] at h;cases h
  exact⟨_,rfl,hS.tmps t (by simpa [Ac8] using hr)⟩
 | cell x t=>
  simp only[Ba0] at h
  have rx:=hS.tmps x (by simpa [Ac8] using hr)
  cases hv:s.env x<;>rw[hv] at h rx<;>simp only[Cj9] at h<;>try (cases h;done)
  rename_i r0 off
  simp only[Rel] at rx
  cases hh:s.heap r0 with
  | none=>rw[hh] at h;cases h
  | some ob=>
   cases ob with
   | loop=>rw[hh] at h;simp only[Ud] at h;cases h
   | iter=>rw[hh] at h;simp only[Ud] at h;cases h
   | map=>rw[hh] at h;simp only[Ud] at h;cases h
   | cells cs e=>
    rw[hh] at h
    simp only[Ud] at h
    obtain⟨xs,hl,hho⟩:=hS.heap.holds hh
    have hlx:=hl.length
    have e0: ∀z,(do loadVar t (←asAddr z):Sem Value)=(do let ad<-asAddr z;loadVar t ad):=fun z=>rfl
    simp only[rx,asAddr]
    cases hag:Ep P t with
    | none=>rw[hag] at h;cases h
    | some ag=>
     rw[hag] at h
     cases ag with
     | true=>
      simp only[Bm5] at h
      split at h<;>try (cases h;done)
      rename_i hle
      cases h
      have hx:Ie w r0 off ((xs.drop off).take (P.cellsOf t)):=by
       have:=(hho.drop (n:=off)).take (n:=P.cellsOf t)
       simpa using this
      have hln:((xs.drop off).take (P.cellsOf t)).length=P.cellsOf t:=by
       simp;omega
      refine⟨_,by simp [Pu hag hx hln];rfl,?_⟩
      simp only[Rel]
      exact⟨_,rfl,(hl.drop off).take _⟩
     | false=>
      simp only[Bm5] at h
      obtain⟨x,hx,hrel⟩:=hl.get h
      have:=hho off x hx
      rw[Nat.zero_add] at this
      exact⟨x,by simp [Pv hag this],hrel⟩
theorem Ba1 (hS:Sim G N s a w): ∀ {rs:List ResultVar},rs.all (Ac8 N)=true-> ∀ {ds:List DVal},Kg P s rs=some ds->
  ∃xs,(rs.mapM (fun r=>(match r with
  | .tmp t=>pure (a.tmps.getD t undef)
  | .cell x t=>do loadVar t (←asAddr (a.tmps.getD x undef)):Sem Value))).run P w= .ok xs w/\Aq w s.heap ds xs
 | [],_,ds,h=>by
  simp only[Kg] at h;cases h
  exact⟨[],by simp,by simp [Aq]⟩
 | r::rs,hok,ds,h=>by
  simp only[List.all_cons,Bool.and_eq_true] at hok
  simp only[Kg] at h
  cases h1:Ba0 P s r with
  | none=>rw[h1] at h;cases h
  | some d=>
   cases h2:Kg P s rs with
   | none=>rw[h1,h2] at h;cases h
   | some ds'=>
    rw[h1,h2] at h
    simp only[De3] at h;cases h
    obtain⟨x,hx,hr⟩:=Ck1 (P:=P) hS hok.1 h1
    obtain⟨xs,hxs,hrs⟩:=Ba1 hS hok.2 h2
    refine⟨x::xs,?_,by simp only[Aq];exact⟨x,xs,rfl,hr,hrs⟩⟩
    simp only[List.mapM_cons,Sem.run_bind,hx,hxs,Result.andThen_ok,Sem.run_pure]
theorem Xu (hS:Sim G N s a w) {fn:Func} (hok:fn.results.toList.all (Ac8 N)=true) {d:DVal} (h:Hx (Kg P s fn.results.toList)=some d):
  ∃x,(results fn a.tmps).run P w= .ok x w/\Rel w s.heap d x:=by
 cases h2:Kg P s fn.results.toList with
 | none=>rw[h2] at h;cases h
 | some ds=>
  rw[h2] at h
  obtain⟨xs,hxs,hrs⟩:=Ba1 (P:=P) hS hok h2
  have hrun:(results fn a.tmps).run P w= .ok (if h:xs.toArray.size=1 then xs.toArray[0] else .tuple xs.toArray) w:=by
   unfold results
   rw[Array.mapM_eq_mapM_toList]
   simp only[Sem.run_bind,Sem.run_map]
   have:(fn.results.toList.mapM (fun r=>(match r with
    | .tmp t=>pure (a.tmps.getD t undef)
    | .cell x t=>do loadVar t (←asAddr (a.tmps.getD x undef)):Sem Value))).run P w= .ok xs w:=hxs
   first
    | rw[this]
    | (show((Sem.run P (fn.results.toList.mapM (fun r=>(match r with
    | .tmp t=>pure (a.tmps.getD t undef)
    | .cell x t=>do loadVar t (←asAddr (a.tmps.getD x undef)):Sem Value))) w).andThen _).andThen _=_;rw[this])
   rfl
  have hl:=hrs.length
  refine⟨_,hrun,?_⟩
  cases ds with
  | nil=>
   simp only[Hx] at h;cases h
   simp only[Aq] at hrs;subst hrs
   simp only[Rel]
   exact⟨#[],rfl,by simp [Aq]⟩
  | cons d1 ds=>
   cases ds with
   | nil=>
    simp only[Hx] at h;cases h
    simp only[Aq] at hrs
    obtain⟨y,ys,rfl,hy,rfl⟩:=hrs
    simpa using hy
   | cons d2 ds=>
    simp only[Hx] at h;cases h
    have:xs.toArray.size≠1:=by simp at hl⊢;omega
    rw[dif_neg this]
    simp only[Rel]
    exact⟨_,rfl,hrs⟩
theorem We: ∀(args:List DVal) (k i:Nat),Lt args k (k+i)=args.getD i Dc
 | [],k,i=>rfl
 | x::xs,k,0=>by simp [Lt,upd]
 | x::xs,k,i+1=>by
  simp only[Lt,upd];rw[if_neg (by omega)];have:=We xs (k+1) i;rw[show k+(i+1)=k+1+i by omega,this];simp
def Dn1 (fn:Func) (n:Nat):Bool:=
 decide (n<=fn.ntmps)&&(match fn.body with | some c=>Fh fn.ntmps c | none=>false)&&fn.results.toList.all (Ac8 fn.ntmps)
theorem Cb7 {w:World} {D:Nat} (hD:w.heap[D]? =some (.deferred (some []))) (H:Ac):Lasts H w H (w.putObj D (.deferred none)):=On hD rfl rfl H
theorem Cw4 {w:World} {D:Nat} {H:Ac} (hD:w.heap[D]? =some (.deferred (some []))) (hH:Av w H) (hn:H D=none):Av (w.putObj D (.deferred none)) H:=Bj7 hD rfl rfl hH hn
theorem Cw5 {w w0:World} {D:Nat} {H H0:Ac} (hD:w.heap[D]? =some (.deferred (some []))) (hB:w0.heap.size<=D) (hE:Ext H0 w0 H w):Ext H0 w0 H (w.putObj D (.deferred none)):=by
 refine⟨hE.os,hE.tape,hE.output,by simpa [World.putObj] using hE.size,fun b hb hn=> ?_,hE.own,fun b hb=> ?_,fun a ha hn=> ?_⟩
 ·rw[World.putObj_heap_other (by omega)];exact hE.block b hb hn
 ·rw[World.putObj_heap_other (by omega)];exact hE.keep b hb
 ·rw[<-hE.fz a ha hn];exact Am5 hD rfl rfl a
theorem Sim.leaveT {F:Fence} {n:Nat} {H0:Ac} {w0:World} {fn:Func} {tmps:Array Value} {R:Ending->World->Prop} {u:FrameMode} {T:List Deferred} (hu:u≠ .run) (hB:N.base=⟨w0.heap.size,T,false⟩) {a:Act}:
  ∀(Ds:List Nat) (w:World),Ds.Nodup->(∀D∈Ds,(N.base.b<=D/\N.base.still=false)/\w.heap[D]? =some (.deferred (some []))/\s.heap D=none)->
   Sim G N s { tmps:=a.tmps,defers:=Ds.map (fun D=>({ target:= .collected D,args:= #[] }:Deferred))++T } w->Ext H0 w0 s.heap w->
   (∀w',Sim G N s { tmps:=a.tmps,defers:=T } w'->Ext H0 w0 s.heap w'->Lasts s.heap w s.heap w'->LeavesInM F n P fn tmps R T u w')->
   LeavesInM F n P fn tmps R (Ds.map (fun D=>({ target:= .collected D,args:= #[] }:Deferred))++T) u w
 | [],w,_,_,hS,hE,h=>h w hS hE (Ext.refl _ _).lasts
 | D::Ds,w,h2,h3,hS,hE,h=>by
  have hB':N.base.b=w0.heap.size:=by rw[hB]
  have hT:N.base.late=T:=by rw[hB]
  obtain⟨g1,g2,g3⟩:=h3 D (by simp);have hl:=Cb7 g2 s.heap;have hnd:=List.nodup_cons.1 h2;have h4: ∀D'∈Ds,(N.base.b<=D'/\N.base.still=false)/\(w.putObj D (.deferred none)).heap[D']? =some (.deferred (some []))/\s.heap D'=none:=fun D' hD'=>⟨(h3 D' (by simp [hD'])).1,by
   have hne:D'≠D:=fun e=>hnd.1 (by rw[<-e];exact hD');rw[World.putObj_heap_other hne];exact(h3 D' (by simp [hD'])).2.1,(h3 D' (by simp [hD'])).2.2⟩
  refine⟨hu, .inl ⟨D,_,rfl,run_takeDeferred g2,Sim.leaveT hu hB Ds _ hnd.2 h4 ?_ (Cw5 g2 (by omega) hE) fun w' hS' hE' hl'=>h w' hS' hE' ?_⟩⟩
  ·exact⟨hS.size,⟨Ds,by rw[hT],hnd.2,h4⟩,
    fun i hi=>Rel.lasts hl _ _ (hS.tmps i hi),Cw4 g2 hS.heap g3,hS.glob.lasts hl,by simpa [World.putObj] using hS.base⟩
  ·exact⟨fun b i x hb hc=>hl'.cell b i x hb (hl.cell b i x hb hc).2,Nat.le_trans hl.size hl'.size,fun b hb=>by rw[hl'.keep b (Nat.lt_of_lt_of_le hb hl.size),hl.keep b hb]⟩
theorem Sim.leaveL {F:Fence} {n:Nat} {H0:Ac} {w0:World} {fn:Func} {tmps:Array Value} {R:Ending->World->Prop} {u:FrameMode} {T:List Deferred} (hu:u≠ .run) (hB:N.base=⟨w0.heap.size,T,false⟩) {a:Act}
  (ds:List Deferred) (w:World) (hS:Sim G N s { tmps:=a.tmps,defers:=ds } w) (hE:Ext H0 w0 s.heap w)
  (h: ∀w',Sim G N s { tmps:=a.tmps,defers:=T } w'->Ext H0 w0 s.heap w'->Lasts s.heap w s.heap w'->LeavesInM F n P fn tmps R T u w'):LeavesInM F n P fn tmps R ds u w:=by
 obtain⟨Ds,h1,h2,h3⟩:=hS.defers;have hT:N.base.late=T:=by rw[hB]
 rw[hT] at h1;dsimp only at h1;subst h1;exact Sim.leaveT hu hB Ds w h2 h3 hS hE h
theorem Sim.leave {F:Fence} {n:Nat} {H0:Ac} {w0:World} {fn:Func} {tmps:Array Value} {R:Ending->World->Prop} {u:FrameMode} (hu:u≠ .run) (hB:N.base=⟨w0.heap.size,[],false⟩) {a:Act}:
  ∀(ds:List Deferred) (w:World),Sim G N s { tmps:=a.tmps,defers:=ds } w->Ext H0 w0 s.heap w->
   (∀w',Sim G N s { tmps:=a.tmps,defers:= [] } w'->Ext H0 w0 s.heap w'->Lasts s.heap w s.heap w'->LeavesIn F n P fn tmps R [] u w')->LeavesInM F n P fn tmps R ds u w:=
 fun ds w hS hE h=>Sim.leaveL (T:= []) hu hB ds w hS hE h
theorem Ad {f:FuncId} {fn:Func} {c:Code} {args:List DVal} {H:Ac} {R:DEnd->Ac->Prop} (hf:P.funcs[f]? =some fn)
  (hcall: ∀vs w,(callFunc f vs).run P w= .ok (.enter f vs) w) (hb:fn.body=some c) (hk:Dn1 fn args.length=true)
  (h:dwp P G fn.ntmps c (Ck0 P fn.results.toList R) ⟨Lt args 0,H⟩):Ai P G f args H R:=by
 unfold Dn1 at hk;rw[hb] at hk;simp only[Bool.and_eq_true,decide_eq_true_eq] at hk;obtain⟨⟨hA,hok⟩,hres⟩:=hk;refine⟨hcall,fun vs w hv hH hG=> ?_⟩;have hl:=hv.length;refine(callsIn_wide (n:=0)).1 (callsIn_of_wp_marks hf hb trivial ?_);have hS:Sim G ⟨fn.ntmps,⟨w.heap.size,[],false⟩⟩ ⟨Lt args 0,H⟩ { tmps:=vs.toArray++Array.replicate (fn.ntmps-vs.toArray.size) undef,defers:= [] } w:=by
  refine⟨by simp;omega,Dfs.nil _ _ _,fun i hi=> ?_,hH,hG,Nat.le_refl _⟩;have h0:=We args 0 i;rw[Nat.zero_add] at h0;show Rel w H (Lt args 0 i) _;rw[h0];by_cases hlt:i<args.length
  ·have h1:args[i]? =some (args.getD i Dc):=by simp [List.getD,List.getElem?_eq_getElem hlt]
   obtain⟨x,hx,hr⟩:=hv.get h1;have:(vs.toArray++Array.replicate (fn.ntmps-vs.toArray.size) undef).getD i undef=x:=by
    have hlt':i<vs.length:=by omega
    rw[Array.getD_eq_getD_getElem?,Array.getElem?_append_left (by simpa using hlt')];simp [hx]
   rw[this];exact hr
  ·have h1:args.getD i Dc=Dc:=by simp [List.getD,List.getElem?_eq_none (Nat.le_of_not_lt hlt)]
   have:(vs.toArray++Array.replicate (fn.ntmps-vs.toArray.size) undef).getD i undef=undef:=by
    rw[Array.getD_eq_getD_getElem?,Array.getElem?_append_right (by simp;omega)];simp only[Array.getElem?_replicate];split<;>rfl
   rw[h1,this];exact Ok w H
 refine wpIn_mono (Bm4 c hok _ _ h 0 ⟨w.heap.size,[],false⟩ rfl _ w hS) ?_;rintro e a' w1 ⟨e',s',hQ,hX,hS1,hE1⟩;have fin: ∀(v:DVal),Hx (Kg P s' fn.results.toList)=some v->Nu R v s'.heap->
   LeavesInM Fence.wide 0 P fn a'.tmps (fun e w'=> ∃e' H',R e' H'/\RelE w' H' e' e/\Av w' H'/\Ext H w H' w') a'.defers .returning w1:=by
  intro v hv hfin;refine Sim.leave (a:=a') (by simp) rfl a'.defers w1 hS1 hE1 fun w' hS' hE' _=> ?_;obtain⟨x,hx,hr⟩:=Xu (P:=P) hS' hres hv;obtain⟨v',H',hg,hR⟩:=hfin;obtain⟨g1,g2,g3⟩:=hg w' hS'.heap;exact⟨x,hx, .ret v',H',hR, .ret v' x (g3 x hr),g1,hE'.trans ⟨rfl,rfl,rfl,Nat.le_refl _,fun _ _ _=>rfl,fun b hb=> .inl (g2 b hb),fun _ _=>rfl,fun _ _ _=>rfl⟩⟩
 cases hX with
 | normal=>
  simp only[Ck0] at hQ;cases hd:Hx (Kg P s' fn.results.toList) with
  | none=>rw[hd] at hQ;exact hQ.elim
  | some v=>rw[hd] at hQ;exact fin v hd hQ
 | ret=>
  simp only[Ck0] at hQ;cases hd:Hx (Kg P s' fn.results.toList) with
  | none=>rw[hd] at hQ;exact hQ.elim
  | some v=>rw[hd] at hQ;exact fin v hd hQ
 | exit id=>exact hQ.elim
 | goto l=>exact hQ.elim
 | panic d v hv=>
  obtain⟨v',H',hg,hR⟩:=hQ;refine Sim.leave (a:=a') (by simp) rfl a'.defers w1 hS1 hE1 fun w' hS' hE' hl=> ?_;obtain⟨g1,g2,g3⟩:=hg w' hS'.heap;exact⟨.panic v',H',hR, .panic v' v (g3 v (Rel.lasts hl _ _ hv)),g1,hE'.trans ⟨rfl,rfl,rfl,Nat.le_refl _,fun _ _ _=>rfl,fun b hb=> .inl (g2 b hb),fun _ _=>rfl,fun _ _ _=>rfl⟩⟩
end
attribute [go_sem] Bm5.eq_1 Bm5.eq_2 Ud.eq_1 Cj9.eq_1 Ba0.eq_1 Ba0.eq_2 De3.eq_1 Kg.eq_1 Kg.eq_2 Hx.eq_1 Am7.eq_1 Ck0.eq_1 Ck0.eq_2 Ck0.eq_3 Lt.eq_1 Lt.eq_2
theorem Bm6 (x y:DVal) (zs:List DVal):Hx (some (x::y::zs))=some (.tuple (x::y::zs)):=rfl
theorem Bm7:Hx (some [])=some (.tuple []):=rfl
attribute [go_sem] Bm6 Bm7
end Go.Dl

-- THE DATA LEVEL, PART X: plain data seen at this level; small words.
namespace Go.Dl
open Go
theorem Cb8 {n:Int} (h1: -9223372036854775808<=n) (h2:n<=9223372036854775807):IntKind.wrap .i64 n=n:=IntWalk.i64_in n ⟨h1,h2⟩
abbrev dI (n:Int):DVal:= .int .i64 n
theorem Bt4.run {G:Nat->DVal} {body:(DExit->DS->Prop)->DK} {Q:DExit->DS->Prop} {s:DS} {ι:Type} (I:ι->(Nat->DVal)->Ac->Prop) (μ:ι->Nat) (i:ι) (h0:I i s.env s.heap)
  (hr: ∀i env heap,I i env heap->body (Xs (fun s1=> ∃j s2,Ni G s1 s2/\I j s2.env s2.heap/\μ j<μ i) Q) ⟨env,heap⟩):Bt4 G body Q s:=
 ⟨ι,fun i s=>I i s.env s.heap,μ,⟨i,s,Ni.refl s,h0⟩,fun i s h=>hr i s.env s.heap h⟩
theorem De4 {G:Nat->DVal} {ι:Type} {I:ι->(Nat->DVal)->Ac->Prop} {μ:ι->Nat} {s:DS} {m:Nat} (j:ι) (h:I j s.env s.heap) (hm:μ j<m): ∃j s2,Ni G s s2/\I j s2.env s2.heap/\μ j<m:=⟨j,s,Ni.refl s,h,hm⟩
theorem Ba2 {α:Type} (f:α->DVal) (l:List α) (i:Nat) (h:i<l.length):(l.map f)[i]? =some (f l[i]):=by simp [h]
theorem Dh6 {a b:Prop} (h:a):(a/\b)=b:=by simp [h]
theorem Ck2 {p:Prop} [Decidable p] (h:p):decide p=true:=by simp [h]
theorem Cb9 {p:Prop} [Decidable p] (h: ¬p):decide p=false:=by simp [h]
theorem Ao {α:Type} (f:Nat->α) (i j:Nat) (v:α) (h:j≠i):upd f i v j=f j:=by simp [upd,h]
end Go.Dl

-- THE DATA LEVEL, PART Y: regions whose order is drawn: a plan takes operations that only compute as early as they may come; whatever order is drawn ends as the plan does.
namespace Go.Dl
open Go
def EVF (dst:Option Nat) (F:DK->DS->Prop):Prop:=
 ∀K s,F K s-> ∃d,Bb dst d K s/\ ∀K' s',Bb dst d K' s'->F K' s'
theorem Gd (dst:Option Nat) (d:DVal):EVF dst (Bb dst d):=fun K s h=>⟨d,h,fun K' s' h'=>h'⟩
theorem Hq (dst:Option Nat) {F:DK->DS->Prop} (h: ∀K s,¬F K s):EVF dst F:=fun K s hf=>(h K s hf).elim
theorem Br {dst:Option Nat} {p:Prop} {F:DK->DS->Prop} (h:EVF dst F):EVF dst (fun K s=>p/\F K s):=fun K s ⟨hp,hf⟩=>by
 obtain⟨d,h1,h2⟩:=h K s hf;exact⟨d,h1,fun K' s' h'=>⟨hp,h2 K' s' h'⟩⟩
theorem Ig (dst:Option Nat) (o:Option DVal):EVF dst (Nm dst o):=by
 cases o with
 | none=>exact Hq _ fun K s h=>h
 | some d=>exact Gd dst d
theorem Cw6 (dst:Option Nat) (c a b:DVal):EVF dst (Ax3 dst c a b):=by
 intro K s h;revert h;unfold Ax3;split
 ·intro h;exact⟨_,h,fun _ _ h'=>h'⟩
 ·intro h;exact h.elim
theorem Ck3 (P:Program) (dst:Option Nat) (b:Bool) (t:Option TypeDesc) (z:Option DVal) (ps:List (Nat×DVal)):EVF dst (Aq2 P dst b t z ps):=by
 intro K s h;revert h;unfold Aq2;split
 ·intro h;exact Ig _ _ K s h
 ·intro h;exact Ig _ _ K s h
 ·intro h;exact h.elim
theorem Ba3 (size:Nat) (dst:Option Nat) (ag:Option Bool) (cs:List DVal) (off:Nat):EVF dst (Aa0 size dst ag cs off):=by
 intro K s h;revert h;unfold Aa0;split
 ·intro h;exact Br (Gd _ _) K s h
 ·intro h;exact Ig _ _ K s h
 ·intro h;exact h.elim
theorem Ck4 (size:Nat) (ag:Option Bool) (dst:Option Nat) (off:Nat) (o:Option DObj):EVF dst (Aq3 size ag dst off o):=by
 intro K s h;revert h;unfold Aq3;split
 ·intro h;exact Ba3 _ _ _ _ _ K s h
 ·intro h;exact h.elim
theorem Cw7 (size:Nat) (ag:Option Bool) (dst:Option Nat) (v:DVal) (K:DK) (s:DS) (h:Am1 size ag dst v K s):
  ∃d,Bb dst d K s/\ ∀K' s',(∀r off,v= .optr r off->s'.heap r=s.heap r)->Bb dst d K' s'->Am1 size ag dst v K' s':=by
 unfold Am1 at h;split at h<;>try exact h.elim
 ·obtain⟨d,h1,h2⟩:=Ba3 _ _ _ _ _ K s h;exact⟨d,h1,fun K' s' _ h'=>h2 K' s' h'⟩
 ·rename_i r off
  obtain⟨d,h1,h2⟩:=Ck4 _ _ _ _ _ K s h;exact⟨d,h1,fun K' s' hk h'=>by show Aq3 _ _ _ _ (s'.heap r) K' s';rw[hk r off rfl];exact h2 K' s' h'⟩
theorem Ba4 (dst:Option Nat) (v:DVal):EVF dst (Rh dst v):=by
 intro K s h;revert h;unfold Rh;split<;>intro h<;>first | exact h.elim | exact⟨_,h,fun _ _ h'=>h'⟩
theorem Bm8 (dst:Option Nat) (o b:Option Bool):EVF dst (Lm dst o b):=by
 intro K s h;revert h;unfold Lm;split<;>intro h<;>first | exact h.elim | exact⟨_,h,fun _ _ h'=>h'⟩
theorem Cc0 (k:IntKind) (a b:Int) (dst:Option Nat) (op:BinOp):EVF dst (fun K s=>Zg k a b dst K s op):=by
 intro K s h;revert h;unfold Zg;split<;>intro h<;>first | exact h.elim | exact⟨_,h,fun _ _ h'=>h'⟩ | exact⟨_,h.2,fun _ _ h'=>⟨h.1,h'⟩⟩
theorem Ck5 (k:IntKind) (a b:Int) (dst:Option Nat) (op:BinOp):EVF dst (fun K s=>Aq5 k a b dst K s op):=by
 intro K s h;revert h;unfold Aq5;split<;>intro h<;>first | exact h.elim | exact⟨_,h,fun _ _ h'=>h'⟩ | exact⟨_,h.2,fun _ _ h'=>⟨h.1,h'⟩⟩
theorem Cc1 (a b:List UInt8) (dst:Option Nat) (op:BinOp):EVF dst (fun K s=>To a b dst K s op):=by
 intro K s h;revert h;unfold To;split<;>intro h<;>first | exact h.elim | exact⟨_,h,fun _ _ h'=>h'⟩ | exact⟨_,h.2,fun _ _ h'=>⟨h.1,h'⟩⟩
theorem Cw8 (op:BinOp) (k k':IntKind) (a b:Int) (dst:Option Nat) (x:Bool):EVF dst (fun K s=>Bs8 op k k' a b dst K s x):=by
 cases x
 ·exact Br (Cc0 k a b dst op)
 ·exact Ck5 k a b dst op
theorem Ck6 (P:Program) (t:TypeId) (c:Bool) (op:BinOp) (dst:Option Nat) (x y:DVal):EVF dst (Kp P t c op dst x y):=by
 intro K s h;revert h;unfold Kp;split
 ·intro h;exact Cw8 _ _ _ _ _ _ _ K s h
 ·intro h;exact Cc1 _ _ _ _ K s h
 ·intro h;exact Br (Br (Bm8 _ _ _)) K s h
 ·intro h;exact Bm8 _ _ _ K s h
theorem Dn2 (dst:Option Nat) (op:UnOp) (x:DVal):EVF dst (dUn dst op x):=by
 intro K s h;revert h;unfold dUn;split<;>intro h<;>first | exact h.elim | exact⟨_,h,fun _ _ h'=>h'⟩
theorem Bm9 (dst:Option Nat) (a b:Option TypeDesc) (x:DVal):EVF dst (Tp dst a b x):=by
 intro K s h;revert h;unfold Tp;split<;>intro h<;>first | exact h.elim | exact⟨_,h,fun _ _ h'=>h'⟩
theorem At1 (t:TypeId) (x:DVal) (dst:Option Nat) (b:Bool):EVF dst (Og t x dst b):=by
 intro K s h;revert h;unfold Og;split<;>intro h<;>first | exact h.elim | exact⟨_,h,fun _ _ h'=>h'⟩
theorem Ba5 (l:List UInt8) (dst:Option Nat) (a b:Option Int):EVF dst (fun K s=>Vs l dst K s a b):=by
 cases a<;>cases b<;>first | exact Hq _ (fun K s h=>h) | exact Br (Br (Br (Gd _ _)))
theorem Am8 (size:Nat) (cs:List DVal) (len:Nat) (dst:Option Nat) (a b:Option Int):EVF dst (fun K s=>Tq size cs len dst K s a b):=by
 cases a<;>cases b<;>first | exact Hq _ (fun K s h=>h) | exact Br (Br (Br (Gd _ _)))
theorem Wf (size r off cap:Nat) (dst:Option Nat) (a b c:Option Int):EVF dst (fun K s=>Oi size r off cap dst K s a b c):=by
 cases a<;>cases b<;>cases c<;>first | exact Hq _ (fun K s h=>h) | exact Br (Br (Br (Br (Gd _ _))))
theorem Cc2 (dst:Option Nat) (a b:Option Int):EVF dst (fun K s=>Aq7 dst K s a b):=by
 cases a<;>cases b<;>first | exact Hq _ (fun K s h=>h) | exact Br (Br (Gd _ _))
theorem Ck7 (P:Program) (lo hi:Option DVal) (dst:Option Nat) (t:Option TypeDesc) (v:DVal) (m:Option DVal) (K:DK) (s:DS) (h:Vt P lo hi dst t v m K s):
  ∃d,Bb dst d K s/\ ∀K' s',(∀r off,v= .optr r off->s'.heap r=s.heap r)->Bb dst d K' s'->Vt P lo hi dst t v m K' s':=by
 have lift: ∀ {F:DK->DS->Prop},EVF dst F->F K s-> ∃d,Bb dst d K s/\ ∀K' s',(∀r off,v= .optr r off->s'.heap r=s.heap r)->Bb dst d K' s'->F K' s':=by
  intro F hF hf;obtain⟨d,h1,h2⟩:=hF K s hf;exact⟨d,h1,fun K' s' _ h'=>h2 K' s' h'⟩
 unfold Vt at h;split at h<;>try exact h.elim
 ·exact lift (Ba5 _ _ _ _) h
 ·exact lift (Br (Cc2 _ _ _)) h
 ·exact lift (Br (Am8 _ _ _ _ _ _)) h
 ·exact lift (Br (Br (Wf _ _ _ _ _ _ _ _))) h
 ·exact lift (Br (Br (Br (Wf _ _ _ _ _ _ _ _)))) h
 ·rename_i n e r off
  obtain⟨h1,h2,h3⟩:=h;obtain⟨d,h4,h5⟩:=Wf _ _ _ _ _ _ _ _ K s h3;exact⟨d,h4,fun K' s' hk h'=>⟨h1,by rw[hk r off rfl];exact h2,h5 K' s' h'⟩⟩
 ·exact lift (Br (Br (Am8 _ _ _ _ _ _))) h
theorem Ak6 (P:Program) (x:DVal) (dst:Option Nat) (f:Option Field):EVF dst (Xr P x dst f):=by
 cases f with
 | none=>exact Hq _ (fun K s h=>h)
 | some f=>exact Br (Ig _ _)
theorem At2 (P:Program) (f:Nat) (x:DVal) (dst:Option Nat) (t:Option TypeDesc):EVF dst (Lo P f x dst t):=by
 intro K s h;revert h;unfold Lo;split
 ·intro h;exact Ak6 _ _ _ _ K s h
 ·intro h;exact h.elim
theorem Bu0 (size:Nat) (cs:List DVal) (off:Nat) (dst:Option Nat) (b:Option Bool):EVF dst (Ax4 size cs off dst b):=by
 intro K s h;revert h;unfold Ax4;split
 ·intro h;exact Gd _ _ K s h
 ·intro h;exact Ig _ _ K s h
 ·intro h;exact h.elim
theorem Cc3 (P:Program) (cs:List DVal) (dst:Option Nat) (f:Option Field):EVF dst (Bt1 P cs dst f):=by
 cases f with
 | none=>exact Hq _ (fun K s h=>h)
 | some f=>exact Bu0 _ _ _ _ _
theorem Ck8 (P:Program) (f:Nat) (dst:Option Nat) (t:Option TypeDesc) (x:DVal):EVF dst (Aa2 P f dst t x):=by
 intro K s h;revert h;unfold Aa2;split
 ·intro h;exact Cc3 _ _ _ _ K s h
 ·intro h;exact h.elim
theorem At3 (P:Program) (dst:Option Nat) (t:Option TypeDesc) (x i:DVal):EVF dst (Lp P dst t x i):=by
 intro K s h;revert h;unfold Lp;split
 ·intro h;exact Br (Br (Br (Br (Gd _ _)))) K s h
 ·intro h;exact Br (Br (Br (Gd _ _))) K s h
 ·intro h;exact Br (Br (Br (Ig _ _))) K s h
 ·intro h;exact h.elim
theorem Ck9 (P:Program) (dst:Option Nat) (t:Option TypeDesc) (x i:DVal):EVF dst (Aa3 P dst t x i):=by
 intro K s h;revert h;unfold Aa3;split
 ·intro h;exact Br (Br (Bu0 _ _ _ _ _)) K s h
 ·intro h;exact Br (Ig _ _) K s h
 ·intro h;exact h.elim
theorem Bn0 (i:Nat) (dst:Option Nat) (x:DVal):EVF dst (Tr i dst x):=by
 intro K s h;revert h;unfold Tr;split
 ·intro h;exact Ig _ _ K s h
 ·intro h;exact h.elim
theorem Ac9 (dst:Option Nat) (z:Option DVal):EVF dst (Aa4 dst z):=by
 cases z with
 | none=>exact Hq _ (fun K s h=>h)
 | some z=>exact Gd _ _
theorem Ba6 (v:DVal) (z:Option DVal) (dst:Option Nat) (a b:Bool):EVF dst (Vu v z dst a b):=by
 cases a<;>cases b
 ·exact Hq _ (fun K s h=>h)
 ·exact Gd _ _
 ·exact Ac9 _ _
 ·exact Gd _ _
theorem Ak7 (P:Program) (t:TypeId) (ok:Bool) (dst:Option Nat) (b:Bool) (x:DVal):EVF dst (Ke P t ok dst b x):=by
 intro K s h;revert h;unfold Ke;split
 ·intro h;exact Ba6 _ _ _ _ _ K s h
 ·intro h;exact Br (Ac9 _ _) K s h
 ·intro h;exact h.elim
theorem Dh7 (dst:Option Nat) (t:Option TypeDesc) (x:DVal):EVF dst (dLen dst t x):=by
 intro K s h;revert h;unfold dLen;split<;>intro h<;>first | exact h.elim | exact⟨_,h,fun _ _ h'=>h'⟩
theorem Cl0 (P:Program) (x:DVal) (dst:Option Nat) (ts:List TypeId):EVF dst (Bi7 P x dst ts):=by
 intro K s h;revert h;unfold Bi7;split
 ·intro h;exact Dh7 _ _ _ K s h
 ·intro h;exact h.elim
def Mw:Op->Bool
 | .move _ | .assign _ | .pick _ _ _ | .build _ _ | .load _ _ | .nilCheck _ | .unOp _ _ _ | .convert _ _ _ | .makeInterface _ _ | .makeFunc _ _ _
 | .slice _ _ _ _ _ | .fieldAddr _ _ _ | .field _ _ _ | .indexAddr _ _ _ | .index _ _ _ | .typeAssert _ _ _ _ | .extract _ _=>true
 | .binOp _ _ _ y _=>!Fy y
 | .call c=>match c.callee with
  | .builtin .len | .builtin .min | .builtin .max=>true
  | _=>false
 | _=>false
def At4:Op->Option Operand
 | .load _ a=>some a
 | .slice _ x _ _ _=>some x
 | .convert _ _ x=>some x
 | _=>none
def Hy (H H':Ac):DVal->Prop
 | .optr r _=>H' r=H r
 | .oslice _ r _ _ _=>H' r=H r
 | _=>True
theorem Fz {H:Ac} {v:DVal}:Hy H H v:=by
 unfold Hy;split<;>trivial
theorem Hy.ptr {H H':Ac} {d:DVal} (h:Hy H H' d): ∀r off,d= .optr r off->H' r=H r:=fun r off e=>by subst e;exact h
def Ba7 (G:Nat->DVal) (s s':DS) (op:Op):Prop:= ∀a,At4 op=some a->Hy s.heap s'.heap (dev G s.env a)
theorem Ba8 {H H':Ac} {x:DVal} (h:Hy H H' x):Sk H' x=Sk H x:=by
 unfold Sk;split<;>try rfl
 simp only[Hy] at h;rw[h]
theorem Cl1 (P:Program) (dst:Option Nat) (a b:Option TypeDesc) (x:DVal) (K:DK) (s:DS) (h:Qf P dst a b x K s):
  ∃d,Bb dst d K s/\ ∀K' s',Hy s.heap s'.heap x->Bb dst d K' s'->Qf P dst a b x K' s':=by
 revert h;unfold Qf;split
 ·rintro⟨h1,h⟩;cases hb:(Sk s.heap x).bind Rw with
  | none=>rw[hb] at h;exact h.elim
  | some l=>
   rw[hb] at h;exact⟨_,h,fun K' s' hk h'=>⟨h1,by rw[Ba8 hk,hb];exact h'⟩⟩
 ·intro h;obtain⟨d,h1,h2⟩:=Bm9 _ _ _ _ K s h;exact⟨d,h1,fun K' s' _ h'=>h2 K' s' h'⟩
theorem Lu {G:Nat->DVal} {env env':Nat->DVal}: ∀ {xs:List Operand},(∀x∈xs,dev G env' x=dev G env x)->Eo G env' xs=Eo G env xs
 | [],_=>rfl
 | x::xs,h=>by
  simp only[Eo];rw[h x (by simp),Lu fun y hy=>h y (by simp [hy])]
theorem Ot {G:Nat->DVal} {env env':Nat->DVal}: ∀ {xs:List (Nat×Operand)},(∀x∈xs.map (·.2),dev G env' x=dev G env x)->Hw G env' xs=Hw G env xs
 | [],_=>rfl
 | (i,x)::xs,h=>by
  simp only[Hw];rw[h x (by simp),Ot fun y hy=>h y (by simp at hy⊢;exact .inr hy)]
theorem Ou {G:Nat->DVal} {env env':Nat->DVal} {x:Option Operand} (h: ∀y∈x.toArray,dev G env' y=dev G env y):Kq G env' x=Kq G env x:=by
 cases x with
 | none=>rfl
 | some x=>simp only[Kq];rw[h x (by simp)]
def Mx (all:List Oper) (env:Nat->DVal) (o:Oper):Option Bool:=
 match o.guard with
 | none=>some true
 | some (j,b)=>match Mq all j with
  | some g=>match env g with
   | .bool v=>some (v==b)
   | .tuple []=>some false
   | _=>none
  | none=>none
end Go.Dl
