/- The data level and the contracts of the functions that are reached (part 2). -/
import Derived.Laws.BytesString
import Derived.Laws.RangeString
import Derived.Test.YtpkdkhoeaibpaaaGreatDoorPda
set_option linter.unusedSimpArgs false
set_option linter.unusedVariables false
set_option linter.unusedSectionVars false
-- THE DATA LEVEL, PART T: further operations: type assertions, built-in functions, calls.
namespace Go.Dl
open Go
section
variable {P:Program} {G:Nat->DVal} {N:Fr}
variable {o:Oper} {s:DS} {a:Act} {w:World} {K:DK} {Q:DExit->DS->Prop} {Qx:Exit->Act->World->Prop}
theorem Tb {t:TypeId} (h:Dc (P.underlying t)=true): ∃d,P.underlying t=some d/\ ∀m,d≠ .interface m:=by
 cases hu:P.underlying t with
 | none=>rw[hu] at h;cases h
 | some d=>refine⟨d,rfl,fun m e=> ?_⟩;rw[hu,e] at h;cases h
theorem As0 (hS:Sim G N s a w) (hd:Cq N o.dst=true) {x:Operand} {xt t:TypeId} {ok:Bool} (hx:Cd N x=true) (he:o.op= .typeAssert x xt t ok)
  (h:Ej P t ok o.dst (Dc (P.underlying t)) (dev G s.env x) K s):PV P o s a w K:=by
 have rx:=Bx hS hx;generalize hn:Dc (P.underlying t)=nb at h;generalize dev G s.env x=dx at h rx;unfold Ej at h;split at h
 ·rename_i t0 v0
  obtain⟨d,hu,hni⟩:=Tb hn;simp only[Rel] at rx;obtain⟨y,hp,hy⟩:=rx;have hrun:(execOp a.eval o).run P w=((Instr.typeAssert (.iface t0 y) xt t ok).run P w).andThen fun v w'=> .ok (.value v) w':=by
   simp [execOp,he,hp]
  have hta:(Instr.typeAssert (.iface t0 y) xt t ok).run P w=if t0=t then .ok (if ok then .tuple #[y, .bool true] else y) w else((if ok then(do pure (.tuple #[<-zeroValue t, .bool false])) else runtimePanic (.typeAssertion (some xt) (some t0) t "")):Sem Value).run P w:=by
   simp only[Instr.typeAssert,Sem.run_bind,run_underlying hu,Result.andThen_ok];cases d<;>first | exact absurd rfl (hni _) | (by_cases e:t0=t<;>simp [e])
  by_cases e:t0=t
  ·subst e;simp only[decide_true] at h;rw[hta,if_pos rfl] at hrun;cases ok
   ·exact pvI hS hd hrun hy h
   ·refine pvI hS hd hrun ?_ h;simp only[Rel];exact⟨_,rfl,by simp only[if_true,Br,Rel];exact⟨_,_,rfl,hy,_,_,rfl,rfl,rfl⟩⟩
  ·simp only[e,decide_false] at h;cases ok
   ·exact h.elim
   ·simp only[Lp] at h;cases hz:Bz P t with
    | none=>rw[hz] at h;exact h.elim
    | some z=>
     rw[hz] at h;obtain⟨i,v,hi,hiz,rfl⟩:=In hz;have hzv:(zeroValue t).run P w= .ok v w:=by simp [zeroValue,Li hi,hiz]
     rw[hta,if_neg e] at hrun;refine pvI hS hd (x:= .tuple #[v, .bool false]) (by rw[hrun];simp [hzv]) ?_ h;simp only[Rel];exact⟨_,rfl,by simp only[Br,Rel];exact⟨_,_,rfl,Es w s.heap v,_,_,rfl,rfl,rfl⟩⟩
 ·obtain⟨d,hu,hni⟩:=Tb hn;obtain⟨rfl,h⟩:=h;simp only[Rel] at rx;cases hz:Bz P t with
  | none=>rw[hz] at h;exact h.elim
  | some z=>
   rw[hz] at h;obtain⟨i,v,hi,hiz,rfl⟩:=In hz;have hzv:(zeroValue t).run P w= .ok v w:=by simp [zeroValue,Li hi,hiz]
   refine pvI hS hd (x:= .tuple #[v, .bool false]) ?_ ?_ h
   ·simp only[execOp,he,rx,Instr.typeAssert,Sem.run_bind,run_underlying hu,Result.andThen_ok];cases d<;>first | exact absurd rfl (hni _) | simp [hzv]
   ·simp only[Rel];exact⟨_,rfl,by simp only[Br,Rel];exact⟨_,_,rfl,Es w s.heap v,_,_,rfl,rfl,rfl⟩⟩
 ·exact h.elim
theorem Fp {c:Call} {b:Builtin} (he:o.op= .call c) (hc:c.callee= .builtin b):
  execOp a.eval o=builtin b c.argTypes o.type (c.args.map fun | .const _=>true | _=>false) (c.args.map a.eval):=by
 simp only[execOp,he,resolve,hc];rfl
theorem Uy {xs:List Operand} {d:DVal} (h:Ei G s.env xs= [d]): ∃x,xs= [x]/\dev G s.env x=d:=by
 cases xs with
 | nil=>simp [Ei] at h
 | cons x xs=>cases xs with
  | nil=>simp [Ei] at h;exact⟨x,rfl,h⟩
  | cons y ys=>simp [Ei] at h
theorem Ba1 {xs:List Operand} {d e:DVal} (h:Ei G s.env xs= [d,e]): ∃x y,xs= [x,y]/\dev G s.env x=d/\dev G s.env y=e:=by
 cases xs with
 | nil=>simp [Ei] at h
 | cons x xs=>cases xs with
  | nil=>simp [Ei] at h
  | cons y ys=>cases ys with
   | nil=>simp [Ei] at h;exact⟨x,y,rfl,h.1,h.2⟩
   | cons z zs=>simp [Ei] at h
theorem Dz1 (hS:Sim G N s a w) (hd:Cq N o.dst=true) {c:Call} {x:Operand} (hx:Cd N x=true) (he:o.op= .call c) (hc:c.callee= .builtin .len) (hargs:c.args.toList= [x]) {t:TypeId} (hts:c.argTypes.toList= [t])
  (h:Cb2 o.dst (P.underlying t) (dev G s.env x) K s):PV P o s a w K:=by
 have rx:=Bx hS hx;have hm:c.args.map a.eval= #[a.eval x]:=by apply Array.ext';simp [hargs]
 have hex:=Fp (a:=a) he hc;rw[hm] at hex;have ht':c.argTypes[0]? =some t:=by rw[<-Array.getElem?_toList,hts];rfl
 generalize hu:P.underlying t=u at h;generalize dev G s.env x=dx at h rx;unfold Cb2 at h;split at h
 ·simp only[Rel] at rx;exact Ow hS hd (by rw[hex];simp [builtin,Builtin.len_,ht',run_underlying hu,rx,goInt];rfl) h
 ·exact Ow hS hd (by rw[hex];simp [builtin,Builtin.len_,ht',run_underlying hu,goInt]) h
 ·simp only[Rel] at rx;exact Ow hS hd (by rw[hex];simp [builtin,Builtin.len_,ht',run_underlying hu,rx,goInt]) h
 ·simp only[Rel] at rx;obtain⟨_,_,rx,_⟩:=rx;exact Ow hS hd (by rw[hex];simp [builtin,Builtin.len_,ht',run_underlying hu,rx,goInt]) h
 ·simp only[Rel] at rx;obtain⟨_,_,rx,_⟩:=rx;exact Ow hS hd (by rw[hex];simp [builtin,Builtin.len_,ht',run_underlying hu,rx,goInt]) h
 ·exact h.elim
theorem Xv {H:Bb} (isMax:Bool): ∀(ys:List DVal) (vs:List Value) (x:DVal) (v:Value) (r:DVal),Br w H ys vs->Rel w H x v->Jf isMax (some x) ys=some r->
  ∃u,(vs.foldlM (if isMax then Builtin.max2 else Builtin.min2) v).run P w= .ok u w/\Rel w H r u
 | [],vs,x,v,r,hl,hx,h=>by
  simp only[Br] at hl;subst hl;simp only[Jf] at h;cases h;exact⟨v,by simp,hx⟩
 | y::ys,vs,x,v,r,hl,hx,h=>by
  simp only[Br] at hl;obtain⟨u,us,rfl,hy,hl⟩:=hl;simp only[Jf] at h;cases hm:dMM isMax x y with
  | none=>rw[hm] at h;cases ys<;>cases h
  | some z=>
   rw[hm] at h;unfold dMM at hm;split at hm<;>try (cases hm;done)
   rename_i k m k' n
   simp only[Rel] at hx hy;subst hx;subst hy;cases hm;obtain⟨q,hq,hr⟩:=Xv isMax ys us _ (.int k (if isMax then(if n>m then n else m) else(if n<m then n else m))) r hl (by simp [Rel]) h;refine⟨q, ?_,hr⟩;cases isMax
   ·simpa [Builtin.min2] using hq
   ·simpa [Builtin.max2] using hq
theorem Ba2 (hS:Sim G N s a w) (hd:Cq N o.dst=true) {c:Call} {isMax:Bool} (hx:c.args.toList.all (Cd N)=true) (he:o.op= .call c) (hc:c.callee= .builtin (if isMax then .max else .min))
  (h:Hv o.dst (Ia isMax (Ei G s.env c.args.toList)) K s):PV P o s a w K:=by
 have rl:=Lv hS hx;have hex:=Fp (a:=a) he hc;obtain⟨d,hd',hK⟩:=Gn h;have hm:(c.args.map a.eval).toList=c.args.toList.map a.eval:=by simp
 generalize hvs:c.args.toList.map a.eval=vs at rl hm;generalize Ei G s.env c.args.toList=ds at rl hd';cases ds with
 | nil=>cases hd'
 | cons x rest=>
  simp only[Br] at rl;obtain⟨v,us,rfl,hx',hl⟩:=rl;simp only[Ia] at hd';obtain⟨u,hu,hr⟩:=Xv (P:=P) isMax rest us x v d hl hx' hd';refine pvI hS hd ?_ hr hK;rw[hex];cases isMax
  ·simp at hu;simp only[builtin,Builtin.min_,hm,Bool.false_eq_true,if_false,Sem.run_bind,hu,Result.andThen_ok,Sem.run_pure]
  ·simp at hu;simp only[builtin,Builtin.max_,hm,if_true,Sem.run_bind,hu,Result.andThen_ok,Sem.run_pure]
end
end Go.Dl

-- THE DATA LEVEL, PART U: append.
namespace Go.Dl
open Go
section
variable {P:Program} {G:Nat->DVal} {N:Fr}
variable {o:Oper} {s:DS} {a:Act} {w:World} {K:DK} {Q:DExit->DS->Prop} {Qx:Exit->Act->World->Prop}
def Bl3 (P:Program) (w:World) (size:Nat) (x:Value) (n:Nat) (vs:List Value):Prop:=
 (Builtin.lenOf x).run P w= .ok n w/\ ∀k,(Builtin.firstCells size n x).run P { w with drawn:=k }= .ok vs.toArray { w with drawn:=k }
theorem Rf {b off k:Nat} {xs:List Value} (h:Hr w b off xs):Hr { w with drawn:=k } b off xs:=h
theorem Bl4 {size:Nat} {y:DVal} {v:Value} {H:Bb} (hH:Bw w H) (hv:Rel w H y v) {n:Nat} {news:List DVal} (hs:Lt size H y=some (n,news)) (hl:news.length=n*size):
  ∃vs,Bl3 P w size v n vs/\Br w H news vs:=by
 unfold Lt at hs;split at hs
 ·cases hs;simp only[Rel] at hv;subst hv;exact⟨[],⟨by simp [Builtin.lenOf],fun k=>by simp [Builtin.firstCells]⟩,by simp [Br]⟩
 ·cases hs;simp only[Rel] at hv;obtain⟨ad,cap,rfl,_,hc⟩:=hv;rcases hc with rfl | ⟨b,o',xs,rfl,hc,hr⟩
  ·have hz:n*size=0:=by simpa using hl.symm
   refine⟨[],⟨by simp [Builtin.lenOf],fun k=> ?_⟩,by simp [Br]⟩;cases ad with
   | none=>simp [Builtin.firstCells]
   | some ad=>
    simp [Builtin.firstCells,hz,loadCells,loadCellsFrom]
  ·refine⟨xs.take (n*size),⟨by simp [Builtin.lenOf],fun k=> ?_⟩,hr.take _⟩;have hlx:=hr.length;have hlen:(xs.take (n*size)).length=n*size:=by
    simp only[List.length_take] at hl⊢;omega
   have:=Ec (P:=P) (w:= { w with drawn:=k }) (Hr.take (n:=n*size) (Rf hc.holds));rw[hlen] at this;simpa [Builtin.firstCells] using this
 ·rename_i sz r off n' lo
  unfold Nu at hs;split at hs<;>try (cases hs;done)
  rename_i cs e hh
  cases hs;simp only[Rel] at hv;obtain⟨o',cap,rfl,_,hcap,hoff,_⟩:=hv;obtain⟨xs,hr,hho⟩:=hH.holds hh;by_cases hc0:cap=0
  ·have hn:n=0:=by omega
   subst hn;refine⟨[],⟨by simp [Builtin.lenOf],fun k=>by simp [Builtin.firstCells,loadCells,loadCellsFrom]⟩, ?_⟩;simp [Br]
  ·have:o'=off:=hoff.resolve_left hc0;subst this;refine⟨(xs.drop o').take (n*size),⟨by simp [Builtin.lenOf],fun k=> ?_⟩,(hr.drop _).take _⟩;have hlx:=hr.length;have hlen:((xs.drop o').take (n*size)).length=n*size:=by
    simp only[List.length_take,List.length_drop] at hl⊢;omega
   have h1:Hr w r o' (xs.drop o'):=by simpa using hho.drop (n:=o')
   have:=Ec (P:=P) (w:= { w with drawn:=k }) (Hr.take (n:=n*size) (Rf h1));rw[hlen] at this;simpa [Builtin.firstCells] using this
 ·rename_i l
  cases hs;simp only[Rel] at hv;subst hv;have hsz:(ByteArray.mk ⟨l⟩).size=l.length:=rfl;refine⟨l.map fun b=> .int .u8 b.toNat,⟨by simp [Builtin.lenOf,hsz],fun k=> ?_⟩, ?_⟩
  ·simp [Builtin.firstCells]
  ·refine Br.mk (by simp) fun i d x h1 h2=> ?_;simp only[List.getElem?_map,Option.map_eq_some_iff] at h1 h2;obtain⟨b1,e1,rfl⟩:=h1;obtain⟨b2,e2,rfl⟩:=h2;rw[e1] at e2;cases e2;simp [Rel]
 ·cases hs
variable {t t' e:TypeId} {ty:TypeId} {i:TypeInfo} {z:Value} {u:TypeDesc}
theorem Rg (ht:P.underlying t=some (.slice e)) (hu:P.underlying t'=some u) (hu':(∃e',u= .slice e')\/u= .string) (hi:P.info? e=some i) (hz:i.zero=some z)
  {b:Option Addr} {len cap n:Nat} {x:Value} {vs:List Value} (hsrc:Bl3 P w i.size x n vs) (hg:cap<len+n) (hfit:(len+n)*i.bytes<=35184372088832) (hbytes:(len+n:Nat)<=35184372088832)
  {olds:List Value} (ho: ∀k,(Builtin.firstCells i.size len (.slice b len cap)).run P { w with drawn:=k }= .ok olds.toArray { w with drawn:=k }):
  ∃c,len+n<=c/\(Builtin.append_ #[t,t'] ty #[.slice b len cap,x]).run P w=
   .ok (.slice (some ⟨w.heap.size,0,none⟩) (len+n) c) { w.alloc (.cells (olds.toArray++(vs.toArray++Builtin.zeroCells z.cells (c-(len+n)))) e) with drawn:=w.drawn+1 }:=by
 obtain⟨hlen,hcells⟩:=hsrc;refine⟨(Question.appendCap (len+n) cap e).cut (w.tape w.drawn (.appendCap (len+n) cap e)),by simp [Question.cut], ?_⟩;have hn: ¬(len+n<=cap):=by omega
 have h48: ¬(Builtin.nextslicecap (len+n) cap*i.bytes>281474976710656):=by
  have:=growslice_fits (need:=len+n) (old:=cap) (bytes:=i.bytes) hg (by omega);omega
 have hc1:=hcells (w.drawn+1);have ho1:=ho (w.drawn+1);have h63: ¬(9223372036854775807<((len:Int)+(n:Int))):=by omega
 simp only[World.drew_eq] at hc1 ho1;rcases hu' with⟨e',rfl⟩ | rfl
 ·simp [Builtin.append_,run_underlying ht,run_underlying hu,sizeOf,typeInfo,zeroValue,hi,hz,hlen,hn,h48,h63,Question.forced,hc1,ho1,newRow];rfl
 ·simp [Builtin.append_,run_underlying ht,run_underlying hu,sizeOf,typeInfo,zeroValue,hi,hz,hlen,hn,h48,h63,Question.forced,hc1,ho1,newRow];rfl
theorem Ko (ht:P.underlying t=some (.slice e)) (hu:P.underlying t'=some u) (hu':(∃e',u= .slice e')\/u= .string) (hi:P.info? e=some i)
  {b:Option Addr} {len cap n:Nat} {x:Value} {vs:List Value} (hsrc:Bl3 P w i.size x n vs) (hg:len+n<=cap) {w':World}
  (hst:(match b with | some ad=>storeCells (ad.add (len*i.size)) vs 0 | none=>pure ()).run P w= .ok () w'):
  (Builtin.append_ #[t,t'] ty #[.slice b len cap,x]).run P w= .ok (.slice b (len+n) cap) w':=by
 obtain⟨hlen,hcells⟩:=hsrc
 have hc1:=hcells w.drawn
 have hw: { w with drawn:=w.drawn }=w:=rfl
 rw[hw] at hc1
 rcases hu' with⟨e',rfl⟩ | rfl
 ·cases b with
  | none=>simp at hst;subst hst;simp [Builtin.append_,run_underlying ht,run_underlying hu,sizeOf,typeInfo,hi,hlen,hg,hc1]
  | some ad=>simp at hst;simp [Builtin.append_,run_underlying ht,run_underlying hu,sizeOf,typeInfo,hi,hlen,hg,hc1,hst]
 ·cases b with
  | none=>simp at hst;subst hst;simp [Builtin.append_,run_underlying ht,run_underlying hu,sizeOf,typeInfo,hi,hlen,hg,hc1]
  | some ad=>simp at hst;simp [Builtin.append_,run_underlying ht,run_underlying hu,sizeOf,typeInfo,hi,hlen,hg,hc1,hst]
theorem As1 {u:Option TypeDesc} (h:To u=true): ∃d,u=some d/\((∃e',d= .slice e')\/d= .string):=by
 cases u with
 | none=>cases h
 | some d=>cases d<;>first | (exact⟨_,rfl, .inl ⟨_,rfl⟩⟩) | (exact⟨_,rfl, .inr rfl⟩) | (cases h;done)
theorem Bl5 {H:Bb} (hH:Bw w H) {r p:Nat} {cs ds:List DVal} {e:TypeId} (hr:H r=some (.cells cs e)) {vs:List Value} (hv:Br w H ds vs) (h1:ds.all (·.one)=true) (hp:p<=cs.length)
  (hroom: ∀c fz,w.heap[r]? =some (.cells c e fz)->p+ds.length<=c.size) {cs':List DVal} (hcs:cs'=cs.take p++ds):
  ∃w',(storeCells ⟨r,p,none⟩ vs 0).run P w= .ok () w'/\Bw w' (upd (upd H r none) r (some (.cells cs' e)))/\Ext H w (upd (upd H r none) r (some (.cells cs' e))) w':=by
 subst hcs;obtain⟨xs,c,fz,g1,g2,g3,g4⟩:=hH r _ hr;obtain⟨tl,htl⟩:=g2;have hlx:=g3.length;have hlv:=hv.length;have hcs:c.size=xs.length+tl.length:=by rw[<-Array.length_toList,<-htl];simp
 have hrm:=hroom c fz g1;obtain⟨w',c',hrun,hheap,hlist,hother,hsize,hos,htape,hout⟩:=Ig (P:=P) r p e fz vs 0 c w g1 (by omega) (Ac1 hv h1) g4;have hcsz:c'.size=c.size:=by
  rw[<-Array.length_toList,hlist];simp;omega
 have hupd:upd (upd H r none) r (some (.cells (cs.take p++ds) e))=upd H r (some (.cells (cs.take p++ds) e)):=by
  funext j;simp only[upd];split<;>rfl
 rw[hupd];have hE:Ext H w (upd H r (some (.cells (cs.take p++ds) e))) w':=by
  refine⟨hos,htape,hout,by omega,fun b hb hn=>hother b (fun hbr=>by subst hbr;rw[hr] at hn;cases hn),fun b hb=> ?_,fun b hb=> ?_,fun a _ _=>by
   unfold World.frozen?;by_cases hbr:a.block=r
   ·rw[hbr,hheap,g1]
   ·rw[hother _ hbr]⟩
  ·by_cases hbr:b=r
   ·subst hbr;exact .inl (by rw[hr];simp)
   ·simp only[upd,if_neg hbr] at hb;exact .inl hb
  ·by_cases hbr:b=r
   ·subst hbr;rw[hheap,g1];simp [Jq,hcsz]
   ·rw[hother b hbr]
 refine⟨w',hrun,fun r' o' ho'=> ?_,hE⟩;by_cases hbr:r'=r
 ·subst hbr;simp only[upd,if_pos] at ho';cases ho';refine⟨xs.take p++vs,c',fz,hheap, ?_,(Br.lasts hE.lasts _ _ (g3.take p)).append (Br.lasts hE.lasts _ _ hv),by rw[hcsz];exact g4⟩;refine⟨c.toList.drop (p+0+vs.length), ?_⟩;rw[hlist,<-htl,Nat.add_zero,List.take_append_of_le_length (by omega)]
 ·simp only[upd,if_neg hbr] at ho';rw[hother r' hbr];exact(hH r' o' ho').lasts hE.lasts
theorem Bw.letGo {H:Bb} (hH:Bw w H) (r:Nat):Bw w (upd H r none):=by
 have hl:Lasts H w (upd H r none) w:=⟨fun b i x hb hc=>⟨by simp only[upd];split;rfl;exact hb,hc⟩,Nat.le_refl _,fun _ _=>rfl⟩;intro r' o' ho';by_cases hbr:r'=r
 ·subst hbr;simp [upd] at ho'
 ·simp only[upd,if_neg hbr] at ho';exact(hH r' o' ho').lasts hl
theorem Cb7 {H:Bb} (r:Nat):Ext H w (upd H r none) w:=
 ⟨rfl,rfl,rfl,Nat.le_refl _,fun _ _ _=>rfl,fun b hb=> .inl (by simp only[upd] at hb;split at hb<;>simp_all),fun _ _=>rfl,fun _ _ _=>rfl⟩
theorem La (size:Nat) (k:Nat):(Builtin.firstCells size 0 (.slice none 0 0)).run P { w with drawn:=k }= .ok #[] { w with drawn:=k }:=by simp [Builtin.firstCells]
theorem Ts {α:Type} (l m:List α):l<+:l++m:=⟨m,rfl⟩
theorem Co0 (hS:Sim G N s a w) (hd:Cq N o.dst=true) {c:Call} {x y:Operand} (hx:Cd N x=true) (hy:Cd N y=true) (he:o.op= .call c) (hc:c.callee= .builtin .append) (hargs:c.args.toList= [x,y]) {t t':TypeId} (htys:c.argTypes.toList= [t,t'])
  (h:Uo P (To (P.underlying t')) (dev G s.env x) (dev G s.env y) o.dst (P.underlying t) K s):o.wp P a w (Fi G N K s w) Qx:=by
 have rx:=Bx hS hx;have ry:=Bx hS hy;have hm:c.args.map a.eval= #[a.eval x,a.eval y]:=by apply Array.ext';simp [hargs]
 have hat:c.argTypes= #[t,t']:=by apply Array.ext';simp [htys]
 have hex:execOp a.eval o=(do pure (.value (←Builtin.append_ #[t,t'] o.type #[a.eval x,a.eval y]))):=by
  rw[Fp he hc,hm,hat];rfl
 generalize hut:P.underlying t=ut at h;unfold Uo at h;split at h<;>try exact h.elim
 rename_i e
 obtain⟨hni,hzs,hzc,hpos,hbpos,h⟩:=h;obtain⟨u,hu,hu'⟩:=As1 hni;obtain⟨zd,hz⟩:=Option.isSome_iff_exists.1 hzs;rw[hz] at hzc;simp only[Option.all_some,decide_eq_true_eq] at hzc;obtain⟨i,z,hi,hiz,rfl⟩:=In hz;have hcsz:P.cellsOf e=i.size:=by simp [Program.cellsOf,hi]
 have hbsz:P.bytesOf e=i.bytes:=by simp [Program.bytesOf,hi]
 have hzlen:z.cells.size=i.size:=by
  have:=(Hk (Es w s.heap z)).length;rw[<-hcsz,<-hzc,this];simp
 rw[hcsz,hbsz] at h;rw[hcsz] at hpos;rw[hbsz] at hbpos;cases hsc:Lt i.size s.heap (dev G s.env y) with
 | none=>rw[hsc] at h;exact h.elim
 | some nn=>
  obtain⟨n,news⟩:=nn;rw[hsc] at h;obtain⟨hnl,hone,h⟩:=h;obtain⟨vs,hsrc,hrel⟩:=Bl4 (P:=P) hS.heap ry hsc hnl;have hvl:=hrel.length;generalize dev G s.env x=dx at h rx;unfold Hh at h;split at h
  ·-- nil
   obtain⟨h0,h1⟩:=h;simp only[Rel] at rx;by_cases hn:n=0
   ·have hK:=h0 hn;subst hn;have hvs:vs= []:=List.length_eq_zero_iff.1 (by omega);subst hvs;have hrun:=Ko (ty:=o.type) (b:=none) (len:=0) (cap:=0) hut hu hu' hi hsrc (by omega) (w':=w) (by simp);refine Gr hS hd (x:= .slice none 0 0) ?_ (by simp [Rel]) hK;rw[hex,rx];simp [hrun]
   ·obtain⟨hfit,hK⟩:=h1 hn;have hn45:n<=35184372088832:=Nat.le_trans (Nat.le_mul_of_pos_right n hbpos) hfit;obtain⟨cp,hcp,hrun⟩:=Rg (ty:=o.type) (b:=none) (len:=0) (cap:=0) (olds:= []) hut hu hu' hi hiz hsrc (by omega) (by simpa using hfit) (by omega) (fun k=>La i.size k);refine Uu hS hd (sz:=i.size) (lo:=n) (cap:=cp) (n:=w.drawn+1) (len:=n) (e:=e) (c:= #[]++(vs.toArray++Builtin.zeroCells z.cells (cp-(0+n)))) (by omega) (by omega) ?_ ?_ hrel ?_ hK
    ·simp only[Array.size_append,size_zeroCells,hzlen,List.size_toArray,List.length_nil,Nat.zero_add];have:vs.length=n*i.size:=by omega
     rw[this,<-Nat.add_mul];exact Nat.mul_le_mul_right _ (by omega)
    ·rw[hex,rx];simp only[Nat.zero_add] at hrun;simp [hrun]
    ·simp only[Array.toList_append,List.nil_append];exact Ts _ _
  ·-- a slice of the call's own
   rename_i sz r off len lo
   obtain⟨rfl,h⟩:=h;simp only[Rel] at rx;obtain⟨o',cap,hp,hlo,hcap,hoff,hroom⟩:=rx;cases hh:s.heap r with
   | none=>rw[hh] at h;exact h.elim
   | some ob=>
    cases ob with
    | loop=>rw[hh] at h;exact h.elim
    | iter=>rw[hh] at h;exact h.elim
    | map=>rw[hh] at h;exact h.elim
    | cells cs e'=>
     rw[hh] at h;obtain⟨rfl,hin,hout⟩:=h;by_cases hle:len+n<=lo
     ·-- in place, within what is known
      obtain⟨hfits,hK⟩:=hin hle;have hmul:(len+n)*i.size=len*i.size+n*i.size:=Nat.add_mul _ _ _;by_cases hc0:cap=0
      ·have hl0:len=0:=by omega
       have hn0:n=0:=by omega
       subst hl0;subst hn0;have hvs:vs= []:=List.length_eq_zero_iff.1 (by omega);have hns:news= []:=List.length_eq_zero_iff.1 (by omega);subst hvs;subst hns;have hrun:=Ko (ty:=o.type) (b:=some ⟨r,o',none⟩) (len:=0) (cap:=cap) hut hu hu' hi hsrc (by omega) (w':=w) (by simp [storeCells]);have hsp:splice cs (off+0*i.size) []=cs:=by simp [splice]
       have hup:upd s.heap r (some (.cells (splice cs (off+0*i.size) []) e'))=s.heap:=by
        funext j;rw[hsp];simp only[upd];split
        ·rename_i hj;rw[hj,hh]
        ·rfl
       rw[hup] at hK;refine Gr hS hd (x:= .slice (some ⟨r,o',none⟩) 0 cap) ?_ ?_ hK
       ·rw[hex,hp];simp [hrun]
       ·simp only[Rel];exact⟨o',cap,rfl,hlo,by omega,hoff,hroom⟩
      ·have:o'=off:=hoff.resolve_left hc0;subst this;obtain⟨w',hst,hH,hE⟩:=Wn (P:=P) hS.heap hh hrel hone (off:=o'+len*i.size) (by omega);have hrun:=Ko (ty:=o.type) (b:=some ⟨r,o',none⟩) (len:=len) (cap:=cap) hut hu hu' hi hsrc (by omega) (w':=w') (by simpa [Hj] using hst);refine Fo hS hd (x:= .slice (some ⟨r,o',none⟩) (len+n) cap) ?_ hE hH ?_ hK
       ·rw[hex,hp];simp [hrun]
       ·simp only[Rel];exact⟨o',cap,rfl,hlo,by omega, .inr rfl,hE.lasts.room hroom⟩
     ·-- the room is not known
      obtain⟨hfits,hfit,hK⟩:=hout hle;have hn45:len+n<=35184372088832:=Nat.le_trans (Nat.le_mul_of_pos_right _ hbpos) hfit;obtain⟨xs,hxr,hxh⟩:=hS.heap.holds hh;have hxl:=hxr.length;by_cases hin':len+n<=cap
      ·-- in place
       have:o'=off:=hoff.resolve_left (by omega);subst this;have hrm: ∀c fz,w.heap[r]? =some (.cells c e' fz)->o'+len*i.size+news.length<=c.size:=by
        intro c fz hcc;have:=hroom.2 c.size (by rw[hcc];rfl);have h2:(len+n)*i.size<=cap*i.size:=Nat.mul_le_mul_right _ hin';rw[Nat.add_mul] at h2;omega
       obtain⟨w',hst,hH,hE⟩:=Bl5 (P:=P) hS.heap hh hrel hone (p:=o'+len*i.size) hfits hrm (cs':=cs.take o'++(cs.drop o').take (len*i.size)++news) (by rw[List.take_add]);have hrun:=Ko (ty:=o.type) (b:=some ⟨r,o',none⟩) (len:=len) (cap:=cap) hut hu hu' hi hsrc hin' (w':=w') (by simpa [Hj] using hst);have hK':=hK r (cs.take o') (by simp [upd]) (fun e0=>by simp [e0]);rw[if_pos (.inr rfl)] at hK';have hlt:(cs.take o').length=o':=by simp;omega
       rw[hlt] at hK';refine Fo hS hd (x:= .slice (some ⟨r,o',none⟩) (len+n) cap) ?_ hE hH ?_ hK'
       ·rw[hex,hp];simp [hrun]
       ·simp only[Rel];exact⟨o',cap,rfl,by omega,by omega, .inr rfl,hE.lasts.room hroom⟩
      ·-- a new row
       have holds: ∃olds,Br w s.heap ((cs.drop off).take (len*i.size)) olds/\olds.length=len*i.size/\ ∀k,(Builtin.firstCells i.size len (.slice (some ⟨r,o',none⟩) len cap)).run P { w with drawn:=k }= .ok olds.toArray { w with drawn:=k }:=by
        by_cases hc0:cap=0
        ·have hl0:len=0:=by omega
         subst hl0;exact⟨[],by simp [Br],by simp,fun k=>by simp [Builtin.firstCells,loadCells,loadCellsFrom]⟩
        ·have:o'=off:=hoff.resolve_left hc0;subst this;have hlen:((xs.drop o').take (len*i.size)).length=len*i.size:=by
          simp only[List.length_take,List.length_drop];omega
         refine⟨_,(hxr.drop _).take _,hlen,fun k=> ?_⟩;have h1:Hr w r o' (xs.drop o'):=by simpa using hxh.drop (n:=o')
         have:=Ec (P:=P) (w:= { w with drawn:=k }) (Hr.take (n:=len*i.size) (Rf h1));rw[hlen] at this;simpa [Builtin.firstCells] using this
       obtain⟨olds,hor,hol,hof⟩:=holds;obtain⟨cp,hcp,hrun⟩:=Rg (ty:=o.type) hut hu hu' hi hiz hsrc (by omega) hfit hn45 hof;have hfin: ∀HH:Bb,Bw w HH->Ext s.heap w HH w->K ⟨Ez s.env o.dst (.oslice i.size w.heap.size 0 (len+n) (len+n)),upd HH w.heap.size (some (.cells ((cs.drop off).take (len*i.size)++news) e'))⟩->o.wp P a w (Fi G N K s w) Qx:=by
        intro HH hH0 hE0 hK';have hcont:Br w HH ((cs.drop off).take (len*i.size)++news) (olds++vs):=
         (Br.lasts hE0.lasts _ _ hor).append (Br.lasts hE0.lasts _ _ hrel)
        have hpre:(olds++vs)<+:(olds.toArray++(vs.toArray++Builtin.zeroCells z.cells (cp-(len+n)))).toList:=by
         simp only[Array.toList_append,<-List.append_assoc];exact Ts _ _
        have hsize:cp*i.size<=(olds.toArray++(vs.toArray++Builtin.zeroCells z.cells (cp-(len+n)))).size:=by
         simp only[Array.size_append,size_zeroCells,hzlen,List.size_toArray,hol];have h1:vs.length=n*i.size:=by omega
         rw[h1,<-Nat.add_mul,<-Nat.add_mul];exact Nat.mul_le_mul_right _ (by omega)
        refine Fo hS hd (x:= .slice (some ⟨w.heap.size,0,none⟩) (len+n) cp) ?_ ((hE0.trans (Sl hH0 _ _ _)).drawn (w.drawn+1)) ((Nl hH0 hcont _ hpre e').drawn (w.drawn+1)) ?_ hK'
        ·rw[hex,hp];simp [hrun]
        ·simp only[Rel];refine⟨0,cp,rfl,by omega,by omega, .inr rfl, ?_⟩;constructor
         ·show w.heap.size<(w.alloc _).heap.size;simp
         ·intro k hk;have h1:(w.alloc (.cells (olds.toArray++(vs.toArray++Builtin.zeroCells z.cells (cp-(len+n)))) e')).heap[w.heap.size]? =some (.cells (olds.toArray++(vs.toArray++Builtin.zeroCells z.cells (cp-(len+n)))) e'):=by
           show(w.heap.push _)[w.heap.size]? =_;simp
          have hk':Jq (w.alloc (.cells (olds.toArray++(vs.toArray++Builtin.zeroCells z.cells (cp-(len+n)))) e')).heap[w.heap.size]? =some k:=hk;rw[h1] at hk';simp only[Jq,Option.some.injEq] at hk';omega
       have hH1:=hS.heap.letGo r;have hK':=hK w.heap.size [] hH1.fresh (fun _=>rfl);simp only[List.nil_append,List.length_nil] at hK';by_cases hkeep:len<=lo\/w.heap.size=r
       ·rw[if_pos hkeep] at hK';exact hfin _ hH1 (Cb7 r) hK'
       ·rw[if_neg hkeep] at hK';exact hfin _ hS.heap (Ext.refl _ _) hK'
  ·exact h.elim
end
end Go.Dl

-- THE DATA LEVEL, PART C: cap, clear, append of zeros.
namespace Go.Dl
open Go
section
variable {P:Program} {G:Nat->DVal} {N:Fr}
variable {o:Oper} {s:DS} {a:Act} {w:World} {K:DK} {Qx:Exit->Act->World->Prop}
theorem Dz2 (hS:Sim G N s a w) (hd:Cq N o.dst=true) {c:Call} {x:Operand} {t:TypeId} (hx:Cd N x=true) (he:o.op= .call c) (hc:c.callee= .builtin .cap) (hargs:c.args.toList= [x]) (hts:c.argTypes.toList= [t])
  (h:Cn0 o.dst (P.underlying t) (dev G s.env x) K s):PV P o s a w K:=by
 have rx:=Bx hS hx;have hm:c.args.map a.eval= #[a.eval x]:=by apply Array.ext';simp [hargs]
 have hex:=Fp (a:=a) he hc;rw[hm] at hex;have ht':c.argTypes[0]? =some t:=by rw[<-Array.getElem?_toList,hts];rfl
 generalize hu:P.underlying t=u at h;generalize dev G s.env x=dx at h rx;unfold Cn0 at h;split at h
 ·simp only[Rel] at rx;exact Ow hS hd (by rw[hex];simp [builtin,Builtin.cap_,ht',run_underlying hu,rx,goInt]) h
 ·simp only[Rel] at rx;obtain⟨_,cap,rx,hle,_⟩:=rx;exact Ow hS hd (by rw[hex];simp [builtin,Builtin.cap_,ht',run_underlying hu,rx,goInt]) (h cap hle)
 ·simp only[Rel] at rx;obtain⟨_,cap,rx,h1,h2,_⟩:=rx;exact Ow hS hd (by rw[hex];simp [builtin,Builtin.cap_,ht',run_underlying hu,rx,goInt]) (h cap h2 h1)
 ·exact h.elim
theorem Zf {e t t' ty:TypeId} {i:TypeInfo} {z:Value} {k:IntKind} (ht:P.underlying t=some (.slice e)) (hu:P.underlying t'=some (.int k)) (hi:P.info? e=some i) (hz:i.zero=some z) (hp:0<i.size)
  {n:Int} (h0:0<n) (hfit:n*i.bytes<=35184372088832) (hn:n<=35184372088832):
  ∃c,n.toNat<=c/\(Builtin.append_ #[t,t'] ty #[.slice none 0 0, .int .i64 n]).run P w=
   .ok (.slice (some ⟨w.heap.size,0,none⟩) n.toNat c) { w.alloc (.cells (#[]++(Builtin.zeroCells z.cells n.toNat++Builtin.zeroCells z.cells (c-n.toNat))) e) with drawn:=w.drawn+1 }:=by
 obtain⟨m,rfl⟩: ∃m:Nat,n=m:=⟨n.toNat,by omega⟩;simp only[Int.toNat_natCast];have hw:IntKind.wrap .i64 (m:Int)=m:=IntWalk.i64_in m ⟨by omega,by omega⟩;have hfit':m*i.bytes<=35184372088832:=by
  have:((m*i.bytes:Nat):Int)<=35184372088832:=by rw[Int.natCast_mul];exact hfit
  omega
 refine⟨(Question.appendCap m 0 e).cut (w.tape w.drawn (.appendCap m 0 e)),by simp [Question.cut], ?_⟩;have h48: ¬(Builtin.nextslicecap m 0*i.bytes>281474976710656):=by
  have:=growslice_fits (need:=m) (old:=0) (bytes:=i.bytes) (by omega) (by omega);omega
 have h1: ¬((m:Int)<0):=by omega
 have h2: ¬(281474976710656<(m:Int)*(i.bytes:Int)):=by omega
 have h3: ¬(9223372036854775807<(m:Int)):=by omega
 have h4:m≠0:=by omega
 have h5: ¬(m*i.size=0):=by
  intro e;rcases Nat.mul_eq_zero.1 e with e | e<;>omega
 have hf:=La (P:=P) (w:=w) i.size (w.drawn+1);simp only[World.drew_eq] at hf;simp [hf,Builtin.append_,run_underlying ht,run_underlying hu,sizeOf,typeInfo,zeroValue,hi,hz,asInt,asIntOf,hw,h1,h2,h3,h4,h5,h48,Question.forced,newRow,La];rfl
theorem Cb8 (hS:Sim G N s a w) (hd:Cq N o.dst=true) {c:Call} {x y:Operand} (hx:Cd N x=true) (hy:Cd N y=true) (he:o.op= .call c) (hc:c.callee= .builtin .append) (hargs:c.args.toList= [x,y]) {t t':TypeId} (htys:c.argTypes.toList= [t,t'])
  (hit:Jd (P.underlying t')=true) (h:Up P (dev G s.env x) (dev G s.env y) o.dst (P.underlying t) K s):o.wp P a w (Fi G N K s w) Qx:=by
 have rx:=Bx hS hx;have ry:=Bx hS hy;have hm:c.args.map a.eval= #[a.eval x,a.eval y]:=by apply Array.ext';simp [hargs]
 have hat:c.argTypes= #[t,t']:=by apply Array.ext';simp [htys]
 have hex:execOp a.eval o=(do pure (.value (←Builtin.append_ #[t,t'] o.type #[a.eval x,a.eval y]))):=by
  rw[Fp he hc,hm,hat];rfl
 generalize hut:P.underlying t=ut at h;unfold Up at h;split at h<;>try exact h.elim
 rename_i e
 obtain⟨k,hu⟩: ∃k,P.underlying t'=some (.int k):=by
  cases hq:P.underlying t' with
  | none=>rw[hq] at hit;cases hit
  | some d=>cases d<;>first | exact⟨_,rfl⟩ | (rw[hq] at hit;cases hit)
 generalize dev G s.env x=dx at h rx;generalize dev G s.env y=dy at h ry;generalize hzo:Bz P e=zo at h;unfold Ab7 at h;split at h<;>try exact h.elim
 obtain⟨h0,hp,hk0,hk1⟩:=h
 rename_i n zd
 obtain⟨i,z,hi,hiz,rfl⟩:=In hzo;have hby:P.bytesOf e=i.bytes:=by simp [Program.bytesOf,hi]
 have hcs:P.cellsOf e=i.size:=by simp [Program.cellsOf,hi]
 simp only[Rel] at rx ry;by_cases hn:n=0
 ·have hK:=hk0 hn;subst hn;refine Gr hS hd (x:= .slice none 0 0) ?_ (by simp [Rel]) hK;rw[hex,rx,ry];have hw:IntKind.wrap .i64 0=0:=by rfl
  simp [Builtin.append_,run_underlying hut,run_underlying hu,sizeOf,typeInfo,hi,asInt,asIntOf,hw]
 ·obtain⟨hfit,hle,hzl,hK⟩:=hk1 hn;rw[hby] at hfit;rw[hcs] at hp hzl hK;have hvr:Br w s.heap (De z).cells z.cells.toList:=Hk (Es w s.heap z);have hzs:z.cells.size=i.size:=by rw[<-hzl,hvr.length];simp
  obtain⟨cp,hcp,hrun⟩:=Zf (w:=w) (ty:=o.type) hut hu hi hiz hp (n:=n) (by omega) hfit hle;have hr:=Sm hvr n.toNat (n.toNat*z.cells.size) (by rw[hzl,hzs]);refine Uu hS hd (sz:=i.size) (lo:=n.toNat) (cap:=cp) (n:=w.drawn+1) (len:=n.toNat) (e:=e) (c:= #[]++(Builtin.zeroCells z.cells n.toNat++Builtin.zeroCells z.cells (cp-n.toNat))) (by omega) (by omega) ?_ ?_ hr ?_ hK
  ·simp only[Array.size_append,size_zeroCells,hzs,List.size_toArray,List.length_nil,Nat.zero_add];rw[<-Nat.add_mul];exact Nat.mul_le_mul_right _ (by omega)
  ·rw[hex,rx,ry];simp [hrun]
  ·simp only[Array.toList_append,List.nil_append];exact Ts _ _
theorem Dc7 (hS:Sim G N s a w) (hd:Cq N o.dst=true) {c:Call} {x:Operand} {t:TypeId} (hx:Cd N x=true) (he:o.op= .call c) (hc:c.callee= .builtin .clear) (hargs:c.args.toList= [x]) (hts:c.argTypes.toList= [t])
  (h:Ab8 P o.dst (P.underlying t) (dev G s.env x) K s):o.wp P a w (Fi G N K s w) Qx:=by
 have rx:=Bx hS hx;have hm:c.args.map a.eval= #[a.eval x]:=by apply Array.ext';simp [hargs]
 have hex:=Fp (a:=a) he hc;rw[hm] at hex;have ht':c.argTypes[0]? =some t:=by rw[<-Array.getElem?_toList,hts];rfl
 generalize hu:P.underlying t=u at h;generalize dev G s.env x=dx at h rx;unfold Ab8 at h;split at h<;>try exact h.elim
 rename_i e
 generalize hzo:Bz P e=zo at h;unfold Ar4 at h;split at h<;>try exact h.elim
 ·simp only[Rel] at rx;refine Gr hS hd (x:= .tuple #[]) ?_ (by simp [Rel,Br]) h;rw[hex];simp [builtin,Builtin.clear_,ht',run_underlying hu,rx]
 ·rename_i z sz r off n lo
  obtain⟨rfl,hnl,h⟩:=h;obtain⟨i,v,hi,hiz,rfl⟩:=In hzo;have hcs:P.cellsOf e=i.size:=by simp [Program.cellsOf,hi]
  simp only[Rel] at rx;obtain⟨o',cap,hp,hlo,hcap,hoff,hroom⟩:=rx;cases hh:s.heap r with
  | none=>rw[hh] at h;exact h.elim
  | some ob=>
   cases ob with
   | loop=>rw[hh] at h;exact h.elim
   | iter=>rw[hh] at h;exact h.elim
   | map=>rw[hh] at h;exact h.elim
   | cells cs e'=>
    rw[hh] at h;obtain⟨hzl,hone,hle,hK⟩:=h;rw[hcs] at hzl hle;have hvr:Br w s.heap (De v).cells v.cells.toList:=Hk (Es w s.heap v);have hzs:v.cells.size=i.size:=by rw[<-hzl,hvr.length];simp
    by_cases hn:n=0
    ·subst hn;have hsp:splice cs off (repl 0 (De v).cells)=cs:=by simp [splice,repl]
     rw[hsp] at hK;have hup:upd s.heap r (some (.cells cs e'))=s.heap:=by
      funext j;simp only[upd];split
      ·rename_i hj;rw[hj,hh]
      ·rfl
     rw[hup] at hK;refine Gr hS hd (x:= .tuple #[]) ?_ (by simp [Rel,Br]) hK;rw[hex];simp [builtin,Builtin.clear_,ht',run_underlying hu,hp]
    ·have:o'=off:=hoff.resolve_left (by omega);subst this;have hr:=Sm hvr n (n*v.cells.size) (by rw[hzl,hzs]);have hall:(repl n (De v).cells).all (·.one)=true:=by
      rw[List.all_eq_true] at hone⊢
      intro d hd';simp only[repl,List.mem_flatten,List.mem_replicate] at hd';obtain⟨l,⟨_,rfl⟩,hm⟩:=hd';exact hone d hm
     obtain⟨w',hst,hH,hE⟩:=Wn (P:=P) hS.heap hh hr hall (off:=o') (by rw[Ku,hzl];exact hle);refine Fo hS hd (x:= .tuple #[]) ?_ hE hH (by simp [Rel,Br]) hK;rw[hex];obtain⟨n',rfl⟩: ∃n',n=n'+1:=⟨n-1,by omega⟩;have hst':Sem.run P (storeCells ⟨r,o',none⟩ (Builtin.zeroCells v.cells (n'+1)).toList 0) w= .ok () w':=hst;simp [builtin,Builtin.clear_,ht',run_underlying hu,hp,zeroValue,typeInfo,hi,hiz,hst']
end
end Go.Dl

-- THE DATA LEVEL, PART M: objects that are no rows of cells; maps.
namespace Go.Dl
open Go
section
def Jg:Obj->Bool
 | .loop _=>true
 | .deferred _=>true
 | .map _ _=>true
 | .stringIter _ _=>true
 | _=>false
theorem Uz {w:World} {l:Nat} {o o':Obj} (hl:w.heap[l]? =some o) (h:Jg o=true) (h':Jg o'=true) (b:Nat):Jq (w.putObj l o').heap[b]? =Jq w.heap[b]? :=by
 have hlt:l<w.heap.size:=(Array.getElem?_eq_some_iff.1 hl).1;by_cases e:b=l
 ·subst e;rw[World.putObj_heap_same hlt,hl];cases o<;>first | cases h;done | (cases o'<;>first | rfl | cases h';done)
 ·rw[World.putObj_heap_other e]
theorem Oy {w:World} {l:Nat} {o o':Obj} (hl:w.heap[l]? =some o) (h:Jg o=true) (h':Jg o'=true) (H:Bb):Lasts H w H (w.putObj l o'):=by
 refine⟨fun b i x hb hc=>⟨hb, ?_⟩,by simp [World.putObj],fun b hb=>Uz hl h h' b⟩;by_cases e:b=l
 ·subst e;unfold World.cell? at hc;rw[hl] at hc;cases o<;>first | cases h;done | simp at hc
 ·unfold World.cell? at hc⊢
  simp only[World.putObj_heap_other e];exact hc
theorem Am6 {w:World} {l:Nat} {o o':Obj} (hl:w.heap[l]? =some o) (h:Jg o=true) (h':Jg o'=true) (a:Addr):(w.putObj l o').frozen? a=w.frozen? a:=by
 have hlt:l<w.heap.size:=(Array.getElem?_eq_some_iff.1 hl).1;unfold World.frozen?;by_cases e:a.block=l
 ·rw[e,World.putObj_heap_same hlt,hl];cases o<;>first | cases h;done | (cases o'<;>first | rfl | cases h';done)
 ·rw[World.putObj_heap_other e]
theorem Bl6 {w:World} {l:Nat} {o o':Obj} {H:Bb} (hl:w.heap[l]? =some o) (h:Jg o=true) (h':Jg o'=true) (hH:Bw w H) (hn:H l=none):Bw (w.putObj l o') H:=by
 intro r ob ho;have hr:r≠l:=fun e=>by rw[e,hn] at ho;cases ho
 rw[World.putObj_heap_other hr];exact(hH r ob ho).lasts (Oy hl h h' H)
theorem Mt {P:Program} {w:World} {r:Nat} {o:Obj} (h:w.heap[r]? =some o) (hb:Jg o=true):(getObj r).run P w= .ok o w:=by
 simp only[getObj,Sem.run,h];cases o<;>first | rfl | cases hb
theorem Ip {P:Program} {w:World} {r:Nat} {o:Obj} (o':Obj) (h:w.heap[r]? =some o) (hb:Jg o=true):(setObj r o').run P w= .ok () (w.putObj r o'):=by
 simp only[setObj,Sem.run,h,World.putObj];cases o<;>first | rfl | cases hb
theorem Rh {w:World} {H:Bb} {r:Nat} {o o':Obj} {ob:DObj} (hH:Bw w H) (hr:H r≠none) (ho:w.heap[r]? =some o) (h:Jg o=true) (h':Jg o'=true)
  (hob: ∀w' H',Lasts H w H' w'->Tj w' H' ob (some o')):Bw (w.putObj r o') (upd H r (some ob))/\Ext H w (upd H r (some ob)) (w.putObj r o'):=by
 have hlt:r<w.heap.size:=(Array.getElem?_eq_some_iff.1 ho).1;have hl:Lasts H w (upd H r (some ob)) (w.putObj r o'):=by
  have h1:=Oy ho h h' H;refine⟨fun b i x hb hc=>⟨?_,(h1.cell b i x hb hc).2⟩,h1.size,h1.keep⟩;have:b≠r:=fun e=>hr (e▸hb);simp [upd,this,hb]
 refine⟨fun b x hx=> ?_,by rfl,by rfl,by rfl,by simp,fun b hb hn=> ?_,fun b hb=> ?_,fun b hb=>Uz ho h h' b,fun a _ _=>Am6 ho h h' a⟩
 ·by_cases e:b=r
  ·subst e;simp only[upd,if_pos] at hx;cases hx;rw[World.putObj_heap_same hlt];exact hob _ _ hl
  ·simp only[upd,if_neg e] at hx;rw[World.putObj_heap_other e];exact(hH b x hx).lasts hl
 ·rw[World.putObj_heap_other (fun e=>hr (by rw[<-e];exact hn))]
 ·by_cases e:b=r
  ·exact .inl (e▸hr)
  ·simp only[upd,if_neg e] at hb;exact .inl hb
theorem Ba3 {w:World} {H:Bb} {o:Obj} {ob:DObj} (hH:Bw w H) (h:Jg o=true)
  (hob: ∀w' H',Lasts H w H' w'->Tj w' H' ob (some o)):Bw (w.alloc o) (upd H w.heap.size (some ob))/\Ext H w (upd H w.heap.size (some ob)) (w.alloc o):=by
 have hbl: ∀b,b<w.heap.size->(w.alloc o).heap[b]? =w.heap[b]? :=fun b hb=>by
  show(w.heap.push o)[b]? =_;rw[Array.getElem?_push,if_neg (by omega)]
 have hE:Ext H w (upd H w.heap.size (some ob)) (w.alloc o):=by
  refine⟨rfl,rfl,rfl,by simp,fun b hb _=>hbl b hb,fun b hb=> ?_,fun b hb=>by rw[hbl b hb],fun a _ _=> ?_⟩
  ·by_cases eb:b=w.heap.size
   ·exact .inr (by omega)
   ·simp only[upd,if_neg eb] at hb;exact .inl hb
  ·unfold World.frozen?;have hh:(w.alloc o).heap[a.block]? =if a.block=w.heap.size then some o else w.heap[a.block]? :=by
    show(w.heap.push o)[a.block]? =_;rw[Array.getElem?_push]
   rw[hh];by_cases e:a.block=w.heap.size
   ·rw[if_pos e,e,Array.getElem?_eq_none (Nat.le_refl _)];cases o<;>first | cases h;done | rfl
   ·rw[if_neg e]
 refine⟨fun r x hx=> ?_,hE⟩;by_cases e:r=w.heap.size
 ·subst e;simp only[upd,if_pos] at hx;cases hx;have:(w.alloc o).heap[w.heap.size]? =some o:=by
   show(w.heap.push o)[w.heap.size]? =_;simp
  rw[this];exact hob _ _ hE.lasts
 ·simp only[upd,if_neg e] at hx;rw[hbl r (hH.lt (by simp [hx]))];exact(hH r x hx).lasts hE.lasts
end
section
variable {P:Program} {G:Nat->DVal} {N:Fr}
variable {o:Oper} {s:DS} {a:Act} {w:World} {K:DK} {Qx:Exit->Act->World->Prop}
theorem Ws {H:Bb}: ∀ {ds:List DVal} {vs:List Value} {l:List UInt8},Br w H ds vs->Ld ds=some l-> ∃ns:List Int,vs=ns.map (Value.int .u8)/\l=ns.map fun n=>UInt8.ofNat n.toNat
 | [],vs,l,hr,hl=>by
  simp only[Br] at hr;subst hr;simp only[Ld,Option.some.injEq] at hl;subst hl;exact⟨[],rfl,rfl⟩
 | d::ds,vs,l,hr,hl=>by
  simp only[Br] at hr;obtain⟨y,ys,rfl,h1,h2⟩:=hr;unfold Ld at hl;split at hl<;>try (cases hl;done)
  ·rename_i e;cases e
  ·rename_i n ds' e
   obtain⟨rfl,rfl⟩:=List.cons.inj e;obtain⟨l',h3,rfl⟩:=Option.map_eq_some_iff.1 hl;obtain⟨ns,rfl,rfl⟩:=Ws h2 h3;simp only[Rel] at h1;subst h1;exact⟨n::ns,rfl,rfl⟩
theorem Am7: ∀(ns:List Int) (s:ByteArray),(ns.foldl (fun r n=>r.push (UInt8.ofNat n.toNat)) s).data.toList=s.data.toList++ns.map fun n=>UInt8.ofNat n.toNat
 | [],s=>by simp
 | n::ns,s=>by rw[List.foldl_cons,Am7 ns];simp [ByteArray.push]
theorem Ac4 (ns:List Int):ns.foldl (fun r n=>r.push (UInt8.ofNat n.toNat)) ByteArray.empty=⟨⟨ns.map fun n=>UInt8.ofNat n.toNat⟩⟩:=by
 have:=Am7 ns ByteArray.empty;cases h:ns.foldl (fun r n=>r.push (UInt8.ofNat n.toNat)) ByteArray.empty with
 | mk d=>
  rw[h] at this;congr 1;apply Array.ext';simpa using this
theorem Dc8 (hS:Sim G N s a w) (hd:Cq N o.dst=true) {src t:TypeId} {x:Operand} (hx:Cd N x=true) (he:o.op= .convert src t x)
  (h:Ja P o.dst (P.underlying src) (P.underlying t) (dev G s.env x) K s):PV P o s a w K:=by
 have r:=Bx hS hx;by_cases hc: ∃e,P.underlying src=some (.slice e)/\P.underlying t=some .string
 ·obtain⟨e,hs,ht⟩:=hc;rw[hs,ht] at h;obtain⟨hu,h⟩:=h;generalize dev G s.env x=dx at h r;cases hb:(Ot s.heap dx).bind Ld with
  | none=>rw[hb] at h;exact h.elim
  | some l=>
   rw[hb] at h;obtain⟨ds,h1,h2⟩:=Option.bind_eq_some_iff.1 hb;refine pvI hS hd (x:= .string ⟨⟨l⟩⟩) ?_ (by simp [Rel]) h;have go: ∀(ad:Option Addr) (n c:Nat),a.eval x= .slice ad n c->(Conv.bytesToString (.slice ad n c)).run P w= .ok (.string ⟨⟨l⟩⟩) w->(execOp a.eval o).run P w= .ok (.value (.string ⟨⟨l⟩⟩)) w:=by
    intro ad n c e1 e2;simp [execOp,he,e1,run_convert_bytes_string w src t e ad n c hs hu ht,e2]
   unfold Ot at h1;split at h1<;>try (cases h1;done)
   ·cases h1;simp only[Ld,Option.some.injEq] at h2;subst h2;simp only[Rel] at r;exact go none 0 0 r (by simp [Conv.bytesToString];rfl)
   ·rename_i cs n
    split at h1<;>cases h1
    rename_i hle
    simp only[Rel] at r;obtain⟨ad,cap,e1,_,hc⟩:=r;refine go ad n cap e1 ?_;rcases hc with rfl | ⟨b,o',xs,rfl,hc,hr⟩
    ·have hn:n=0:=by simpa using hle
     subst hn;simp only[List.take_nil,Ld,Option.some.injEq] at h2;subst h2;cases ad with
     | none=>simp [Conv.bytesToString];rfl
     | some ad=>exact run_bytesToString w ad 0 cap [] (by simp [loadCells,loadCellsFrom])
    ·obtain⟨ns,e2,rfl⟩:=Ws (hr.take n) h2;have hlx:=hr.length;have hl:(ns.map (Value.int .u8)).length=n:=by rw[<-e2];simp;omega
     have:=Ec (P:=P) (w:=w) (Hr.take (n:=n) hc.holds);rw[e2,hl] at this;rw[run_bytesToString w _ n cap ns this,Ac4]
   ·rename_i sz r' off n lo
    unfold Oq at h1;split at h1<;>try (cases h1;done)
    rename_i cs e' hh
    split at h1<;>cases h1
    rename_i hle
    simp only[Rel] at r;obtain⟨o',cap,e1,_,hcap,hoff,_⟩:=r;refine go _ n cap e1 ?_;obtain⟨xs,hr,hho⟩:=hS.heap.holds hh;by_cases hc0:cap=0
    ·have hn:n=0:=by omega
     subst hn;simp only[List.take_zero,Ld,Option.some.injEq] at h2;subst h2;exact run_bytesToString w _ 0 cap [] (by simp [loadCells,loadCellsFrom])
    ·have:o'=off:=hoff.resolve_left hc0;subst this;obtain⟨ns,e2,rfl⟩:=Ws ((hr.drop o').take n) h2;have hlx:=hr.length;have hl:(ns.map (Value.int .u8)).length=n:=by rw[<-e2];simp;omega
     have h3:Hr w r' o' (xs.drop o'):=by simpa using hho.drop (n:=o')
     have:=Ec (P:=P) (w:=w) (Hr.take (n:=n) h3);rw[e2,hl] at this;rw[run_bytesToString w _ n cap ns this,Ac4]
 ·refine Cb4 hS hd hx he ?_;revert h;generalize hs:P.underlying src=us at hc;generalize ht:P.underlying t=ut at hc;intro h;unfold Ja at h;split at h
  ·exact absurd ⟨_,rfl,rfl⟩ hc
  ·exact h
theorem Dc9 (hS:Sim G N s a w) (hd:Cq N o.dst=true) {t:TypeId} {x:Operand} (hx:Cd N x=true) (he:o.op= .range t x)
  (h:Ab4 o.dst (P.underlying t) (dev G s.env x) K s):o.wp P a w (Fi G N K s w) Qx:=by
 have r:=Bx hS hx;generalize dev G s.env x=dx at h r;generalize hu:P.underlying t=u at h;unfold Ab4 at h;split at h<;>try exact h.elim
 rename_i l
 simp only[Rel] at r;obtain⟨k1,k2⟩:=Ba3 (o:= .stringIter ⟨⟨l⟩⟩ 0) (ob:= .iter l 0) hS.heap rfl (fun w' H' _=>rfl);refine Fo hS hd (x:= .pointer (some ⟨w.heap.size,0,none⟩)) ?_ k2 k1 (by simp [Rel]) (h _ hS.heap.fresh);simp [execOp,he,r,run_range_string w t _ hu,World.iter]
theorem Dq0 (hS:Sim G N s a w) (hd:Cq N o.dst=true) {b:Bool} {x:Operand} (hx:Cd N x=true) (he:o.op= .next x b)
  (h:Am2 o.dst b (dev G s.env x) K s):o.wp P a w (Fi G N K s w) Qx:=by
 have r:=Bx hS hx;generalize dev G s.env x=dx at h r;unfold Am2 at h;split at h<;>try exact h.elim
 rename_i r0
 simp only[Rel] at r;generalize hh:s.heap r0=ob at h;unfold Ar1 at h;split at h<;>try exact h.elim
 rename_i l pos
 have ho:w.heap[r0]? =some (.stringIter ⟨⟨l⟩⟩ pos):=hS.heap _ _ hh;have hg:=Mt (P:=P) ho rfl;have hsz:(ByteArray.mk ⟨l⟩).size=l.length:=rfl;by_cases hp:pos<l.length
 ·obtain⟨k1,k2⟩:=Rh (o':= .stringIter ⟨⟨l⟩⟩ (pos+(Jb l pos).2)) (ob:= .iter l (pos+(Jb l pos).2)) hS.heap (by rw[hh];simp) ho rfl rfl (fun w' H' _=>rfl);refine Fo hS hd (x:= .tuple #[.bool true, .int .i64 pos, .int .i32 (Jb l pos).1]) ?_ k2 k1 (by simp [Rel,Br]) (h.1 hp);have hs':=Ip (P:=P) (.stringIter ⟨⟨l⟩⟩ (pos+(Jb l pos).2)) ho rfl;simp only[execOp,he,r,Instr.next,Sem.run_bind,hg,Result.andThen_ok,hsz,if_pos hp];show Result.andThen (Result.andThen ((setObj r0 (.stringIter ⟨⟨l⟩⟩ (pos+(Jb l pos).2))).run P w) _) _=_;rw[hs'];simp [goInt,Jb]
 ·refine Gr hS hd (x:= .tuple #[.bool false]) ?_ (by simp [Rel,Br]) (h.2 hp);simp [execOp,he,r,Instr.next,hg,hsz,hp]
theorem Cb9 (hS:Sim G N s a w) (hd:Cq N o.dst=true) {t:TypeId} {x:Option Operand} (hx:(match x with | some x=>Cd N x | none=>true)=true) (he:o.op= .makeMap t x)
  (h:Nw o.dst (P.underlying t) (Ks G s.env x) K s):o.wp P a w (Fi G N K s w) Qx:=by
 obtain⟨k1,k2⟩:=Ba3 (o:= .map #[] 0) (ob:= .map []) hS.heap rfl (fun w' H' _=>⟨#[],0,rfl,rfl⟩)
 have hfr:=hS.heap.fresh
 generalize hu:P.underlying t=u at h
 rcases Ac3 hS hx with⟨rfl,e⟩ | ⟨y,rfl,e,r⟩
 ·rw[e] at h
  unfold Nw at h
  split at h<;>try exact h.elim
  ·refine Fo hS hd (x:= .map (some w.heap.size)) ?_ k2 k1 (by simp [Rel]) (h _ hfr)
   simp [execOp,he,Instr.makeMap,run_newObj_alloc]
  ·rename_i e2;cases e2
 ·rw[e] at h
  cases hdv:dev G s.env y<;>rw[hdv] at h r<;>(unfold Nw at h;split at h<;>try exact h.elim)
  all_goals try (rename_i e2;cases e2;done)
  all_goals
   simp only[Rel] at r
   refine Fo hS hd (x:= .map (some w.heap.size)) ?_ k2 k1 (by simp [Rel]) (h _ hfr)
   simp [execOp,he,Instr.makeMap,run_newObj_alloc,run_underlying hu,r,asInt,asIntOf]
theorem Qv.len {w:World} {H:Bb}: ∀ {es:List (DVal×DVal)} {ms:List MapEntry},Qv w H es ms->es.length=ms.length
 | [],_,h=>by rw[show _=_ from h];rfl
 | p::es,ms,h=>by
  obtain⟨m,ms',rfl,_,_,h3⟩:=h;simp [Qv.len h3]
theorem Qv.get {w:World} {H:Bb}: ∀ {es:List (DVal×DVal)} {ms:List MapEntry},Qv w H es ms-> ∀ {i:Nat} {p:DVal×DVal},es[i]? =some p-> ∃m,ms[i]? =some m/\Rel w H p.1 m.key/\Rel w H p.2 m.val
 | [],_,_,i,p,hp=>by simp at hp
 | q::es,ms,h,i,p,hp=>by
  obtain⟨m,ms',rfl,h1,h2,h3⟩:=h;cases i with
  | zero=>simp at hp;subst hp;exact⟨m,rfl,h1,h2⟩
  | succ i=>simp at hp;obtain⟨m',e1,e2⟩:=Qv.get h3 hp;exact⟨m',by simpa using e1,e2⟩
theorem Qv.app {w:World} {H:Bb}: ∀ {es fs:List (DVal×DVal)} {ms ns:List MapEntry},Qv w H es ms->Qv w H fs ns->Qv w H (es++fs) (ms++ns)
 | [],_,_,_,h,k=>by rw[show _=_ from h];exact k
 | p::es,fs,ms,ns,h,k=>by
  obtain⟨m,ms',rfl,h1,h2,h3⟩:=h;exact⟨m,ms'++ns,rfl,h1,h2,Qv.app h3 k⟩
theorem Qv.erase {w:World} {H:Bb}: ∀ {es:List (DVal×DVal)} {ms:List MapEntry},Qv w H es ms-> ∀(i:Nat),Qv w H (es.eraseIdx i) (ms.eraseIdx i)
 | [],_,h,i=>by rw[show _=_ from h];exact rfl
 | q::es,ms,h,0=>by
  obtain⟨m',ms',rfl,h1,h2,h3⟩:=h;exact h3
 | q::es,ms,h,i+1=>by
  obtain⟨m',ms',rfl,h1,h2,h3⟩:=h;exact⟨m',_,rfl,h1,h2,Qv.erase h3 i⟩
theorem Co1 {w:World} {H:Bb} {d:TypeDesc} {k k':DVal} {x x':Value} (hk:Je (some d) k=true) (h:Rel w H k x) (h':Rel w H k' x') {b:Bool} (hb:Mj k k'=some b):Instr.sameNow d x x'=some b:=by
 cases k<;>first | (cases d<;>(simp [Je] at hk;done)) | skip
 case int kk n=>
  cases d<;>simp [Je] at hk;subst hk;cases k'<;>simp only[Mj] at hb<;>try (cases hb;done)
  rename_i k2 m
  split at hb
  ·rename_i e;subst e
   cases hb;simp only[Rel] at h h';subst h;subst h';simp only[Instr.sameNow,if_true];rfl
  ·cases hb
 case str l=>
  cases d<;>simp [Je] at hk;cases k'<;>simp only[Mj] at hb<;>try (cases hb;done)
  cases hb;simp only[Rel] at h h';subst h;subst h';simp only[Instr.sameNow]
  rename_i s1
  have e1:((⟨⟨l⟩⟩:ByteArray)==⟨⟨s1⟩⟩)=((⟨l⟩:Array UInt8)==⟨s1⟩):=rfl;rw[e1];congr 1;rw[Bool.eq_iff_iff];simp
 case bool l=>
  cases d<;>simp [Je] at hk;cases k'<;>simp only[Mj] at hb<;>try (cases hb;done)
  cases hb;simp only[Rel] at h h';subst h;subst h';simp only[Instr.sameNow]
  rename_i b1;cases l<;>cases b1<;>rfl
theorem Ba4 {w:World} {H:Bb} {d:TypeDesc} {k:DVal} {x:Value} (hk:Je (some d) k=true) (h:Rel w H k x): ∀ {es:List (DVal×DVal)} {ms:List MapEntry},Qv w H es ms-> ∀(i:Nat) {r:Option Nat},Ek k es i=some r->
  Instr.findNow d x ms i=some (r.bind fun j=>(ms[j-i]?).map fun m=>(j,m.val))/\ ∀j,r=some j->i<=j
 | [],ms,hm,i,r,hf=>by
  rw[show ms= [] from hm];simp only[Ek] at hf;cases hf;exact⟨rfl,fun j hj=>by cases hj⟩
 | p::es,ms,hm,i,r,hf=>by
  obtain⟨m,ms',rfl,h1,h2,h3⟩:=hm;simp only[Ek] at hf;cases hb:Mj k p.1 with
  | none=>rw[hb] at hf;cases hf
  | some b=>
   rw[hb] at hf;have hs:=Co1 hk h h1 hb;cases b with
   | true=>
    simp only[Ou] at hf;cases hf;simp only[Instr.findNow,hs];exact⟨by simp,fun j hj=>by cases hj;exact Nat.le_refl _⟩
   | false=>
    simp only[Ou] at hf;obtain⟨g1,g2⟩:=Ba4 hk h h3 (i+1) hf;simp only[Instr.findNow,hs,g1];refine⟨?_,fun j hj=>by have:=g2 j hj;omega⟩;cases r with
    | none=>rfl
    | some j=>
     have:=g2 j rfl;simp only[Option.bind_some];rw[show j-i=(j-(i+1))+1 by omega];simp
theorem Ba5 {w:World} {H:Bb} {kt:TypeId} {k:DVal} {x:Value} (hk:Je (P.underlying kt) k=true) (h:Rel w H k x) {es:List (DVal×DVal)} {ms:List MapEntry} (hm:Qv w H es ms) {r:Option Nat} (hf:Ek k es 0=some r):
  (Instr.findKey kt x ms).run P w= .ok (r.bind fun j=>(ms[j]?).map fun m=>(j,m.val)) w:=by
 cases hu:P.underlying kt with
 | none=>rw[hu] at hk;cases hk
 | some d=>
  rw[hu] at hk;obtain⟨g1,_⟩:=Ba4 hk h hm 0 hf;simp only[Nat.sub_zero] at g1;simp [Instr.findKey,run_underlying hu,g1]
theorem As2 {w:World} {H:Bb} {kt:TypeId} {k:DVal} {x:Value} {b:Bool} (hk:Je (P.underlying kt) k=true) (h:Rel w H k x) (n:Nat):(Instr.checkKey b (n+1) kt x).run P w= .ok () w:=by
 cases hu:P.underlying kt with
 | none=>rw[hu] at hk;cases hk
 | some d=>
  rw[hu] at hk;unfold Je at hk;split at hk<;>first | (cases hk;done) | (rename_i e;cases e;simp only[Rel] at h;subst h;simp [Instr.checkKey,run_underlying hu])
theorem Bl7 {t:Option TypeDesc} (h:Am3 P t=true): ∃e ie,t=some (.array 2 e)/\P.underlying e=some .bool/\P.info? e=some ie/\P.cellsOf e=1:=by
 unfold Am3 at h;split at h
 ·rename_i e
  simp only[Bool.and_eq_true,beq_iff_eq] at h;obtain⟨⟨h1,h2⟩,h3⟩:=h;obtain⟨ie,hie⟩:=Option.isSome_iff_exists.1 h2;refine⟨e,ie,rfl, ?_,hie,h3⟩;unfold Bv6 at h1;split at h1
  ·rename_i e1;exact e1
  ·cases h1
 ·cases h
theorem Am8 {t:Option TypeDesc} {k:DVal} (h:Il P t k=true):Je t k=true\/ ∃a b,k= .agg [.bool a, .bool b]/\Am3 P t=true:=by
 unfold Il at h;split at h
 ·exact .inr ⟨_,_,rfl,h⟩
 ·exact .inl h
theorem Dq1 {t e:TypeId} {ie:TypeInfo} {a b c d:Bool} (h1:P.underlying t=some (.array 2 e)) (h2:P.underlying e=some .bool) (h3:P.info? e=some ie) (h4:P.cellsOf e=1):
  Qo P 2 t [.bool a, .bool b] [.bool c, .bool d]=some (decide (a=c)&&decide (b=d)):=by
 have hag:Dg P e=some false:=by simp [Dg,h2]
 have hr:List.range 2= [0,1]:=rfl;simp only[Qo,h1,Qy,h3,Option.isSome_some,if_true,hr,Xu,h2,hag,h4,Er,Am0,List.drop,List.take,Nat.mul_one];cases a<;>cases b<;>cases c<;>cases d<;>rfl
theorem Bw2 {a b:Bool} {k':DVal} {r:Bool} (h:Mj (.agg [.bool a, .bool b]) k'=some r): ∃c d,k'= .agg [.bool c, .bool d]/\r=(decide (a=c)&&decide (b=d)):=by
 unfold Mj at h;split at h;all_goals first | (cases h;done) | skip
 all_goals first | (rename_i heq;cases heq;done) | skip
 rename_i heq
 cases heq;cases h;exact⟨_,_,rfl,rfl⟩
theorem As3 {w:World} {H:Bb} {t:TypeId} {a b:Bool} {k':DVal} {x x':Value} {r:Bool} (hk:Am3 P (P.underlying t)=true) (h:Rel w H (.agg [.bool a, .bool b]) x) (h':Rel w H k' x') (hb:Mj (.agg [.bool a, .bool b]) k'=some r):
  (Op.equal t x x').run P w= .ok r w:=by
 obtain⟨e,ie,h1,h2,h3,h4⟩:=Bl7 hk;have hag:Dg P t=some true:=by simp [Dg,h1]
 obtain⟨c,d,rfl,rfl⟩:=Bw2 hb;have g: ∃xs,x= .agg xs/\Br w H [.bool a, .bool b] xs.toList:=h;have g': ∃xs,x'= .agg xs/\Br w H [.bool c, .bool d] xs.toList:=h';obtain⟨xs,rfl,hx⟩:=g;obtain⟨ys,rfl,hy⟩:=g';exact Jw (P:=P) (w:=w) (H:=H) 2 Op.maxDepth (by decide) t _ _ _ _ true _ hag hx hy (fun _=>⟨_,rfl⟩) (fun _=>⟨_,rfl⟩) (Dq1 h1 h2 h3 h4)
theorem Xw {w:World} {H:Bb} {t:TypeId} {a b:Bool} {x:Value} (hk:Am3 P (P.underlying t)=true) (h:Rel w H (.agg [.bool a, .bool b]) x): ∀ {es:List (DVal×DVal)} {ms:List MapEntry},Qv w H es ms-> ∀(i:Nat) {r:Option Nat},Ek (.agg [.bool a, .bool b]) es i=some r->
  (Instr.findAsking t x ms i).run P w= .ok (r.bind fun j=>(ms[j-i]?).map fun m=>(j,m.val)) w/\ ∀j,r=some j->i<=j
 | [],ms,hm,i,r,hf=>by
  rw[show ms= [] from hm];simp only[Ek] at hf;cases hf;exact⟨by simp [Instr.findAsking],fun j hj=>by cases hj⟩
 | p::es,ms,hm,i,r,hf=>by
  obtain⟨m,ms',rfl,h1,h2,h3⟩:=hm;simp only[Ek] at hf;cases hb:Mj (.agg [.bool a, .bool b]) p.1 with
  | none=>rw[hb] at hf;cases hf
  | some b'=>
   rw[hb] at hf;have hs:=As3 hk h h1 hb;cases b' with
   | true=>
    simp only[Ou] at hf;cases hf;refine⟨by simp [Instr.findAsking,hs],fun j hj=>by cases hj;exact Nat.le_refl _⟩
   | false=>
    simp only[Ou] at hf;obtain⟨g1,g2⟩:=Xw hk h h3 (i+1) hf;refine⟨?_,fun j hj=>by have:=g2 j hj;omega⟩;simp only[Instr.findAsking,Sem.run_bind,hs,Result.andThen_ok,Bool.false_eq_true,if_false,g1];cases r with
    | none=>rfl
    | some j=>
     have:=g2 j rfl;simp only[Option.bind_some];rw[show j-i=(j-(i+1))+1 by omega];simp
theorem Lj {w:World} {H:Bb} {kt:TypeId} {k:DVal} {x:Value} (hk:Il P (P.underlying kt) k=true) (h:Rel w H k x) {es:List (DVal×DVal)} {ms:List MapEntry} (hm:Qv w H es ms) {r:Option Nat} (hf:Ek k es 0=some r):
  (Instr.findKey kt x ms).run P w= .ok (r.bind fun j=>(ms[j]?).map fun m=>(j,m.val)) w:=by
 rcases Am8 hk with hk | ⟨a,b,rfl,hk⟩
 ·exact Ba5 hk h hm hf
 ·obtain⟨g1,_⟩:=Xw hk h hm 0 hf;simp only[Nat.sub_zero] at g1;obtain⟨e,ie,h1,h2,h3,h4⟩:=Bl7 hk;cases ms with
  | nil=>
   have:es= []:=by cases es with
    | nil=>rfl
    | cons p es=>obtain⟨m,ms',e,_⟩:=hm;cases e
   subst this;simp only[Ek] at hf;cases hf;simp [Instr.findKey,run_underlying h1,Instr.findNow]
  | cons m ms=>
   have hn:Instr.findNow (.array 2 e) x (m::ms) 0=none:=by simp [Instr.findNow,Instr.sameNow]
   simp [Instr.findKey,run_underlying h1,hn,g1]
theorem Kp {w:World} {H:Bb} {kt:TypeId} {k:DVal} {x:Value} {b:Bool} (hk:Il P (P.underlying kt) k=true) (h:Rel w H k x):(Instr.checkKey b (9999+1) kt x).run P w= .ok () w:=by
 rcases Am8 hk with hk | ⟨c,d,rfl,hk⟩
 ·exact As2 hk h 9999
 ·obtain⟨e,ie,h1,h2,h3,h4⟩:=Bl7 hk;simp only[Rel,Br] at h;obtain⟨xs,rfl,y,ys,hx,rfl,z,zs,rfl,rfl,rfl⟩:=h;have hag:Dg P e=some false:=by simp [Dg,h2]
  have hxs:xs= #[.bool c, .bool d]:=by apply Array.ext';simpa using hx
  subst hxs;have hp0:(part e #[Value.bool c, .bool d] 0).run P w= .ok (.bool c) w:=by simp [part,Im hag]
  have hp1:(part e #[Value.bool c, .bool d] 1).run P w= .ok (.bool d) w:=by simp [part,Im hag]
  have hsz:=Cv (P:=P) (w:=w) (t:=e) (by rw[h3];rfl);rw[h4] at hsz;have main: ∀n,(Instr.checkKey b (n+1+1) kt (.agg #[.bool c, .bool d])).run P w= .ok () w:=fun n=>by
   simp [Instr.checkKey,run_underlying h1,run_underlying h2,hsz,Std.Legacy.Range.forIn_eq_forIn_range',Std.Legacy.Range.size,List.range',hp0,hp1]
  exact main 9998
theorem Co2 (hS:Sim G N s a w) (hd:Cq N o.dst=true) {t:TypeId} {x k:Operand} {ok:Bool} (hx:Cd N x=true) (hk:Cd N k=true) (he:o.op= .lookup t x k ok)
  (h:Us P ok o.dst (P.underlying t) (dev G s.env x) (dev G s.env k) K s):o.wp P a w (Fi G N K s w) Qx:=by
 have rx:=Bx hS hx;have rk:=Bx hS hk;generalize hu:P.underlying t=u at h;generalize dev G s.env x=dx at h rx;generalize dev G s.env k=dk at h rk;unfold Us at h;split at h<;>try exact h.elim
 ·rename_i kt e r
  obtain⟨hkt,h⟩:=h;simp only[Rel] at rx;cases hh:s.heap r with
  | none=>rw[hh] at h;exact h.elim
  | some ob=>
   cases ob with
   | loop=>rw[hh] at h;exact h.elim
   | iter=>rw[hh] at h;exact h.elim
   | cells=>rw[hh] at h;exact h.elim
   | map es=>
    rw[hh] at h;simp only[Bk9] at h;obtain⟨ms,clock,ho,hm⟩:=hS.heap r _ hh;cases hf:Ek dk es 0 with
    | none=>rw[hf] at h;cases hz:Bz P e<;>rw[hz] at h<;>exact h.elim
    | some fi=>
     rw[hf] at h;have hfk:=Lj (P:=P) (w:=w) hkt rk hm hf;have hck:=fun b=>Kp (P:=P) (w:=w) (b:=b) hkt rk;have hgo:=Mt (P:=P) ho rfl;cases fi with
     | some i=>
      have h': ∃p,es[i]? =some p/\Bk8 ok o.dst p.2 true K s:=by
       cases hz:Bz P e<;>rw[hz] at h<;>exact h
      obtain⟨p,hp,hK⟩:=h';obtain⟨m,hmi,r1,r2⟩:=hm.get hp;have hmi':ms[i]? =some m:=by rw[<-Array.getElem?_toList];exact hmi
      simp only[Option.bind_some,hmi,Option.map_some] at hfk;refine Gr hS hd (x:=if ok then .tuple #[m.val, .bool true] else m.val) ?_ ?_ hK
      ·cases ok<;>simp [execOp,he,rx,Instr.lookup,run_underlying hu,hgo,hck,hfk]
      ·cases ok
       ·exact r2
       ·simp only[if_true,Rel,Br];exact⟨_,rfl,_,_,rfl,r2,_,_,rfl,rfl,rfl⟩
     | none=>
      simp only[Option.bind_none] at hfk;cases hz:Bz P e with
      | none=>rw[hz] at h;exact h.elim
      | some z=>
       rw[hz] at h;obtain⟨ie,v,hie,hiz,rfl⟩:=In hz;refine Gr hS hd (x:=if ok then .tuple #[v, .bool false] else v) ?_ ?_ h
       ·cases ok<;>simp [execOp,he,rx,Instr.lookup,run_underlying hu,hgo,hck,hfk,zeroValue,typeInfo,hie,hiz]
       ·cases ok
        ·exact Es w s.heap v
        ·simp only[if_true,Rel,Br];exact⟨_,rfl,_,_,rfl,Es w s.heap v,_,_,rfl,rfl,rfl⟩
 ·rename_i kt e
  obtain⟨hkt,h⟩:=h;simp only[Rel] at rx;have hfk:=Lj (P:=P) (w:=w) (es:= []) (ms:= []) hkt rk rfl (r:=none) rfl;have hck:=fun b=>Kp (P:=P) (w:=w) (b:=b) hkt rk;simp only[Option.bind_none] at hfk;cases hz:Bz P e with
  | none=>rw[hz] at h;exact h.elim
  | some z=>
   rw[hz] at h;obtain⟨ie,v,hie,hiz,rfl⟩:=In hz;refine Gr hS hd (x:=if ok then .tuple #[v, .bool false] else v) ?_ ?_ h
   ·cases ok<;>simp [execOp,he,rx,Instr.lookup,run_underlying hu,hck,hfk,zeroValue,typeInfo,hie,hiz]
   ·cases ok
    ·exact Es w s.heap v
    ·simp only[if_true,Rel,Br];exact⟨_,rfl,_,_,rfl,Es w s.heap v,_,_,rfl,rfl,rfl⟩
theorem Co3 (hS:Sim G N s a w) (hd:Cq N o.dst=true) {c:Call} {x k:Operand} {t:TypeId} {ts:List TypeId} (hx:Cd N x=true) (hk:Cd N k=true) (he:o.op= .call c) (hc:c.callee= .builtin .delete) (hargs:c.args.toList= [x,k]) (hts:c.argTypes.toList=t::ts)
  (h:Ut P o.dst (P.underlying t) (dev G s.env x) (dev G s.env k) K s):o.wp P a w (Fi G N K s w) Qx:=by
 have rx:=Bx hS hx;have rk:=Bx hS hk;have hm':c.args.map a.eval= #[a.eval x,a.eval k]:=by apply Array.ext';simp [hargs]
 have hex:=Fp (a:=a) he hc;rw[hm'] at hex;have ht':c.argTypes[0]? =some t:=by rw[<-Array.getElem?_toList,hts];rfl
 generalize hu:P.underlying t=u at h;generalize dev G s.env x=dx at h rx;generalize dev G s.env k=dk at h rk;unfold Ut at h;split at h<;>try exact h.elim
 rename_i kt e r
 obtain⟨hkt,h⟩:=h;simp only[Rel] at rx;cases hh:s.heap r with
 | none=>rw[hh] at h;exact h.elim
 | some ob=>
  cases ob with
  | loop=>rw[hh] at h;exact h.elim
  | iter=>rw[hh] at h;exact h.elim
  | cells=>rw[hh] at h;exact h.elim
  | map es=>
   rw[hh] at h;simp only[Ac0] at h;obtain⟨ms,clock,ho,hm⟩:=hS.heap r _ hh;cases hf:Ek dk es 0 with
   | none=>rw[hf] at h;exact h.elim
   | some fi=>
    rw[hf] at h;simp only[Ab9] at h;have hfk:=Lj (P:=P) (w:=w) hkt rk hm hf;have hck:=fun b=>Kp (P:=P) (w:=w) (b:=b) hkt rk;have hgo:=Mt (P:=P) ho rfl;have hnn:s.heap r≠none:=by rw[hh];simp
    cases fi with
    | none=>
     simp only[Option.bind_none] at hfk;obtain⟨k1,k2⟩:=Rh (o':= .map ms clock) (ob:= .map es) hS.heap hnn ho rfl rfl (fun w' H' hl=>⟨ms,clock,rfl,hm.lasts hl⟩);have hso:=Ip (P:=P) (.map ms clock) ho rfl;refine Fo hS hd (x:= .tuple #[]) ?_ k2 k1 (by simp [Rel,Br]) h;rw[hex];simp [builtin,Builtin.delete_,ht',run_underlying hu,rx,hgo,hck,hfk,hso]
    | some i=>
     cases hmi:ms.toList[i]? with
     | none=>
      have hle:ms.toList.length<=i:=by rwa [List.getElem?_eq_none_iff] at hmi
      have he1:es.eraseIdx i=es:=List.eraseIdx_of_length_le (by rw[hm.len];exact hle);simp only[Option.bind_some,hmi,Option.map_none] at hfk;simp only[Az3,he1] at h;obtain⟨k1,k2⟩:=Rh (o':= .map ms clock) (ob:= .map es) hS.heap hnn ho rfl rfl (fun w' H' hl=>⟨ms,clock,rfl,hm.lasts hl⟩);have hso:=Ip (P:=P) (.map ms clock) ho rfl;refine Fo hS hd (x:= .tuple #[]) ?_ k2 k1 (by simp [Rel,Br]) h;rw[hex];simp [builtin,Builtin.delete_,ht',run_underlying hu,rx,hgo,hck,hfk,hso]
     | some m=>
      simp only[Option.bind_some,hmi,Option.map_some] at hfk;obtain⟨k1,k2⟩:=Rh (o':= .map (ms.eraseIdxIfInBounds i) clock) (ob:= .map (es.eraseIdx i)) hS.heap hnn ho rfl rfl (fun w' H' hl=>⟨_,clock,rfl,by
       rw[Array.toList_eraseIdxIfInBounds];exact(hm.lasts hl).erase i⟩)
      have hso:=Ip (P:=P) (.map (ms.eraseIdxIfInBounds i) clock) ho rfl;refine Fo hS hd (x:= .tuple #[]) ?_ k2 k1 (by simp [Rel,Br]) h;rw[hex];simp [builtin,Builtin.delete_,ht',run_underlying hu,rx,hgo,hck,hfk,hso]
theorem Qv.modify {w:World} {H:Bb} {f:MapEntry->MapEntry}: ∀ {es:List (DVal×DVal)} {ms:List MapEntry},Qv w H es ms-> ∀(i:Nat) {p:DVal×DVal},(∀m,Rel w H p.1 (f m).key/\Rel w H p.2 (f m).val)->Qv w H (es.set i p) (ms.modify i f)
 | [],_,h,i,p,_=>by rw[show _=_ from h];cases i<;>exact rfl
 | q::es,ms,h,0,p,k=>by
  obtain⟨m',ms',rfl,h1,h2,h3⟩:=h;exact⟨f m',ms',rfl,(k m').1,(k m').2,h3⟩
 | q::es,ms,h,i+1,p,k=>by
  obtain⟨m',ms',rfl,h1,h2,h3⟩:=h;exact⟨m',_,rfl,h1,h2,Qv.modify h3 i k⟩
theorem Ac5 {k:DVal}: ∀ {es:List (DVal×DVal)} {n i:Nat},Ek k es n=some (some i)-> ∃p,n<=i/\es[i-n]? =some p/\Mj k p.1=some true
 | [],n,i,h=>by simp [Ek] at h
 | q::es,n,i,h=>by
  simp only[Ek] at h;cases hb:Mj k q.1 with
  | none=>rw[hb] at h;cases h
  | some b=>
   rw[hb] at h;cases b with
   | true=>simp only[Ou] at h;cases h;exact⟨q,Nat.le_refl _,by simp,hb⟩
   | false=>
    simp only[Ou] at h;obtain⟨p,h1,h2,h3⟩:=Ac5 h;refine⟨p,by omega, ?_,h3⟩;rw[show i-n=(i-(n+1))+1 by omega];simpa using h2
theorem Cc0 {w:World} {H:Bb} {k k':DVal} {x x':Value} (h:Rel w H k x) (h':Rel w H k' x') (hb:Mj k k'=some true) (n:Nat):Instr.sameBits (n+1) x' x=true:=by
 cases k<;>(try (simp [Mj] at hb;done))<;>cases k'<;>simp only[Mj] at hb<;>(try (cases hb;done))
 ·simp only[Rel] at h h';subst h;subst h';simp at hb;subst hb;cases n<;>simp [Instr.sameBits]
 ·split at hb<;>simp at hb
  rename_i e;subst e;subst hb
  simp only[Rel] at h h';subst h;subst h';cases n<;>simp [Instr.sameBits]
 ·simp only[Rel] at h h';subst h;subst h';simp at hb;subst hb;have e1: ∀l:List UInt8,((⟨⟨l⟩⟩:ByteArray)==⟨⟨l⟩⟩)=true:=fun l=>by
   show((⟨l⟩:Array UInt8)==⟨l⟩)=true;simp
  cases n<;>simp [Instr.sameBits,e1]
 ·rename_i cs1 cs2
  have hb:Mj (.agg cs1) (.agg cs2)=some true:=hb;obtain⟨a,b,e1⟩: ∃a b,cs1= [.bool a, .bool b]:=by
   unfold Mj at hb;split at hb;all_goals first | (cases hb;done) | skip
   all_goals first | (rename_i heq _;cases heq;done) | skip
   rename_i h1 h2
   cases h1;exact⟨_,_,rfl⟩
  subst e1;obtain⟨c,d,e2,e3⟩:=Bw2 hb;cases e2;have e3:=e3.symm;simp only[Bool.and_eq_true,decide_eq_true_eq] at e3;obtain⟨rfl,rfl⟩:=e3;have g: ∃xs,x= .agg xs/\Br w H [.bool a, .bool b] xs.toList:=h;have g': ∃xs,x'= .agg xs/\Br w H [.bool a, .bool b] xs.toList:=h';obtain⟨xs,rfl,hx⟩:=g;obtain⟨ys,rfl,hy⟩:=g';simp only[Br,Rel] at hx hy;obtain⟨_,_,hx,rfl,_,_,rfl,rfl,rfl⟩:=hx;obtain⟨_,_,hy,rfl,_,_,rfl,rfl,rfl⟩:=hy;have hxs:xs= #[.bool a, .bool b]:=by apply Array.ext';simpa using hx
  have hys:ys= #[.bool a, .bool b]:=by apply Array.ext';simpa using hy
  subst hxs;subst hys;cases n<;>simp [Instr.sameBits]
theorem Ba6 (hS:Sim G N s a w) {t:TypeId} {x k y:Operand} (hx:Cd N x=true) (hk:Cd N k=true) (hy:Cd N y=true) (he:o.op= .mapUpdate t x k y\/o.op= .insert t x k y)
  (h:Mq P o.dst (P.underlying t) (dev G s.env x) (dev G s.env k) (dev G s.env y) K s):o.wp P a w (Fi G N K s w) Qx:=by
 have rx:=Bx hS hx;have rk:=Bx hS hk;have ry:=Bx hS hy;generalize hu:P.underlying t=u at h;generalize dev G s.env x=dx at h rx;generalize dev G s.env k=dk at h rk;generalize dev G s.env y=dy at h ry;unfold Mq at h;split at h<;>try exact h.elim
 rename_i kt e r
 obtain⟨hdst,hkt,h⟩:=h;simp only[Rel] at rx;cases hh:s.heap r with
 | none=>rw[hh] at h;exact h.elim
 | some ob=>
  cases ob with
  | loop=>rw[hh] at h;exact h.elim
  | iter=>rw[hh] at h;exact h.elim
  | cells=>rw[hh] at h;exact h.elim
  | map es=>
   rw[hh] at h;obtain⟨hone,h⟩:=h;obtain⟨ms,clock,ho,hm⟩:=hS.heap r _ hh;cases hf:Ek dk es 0 with
   | none=>rw[hf] at h;exact h.elim
   | some fi=>
    rw[hf] at h;simp only[Uq] at h;have hfk:=Lj (P:=P) (w:=w) hkt rk hm hf;have hck:=fun b=>Kp (P:=P) (w:=w) (b:=b) hkt rk;have hgo:=Mt (P:=P) ho rfl;have hnn:s.heap r≠none:=by rw[hh];simp
    have fin: ∀ {o':Obj} {es':List (DVal×DVal)},Jg o'=true->(∀w' H',Lasts s.heap w H' w'->Tj w' H' (.map es') (some o'))->(execOp a.eval o).run P w= .ok .skip (w.putObj r o')->K ⟨s.env,upd s.heap r (some (.map es'))⟩->o.wp P a w (Fi G N K s w) Qx:=by
     intro o' es' hb' hob hrun hK;obtain⟨k1,k2⟩:=Rh hS.heap hnn ho rfl hb' hob;unfold Oper.wp;rw[hrun];show Fi G N K s w (a.put o.dst undef) _;rw[hdst];exact⟨_,hK,hS.ext k2 k1,k2⟩
    cases fi with
    | none=>
     simp only[Option.bind_none] at hfk;have hso:=Ip (P:=P) (.map (ms.push { key:=a.eval k,val:=a.eval y,born:=clock }) (clock+1)) ho rfl;refine fin (o':= .map (ms.push { key:=a.eval k,val:=a.eval y,born:=clock }) (clock+1)) rfl (fun w' H' hl=>⟨_,_,rfl, ?_⟩) ?_ h
     ·rw[Array.toList_push];exact(hm.lasts hl).app (fs:= [(dk,dy)]) ⟨_,[],rfl,Rel.lasts hl _ _ rk,Rel.lasts hl _ _ ry,rfl⟩
     ·rcases he with he | he<;>simp [execOp,he,rx,Instr.mapUpdate,run_underlying hu,hgo,hck,hfk,hso]
    | some i=>
     obtain⟨p,_,hp,hkey⟩:=Ac5 hf;rw[Nat.sub_zero] at hp;obtain⟨m,hmi,r1,r2⟩:=hm.get hp;have hmi':ms[i]? =some m:=by rw[<-Array.getElem?_toList];exact hmi
     simp only[Option.bind_some,hmi,Option.map_some] at hfk;have hsb:=Cc0 rk r1 hkey 9999;have hso:=Ip (P:=P) (.map (ms.modify i fun e=> { e with key:=a.eval k,val:=a.eval y }) clock) ho rfl;refine fin (o':= .map (ms.modify i fun e=> { e with key:=a.eval k,val:=a.eval y }) clock) rfl (fun w' H' hl=>⟨_,_,rfl, ?_⟩) ?_ h
     ·rw[Array.toList_modify];exact(hm.lasts hl).modify i (fun m=>⟨Rel.lasts hl _ _ rk,Rel.lasts hl _ _ ry⟩)
     ·rcases he with he | he<;>simp [execOp,he,rx,Instr.mapUpdate,run_underlying hu,hgo,hck,hfk,hmi',Instr.keyThatStays,hsb,hso]
end
end Go.Dl

-- THE DATA LEVEL, PART V: calls, regions, code: what the data level says of a piece of code is true of the model's.
namespace Go.Dl
open Go
section
variable {P:Program} {G:Nat->DVal} {N:Fr}
variable {o:Oper} {s s0:DS} {a:Act} {w w0:World} {K:DK} {Q:DExit->DS->Prop}
theorem Bh.mono {f:FuncId} {args:List DVal} {H:Bb} {R R':DEnd->Bb->Prop} (h:Bh P G f args H R) (hr: ∀e H',R e H'->R' e H'):Bh P G f args H R':=
 ⟨h.1,fun vs w hv hH hG=>(h.2 vs w hv hH hG).mono fun e w' ⟨e',H',r,k⟩=>⟨e',H',hr _ _ r,k⟩⟩
theorem Zr.mono {l:Nat} {args:List DVal} {H:Bb} {R R':DEnd->Bb->Prop} (h:Zr P G l args H R) (hr: ∀e H',R e H'->R' e H'):Zr P G l args H R':=
 fun F n hF vs w hv hH hG=>by
  obtain⟨fn,tmps,asg,body,h1,h2⟩:=h F n hF vs w hv hH hG;exact⟨fn,tmps,asg,body,h1,h2.mono fun e w' ⟨e',H',r,k⟩=>⟨e',H',hr _ _ r,k⟩⟩
theorem Dq2 (hS:Sim G N s a w) (hE0:Ext s0.heap w0 s.heap w) (hd:Cq N o.dst=true) {c:Call} {f:Operand} (hf:Cd N f=true) (hx:c.args.toList.all (Cd N)=true) (he:o.op= .call c) (hc:c.callee= .value f)
  (hny: ∀l,dev G s.env f≠ .func (.yield l) [] []) (h:Wm P G (Ei G s.env c.args.toList) o.dst Q (dev G s.env f) K s):o.wp P a w (Fi G N K s w) (Lf G N Q s0 w0):=by
 have rf:=Bx hS hf;have rl:=Lv hS hx;generalize dev G s.env f=df at h rf hny;generalize Ei G s.env c.args.toList=ds at h rl;unfold Wm at h;split at h<;>try first | exact h.elim | exact(hny _ rfl).elim
 rename_i k first captured
 simp only[Rel] at rf;obtain⟨xs,ys,hfv,h1,h2⟩:=rf;obtain⟨hcall,hcalls⟩:=h;have hargs:Br w s.heap (first++ds++captured) (xs.toList++c.args.toList.map a.eval++ys.toList):=(h1.append rl).append h2;have harr:(xs++c.args.map a.eval++ys)=(xs.toList++c.args.toList.map a.eval++ys.toList).toArray:=by apply Array.ext';simp
 have hrun:(execOp a.eval o).run P w= .ok (.enter k (xs++c.args.map a.eval++ys)) w:=by
  simp only[execOp,he,resolve,hc,hfv,Deferred.ofValue,Sem.run_bind,Sem.run_pure,Result.andThen_ok,invoke,hcall]
 unfold Oper.wp;rw[hrun,harr];refine(hcalls _ _ hargs hS.heap hS.glob).mono fun e w' ⟨e',H',hR,hre,hH',hE⟩=> ?_;cases hre with
 | ret d v hv=>exact⟨_,hR,(hS.ext hE hH').put hd hv,hE⟩
 | panic d v hv=>exact⟨_,_,hR, .panic _ _ hv,hS.ext hE hH',hE0.trans hE⟩
theorem Jx (h:Gm N o=true):Cq N o.dst=true:=by
 unfold Gm at h;rw[Bool.and_eq_true] at h;unfold Cq;exact h.1
theorem Ac6 {α:Type} (p:α->Bool) (xs:Array α):xs.all p=xs.toList.all p:=by
 rw[<-Array.all_toList]
theorem Ba7 {x:DVal} {v:Value} (hS:Sim G N s a w) (hE0:Ext s0.heap w0 s.heap w) (hrun:(execOp a.eval o).run P w=((Instr.panic v).run P w).andThen fun v w'=> .ok (.value v) w') (hv:Rel w s.heap x v) (h:Rc Q s x) {next:Act->World->Prop}:o.wp P a w next (Lf G N Q s0 w0):=by
 unfold Rc at h;split at h<;>try exact h.elim
 have hv':=hv;simp only[Rel] at hv;obtain⟨y,rfl,hy⟩:=hv;unfold Oper.wp;rw[hrun];simp only[Instr.panic,goPanic,Sem.run_halt,Result.andThen_halt];exact⟨_,s,h, .panic _ _ hv',hS,hE0⟩
theorem Cc1 (hny: ∀c f l,o.op= .call c->c.callee= .value f->dev G s.env f≠ .func (.yield l) [] []) (hok:Gm N o=true) (hS:Sim G N s a w) (hE0:Ext s0.heap w0 s.heap w) (h:dop P G o.dst K Q s o.op):o.wp P a w (Fi G N K s w) (Lf G N Q s0 w0):=by
 have hd:=Jx hok
 unfold Gm at hok
 rw[Bool.and_eq_true] at hok
 have hop:=hok.2
 rw[Ac6] at hop
 cases hq:o.op<;>rw[hq] at h hop<;>simp only[Op.operands,Call.operands,List.all_cons,List.all_nil,Bool.and_true,Bool.and_eq_true] at hop<;>try (exact h.elim)
 case move x=>exact(Dp4 hS hd hop hq h).wp hS hd
 case assign x=>exact(Cn5 hS hd hop hq h).wp hS hd
 case pick c x y=>exact(Dp5 hS hd hop.1 hop.2.1 hop.2.2 hq h).wp hS hd
 case alloc e=>exact Dc1 hS hd hq h
 case box e x=>exact Dz0 hS hd hop hq h
 case build t ps=>exact Dc3 hS hd (by simpa [Function.comp_def] using hop) hq h
 case buildSlice t n ps=>exact Ar9 hS hd (by simpa [Function.comp_def] using hop) hq h
 case load t x=>exact(Dp6 hS hd hop hq h).wp hS hd
 case store t x y=>exact Dc2 hS hop.1 hop.2 hq h
 case nilCheck x=>exact(Bl1 hS hd hop hq h).wp hS hd
 case binOp op t x y t'=>exact(Dp9 hS hd hop.1 hop.2 hq h).wp hS hd
 case unOp op t x=>exact(Dp7 hS hd hop hq h).wp hS hd
 case convert src t x=>exact(Dc8 hS hd hop hq h).wp hS hd
 case range t x=>exact Dc9 hS hd hop hq h
 case next x b=>exact Dq0 hS hd hop hq h
 case makeInterface t x=>exact(Az5 hS hd hop hq h).wp hS hd
 case makeFunc fn fs cs=>
  simp only[Array.toList_append,List.all_append,Bool.and_eq_true] at hop
  exact(Bl2 hS hd hop.1 hop.2 hq h).wp hS hd
 case makeMap t x=>
  have opt: ∀(z:Option Operand),z.toArray.toList.all (Cd N)=true->(match z with | some x=>Cd N x | none=>true)=true:=by
   intro z hz;cases z with
   | none=>rfl
   | some z=>simpa using hz
  exact Cb9 hS hd (opt _ hop) hq h
 case lookup t x k ok=>exact Co2 hS hd hop.1 hop.2 hq h
 case mapUpdate t m k x=>exact Ba6 hS hop.1 hop.2.1 hop.2.2 (.inl hq) h
 case insert t m k x=>exact Ba6 hS hop.1 hop.2.1 hop.2.2 (.inr hq) h
 case makeSlice t l c=>exact Az9 hS hd hop.1 hop.2 hq h
 case slice t x lo hi mx=>
  simp only[Array.toList_append,List.all_append,Bool.and_eq_true,List.all_cons,List.all_nil,Bool.and_true] at hop
  have opt: ∀(z:Option Operand),z.toArray.toList.all (Cd N)=true->(match z with | some x=>Cd N x | none=>true)=true:=by
   intro z hz;cases z with
   | none=>rfl
   | some z=>simpa using hz
  exact(Dc6 hS hd hop.1.1.1 (opt _ hop.1.1.2) (opt _ hop.1.2) (opt _ hop.2) hq h).wp hS hd
 case fieldAddr t x f=>exact(Az7 hS hd hop hq h).wp hS hd
 case field t x f=>exact(Dc4 hS hd hop hq h).wp hS hd
 case indexAddr t x i=>exact(Az8 hS hd hop.1 hop.2 hq h).wp hS hd
 case index t x i=>exact(Dc5 hS hd hop.1 hop.2 hq h).wp hS hd
 case typeAssert x t u ok=>exact(As0 hS hd hop hq h).wp hS hd
 case extract x i=>exact(Cb3 hS hd hop hq h).wp hS hd
 case panic x=>
  exact Ba7 hS hE0 (v:=a.eval x) (by simp [execOp,hq]) (Bx hS hop) h
 case call c=>
  simp only[dop] at h
  simp only[Array.toList_append,List.all_append,Bool.and_eq_true] at hop
  obtain⟨hcal,hargs⟩:=hop
  cases hc:c.callee with
  | invoke r m=>rw[hc] at h;exact h.elim
  | value f=>
   rw[hc] at h hcal
   simp only[Mr] at h
   exact Dq2 hS hE0 hd (by simpa using hcal) hargs hq hc (fun l=>hny c f l hq hc) h
  | builtin b=>
   rw[hc] at h
   simp only[Mr] at h
   cases b<;>(try (cases hdv:Ei G s.env c.args.toList<;>rw[hdv] at h<;>exact h.elim))
   case len=>
    cases hdv:Ei G s.env c.args.toList with
    | nil=>rw[hdv] at h;exact h.elim
    | cons d ds=>cases ds with
     | cons d2 ds=>rw[hdv] at h;exact h.elim
     | nil=>
      obtain⟨x,hx,rfl⟩:=Uy hdv
      rw[hdv] at h
      rw[hx] at hargs
      simp only[Ha] at h
      cases hts:c.argTypes.toList with
      | nil=>rw[hts] at h;exact h.elim
      | cons t ts=>cases ts with
       | nil=>rw[hts] at h;exact(Dz1 hS hd (by simpa using hargs) hq hc hx hts h).wp hS hd
       | cons t' ts'=>rw[hts] at h;exact h.elim
   case cap=>
    cases hdv:Ei G s.env c.args.toList with
    | nil=>rw[hdv] at h;exact h.elim
    | cons d ds=>cases ds with
     | cons d2 ds=>rw[hdv] at h;exact h.elim
     | nil=>
      obtain⟨x,hx,rfl⟩:=Uy hdv
      rw[hdv] at h
      rw[hx] at hargs
      simp only[Ha] at h
      cases hts:c.argTypes.toList with
      | nil=>rw[hts] at h;exact h.elim
      | cons t ts=>cases ts with
       | nil=>rw[hts] at h;exact(Dz2 hS hd (by simpa using hargs) hq hc hx hts h).wp hS hd
       | cons t' ts'=>rw[hts] at h;exact h.elim
   case clear=>
    cases hdv:Ei G s.env c.args.toList with
    | nil=>rw[hdv] at h;exact h.elim
    | cons d ds=>cases ds with
     | cons d2 ds=>rw[hdv] at h;exact h.elim
     | nil=>
      obtain⟨x,hx,rfl⟩:=Uy hdv
      rw[hdv] at h
      rw[hx] at hargs
      simp only[Ha] at h
      cases hts:c.argTypes.toList with
      | nil=>rw[hts] at h;exact h.elim
      | cons t ts=>cases ts with
       | nil=>rw[hts] at h;exact Dc7 hS hd (by simpa using hargs) hq hc hx hts h
       | cons t' ts'=>rw[hts] at h;exact h.elim
   case delete=>
    cases hdv:Ei G s.env c.args.toList with
    | nil=>rw[hdv] at h;exact h.elim
    | cons d ds=>cases ds with
     | nil=>rw[hdv] at h;exact h.elim
     | cons d2 ds=>cases ds with
      | cons d3 ds=>rw[hdv] at h;exact h.elim
      | nil=>
       obtain⟨x,y,hx,rfl,rfl⟩:=Ba1 hdv
       rw[hdv] at h
       rw[hx] at hargs
       simp only[List.all_cons,List.all_nil,Bool.and_true,Bool.and_eq_true] at hargs
       simp only[Ha] at h
       cases hts:c.argTypes.toList with
       | nil=>rw[hts] at h;exact h.elim
       | cons t ts=>rw[hts] at h;exact Co3 hS hd hargs.1 hargs.2 hq hc hx hts h
   case append=>
    cases hdv:Ei G s.env c.args.toList with
    | nil=>rw[hdv] at h;exact h.elim
    | cons d ds=>cases ds with
     | nil=>rw[hdv] at h;exact h.elim
     | cons d2 ds=>cases ds with
      | cons d3 ds=>rw[hdv] at h;exact h.elim
      | nil=>
       obtain⟨x,y,hx,rfl,rfl⟩:=Ba1 hdv
       rw[hdv] at h
       rw[hx] at hargs
       simp only[List.all_cons,List.all_nil,Bool.and_true,Bool.and_eq_true] at hargs
       simp only[Ha] at h
       cases hts:c.argTypes.toList with
       | nil=>rw[hts] at h;exact h.elim
       | cons t ts=>cases ts with
        | nil=>rw[hts] at h;exact h.elim
        | cons t' ts'=>cases ts' with
         | nil=>
          rw[hts] at h
          simp only[Nv] at h
          cases hit:Jd (P.underlying t') with
          | true=>rw[hit] at h;exact Cb8 hS hd hargs.1 hargs.2 hq hc hx hts hit h
          | false=>rw[hit] at h;exact Co0 hS hd hargs.1 hargs.2 hq hc hx hts h
         | cons t3 ts3=>rw[hts] at h;exact h.elim
   case min=>exact(Ba2 (isMax:=false) hS hd hargs hq hc h).wp hS hd
   case max=>exact(Ba2 (isMax:=true) hS hd hargs hq hc h).wp hS hd
   case panic=>
    cases hdv:Ei G s.env c.args.toList with
    | nil=>rw[hdv] at h;exact h.elim
    | cons d ds=>cases ds with
     | cons d2 ds=>rw[hdv] at h;exact h.elim
     | nil=>
      obtain⟨x,hx,rfl⟩:=Uy hdv
      rw[hdv] at h
      rw[hx] at hargs
      have hm:c.args.map a.eval= #[a.eval x]:=by apply Array.ext';simp [hx]
      refine Ba7 hS hE0 (v:=a.eval x) ?_ (Bx hS (by simpa using hargs)) h
      rw[Fp hq hc,hm]
      simp [builtin]
theorem Va: ∀(all:List Oper) (j:Nat),Le all j=(all[j]?).bind (·.dst)
 | [],j=>by simp [Le]
 | o::r,0=>by simp [Le]
 | o::r,j+1=>by simp [Le,Va r j]
theorem Ba8 {dst:Option Nat} {K:DK} {Q:DExit->DS->Prop} {s:DS} {op:Op} (h:dop P G dst K Q s op) (c:Call):op≠ .defer c:=by
 intro e;subst e;exact h
theorem Dd0 {F:Fence} {n:Nat} (hF:FOk F) (hS:Sim G N s a w) (hE0:Ext s0.heap w0 s.heap w) (hd:Cq N o.dst=true) {c:Call} {f:Operand} {l:Nat} (hf:Cd N f=true) (hx:c.args.toList.all (Cd N)=true) (he:o.op= .call c) (hc:c.callee= .value f)
  (hy:dev G s.env f= .func (.yield l) [] []) (h:Zr P G l (Ei G s.env c.args.toList) s.heap (Ar6 o.dst K Q s.env)):o.wpIn F n P a w (Fi G N K s w) (Lf G N Q s0 w0):=by
 have rf:=Bx hS hf;have rl:=Lv hS hx;rw[hy] at rf;generalize Ei G s.env c.args.toList=ds at h rl;simp only[Rel,Br] at rf;obtain⟨xs,ys,hfv,h1,h2⟩:=rf;have hxs:xs= #[]:=by cases xs;simp at h1;subst h1;rfl
 subst hxs;obtain⟨fn,tmps,asg,body,hrun,hround⟩:=h F (n-1) hF _ w rl hS.heap hS.glob;have hrun':(execOp a.eval o).run P w= .ok (.round l fn tmps asg body) w:=by
  have:(c.args.toList.map a.eval).toArray=c.args.map a.eval:=by apply Array.ext';simp
  rw[this] at hrun;simp only[execOp,he,resolve,hc,hfv,Deferred.ofValue,Sem.run_bind,Sem.run_pure,Result.andThen_ok,invoke];simpa using hrun
 refine⟨fun f _=>hF.fn f, ?_⟩;rw[Oper.semAt_eq _ _ _ (by intro c' e;rw[he] at e;cases e),hrun',Oper.uponIn_round];refine⟨(by rw[hF.depth];intro hh;cases hh),hround.mono fun e w' ⟨e',H',hR,hre,hH',hE⟩=> ?_⟩;cases hre with
 | ret d v hv=>exact⟨_,hR,(hS.ext hE hH').put hd hv,hE⟩
 | panic d v hv=>exact⟨_,_,hR, .panic _ _ hv,hS.ext hE hH',hE0.trans hE⟩
theorem Mu {F:Fence} {n:Nat} (hF:FOk F) (hok:Gm N o=true) (hS:Sim G N s a w) (hE0:Ext s0.heap w0 s.heap w) (h:dop P G o.dst K Q s o.op):o.wpIn F n P a w (Fi G N K s w) (Lf G N Q s0 w0):=by
 by_cases hy: ∃c f l,o.op= .call c/\c.callee= .value f/\dev G s.env f= .func (.yield l) [] []
 ·obtain⟨c,f,l,h1,h2,h3⟩:=hy;have hd:=Jx hok;unfold Gm at hok;rw[Bool.and_eq_true] at hok;have hop:=hok.2;rw[Ac6] at hop;rw[h1] at h hop;simp only[Op.operands,Call.operands,Array.toList_append,List.all_append,Bool.and_eq_true] at hop;obtain⟨hcal,hargs⟩:=hop;rw[h2] at hcal;simp only[dop,h2,Mr,h3,Wm] at h;exact Dd0 hF hS hE0 hd (by simpa using hcal) hargs h1 h2 h3 h
 ·exact hF.oper (Ba8 h) (Cc1 (fun c f l h1 h2 h3=>hy ⟨c,f,l,h1,h2,h3⟩) hok hS hE0 h)
theorem Tt {F:Fence} {n:Nat} (hF:FOk F) (all:List Oper) (hall:all.all (Gm N)=true): ∀(rest:List Oper),rest.all (Gm N)=true-> ∀(s:DS) (a:Act) (w:World),Sim G N s a w->Ext s0.heap w0 s.heap w->Jv P G all Q rest s->
  wpListIn F n P all.toArray (Lf G N Q s0 w0) rest a w
 | [],_,s,a,w,hS,hE,h=>⟨.normal,s,h, .normal,hS,hE⟩
 | o::rest,hr,s,a,w,hS,hE,h=>by
  simp only[List.all_cons,Bool.and_eq_true] at hr;have next: ∀(o:Oper) s a w,Sim G N s a w->Ext s0.heap w0 s.heap w->Gm N o=true->dop P G o.dst (Jv P G all Q rest) Q s o.op->o.wpIn F n P a w (wpListIn F n P all.toArray (Lf G N Q s0 w0) rest) (Lf G N Q s0 w0):=by
   intro o s a w hS hE hok hd;exact Oper.wpIn_mono (fun a' w' ⟨s',hK,hS',hE'⟩=>Tt hF all hall rest hr.2 s' a' w' hS' (hE.trans hE') hK) (Mu hF hok hS hE hd)
  have skip:Cb o.dst Di (Jv P G all Q rest) s->wpListIn F n P all.toArray (Lf G N Q s0 w0) rest (a.put o.dst undef) w:=fun hp=>
   Tt hF all hall rest hr.2 _ _ _ (hS.put (Jx hr.1) (Ov w s.heap)) hE hp
  unfold wpListIn;simp only[Jv] at h;cases hg:o.guard with
  | none=>
   rw[hg] at h;rw[if_pos (by simp [Region.wanted,hg])];exact(next o s a w hS hE hr.1 h)
  | some jb=>
   obtain⟨j,b⟩:=jb;rw[hg] at h;simp only at h;cases hj:Le all j with
   | none=>rw[hj] at h;exact h.elim
   | some g=>
    rw[hj] at h;simp only at h;have hjo:(all[j]?).bind (·.dst)=some g:=by rw[<-Va];exact hj
    obtain⟨oj,hoj,hdj⟩:=Option.bind_eq_some_iff.1 hjo;have hmem:oj∈all:=List.mem_of_getElem? hoj;have hgN:g<N:=by
     have:=List.all_eq_true.1 hall oj hmem;have:=Jx this;rw[hdj] at this;simpa [Cq] using this
    have hrel:=hS.tmps g hgN;by_cases hun:s.env g= .tuple []
    ·rw[hun] at h hrel;simp only[Rel,Br] at hrel;obtain⟨xs,hxs,hx0⟩:=hrel;have hy:yielded all.toArray a.tmps j=none:=by
      have h2: ∀z,a.tmps[g]? =some z->z= .tuple xs:=fun z hz=>by
       rw[Array.getD_eq_getD_getElem?,hz] at hxs;simpa using hxs
      unfold yielded;simp only[List.getElem?_toArray,hjo,Option.bind_some];cases hz:a.tmps[g]? with
      | none=>rfl
      | some z=>rw[h2 z hz]
     rw[if_neg (by simp [Region.wanted,hg,hy])];exact⟨fun f _=>hF.fn f,skip h⟩
    split at h<;>(try exact h.elim)<;>(try (rename_i hv;exact absurd hv hun))
    rename_i v hv
    rw[hv] at hrel;simp only[Rel] at hrel;have hy:yielded all.toArray a.tmps j=some v:=by
     have h1:a.tmps[g]? =some (.bool v):=by
      rw[Array.getD_eq_getD_getElem?] at hrel;cases hq:a.tmps[g]? with
      | none=>
       have:=hS.size;rw[Array.getElem?_eq_none_iff] at hq;omega
      | some z=>rw[hq] at hrel;simpa using hrel
     simp [yielded,hoj,hdj,h1]
    by_cases hvb:v=b
    ·rw[if_pos (by simp [Region.wanted,hg,hy,hvb])];exact(next o s a w hS hE hr.1 (h.1 hvb))
    ·rw[if_neg (by simp [Region.wanted,hg,hy,hvb])];exact⟨fun f _=>hF.fn f,skip (h.2 hvb)⟩
end
end Go.Dl

-- THE DATA LEVEL, PART E: the equations by which a piece of code is worked out.
namespace Go.Dl
open Go
section
variable {P:Program} {G:Nat->DVal} {N:Nat} {all:List Oper} {Q:DExit->DS->Prop} {s:DS} {rest:List Oper}
theorem Co4:Jv P G all Q [] s=Q .normal s:=rfl
theorem Cc2 {dst:Option Nat} {op:Op} {t:TypeId} {p:String} {a:Array Edge}:Jv P G all Q (⟨dst,op,t,p,a,none⟩::rest) s=dop P G dst (Jv P G all Q rest) Q s op:=rfl
theorem Cc3 (dst:Option Nat) (op:Op) (b:Bool) (g:DVal):Bl0 P G all Q dst op rest s b g=(match g with
  | .bool v=>(v=b->dop P G dst (Jv P G all Q rest) Q s op)/\(v≠b->Cb dst Di (Jv P G all Q rest) s)
  | .tuple []=>Cb dst Di (Jv P G all Q rest) s
  | _=>False):=by
 cases g with
 | bool v=>cases b<;>cases v<;>simp [Bl0]
 | tuple l=>cases l<;>cases b<;>rfl
 | _=>cases b<;>rfl
theorem Bl8 {dst:Option Nat} {op:Op} {t:TypeId} {p:String} {a:Array Edge} {j:Nat} {b:Bool}:
  Jv P G all Q (⟨dst,op,t,p,a,some (j,b)⟩::rest) s=Ar7 P G all Q dst op rest s b (Le all j):=by
 rw[Jv];cases h:Le all j with
 | none=>simp [Ar7,h]
 | some g=>
  simp only[Ar7,h,Cc3];rfl
theorem Co5:dwp P G N .skip Q s=Q .normal s:=rfl
theorem Cc4 {l:Nat}:dwp P G N (.label l) Q s=Q .normal s:=rfl
theorem Bl9 {id:Nat} {ops:List Oper}:dwp P G N (.region id ops.toArray false) Q s=Jv P G ops Q ops s:=rfl
theorem Dd1 {a b:Code}:dwp P G N (.seq a b) Q s=dwp P G N a (Ff (dwp P G N b Q) Q) s:=rfl
theorem Co6 {c:Operand} {a b:Code}:dwp P G N (.cond c a b) Q s=Dl3 (dwp P G N a Q) (dwp P G N b Q) s (dev G s.env c):=rfl
theorem Cc5 {id:Nat} {c:Code}:dwp P G N (.block id c) Q s=dwp P G N c (Ar8 id Q) s:=rfl
theorem Co7 {c:Code}:dwp P G N (.loop c) Q s=Cn3 G (dwp P G N c) Q s:=rfl
theorem Cc6 {c:Code}:dwp P G N (.scope c) Q s=dwp P G N c (Bv7 Q) s:=rfl
theorem Co8 {id:Nat}:dwp P G N (.exit id) Q s=Q (.exit id) s:=rfl
theorem Dd2:dwp P G N .ret Q s=Q .ret s:=rfl
theorem Bp {α:Type} (f:Nat->α) (i:Nat) (v:α):upd f i v i=v:=by simp [upd]
theorem Cc7 {α:Type} (f:Nat->α) (i j:Nat) (v:α):upd f i v j=if j=i then v else f j:=rfl
theorem Co9 (n:Nat) (z:DVal):repl n [z]=List.replicate n z:=by
 unfold repl
 induction n with
 | zero=>rfl
 | succ n ih=>simp [List.replicate_succ,ih]
end
section
variable {P:Program} {s:DS}
theorem Bm0 (e:TypeId):Dc0 (some (.slice e))=true:=rfl
theorem Dd3 {t:TypeId} {c:Bool} {op:BinOp} {dst:Option Nat} {cs:List DVal} {n:Nat} {y:DVal} {K:DK}:Sz P t c op dst true (.vslice cs n) y K s=(Dc0 (P.underlying t)=true/\Dl1 cs op dst K s):=rfl
theorem Cc8 {t:TypeId} {c:Bool} {op:BinOp} {dst:Option Nat} {y:DVal} {K:DK}:Sz P t c op dst true .nilSlice y K s=Ix P t c op dst .nilSlice y K s:=rfl
theorem Dd4 {t:TypeId} {c:Bool} {op:BinOp} {dst:Option Nat} {z r o n l:Nat} {y:DVal} {K:DK}:Sz P t c op dst true (.oslice z r o n l) y K s=Ix P t c op dst (.oslice z r o n l) y K s:=rfl
theorem Bm1 (t:Nat):Fm (.tmp t)=false:=rfl
theorem Aj6 (t:Nat):Fm (.global t)=false:=rfl
theorem Ba9 (t:Nat):Fm (.func t)=false:=rfl
theorem Bm2 (k:IntKind) (n:Int):Fm (.const (.int k n))=false:=rfl
theorem Bb0 (b:Bool):Fm (.const (.bool b))=false:=rfl
theorem Bm3 (b:ByteArray):Fm (.const (.string b))=false:=rfl
theorem Bm4 (b:Option Addr):Fm (.const (.pointer b))=false:=rfl
theorem Bm5 (b:Option Nat):Fm (.const (.map b))=false:=rfl
theorem Cc9:Fm (.const .nilFunc)=false:=rfl
theorem Cd0:Fm (.const .nilIface)=false:=rfl
theorem Bm6 (a:Array Value):Fm (.const (.agg a))=false:=rfl
theorem Bm7:Fm (.const (.slice none 0 0))=true:=rfl
end
attribute [go_sem] Bm0 Kt Dd3 Cc8 Dd4 Bm1 Aj6 Ba9 Bm2 Bb0 Bm3 Bm4 Bm5 Cc9 Cd0 Bm6 Bm7
theorem Tu {P:Program} {t:TypeId} {c:Bool} {op:BinOp} {dst:Option Nat} {K:DK} {s:DS} {a:Bool} {b:Bool}:Ix P t c op dst (.bool a) (.bool b) K s=Kz dst (Kr op) (Lg c (P.underlying t) (.bool a) (.bool b)) K s:=rfl
theorem Tv {P:Program} {t:TypeId} {c:Bool} {op:BinOp} {dst:Option Nat} {K:DK} {s:DS}:Ix P t c op dst (.nilPtr) (.nilPtr) K s=Kz dst (Kr op) (Lg c (P.underlying t) (.nilPtr) (.nilPtr)) K s:=rfl
theorem Ri {P:Program} {t:TypeId} {c:Bool} {op:BinOp} {dst:Option Nat} {K:DK} {s:DS} {r:Nat} {o:Nat}:Ix P t c op dst (.nilPtr) (.optr r o) K s=Kz dst (Kr op) (Lg c (P.underlying t) (.nilPtr) (.optr r o)) K s:=rfl
theorem Qp {P:Program} {t:TypeId} {c:Bool} {op:BinOp} {dst:Option Nat} {K:DK} {s:DS} {o:Nat} {cs:List DVal}:Ix P t c op dst (.nilPtr) (.vptr cs o) K s=Kz dst (Kr op) (Lg c (P.underlying t) (.nilPtr) (.vptr cs o)) K s:=rfl
theorem Rj {P:Program} {t:TypeId} {c:Bool} {op:BinOp} {dst:Option Nat} {K:DK} {s:DS} {r:Nat} {o:Nat}:Ix P t c op dst (.optr r o) (.nilPtr) K s=Kz dst (Kr op) (Lg c (P.underlying t) (.optr r o) (.nilPtr)) K s:=rfl
theorem Qq {P:Program} {t:TypeId} {c:Bool} {op:BinOp} {dst:Option Nat} {K:DK} {s:DS} {o:Nat} {cs:List DVal}:Ix P t c op dst (.vptr cs o) (.nilPtr) K s=Kz dst (Kr op) (Lg c (P.underlying t) (.vptr cs o) (.nilPtr)) K s:=rfl
theorem Nx {P:Program} {t:TypeId} {c:Bool} {op:BinOp} {dst:Option Nat} {K:DK} {s:DS} {i:TypeId} {v:DVal}:Ix P t c op dst (.nilIface) (.iface i v) K s=Kz dst (Kr op) (Lg c (P.underlying t) (.nilIface) (.iface i v)) K s:=rfl
theorem Ny {P:Program} {t:TypeId} {c:Bool} {op:BinOp} {dst:Option Nat} {K:DK} {s:DS} {i:TypeId} {v:DVal}:Ix P t c op dst (.iface i v) (.nilIface) K s=Kz dst (Kr op) (Lg c (P.underlying t) (.iface i v) (.nilIface)) K s:=rfl
theorem Oz {P:Program} {t:TypeId} {c:Bool} {op:BinOp} {dst:Option Nat} {K:DK} {s:DS}:Ix P t c op dst (.nilIface) (.nilIface) K s=Kz dst (Kr op) (Lg c (P.underlying t) (.nilIface) (.nilIface)) K s:=rfl
theorem Rk {P:Program} {t:TypeId} {c:Bool} {op:BinOp} {dst:Option Nat} {K:DK} {s:DS}:Ix P t c op dst (.nilFunc) (.nilFunc) K s=Kz dst (Kr op) (Lg c (P.underlying t) (.nilFunc) (.nilFunc)) K s:=rfl
theorem Nz {P:Program} {t:TypeId} {c:Bool} {op:BinOp} {dst:Option Nat} {K:DK} {s:DS} {f:Fn} {x:List DVal} {y:List DVal}:Ix P t c op dst (.func f x y) (.nilFunc) K s=Kz dst (Kr op) (Lg c (P.underlying t) (.func f x y) (.nilFunc)) K s:=rfl
theorem Oa {P:Program} {t:TypeId} {c:Bool} {op:BinOp} {dst:Option Nat} {K:DK} {s:DS} {f:Fn} {x:List DVal} {y:List DVal}:Ix P t c op dst (.nilFunc) (.func f x y) K s=Kz dst (Kr op) (Lg c (P.underlying t) (.nilFunc) (.func f x y)) K s:=rfl
theorem Pa {P:Program} {t:TypeId} {c:Bool} {op:BinOp} {dst:Option Nat} {K:DK} {s:DS}:Ix P t c op dst (.nilSlice) (.nilSlice) K s=Kz dst (Kr op) (Lg c (P.underlying t) (.nilSlice) (.nilSlice)) K s:=rfl
theorem Jy {P:Program} {t:TypeId} {c:Bool} {op:BinOp} {dst:Option Nat} {K:DK} {s:DS} {r:Nat} {o:Nat} {n:Nat} {l:Nat} {z:Nat}:Ix P t c op dst (.oslice z r o n l) (.nilSlice) K s=Kz dst (Kr op) (Lg c (P.underlying t) (.oslice z r o n l) (.nilSlice)) K s:=rfl
theorem Jz {P:Program} {t:TypeId} {c:Bool} {op:BinOp} {dst:Option Nat} {K:DK} {s:DS} {r:Nat} {o:Nat} {n:Nat} {l:Nat} {z:Nat}:Ix P t c op dst (.nilSlice) (.oslice z r o n l) K s=Kz dst (Kr op) (Lg c (P.underlying t) (.nilSlice) (.oslice z r o n l)) K s:=rfl
theorem Bm8 {P:Program} {dst:Option Nat} {K:DK} {s:DS} {k k1 k2:IntKind} {n:Int}:Ja P dst (some (.int k)) (some (.int k1)) (.int k2 n) K s=Cb dst (.int k1 (k1.wrap n)) K s:=rfl
theorem Bm9 {P:Program} {dst:Option Nat} {K:DK} {s:DS} {l:List UInt8}:Ja P dst (some .string) (some .string) (.str l) K s=Cb dst (.str l) K s:=rfl
theorem Cd1 (t:Nat):Ed (.tmp t)=false:=rfl
theorem Cd2 (t:Nat):Ed (.global t)=false:=rfl
theorem Cd3 (t:Nat):Ed (.func t)=false:=rfl
theorem Dd5 (P:Program) (n:Nat) (t:TypeId) (xs ys:List DVal):Qo P (n+1) t xs ys=Qy P (Qo P n) t xs ys (P.underlying t):=rfl
theorem Cd4 (v:Value):(DVal.raw v).cells= [.raw v]:=rfl
theorem Bn0 (b:Bool):(DVal.bool b).cells= [.bool b]:=rfl
theorem Cp0 (b:Bool):(DVal.bool b).one=true:=rfl
theorem Cd5 (k:IntKind) (n:Int):(DVal.int k n).cells= [.int k n]:=rfl
theorem Dd6 (k:IntKind) (n:Int):(DVal.int k n).one=true:=rfl
theorem Cd6 (s:List UInt8):(DVal.str s).cells= [.str s]:=rfl
theorem Dd7 (s:List UInt8):(DVal.str s).one=true:=rfl
theorem As4:(DVal.nilPtr).cells= [.nilPtr]:=rfl
theorem Bn1:(DVal.nilPtr).one=true:=rfl
theorem Bn2 (c:List DVal) (o:Nat):(DVal.vptr c o).cells= [.vptr c o]:=rfl
theorem Cp1 (c:List DVal) (o:Nat):(DVal.vptr c o).one=true:=rfl
theorem Bn3 (r o:Nat):(DVal.optr r o).cells= [.optr r o]:=rfl
theorem Cp2 (r o:Nat):(DVal.optr r o).one=true:=rfl
theorem Ac7:(DVal.nilSlice).cells= [.nilSlice]:=rfl
theorem As5:(DVal.nilSlice).one=true:=rfl
theorem As6 (c:List DVal) (n:Nat):(DVal.vslice c n).cells= [.vslice c n]:=rfl
theorem Bn4 (c:List DVal) (n:Nat):(DVal.vslice c n).one=true:=rfl
theorem As7 (z r o n l:Nat):(DVal.oslice z r o n l).cells= [.oslice z r o n l]:=rfl
theorem Bn5 (z r o n l:Nat):(DVal.oslice z r o n l).one=true:=rfl
theorem As8:(DVal.nilMap).cells= [.nilMap]:=rfl
theorem Bn6:(DVal.nilMap).one=true:=rfl
theorem Bn7 (r:Nat):(DVal.omap r).cells= [.omap r]:=rfl
theorem Cp3 (r:Nat):(DVal.omap r).one=true:=rfl
theorem Bn8 (f:Fn) (a c:List DVal):(DVal.func f a c).cells= [.func f a c]:=rfl
theorem Cp4 (f:Fn) (a c:List DVal):(DVal.func f a c).one=true:=rfl
theorem Aj7:(DVal.nilFunc).cells= [.nilFunc]:=rfl
theorem Bb1:(DVal.nilFunc).one=true:=rfl
theorem Bb2 (t:TypeId) (v:DVal):(DVal.iface t v).cells= [.iface t v]:=rfl
theorem Cd7 (t:TypeId) (v:DVal):(DVal.iface t v).one=true:=rfl
theorem Ac8:(DVal.nilIface).cells= [.nilIface]:=rfl
theorem As9:(DVal.nilIface).one=true:=rfl
theorem Bb3 (v:List DVal):(DVal.tuple v).cells= [.tuple v]:=rfl
theorem Cd8 (v:List DVal):(DVal.tuple v).one=false:=rfl
theorem Cd9 (c:List DVal):(DVal.agg c).cells=c:=rfl
theorem Dd8 (c:List DVal):(DVal.agg c).one=false:=rfl
theorem Ce0:Eh .add=false:=rfl
theorem Ce1:Eh .sub=false:=rfl
theorem Ce2:Eh .mul=false:=rfl
theorem Ce3:Eh .quo=false:=rfl
theorem Ce4:Eh .rem=false:=rfl
theorem Ce5:Eh .and=false:=rfl
theorem Cp5:Eh .or=false:=rfl
theorem Ce6:Eh .xor=false:=rfl
theorem At0:Eh .andNot=false:=rfl
theorem Ce7:Eh .eql=false:=rfl
theorem Ce8:Eh .neq=false:=rfl
theorem Ce9:Eh .lss=false:=rfl
theorem Cf0:Eh .leq=false:=rfl
theorem Cf1:Eh .gtr=false:=rfl
theorem Cf2:Eh .geq=false:=rfl
theorem Cf3:Eh .shl=true:=rfl
theorem Cf4:Eh .shr=true:=rfl
theorem Aj8:Dc (some (.bool))=true:=rfl
theorem Bb4:Jd (some (.bool))=false:=rfl
theorem At1 (k:IntKind):Dc (some (.int k))=true:=rfl
theorem Zg:Dc (some (.string))=true:=rfl
theorem Aj9:Jd (some (.string))=false:=rfl
theorem Ak0:To (some (.string))=true:=rfl
theorem Wt (e:TypeId):Dc (some (.pointer e))=true:=rfl
theorem Ac9 (e:TypeId):Jd (some (.pointer e))=false:=rfl
theorem Ad0 (e:TypeId):Dc (some (.slice e))=true:=rfl
theorem At2 (e:TypeId):Jd (some (.slice e))=false:=rfl
theorem At3 (e:TypeId):To (some (.slice e))=true:=rfl
theorem Ad1 (n:Nat) (e:TypeId):Dc (some (.array n e))=true:=rfl
theorem At4 (n:Nat) (e:TypeId):Jd (some (.array n e))=false:=rfl
theorem At5 (k e:TypeId):Dc (some (.map k e))=true:=rfl
theorem Bn9 (k e:TypeId):Jd (some (.map k e))=false:=rfl
theorem Zh (f:Array Field):Dc (some (.struct f))=true:=rfl
theorem Ak1 (f:Array Field):Jd (some (.struct f))=false:=rfl
theorem Ak2 (p r:Array TypeId) (v:Bool):Dc (some (.func p r v))=true:=rfl
theorem Bb5 (p r:Array TypeId) (v:Bool):Jd (some (.func p r v))=false:=rfl
theorem Ad2 (e:Array TypeId):Dc (some (.tuple e))=true:=rfl
theorem At6 (e:Array TypeId):Jd (some (.tuple e))=false:=rfl
theorem Tw (m:Array (String×TypeId)):Dc (some (.interface m))=false:=rfl
theorem Bo0 (b:Bool):De (.bool b)= .bool b:=rfl
theorem Cf5 (k:IntKind) (n:Int):De (.int k n)= .int k n:=rfl
theorem At7 (l:List UInt8):De (.string (ByteArray.mk l.toArray))= .str l:=rfl
theorem At8:De (.pointer none)= .nilPtr:=rfl
theorem Ad3:De (.slice none 0 0)= .nilSlice:=rfl
theorem At9:De (.map none)= .nilMap:=rfl
theorem Ak3:De (.nilFunc)= .nilFunc:=rfl
theorem Ad4:De (.nilIface)= .nilIface:=rfl
theorem Cf6 (l:List Value):De (.agg l.toArray)= .agg (Fc l):=rfl
theorem Bb6 (l:List Value):De (.tuple l.toArray)= .tuple (Fc l):=rfl
theorem Bo1 (f:Fn) (a c:List Value):De (.func f a.toArray c.toArray)= .func f (Fc a) (Fc c):=rfl
attribute [go_sem] Co4 Cc2 Bl8 Co5 Cc4 Bl9 Dd1 Co6 Cc5 Co7 Cc6 Co8 Dd2 Bp Cc7 Co9 List.toList_toArray List.cons_append List.nil_append List.getElem?_cons_zero List.getElem?_cons_succ List.getElem?_nil true_and and_true eq_self
attribute [go_sem] dop.eq_1 dop.eq_2 dop.eq_3 dop.eq_4 dop.eq_5 dop.eq_6 dop.eq_7 dop.eq_8 dop.eq_9 dop.eq_10 dop.eq_11 dop.eq_12
attribute [go_sem] dop.eq_13 dop.eq_14 dop.eq_15 dop.eq_16 dop.eq_17 dop.eq_18 dop.eq_19 dop.eq_20 dop.eq_21 dop.eq_22 dop.eq_23 dop.eq_24
attribute [go_sem] dop.eq_25 dop.eq_26 dop.eq_27 dop.eq_28 dop.eq_29 dop.eq_30 dop.eq_31 Ld.eq_1 Ld.eq_2 Dl2.eq_1 Dl2.eq_2 Oq.eq_1
attribute [go_sem] Ot.eq_1 Ot.eq_2 Ot.eq_3 Cm9.eq_1 Ja.eq_1 Ab4.eq_1 Ar1.eq_1 Am2.eq_1 Cb.eq_1 Hv.eq_1 Hv.eq_2 dev.eq_1
attribute [go_sem] dev.eq_2 dev.eq_3 dev.eq_4 Ei.eq_1 Ei.eq_2 Ks.eq_1 Ks.eq_2 Hb.eq_1 Hb.eq_2 Ez.eq_1 Ez.eq_2 Al9.eq_1
attribute [go_sem] Bk5.eq_1 Bk5.eq_2 Tk.eq_1 Tk.eq_2 Iz.eq_1 Iz.eq_2 Aq9.eq_1 Qw.eq_1 Bk6.eq_1 Bk6.eq_2 Oo.eq_1 Oo.eq_2
attribute [go_sem] Ik.eq_1 Tl.eq_1 Tl.eq_2 Tl.eq_3 Ab1.eq_1 Xt.eq_1 Xt.eq_2 Ar0.eq_1 Wk.eq_1 Ns.eq_1 Ns.eq_2 Ns.eq_3
attribute [go_sem] Ns.eq_4 Ns.eq_5 Lg.eq_1 Lg.eq_2 Lg.eq_3 Lg.eq_4 Lg.eq_5 Lg.eq_6 Lg.eq_7 Lg.eq_8 Lg.eq_9 Lg.eq_10
attribute [go_sem] Lg.eq_11 Lg.eq_12 Lg.eq_13 Lg.eq_14 Lg.eq_15 Bk7.eq_1 Bk7.eq_2 Er.eq_1 Er.eq_2 Er.eq_3 Ab2.eq_1 Ab2.eq_2
attribute [go_sem] Xu.eq_1 Xu.eq_2 Am0.eq_1 Az0.eq_1 Az1.eq_1 Cm8.eq_1 Cm8.eq_2 Qy.eq_1 Qy.eq_2 Qy.eq_3 Qy.eq_4 Qy.eq_5
attribute [go_sem] Kz.eq_1 Kz.eq_2 Kr.eq_1 Kr.eq_2 Ed.eq_1 Um.eq_1 Um.eq_2 Um.eq_3 Um.eq_4 Um.eq_5 Um.eq_6 Um.eq_7
attribute [go_sem] Um.eq_8 Um.eq_9 Um.eq_10 Um.eq_11 Um.eq_12 Um.eq_13 Um.eq_14 Um.eq_15 Ab3.eq_1 Ab3.eq_2 Si.eq_1 Si.eq_2
attribute [go_sem] Si.eq_3 Si.eq_4 Si.eq_5 Si.eq_6 Si.eq_7 Am1.eq_1 Am1.eq_2 Ix.eq_1 Ix.eq_2 Ix.eq_3 dUn.eq_1 dUn.eq_2
attribute [go_sem] dUn.eq_3 Lr.eq_1 Lr.eq_2 Ls.eq_1 Ls.eq_2 Qz.eq_1 Qz.eq_2 Ju.eq_1 dLo.eq_1 dLo.eq_2 dHi.eq_1 dHi.eq_2
attribute [go_sem] Sj.eq_1 Sk.eq_1 Mp.eq_1 Zs.eq_1 Bv4.eq_1 Tm.eq_1 Tm.eq_2 Tm.eq_3 Tm.eq_4 Tm.eq_5 Tm.eq_6 Tm.eq_7
attribute [go_sem] Lh.eq_1 Lh.eq_2 Ra.eq_1 Ra.eq_2 Ic.eq_1 Ab5.eq_1 Ab5.eq_2 Ab5.eq_3 Ar2.eq_1 Ar2.eq_2 Tn.eq_1 Ie.eq_1
attribute [go_sem] Ie.eq_2 Ie.eq_3 Wl.eq_1 Wl.eq_2 Nt.eq_1 Un.eq_1 Un.eq_2 Lp.eq_1 Lp.eq_2 Lp.eq_3 Lp.eq_4 Ej.eq_1
attribute [go_sem] Ej.eq_2 Cb2.eq_1 Cb2.eq_2 Cb2.eq_3 Cb2.eq_4 Cb2.eq_5 Ar3.eq_1 Nu.eq_1 Lt.eq_1 Lt.eq_2 Lt.eq_3 Lt.eq_4
attribute [go_sem] Hh.eq_1 Hh.eq_2 Ab6.eq_1 Ab6.eq_2 Uo.eq_1 Nv.eq_1 Cn0.eq_1 Cn0.eq_2 Cn0.eq_3 Cn1.eq_1 Ab7.eq_1 Bv5.eq_1
attribute [go_sem] Ar4.eq_1 Ar4.eq_2 Ab8.eq_1 Az2.eq_1 Jd.eq_1 Up.eq_1 Rb.eq_1 Rb.eq_2 Mj.eq_1 Mj.eq_2 Mj.eq_3 Mj.eq_4
attribute [go_sem] Ou.eq_1 Ou.eq_2 Ou.eq_3 Ek.eq_1 Ek.eq_2 Je.eq_1 Je.eq_2 Je.eq_3 Bv6.eq_1 Am3.eq_1 Il.eq_1 Ar5.eq_1
attribute [go_sem] Ar5.eq_2 Uq.eq_1 Ur.eq_1 Mq.eq_1 Bk8.eq_1 Tp.eq_1 Tp.eq_2 Bk9.eq_1 Us.eq_1 Us.eq_2 Az3.eq_1 Az3.eq_2
attribute [go_sem] Ab9.eq_1 Ac0.eq_1 Ut.eq_1 Am4.eq_1 Nw.eq_1 Nw.eq_2 dMM.eq_1 Jf.eq_1 Jf.eq_2 Jf.eq_3 Ia.eq_1 Ia.eq_2
attribute [go_sem] Ar6.eq_1 Ar6.eq_2 Wm.eq_1 Wm.eq_2 Rc.eq_1 Ha.eq_1 Ha.eq_2 Ha.eq_3 Ha.eq_4 Ha.eq_5 Ha.eq_6 Ha.eq_7
attribute [go_sem] Ha.eq_8 Mr.eq_1 Mr.eq_2 Mr.eq_3 Le.eq_1 Le.eq_2 Le.eq_3 Bl0.eq_1 Bl0.eq_2 Bl0.eq_3 Bl0.eq_4 Bl0.eq_5
attribute [go_sem] Bl0.eq_6 Ar7.eq_1 Ar7.eq_2 Ff.eq_1 Ff.eq_2 Ff.eq_3 Ff.eq_4 Ff.eq_5 Zt.eq_1 Zt.eq_2 Ar8.eq_1 Ar8.eq_2
attribute [go_sem] Ar8.eq_3 Ar8.eq_4 Ar8.eq_5 Bv7.eq_1 Bv7.eq_2 Bv7.eq_3 Bv7.eq_4 Bv7.eq_5 Dl3.eq_1 Dl3.eq_2 Di.eq_1 Fc.eq_1
attribute [go_sem] Fc.eq_2 Tu Tv Ri Qp Rj Qq Nx Ny Oz Rk Nz
attribute [go_sem] Oa Pa Jy Jz Bm8 Bm9 Cd1 Cd2 Cd3 Dd5 Cd4 Bn0
attribute [go_sem] Cp0 Cd5 Dd6 Cd6 Dd7 As4 Bn1 Bn2 Cp1 Bn3 Cp2 Ac7
attribute [go_sem] As5 As6 Bn4 As7 Bn5 As8 Bn6 Bn7 Cp3 Bn8 Cp4 Aj7
attribute [go_sem] Bb1 Bb2 Cd7 Ac8 As9 Bb3 Cd8 Cd9 Dd8 Ce0 Ce1 Ce2
attribute [go_sem] Ce3 Ce4 Ce5 Cp5 Ce6 At0 Ce7 Ce8 Ce9 Cf0 Cf1 Cf2
attribute [go_sem] Cf3 Cf4 Aj8 Bb4 At1 Zg Aj9 Ak0 Wt Ac9 Ad0 At2
attribute [go_sem] At3 Ad1 At4 At5 Bn9 Zh Ak1 Ak2 Bb5 Ad2 At6 Tw
attribute [go_sem] Bo0 Cf5 At7 At8 Ad3 At9 Ak3 Ad4 Cf6 Bb6 Bo1
end Go.Dl

-- THE DATA LEVEL, PART W: code, functions.
namespace Go.Dl
open Go
section
variable {P:Program} {G:Nat->DVal} {N:Fr}
variable {s s0:DS} {a:Act} {w w0:World} {Q:DExit->DS->Prop}
theorem Rd.refl (s:DS):Rd G s s:=fun w hH hG=>⟨hH,fun b h=>h,hG,fun i x h=>h⟩
theorem Rd.sim {s':DS} (h:Rd G s s') (hS:Sim G N s a w):Sim G N s' a w/\Ext s.heap w s'.heap w:=by
 obtain⟨h1,h2,h3,h4⟩:=h w hS.heap hS.glob;exact⟨⟨hS.size,hS.defers.less h2,fun i hi=>h4 i _ (hS.tmps i hi),h1,h3,hS.base⟩,⟨rfl,rfl,rfl,Nat.le_refl _,fun _ _ _=>rfl,fun b hb=> .inl (h2 b hb),fun _ _=>rfl,fun _ _ _=>rfl⟩⟩
theorem Bo2 {e:Exit} {a':Act} {w' w1:World} {s1:DS} (h:Lf G N Q s1 w1 e a' w') (hE:Ext s0.heap w0 s1.heap w1):Lf G N Q s0 w0 e a' w':=by
 obtain⟨e',s',hq,hx,hS,hE'⟩:=h;exact⟨e',s',hq,hx,hS,hE.trans hE'⟩
theorem Bo3 {F:Fence} {n:Nat} {c:Code} {ι:Type} (I:ι->DS->Prop) (μ:ι->Nat) (i:ι) (hS:Sim G N s a w) (hI:I i s) (hE:Ext s0.heap w0 s.heap w)
  (round: ∀i s a w,Sim G N s a w->I i s->c.wpIn F n P (Lf G N (Ff (fun s1=> ∃j s2,Rd G s1 s2/\I j s2/\μ j<μ i) Q) s w) a w):(Code.loop c).wpIn F n P (Lf G N Q s0 w0) a w:=by
 intro b k cs hro hb hr;have key: ∀n i s a w,μ i=n->I i s->Sim G N s a w->Ext s0.heap w0 s.heap w->
   ∃e a' w',Lf G N Q s0 w0 e a' w'/\ArrivesIn (Machine.fenced P F) P (lone (b.atR a (.code c:: .inLoop c::k)) cs w) b k cs e a' w':=by
  intro n
  induction n using Nat.strongRecOn with
  | _ n ih=>
   intro i s a w hn hI hS hE;obtain⟨e,a₁,w₁,hq,harr⟩:=round i s a w hS hI b (.inLoop c::k) cs hro hb hr;obtain⟨e',s₁,hQ,hX,hS₁,hE₁⟩:=hq;have hE':=hE.trans hE₁;cases hX with
   | normal=>
    obtain⟨j,s₂,hg,hI₂,hlt⟩:=hQ;obtain⟨hS₂,hE₂⟩:=hg.sim hS₁;obtain⟨e₂,a₂,w₂,hq₂,harr₂⟩:=ih (μ j) (hn▸hlt) j s₂ a₁ w₁ rfl hI₂ hS₂ (hE'.trans hE₂);exact⟨e₂,a₂,w₂,hq₂, .of_steps (StepsIn.trans harr (.one (fenced_calm hb hr rfl) stepR_inLoop)) harr₂⟩
   | exit id=>exact⟨_,a₁,w₁,⟨_,s₁,hQ, .exit id,hS₁,hE'⟩, .pass (x:= .inLoop c) rfl (fun _ _=> .inl (by simp)) harr⟩
   | goto l=>exact⟨_,a₁,w₁,⟨_,s₁,hQ, .goto l,hS₁,hE'⟩, .pass (x:= .inLoop c) rfl (fun _ _=> .inl (by simp)) harr⟩
   | ret=>exact⟨_,a₁,w₁,⟨_,s₁,hQ, .ret,hS₁,hE'⟩, .pass (x:= .inLoop c) rfl (fun _ _=> .inl (by simp)) harr⟩
   | panic d v hv=>exact⟨_,a₁,w₁,⟨_,s₁,hQ, .panic d v hv,hS₁,hE'⟩, .pass (x:= .inLoop c) rfl (fun _ _=> .inl (by simp)) harr⟩
 obtain⟨e,a',w',hq,harr⟩:=key _ i s a w rfl hI hS hE;exact⟨e,a',w',hq, .of_steps (.one (fenced_calm hb hr rfl) stepR_loop) harr⟩
theorem Sx {F:Fence} {n:Nat} {c:Code} {Q1 Q2:Exit->Act->World->Prop} (h:c.wpIn F n P Q1 a w) (hq: ∀e a w,Q1 e a w->(∀l,e≠ .goto l)/\Q2 e a w):(Code.scope c).wpIn F n P Q2 a w:=by
 intro b k cs hro hb hr;have h0:(lone (b.atR a (.code (.scope c)::k)) cs w).fenced P F:=fenced_calm hb hr rfl;have s0:step P (lone (b.atR a (.code (.scope c)::k)) cs w)= .next (lone (b.atR a (.code c:: .inScope c::k)) cs w):=step_lone_go (by simp [stepG,stepG.exec,Frame.atR])
 have s1: ∀(a:Act) (w:World),step P (lone (b.atR a (.inScope c::k)) cs w)= .next (lone (b.atR a k) cs w):=fun a w=>step_lone_go (by simp [stepG,stepG.exec,Frame.atR])
 obtain⟨e,a₁,w₁,hq1,harr⟩:=h b (.inScope c::k) cs hro hb hr;obtain⟨hg,hq2⟩:=hq _ _ _ hq1;cases e with
 | normal=>exact⟨.normal,a₁,w₁,hq2, .head h0 s0 (StepsIn.trans harr (.one (fenced_calm hb hr rfl) (s1 _ _)))⟩
 | exit id=>
  have hx:exitTo id (.inScope c::k)=exitTo id k:=by simp [exitTo]
  exact⟨.exit id,a₁,w₁,hq2,fun k' hk=> .head h0 s0 (harr.1 k' (by rw[hx];exact hk)),
   fun hr' hk=>let ⟨k₁,h1,h2⟩:=harr.2 hr' (by rw[hx];exact hk);⟨k₁,h1, .head h0 s0 h2⟩⟩
 | goto l=>exact absurd rfl (hg l)
 | ret=>exact⟨_,a₁,w₁,hq2, .of_steps (.one h0 s0) harr⟩
 | panic ch=>exact⟨_,a₁,w₁,hq2, .of_steps (.one h0 s0) harr⟩
 | outgrown=>exact⟨_,a₁,w₁,hq2, .of_steps (.one h0 s0) harr⟩
def Mk:Code->Bool
 | .seq a b=>Mk a&&Mk b
 | .cond _ a b=>Mk a&&Mk b
 | .block _ c=>Mk c
 | .loop c=>Mk c
 | .scope c=>Mk c
 | .rangeFunc _ _ _ _=>false
 | _=>true
theorem Eu {N:Nat} {F:Fence} {n:Nat} {B:Base} (hF:FOk F): ∀(c:Code),El N c=true->(F=Fence.wide/\B.still=false\/Mk c=true)-> ∀(Q:DExit->DS->Prop) (s:DS),dwp P G N c Q s->
  ∀(a:Act) (w:World),Sim G ⟨N,B⟩ s a w->c.wpIn F n P (fun e a' w'=> ∃e' s',Q e' s'/\RelX w' s'.heap e' e/\Sim G ⟨N,B⟩ s' a' w'/\Ext s.heap w s'.heap w') a w
 | .skip,_,_,Q,s,h=>fun a w hS=>wpIn_skip ⟨.normal,s,h, .normal,hS,Ext.refl _ _⟩
 | .label l,_,_,Q,s,h=>fun a w hS=>wpIn_label ⟨.normal,s,h, .normal,hS,Ext.refl _ _⟩
 | .region id ops false,hok,_,Q,s,h=>fun a w hS=>by
  have hok':ops.toList.all (Gm N)=true:=by
   have:ops.all (Gm N)=true:=hok;rw[Ac6] at this;exact this
  have h1:=Tt (n:=n) hF (P:=P) (G:=G) (N:=⟨N,B⟩) (s0:=s) (w0:=w) (Q:=Q) ops.toList hok' ops.toList hok' s a w hS (Ext.refl _ _) h;have:ops=ops.toList.toArray:=by simp
  rw[this];exact wpIn_region_lit h1
 | .region id ops true,_,_,Q,s,h=>fun a w hS=>h F n B hF a w hS
 | .seq x y,hok,hfl,Q,s,h=>fun a w hS=>by
  simp only[El,Bool.and_eq_true] at hok;simp only[Mk,Bool.and_eq_true] at hfl;refine wpIn_seq (wpIn_mono (Eu hF x hok.1 (hfl.imp id (·.1)) _ s h a w hS) ?_);rintro e a' w' ⟨e',s',hQ,hX,hS',hE⟩;cases hX with
  | normal=>exact wpIn_mono (Eu hF y hok.2 (hfl.imp id (·.2)) Q s' hQ a' w' hS') fun e a w he=>Bo2 he hE
  | exit id=>exact⟨_,s',hQ, .exit id,hS',hE⟩
  | goto l=>exact⟨_,s',hQ, .goto l,hS',hE⟩
  | ret=>exact⟨_,s',hQ, .ret,hS',hE⟩
  | panic d v hv=>exact⟨_,s',hQ, .panic d v hv,hS',hE⟩
 | .cond c x y,hok,hfl,Q,s,h=>fun a w hS=>by
  simp only[El,Bool.and_eq_true] at hok;simp only[Mk,Bool.and_eq_true] at hfl;have r:=Bx hS hok.1.1;simp only[dwp] at h;cases hv:dev G s.env c<;>rw[hv] at h r<;>try exact h.elim
  rename_i b
  simp only[Rel] at r;cases b
  ·exact wpIn_cond_false r (Eu hF y hok.2 (hfl.imp id (·.2)) Q s h a w hS)
  ·exact wpIn_cond_true r (Eu hF x hok.1.2 (hfl.imp id (·.1)) Q s h a w hS)
 | .block id c,hok,hfl,Q,s,h=>fun a w hS=>by
  simp only[El] at hok;simp only[Mk] at hfl;refine wpIn_block (wpIn_mono (Eu hF c hok hfl _ s h a w hS) ?_);rintro e a' w' ⟨e',s',hQ,hX,hS',hE⟩;cases hX with
  | normal=>exact⟨_,s',hQ, .normal,hS',hE⟩
  | exit id'=>
   simp only[Exit.inBlock];simp only[Ar8] at hQ;by_cases hid:id'=id
   ·rw[if_pos hid];simp only[hid,decide_true,Zt] at hQ;exact⟨_,s',hQ, .normal,hS',hE⟩
   ·rw[if_neg hid];simp only[hid,decide_false,Zt] at hQ;exact⟨_,s',hQ, .exit id',hS',hE⟩
  | goto l=>exact⟨_,s',hQ, .goto l,hS',hE⟩
  | ret=>exact⟨_,s',hQ, .ret,hS',hE⟩
  | panic d v hv=>exact⟨_,s',hQ, .panic d v hv,hS',hE⟩
 | .loop c,hok,hfl,Q,s,h=>fun a w hS=>by
  simp only[El] at hok;simp only[Mk] at hfl;obtain⟨ι,I,μ,⟨i,s',hg,hI⟩,hround⟩:=h;obtain⟨hS',hE'⟩:=hg.sim hS;exact Bo3 I μ i hS' hI hE' fun i1 s1 a1 w1 hS1 hI1=>Eu hF c hok hfl _ s1 (hround i1 s1 hI1) a1 w1 hS1
 | .rangeFunc _ _ _ _,_,hfl,_,_,h=>fun a w hS=>by
  rcases hfl with⟨rfl,hst⟩ | hfl
  ·exact h n B hst a w hS
  ·cases hfl
 | .exit id,_,_,Q,s,h=>fun a w hS=>wpIn_exit ⟨.exit id,s,h, .exit id,hS,Ext.refl _ _⟩
 | .scope c,hok,hfl,Q,s,h=>fun a w hS=>by
  simp only[El] at hok;simp only[Mk] at hfl;refine Sx (Eu hF c hok hfl _ s h a w hS) ?_;rintro e a' w' ⟨e',s',hQ,hX,hS',hE⟩;cases hX with
  | normal=>exact⟨by simp,_,s',hQ, .normal,hS',hE⟩
  | exit id'=>exact⟨by simp,_,s',hQ, .exit id',hS',hE⟩
  | goto l=>exact hQ.elim
  | ret=>exact⟨by simp,_,s',hQ, .ret,hS',hE⟩
  | panic d v hv=>exact⟨by simp,_,s',hQ, .panic d v hv,hS',hE⟩
 | .goto l,_,_,Q,s,h=>fun a w hS=>wpIn_goto ⟨.goto l,s,h, .goto l,hS,Ext.refl _ _⟩
 | .ret,_,_,Q,s,h=>fun a w hS=>wpIn_ret ⟨.ret,s,h, .ret,hS,Ext.refl _ _⟩
 | .refuse _,_,_,_,_,h=>h.elim
theorem Bo4 {N:Nat} (c:Code) (hok:El N c=true) (Q:DExit->DS->Prop) (s:DS) (h:dwp P G N c Q s):Dy9 P G N c Q s:=
 fun _ _ hst a w hS=>Eu (.inl rfl) c hok (.inl ⟨rfl,hst⟩) Q s h a w hS
def Rl (size:Nat) (cs:List DVal) (off:Nat):Option Bool->Option DVal
 | some true=>if off+size<=cs.length then some (.agg ((cs.drop off).take size)) else none
 | some false=>cs[off]?
 | none=>none
def Sn (size:Nat) (ag:Option Bool) (off:Nat):Option DObj->Option DVal
 | some (.cells cs _)=>Rl size cs off ag
 | _=>none
def Bo5 (size:Nat) (ag:Option Bool) (H:Bb):DVal->Option DVal
 | .optr r off=>Sn size ag off (H r)
 | _=>none
def Ad5 (P:Program) (s:DS):ResultVar->Option DVal
 | .tmp t=>some (s.env t)
 | .cell x t=>Bo5 (P.cellsOf t) (Dg P t) s.heap (s.env x)
def Bb7:Option DVal->Option (List DVal)->Option (List DVal)
 | some d,some ds=>some (d::ds)
 | _,_=>none
def Hw (P:Program) (s:DS):List ResultVar->Option (List DVal)
 | []=>some []
 | r::rs=>Bb7 (Ad5 P s r) (Hw P s rs)
def Fw:Option (List DVal)->Option DVal
 | some [d]=>some d
 | some ds=>some (.tuple ds)
 | none=>none
def Rm (R:DEnd->Bb->Prop) (v:DVal) (H:Bb):Prop:=
 ∃v' H',(∀w,Bw w H->Bw w H'/\(∀b,H' b≠none->H b≠none)/\ ∀x,Rel w H v x->Rel w H' v' x)/\R (.ret v') H'
def Dl5 (R:DEnd->Bb->Prop) (v:DVal) (H:Bb):Prop:=
 ∃v' H',(∀w,Bw w H->Bw w H'/\(∀b,H' b≠none->H b≠none)/\ ∀x,Rel w H v x->Rel w H' v' x)/\R (.panic v') H'
def Xx (R:DEnd->Bb->Prop) (H:Bb):Option DVal->Prop
 | some v=>Rm R v H
 | none=>False
def Bw3 (P:Program) (rs:List ResultVar) (R:DEnd->Bb->Prop):DExit->DS->Prop
 | .normal,s=>Xx R s.heap (Fw (Hw P s rs))
 | .ret,s=>Xx R s.heap (Fw (Hw P s rs))
 | .panic v,s=>Dl5 R v s.heap
 | _,_=>False
def Iq:List DVal->Nat->(Nat->DVal)
 | [],_=>fun _=>Di
 | x::xs,k=>upd (Iq xs (k+1)) k x
def Xy (N:Nat):ResultVar->Bool
 | .tmp t=>decide (t<N)
 | .cell x _=>decide (x<N)
theorem Rm.refl {R:DEnd->Bb->Prop} {v:DVal} {H:Bb} (h:R (.ret v) H):Rm R v H:=⟨v,H,fun w hH=>⟨hH,fun b hb=>hb,fun x hx=>hx⟩,h⟩
theorem Dl5.refl {R:DEnd->Bb->Prop} {v:DVal} {H:Bb} (h:R (.panic v) H):Dl5 R v H:=⟨v,H,fun w hH=>⟨hH,fun b hb=>hb,fun x hx=>hx⟩,h⟩
theorem Cp6 (hS:Sim G N s a w) {r:ResultVar} (hr:Xy N r=true) {d:DVal} (h:Ad5 P s r=some d):
  ∃x,((match r with
  | .tmp t=>pure (a.tmps.getD t undef)
  | .cell x t=>do loadVar t (←asAddr (a.tmps.getD x undef))):Sem Value).run P w= .ok x w/\Rel w s.heap d x:=by
 cases r with
 | tmp t=>
  simp only[Ad5] at h;cases h
  exact⟨_,rfl,hS.tmps t (by simpa [Xy] using hr)⟩
 | cell x t=>
  simp only[Ad5] at h
  have rx:=hS.tmps x (by simpa [Xy] using hr)
  cases hv:s.env x<;>rw[hv] at h rx<;>simp only[Bo5] at h<;>try (cases h;done)
  rename_i r0 off
  simp only[Rel] at rx
  cases hh:s.heap r0 with
  | none=>rw[hh] at h;cases h
  | some ob=>
   cases ob with
   | loop=>rw[hh] at h;simp only[Sn] at h;cases h
   | iter=>rw[hh] at h;simp only[Sn] at h;cases h
   | map=>rw[hh] at h;simp only[Sn] at h;cases h
   | cells cs e=>
    rw[hh] at h
    simp only[Sn] at h
    obtain⟨xs,hl,hho⟩:=hS.heap.holds hh
    have hlx:=hl.length
    have e0: ∀z,(do loadVar t (←asAddr z):Sem Value)=(do let ad<-asAddr z;loadVar t ad):=fun z=>rfl
    simp only[rx,asAddr]
    cases hag:Dg P t with
    | none=>rw[hag] at h;cases h
    | some ag=>
     rw[hag] at h
     cases ag with
     | true=>
      simp only[Rl] at h
      split at h<;>try (cases h;done)
      rename_i hle
      cases h
      have hx:Hr w r0 off ((xs.drop off).take (P.cellsOf t)):=by
       have:=(hho.drop (n:=off)).take (n:=P.cellsOf t)
       simpa using this
      have hln:((xs.drop off).take (P.cellsOf t)).length=P.cellsOf t:=by
       simp;omega
      refine⟨_,by simp [Qe hag hx hln];rfl, ?_⟩
      simp only[Rel]
      exact⟨_,rfl,(hl.drop off).take _⟩
     | false=>
      simp only[Rl] at h
      obtain⟨x,hx,hrel⟩:=hl.get h
      have:=hho off x hx
      rw[Nat.zero_add] at this
      exact⟨x,by simp [Qf hag this],hrel⟩
theorem Bb8 (hS:Sim G N s a w): ∀ {rs:List ResultVar},rs.all (Xy N)=true-> ∀ {ds:List DVal},Hw P s rs=some ds->
  ∃xs,(rs.mapM (fun r=>(match r with
  | .tmp t=>pure (a.tmps.getD t undef)
  | .cell x t=>do loadVar t (←asAddr (a.tmps.getD x undef)):Sem Value))).run P w= .ok xs w/\Br w s.heap ds xs
 | [],_,ds,h=>by
  simp only[Hw] at h;cases h
  exact⟨[],by simp,by simp [Br]⟩
 | r::rs,hok,ds,h=>by
  simp only[List.all_cons,Bool.and_eq_true] at hok
  simp only[Hw] at h
  cases h1:Ad5 P s r with
  | none=>rw[h1] at h;cases h
  | some d=>
   cases h2:Hw P s rs with
   | none=>rw[h1,h2] at h;cases h
   | some ds'=>
    rw[h1,h2] at h
    simp only[Bb7] at h;cases h
    obtain⟨x,hx,hr⟩:=Cp6 (P:=P) hS hok.1 h1
    obtain⟨xs,hxs,hrs⟩:=Bb8 hS hok.2 h2
    refine⟨x::xs, ?_,by simp only[Br];exact⟨x,xs,rfl,hr,hrs⟩⟩
    simp only[List.mapM_cons,Sem.run_bind,hx,hxs,Result.andThen_ok,Sem.run_pure]
theorem Xz (hS:Sim G N s a w) {fn:Func} (hok:fn.results.toList.all (Xy N)=true) {d:DVal} (h:Fw (Hw P s fn.results.toList)=some d):
  ∃x,(results fn a.tmps).run P w= .ok x w/\Rel w s.heap d x:=by
 cases h2:Hw P s fn.results.toList with
 | none=>rw[h2] at h;cases h
 | some ds=>
  rw[h2] at h
  obtain⟨xs,hxs,hrs⟩:=Bb8 (P:=P) hS hok h2
  have hrun:(results fn a.tmps).run P w= .ok (if h:xs.toArray.size=1 then xs.toArray[0] else .tuple xs.toArray) w:=by
   unfold results
   rw[Array.mapM_eq_mapM_toList]
   simp only[Sem.run_bind,Sem.run_map]
   have:(fn.results.toList.mapM (fun r=>(match r with
    | .tmp t=>pure (a.tmps.getD t undef)
    | .cell x t=>do loadVar t (←asAddr (a.tmps.getD x undef)):Sem Value))).run P w= .ok xs w:=hxs
   first
    | rw[this]
    | (show((Sem.run P (fn.results.toList.mapM (fun r=>(match r with
    | .tmp t=>pure (a.tmps.getD t undef)
    | .cell x t=>do loadVar t (←asAddr (a.tmps.getD x undef)):Sem Value))) w).andThen _).andThen _=_;rw[this])
   rfl
  have hl:=hrs.length
  refine⟨_,hrun, ?_⟩
  cases ds with
  | nil=>
   simp only[Fw] at h;cases h
   simp only[Br] at hrs;subst hrs
   simp only[Rel]
   exact⟨#[],rfl,by simp [Br]⟩
  | cons d1 ds=>
   cases ds with
   | nil=>
    simp only[Fw] at h;cases h
    simp only[Br] at hrs
    obtain⟨y,ys,rfl,hy,rfl⟩:=hrs
    simpa using hy
   | cons d2 ds=>
    simp only[Fw] at h;cases h
    have:xs.toArray.size≠1:=by simp at hl⊢;omega
    rw[dif_neg this]
    simp only[Rel]
    exact⟨_,rfl,hrs⟩
theorem Wu: ∀(args:List DVal) (k i:Nat),Iq args k (k+i)=args.getD i Di
 | [],k,i=>rfl
 | x::xs,k,0=>by simp [Iq,upd]
 | x::xs,k,i+1=>by
  simp only[Iq,upd];rw[if_neg (by omega)];have:=Wu xs (k+1) i;rw[show k+(i+1)=k+1+i by omega,this];simp
def Dq3 (fn:Func) (n:Nat):Bool:=
 decide (n<=fn.ntmps)&&(match fn.body with | some c=>El fn.ntmps c | none=>false)&&fn.results.toList.all (Xy fn.ntmps)
theorem Cf7 {w:World} {D:Nat} (hD:w.heap[D]? =some (.deferred (some []))) (H:Bb):Lasts H w H (w.putObj D (.deferred none)):=Oy hD rfl rfl H
theorem Dd9 {w:World} {D:Nat} {H:Bb} (hD:w.heap[D]? =some (.deferred (some []))) (hH:Bw w H) (hn:H D=none):Bw (w.putObj D (.deferred none)) H:=Bl6 hD rfl rfl hH hn
theorem De0 {w w0:World} {D:Nat} {H H0:Bb} (hD:w.heap[D]? =some (.deferred (some []))) (hB:w0.heap.size<=D) (hE:Ext H0 w0 H w):Ext H0 w0 H (w.putObj D (.deferred none)):=by
 refine⟨hE.os,hE.tape,hE.output,by simpa [World.putObj] using hE.size,fun b hb hn=> ?_,hE.own,fun b hb=> ?_,fun a ha hn=> ?_⟩
 ·rw[World.putObj_heap_other (by omega)];exact hE.block b hb hn
 ·rw[World.putObj_heap_other (by omega)];exact hE.keep b hb
 ·rw[<-hE.fz a ha hn];exact Am6 hD rfl rfl a
theorem Sim.leaveT {F:Fence} {n:Nat} {H0:Bb} {w0:World} {fn:Func} {tmps:Array Value} {R:Ending->World->Prop} {u:FrameMode} {T:List Deferred} (hu:u≠ .run) (hB:N.base=⟨w0.heap.size,T,false⟩) {a:Act}:
  ∀(Ds:List Nat) (w:World),Ds.Nodup->(∀D∈Ds,(N.base.b<=D/\N.base.still=false)/\w.heap[D]? =some (.deferred (some []))/\s.heap D=none)->
   Sim G N s { tmps:=a.tmps,defers:=Ds.map (fun D=>({ target:= .collected D,args:= #[] }:Deferred))++T } w->Ext H0 w0 s.heap w->
   (∀w',Sim G N s { tmps:=a.tmps,defers:=T } w'->Ext H0 w0 s.heap w'->Lasts s.heap w s.heap w'->LeavesInM F n P fn tmps R T u w')->
   LeavesInM F n P fn tmps R (Ds.map (fun D=>({ target:= .collected D,args:= #[] }:Deferred))++T) u w
 | [],w,_,_,hS,hE,h=>h w hS hE (Ext.refl _ _).lasts
 | D::Ds,w,h2,h3,hS,hE,h=>by
  have hB':N.base.b=w0.heap.size:=by rw[hB]
  have hT:N.base.late=T:=by rw[hB]
  obtain⟨g1,g2,g3⟩:=h3 D (by simp);have hl:=Cf7 g2 s.heap;have hnd:=List.nodup_cons.1 h2;have h4: ∀D'∈Ds,(N.base.b<=D'/\N.base.still=false)/\(w.putObj D (.deferred none)).heap[D']? =some (.deferred (some []))/\s.heap D'=none:=fun D' hD'=>⟨(h3 D' (by simp [hD'])).1,by
   have hne:D'≠D:=fun e=>hnd.1 (by rw[<-e];exact hD');rw[World.putObj_heap_other hne];exact(h3 D' (by simp [hD'])).2.1,(h3 D' (by simp [hD'])).2.2⟩
  refine⟨hu, .inl ⟨D,_,rfl,run_takeDeferred g2,Sim.leaveT hu hB Ds _ hnd.2 h4 ?_ (De0 g2 (by omega) hE) fun w' hS' hE' hl'=>h w' hS' hE' ?_⟩⟩
  ·exact⟨hS.size,⟨Ds,by rw[hT],hnd.2,h4⟩,
    fun i hi=>Rel.lasts hl _ _ (hS.tmps i hi),Dd9 g2 hS.heap g3,hS.glob.lasts hl,by simpa [World.putObj] using hS.base⟩
  ·exact⟨fun b i x hb hc=>hl'.cell b i x hb (hl.cell b i x hb hc).2,Nat.le_trans hl.size hl'.size,fun b hb=>by rw[hl'.keep b (Nat.lt_of_lt_of_le hb hl.size),hl.keep b hb]⟩
theorem Sim.leaveL {F:Fence} {n:Nat} {H0:Bb} {w0:World} {fn:Func} {tmps:Array Value} {R:Ending->World->Prop} {u:FrameMode} {T:List Deferred} (hu:u≠ .run) (hB:N.base=⟨w0.heap.size,T,false⟩) {a:Act}
  (ds:List Deferred) (w:World) (hS:Sim G N s { tmps:=a.tmps,defers:=ds } w) (hE:Ext H0 w0 s.heap w)
  (h: ∀w',Sim G N s { tmps:=a.tmps,defers:=T } w'->Ext H0 w0 s.heap w'->Lasts s.heap w s.heap w'->LeavesInM F n P fn tmps R T u w'):LeavesInM F n P fn tmps R ds u w:=by
 obtain⟨Ds,h1,h2,h3⟩:=hS.defers;have hT:N.base.late=T:=by rw[hB]
 rw[hT] at h1;dsimp only at h1;subst h1;exact Sim.leaveT hu hB Ds w h2 h3 hS hE h
theorem Sim.leave {F:Fence} {n:Nat} {H0:Bb} {w0:World} {fn:Func} {tmps:Array Value} {R:Ending->World->Prop} {u:FrameMode} (hu:u≠ .run) (hB:N.base=⟨w0.heap.size,[],false⟩) {a:Act}:
  ∀(ds:List Deferred) (w:World),Sim G N s { tmps:=a.tmps,defers:=ds } w->Ext H0 w0 s.heap w->
   (∀w',Sim G N s { tmps:=a.tmps,defers:= [] } w'->Ext H0 w0 s.heap w'->Lasts s.heap w s.heap w'->LeavesIn F n P fn tmps R [] u w')->LeavesInM F n P fn tmps R ds u w:=
 fun ds w hS hE h=>Sim.leaveL (T:= []) hu hB ds w hS hE h
theorem Bc {f:FuncId} {fn:Func} {c:Code} {args:List DVal} {H:Bb} {R:DEnd->Bb->Prop} (hf:P.funcs[f]? =some fn)
  (hcall: ∀vs w,(callFunc f vs).run P w= .ok (.enter f vs) w) (hb:fn.body=some c) (hk:Dq3 fn args.length=true)
  (h:dwp P G fn.ntmps c (Bw3 P fn.results.toList R) ⟨Iq args 0,H⟩):Bh P G f args H R:=by
 unfold Dq3 at hk;rw[hb] at hk;simp only[Bool.and_eq_true,decide_eq_true_eq] at hk;obtain⟨⟨hA,hok⟩,hres⟩:=hk;refine⟨hcall,fun vs w hv hH hG=> ?_⟩;have hl:=hv.length;refine(callsIn_wide (n:=0)).1 (callsIn_of_wp_marks hf hb trivial ?_);have hS:Sim G ⟨fn.ntmps,⟨w.heap.size,[],false⟩⟩ ⟨Iq args 0,H⟩ { tmps:=vs.toArray++Array.replicate (fn.ntmps-vs.toArray.size) undef,defers:= [] } w:=by
  refine⟨by simp;omega,Dfs.nil _ _ _,fun i hi=> ?_,hH,hG,Nat.le_refl _⟩;have h0:=Wu args 0 i;rw[Nat.zero_add] at h0;show Rel w H (Iq args 0 i) _;rw[h0];by_cases hlt:i<args.length
  ·have h1:args[i]? =some (args.getD i Di):=by simp [List.getD,List.getElem?_eq_getElem hlt]
   obtain⟨x,hx,hr⟩:=hv.get h1;have:(vs.toArray++Array.replicate (fn.ntmps-vs.toArray.size) undef).getD i undef=x:=by
    have hlt':i<vs.length:=by omega
    rw[Array.getD_eq_getD_getElem?,Array.getElem?_append_left (by simpa using hlt')];simp [hx]
   rw[this];exact hr
  ·have h1:args.getD i Di=Di:=by simp [List.getD,List.getElem?_eq_none (Nat.le_of_not_lt hlt)]
   have:(vs.toArray++Array.replicate (fn.ntmps-vs.toArray.size) undef).getD i undef=undef:=by
    rw[Array.getD_eq_getD_getElem?,Array.getElem?_append_right (by simp;omega)];simp only[Array.getElem?_replicate];split<;>rfl
   rw[h1,this];exact Ov w H
 refine wpIn_mono (Bo4 c hok _ _ h 0 ⟨w.heap.size,[],false⟩ rfl _ w hS) ?_;rintro e a' w1 ⟨e',s',hQ,hX,hS1,hE1⟩;have fin: ∀(v:DVal),Fw (Hw P s' fn.results.toList)=some v->Rm R v s'.heap->
   LeavesInM Fence.wide 0 P fn a'.tmps (fun e w'=> ∃e' H',R e' H'/\RelE w' H' e' e/\Bw w' H'/\Ext H w H' w') a'.defers .returning w1:=by
  intro v hv hfin;refine Sim.leave (a:=a') (by simp) rfl a'.defers w1 hS1 hE1 fun w' hS' hE' _=> ?_;obtain⟨x,hx,hr⟩:=Xz (P:=P) hS' hres hv;obtain⟨v',H',hg,hR⟩:=hfin;obtain⟨g1,g2,g3⟩:=hg w' hS'.heap;exact⟨x,hx, .ret v',H',hR, .ret v' x (g3 x hr),g1,hE'.trans ⟨rfl,rfl,rfl,Nat.le_refl _,fun _ _ _=>rfl,fun b hb=> .inl (g2 b hb),fun _ _=>rfl,fun _ _ _=>rfl⟩⟩
 cases hX with
 | normal=>
  simp only[Bw3] at hQ;cases hd:Fw (Hw P s' fn.results.toList) with
  | none=>rw[hd] at hQ;exact hQ.elim
  | some v=>rw[hd] at hQ;exact fin v hd hQ
 | ret=>
  simp only[Bw3] at hQ;cases hd:Fw (Hw P s' fn.results.toList) with
  | none=>rw[hd] at hQ;exact hQ.elim
  | some v=>rw[hd] at hQ;exact fin v hd hQ
 | exit id=>exact hQ.elim
 | goto l=>exact hQ.elim
 | panic d v hv=>
  obtain⟨v',H',hg,hR⟩:=hQ;refine Sim.leave (a:=a') (by simp) rfl a'.defers w1 hS1 hE1 fun w' hS' hE' hl=> ?_;obtain⟨g1,g2,g3⟩:=hg w' hS'.heap;exact⟨.panic v',H',hR, .panic v' v (g3 v (Rel.lasts hl _ _ hv)),g1,hE'.trans ⟨rfl,rfl,rfl,Nat.le_refl _,fun _ _ _=>rfl,fun b hb=> .inl (g2 b hb),fun _ _=>rfl,fun _ _ _=>rfl⟩⟩
end
attribute [go_sem] Rl.eq_1 Rl.eq_2 Sn.eq_1 Bo5.eq_1 Ad5.eq_1 Ad5.eq_2 Bb7.eq_1 Hw.eq_1 Hw.eq_2 Fw.eq_1 Xx.eq_1 Bw3.eq_1 Bw3.eq_2 Bw3.eq_3 Iq.eq_1 Iq.eq_2
theorem Bo6 (x y:DVal) (zs:List DVal):Fw (some (x::y::zs))=some (.tuple (x::y::zs)):=rfl
theorem Bo7:Fw (some [])=some (.tuple []):=rfl
attribute [go_sem] Bo6 Bo7
end Go.Dl

-- THE DATA LEVEL, PART X: plain data seen at this level; small words.
namespace Go.Dl
open Go
theorem Cf8 {n:Int} (h1: -9223372036854775808<=n) (h2:n<=9223372036854775807):IntKind.wrap .i64 n=n:=IntWalk.i64_in n ⟨h1,h2⟩
abbrev dI (n:Int):DVal:= .int .i64 n
theorem Cn3.run {G:Nat->DVal} {body:(DExit->DS->Prop)->DK} {Q:DExit->DS->Prop} {s:DS} {ι:Type} (I:ι->(Nat->DVal)->Bb->Prop) (μ:ι->Nat) (i:ι) (h0:I i s.env s.heap)
  (hr: ∀i env heap,I i env heap->body (Ff (fun s1=> ∃j s2,Rd G s1 s2/\I j s2.env s2.heap/\μ j<μ i) Q) ⟨env,heap⟩):Cn3 G body Q s:=
 ⟨ι,fun i s=>I i s.env s.heap,μ,⟨i,s,Rd.refl s,h0⟩,fun i s h=>hr i s.env s.heap h⟩
theorem Dl6 {G:Nat->DVal} {ι:Type} {I:ι->(Nat->DVal)->Bb->Prop} {μ:ι->Nat} {s:DS} {m:Nat} (j:ι) (h:I j s.env s.heap) (hm:μ j<m): ∃j s2,Rd G s s2/\I j s2.env s2.heap/\μ j<m:=⟨j,s,Rd.refl s,h,hm⟩
theorem Bb9 {α:Type} (f:α->DVal) (l:List α) (i:Nat) (h:i<l.length):(l.map f)[i]? =some (f l[i]):=by simp [h]
theorem Dq4 {a b:Prop} (h:a):(a/\b)=b:=by simp [h]
theorem Cp7 {p:Prop} [Decidable p] (h:p):decide p=true:=by simp [h]
theorem Cf9 {p:Prop} [Decidable p] (h: ¬p):decide p=false:=by simp [h]
end Go.Dl
