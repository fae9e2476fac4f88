/- The data level and the contracts of the functions that are reached (part 2). -/
import Derived.Laws.BytesString
import Derived.Laws.RangeString
import Derived.Test.YtddbdpcgikmiaaaGreatDoorPna
set_option linter.unusedSimpArgs false
set_option linter.unusedVariables false
set_option linter.unusedSectionVars false
-- THE DATA LEVEL, PART T: further operatio
namespace Go.Dl
open Go
section
variable {P:Program} {G:Nat->DVal} {N:Fr}
variable {o:Oper} {s:DS} {a:Act} {w:World} {K:DK} {Q:DExit->DS->Prop} {Qx:Exit->Act->World->Prop}
theorem Ae6 {t:TypeId} (h:Fg (P.underlying t)=true): ∃d,P.underlying t=some d/\ ∀m,d≠ .interface m:=by
 cases hu:P.underlying t with
 | none=>rw[hu] at h;cases h
 | some d=>refine⟨d,rfl,fun m e=> ?_⟩;rw[hu,e] at h;cases h
theorem Cb5 (C:Sim G N s a w) (I:Da N o.dst=true) {x:Operand} {J t:TypeId} {ok:Bool} (hx:Ca N x=true) (he:o.op= .typeAssert x J t ok)
  (h:Ql P t ok o.dst (Fg (P.underlying t)) (dev G s.env x) K s):PV P o s a w K:=by
 have D:=Br C hx;generalize hn:Fg (P.underlying t)=nb at h;generalize dev G s.env x=dx at h D;unfold Ql at h;split at h
 ·rename_i t0 v0
  obtain⟨d,hu,L⟩:=Ae6 hn;simp only[Rel] at D;obtain⟨y,hp,S⟩:=D;have E:(execOp a.eval o).run P w=((Instr.typeAssert (.iface t0 y) J t ok).run P w).andThen fun v w'=> .ok (.value v) w':=by
   simp [execOp,he,hp]
  have U:(Instr.typeAssert (.iface t0 y) J t ok).run P w=if t0=t then .ok (if ok then .tuple #[y, .bool true] else y) w else((if ok then(do pure (.tuple #[<-zeroValue t, .bool false])) else runtimePanic (.typeAssertion (some J) (some t0) t "")):Sem Value).run P w:=by
   simp only[Instr.typeAssert,Sem.run_bind,run_underlying hu,Result.andThen_ok];cases d<;>first | exact absurd rfl (L _) | (by_cases e:t0=t<;>simp [e])
  by_cases e:t0=t
  ·subst e;simp only[decide_true] at h;rw[U,if_pos rfl] at E;cases ok
   ·exact pvI C I E S h
   ·refine pvI C I E ?_ h;simp only[Rel];exact⟨_,rfl,by simp only[if_true,Az,Rel];exact⟨_,_,rfl,S,_,_,rfl,rfl,rfl⟩⟩
  ·simp only[e,decide_false] at h;cases ok
   ·exact h.elim
   ·simp only[Ar8] at h;cases hz:Bm P t with
    | none=>rw[hz] at h;exact h.elim
    | some z=>
     rw[hz] at h;obtain⟨i,v,hi,M,rfl⟩:=Ny hz;have O:(zeroValue t).run P w= .ok v w:=by simp [zeroValue,Ry hi,M]
     rw[U,if_neg e] at E;refine pvI C I (x:= .tuple #[v, .bool false]) (by rw[E];simp [O]) ?_ h;simp only[Rel];exact⟨_,rfl,by simp only[Az,Rel];exact⟨_,_,rfl,Gu w s.heap v,_,_,rfl,rfl,rfl⟩⟩
 ·obtain⟨d,hu,L⟩:=Ae6 hn;obtain⟨rfl,h⟩:=h;simp only[Rel] at D;cases hz:Bm P t with
  | none=>rw[hz] at h;exact h.elim
  | some z=>
   rw[hz] at h;obtain⟨i,v,hi,M,rfl⟩:=Ny hz;have O:(zeroValue t).run P w= .ok v w:=by simp [zeroValue,Ry hi,M]
   refine pvI C I (x:= .tuple #[v, .bool false]) ?_ ?_ h
   ·simp only[execOp,he,D,Instr.typeAssert,Sem.run_bind,run_underlying hu,Result.andThen_ok];cases d<;>first | exact absurd rfl (L _) | simp [O]
   ·simp only[Rel];exact⟨_,rfl,by simp only[Az,Rel];exact⟨_,_,rfl,Gu w s.heap v,_,_,rfl,rfl,rfl⟩⟩
 ·exact h.elim
theorem Io {c:Call} {b:Builtin} (he:o.op= .call c) (h:c.callee= .builtin b):
  execOp a.eval o=builtin b c.argTypes o.type (c.args.map fun | .const _=>true | _=>false) (c.args.map a.eval):=by
 simp only[execOp,he,resolve,h];rfl
theorem Al1 {xs:List Operand} {d:DVal} (h:Hf G s.env xs= [d]): ∃x,xs= [x]/\dev G s.env x=d:=by
 cases xs with
 | nil=>simp [Hf] at h
 | cons x xs=>cases xs with
  | nil=>simp [Hf] at h;exact⟨x,rfl,h⟩
  | cons y ys=>simp [Hf] at h
theorem Cl5 {xs:List Operand} {d e:DVal} (h:Hf G s.env xs= [d,e]): ∃x y,xs= [x,y]/\dev G s.env x=d/\dev G s.env y=e:=by
 cases xs with
 | nil=>simp [Hf] at h
 | cons x xs=>cases xs with
  | nil=>simp [Hf] at h
  | cons y ys=>cases ys with
   | nil=>simp [Hf] at h;exact⟨x,y,rfl,h.1,h.2⟩
   | cons z C=>simp [Hf] at h
theorem Gk2 (C:Sim G N s a w) (E:Da N o.dst=true) {c:Call} {x:Operand} (hx:Ca N x=true) (he:o.op= .call c) (J:c.callee= .builtin .len) (L:c.args.toList= [x]) {t:TypeId} (M:c.argTypes.toList= [t])
  (h:dLen o.dst (P.underlying t) (dev G s.env x) K s):PV P o s a w K:=by
 have y:=Br C hx;have hm:c.args.map a.eval= #[a.eval x]:=by apply Array.ext';simp [L]
 have D:=Io (a:=a) he J;rw[hm] at D;have I:c.argTypes[0]? =some t:=by rw[<-Array.getElem?_toList,M];rfl
 generalize hu:P.underlying t=u at h;generalize dev G s.env x=dx at h y;unfold dLen at h;split at h
 ·simp only[Rel] at y;exact Wq C E (by rw[D];simp [builtin,Builtin.len_,I,run_underlying hu,y,goInt];rfl) h
 ·exact Wq C E (by rw[D];simp [builtin,Builtin.len_,I,run_underlying hu,goInt]) h
 ·simp only[Rel] at y;exact Wq C E (by rw[D];simp [builtin,Builtin.len_,I,run_underlying hu,y,goInt]) h
 ·simp only[Rel] at y;obtain⟨_,_,y,_⟩:=y;exact Wq C E (by rw[D];simp [builtin,Builtin.len_,I,run_underlying hu,y,goInt]) h
 ·simp only[Rel] at y;obtain⟨_,_,y,_⟩:=y;exact Wq C E (by rw[D];simp [builtin,Builtin.len_,I,run_underlying hu,y,goInt]) h
 ·exact h.elim
theorem Ay3 {H:Ac} (isMax:Bool): ∀(C:List DVal) (vs:List Value) (x:DVal) (v:Value) (r:DVal),Az w H C vs->Rel w H x v->Yz isMax (some x) C=some r->
  ∃u,(vs.foldlM (if isMax then Builtin.max2 else Builtin.min2) v).run P w= .ok u w/\Rel w H r u
 | [],vs,x,v,r,hl,hx,h=>by
  simp only[Az] at hl;subst hl;simp only[Yz] at h;cases h;exact⟨v,by simp,hx⟩
 | y::C,vs,x,v,r,hl,hx,h=>by
  simp only[Az] at hl;obtain⟨u,us,rfl,D,hl⟩:=hl;simp only[Yz] at h;cases hm:dMM isMax x y with
  | none=>rw[hm] at h;cases C<;>cases h
  | some z=>
   rw[hm] at h;unfold dMM at hm;split at hm<;>try (cases hm;done)
   rename_i k m k' n
   simp only[Rel] at hx D;subst hx;subst D;cases hm;obtain⟨q,hq,hr⟩:=Ay3 isMax C us _ (.int k (if isMax then(if n>m then n else m) else(if n<m then n else m))) r hl (by simp [Rel]) h;refine⟨q, ?_,hr⟩;cases isMax
   ·simpa [Builtin.min2] using hq
   ·simpa [Builtin.max2] using hq
theorem Cl6 (D:Sim G N s a w) (E:Da N o.dst=true) {c:Call} {isMax:Bool} (hx:c.args.toList.all (Ca N)=true) (he:o.op= .call c) (I:c.callee= .builtin (if isMax then .max else .min))
  (h:Vm o.dst (Ac0 isMax (Hf G s.env c.args.toList)) K s):PV P o s a w K:=by
 have y:=Sy D hx;have J:=Io (a:=a) he I;obtain⟨d,C,L⟩:=Kg h;have hm:(c.args.map a.eval).toList=c.args.toList.map a.eval:=by simp
 generalize O:c.args.toList.map a.eval=vs at y hm;generalize Hf G s.env c.args.toList=ds at y C;cases ds with
 | nil=>cases C
 | cons x rest=>
  simp only[Az] at y;obtain⟨v,us,rfl,M,hl⟩:=y;simp only[Ac0] at C;obtain⟨u,hu,hr⟩:=Ay3 (P:=P) isMax rest us x v d hl M C;refine pvI D E ?_ hr L;rw[J];cases isMax
  ·simp at hu;simp only[builtin,Builtin.min_,hm,Bool.false_eq_true,if_false,Sem.run_bind,hu,Result.andThen_ok,Sem.run_pure]
  ·simp at hu;simp only[builtin,Builtin.max_,hm,if_true,Sem.run_bind,hu,Result.andThen_ok,Sem.run_pure]
end
section
variable {P:Program} {G:Nat->DVal} {N:Fr}
variable {o:Oper} {s:DS} {a:Act} {w:World} {K:DK} {Q:DExit->DS->Prop} {Qx:Exit->Act->World->Prop}
def Cy7 (P:Program) (w:World) (size:Nat) (x:Value) (n:Nat) (vs:List Value):Prop:=
 (Builtin.lenOf x).run P w= .ok n w/\ ∀k,(Builtin.firstCells size n x).run P { w with drawn:=k }= .ok vs.toArray { w with drawn:=k }
theorem Zb {b off k:Nat} {xs:List Value} (h:Rp w b off xs):Rp { w with drawn:=k } b off xs:=h
theorem Cy8 {size:Nat} {y:DVal} {v:Value} {H:Ac} (I:Bj w H) (hv:Rel w H y v) {n:Nat} {h:List DVal} (hs:Yv size H y=some (n,h)) (hl:h.length=n*size):
  ∃vs,Cy7 P w size v n vs/\Az w H h vs:=by
 unfold Yv at hs;split at hs
 ·cases hs;simp only[Rel] at hv;subst hv;exact⟨[],⟨by simp [Builtin.lenOf],fun k=>by simp [Builtin.firstCells]⟩,by simp [Az]⟩
 ·cases hs;simp only[Rel] at hv;obtain⟨D,cap,rfl,_,hc⟩:=hv;rcases hc with rfl | ⟨b,o',xs,rfl,hc,hr⟩
  ·have hz:n*size=0:=by simpa using hl.symm
   refine⟨[],⟨by simp [Builtin.lenOf],fun k=> ?_⟩,by simp [Az]⟩;cases D with
   | none=>simp [Builtin.firstCells]
   | some D=>
    simp [Builtin.firstCells,hz,loadCells,loadCellsFrom]
  ·refine⟨xs.take (n*size),⟨by simp [Builtin.lenOf],fun k=> ?_⟩,hr.take _⟩;have J:=hr.length;have C:(xs.take (n*size)).length=n*size:=by
    simp only[List.length_take] at hl⊢;omega
   have:=Fu (P:=P) (w:= { w with drawn:=k }) (Rp.take (n:=n*size) (Zb hc.holds));rw[C] at this;simpa [Builtin.firstCells] using this
 ·rename_i sz r off n' lo
  unfold Bu8 at hs;split at hs<;>try (cases hs;done)
  rename_i cs e hh
  cases hs;simp only[Rel] at hv;obtain⟨o',cap,rfl,_,U,L,_⟩:=hv;obtain⟨xs,hr,M⟩:=I.holds hh;by_cases O:cap=0
  ·have hn:n=0:=by omega
   subst hn;refine⟨[],⟨by simp [Builtin.lenOf],fun k=>by simp [Builtin.firstCells,loadCells,loadCellsFrom]⟩, ?_⟩;simp [Az]
  ·have:o'=off:=L.resolve_left O;subst this;refine⟨(xs.drop o').take (n*size),⟨by simp [Builtin.lenOf],fun k=> ?_⟩,(hr.drop _).take _⟩;have J:=hr.length;have C:((xs.drop o').take (n*size)).length=n*size:=by
    simp only[List.length_take,List.length_drop] at hl⊢;omega
   have h1:Rp w r o' (xs.drop o'):=by simpa using M.drop (n:=o')
   have:=Fu (P:=P) (w:= { w with drawn:=k }) (Rp.take (n:=n*size) (Zb h1));rw[C] at this;simpa [Builtin.firstCells] using this
 ·rename_i l
  cases hs;simp only[Rel] at hv;subst hv;have S:(ByteArray.mk ⟨l⟩).size=l.length:=rfl;refine⟨l.map fun b=> .int .u8 b.toNat,⟨by simp [Builtin.lenOf,S],fun k=> ?_⟩, ?_⟩
  ·simp [Builtin.firstCells]
  ·refine Az.mk (by simp) fun i d x h1 h2=> ?_;simp only[List.getElem?_map,Option.map_eq_some_iff] at h1 h2;obtain⟨V,e1,rfl⟩:=h1;obtain⟨W,E,rfl⟩:=h2;rw[e1] at E;cases E;simp [Rel]
 ·cases hs
variable {t t' e:TypeId} {ty:TypeId} {i:TypeInfo} {z:Value} {u:TypeDesc}
theorem Zc (C:P.underlying t=some (.slice e)) (D:P.underlying t'=some u) (L:(∃e',u= .slice e')\/u= .string) (hi:P.info? e=some i) (hz:i.zero=some z)
  {b:Option Addr} {len cap n:Nat} {x:Value} {vs:List Value} (M:Cy7 P w i.size x n vs) (O:cap<len+n) (V:(len+n)*i.bytes<=35184372088832) (W:(len+n:Nat)<=35184372088832)
  {olds:List Value} (S: ∀k,(Builtin.firstCells i.size len (.slice b len cap)).run P { w with drawn:=k }= .ok olds.toArray { w with drawn:=k }):
  ∃c,len+n<=c/\(Builtin.append_ #[t,t'] ty #[.slice b len cap,x]).run P w=
   .ok (.slice (some ⟨w.heap.size,0,none⟩) (len+n) c) { w.alloc (.cells (olds.toArray++(vs.toArray++Builtin.zeroCells z.cells (c-(len+n)))) e) with drawn:=w.drawn+1 }:=by
 obtain⟨E,U⟩:=M;refine⟨(Question.appendCap (len+n) cap e).cut (w.tape w.drawn (.appendCap (len+n) cap e)),by simp [Question.cut], ?_⟩;have hn: ¬(len+n<=cap):=by omega
 have I: ¬(Builtin.nextslicecap (len+n) cap*i.bytes>281474976710656):=by
  have:=growslice_fits (need:=len+n) (old:=cap) (bytes:=i.bytes) O (by omega);omega
 have h:=U (w.drawn+1);have y:=S (w.drawn+1);have J: ¬(9223372036854775807<((len:Int)+(n:Int))):=by omega
 simp only[World.drew_eq] at h y;rcases L with⟨e',rfl⟩ | rfl
 ·simp [Builtin.append_,run_underlying C,run_underlying D,sizeOf,typeInfo,zeroValue,hi,hz,E,hn,I,J,Question.forced,h,y,newRow];rfl
 ·simp [Builtin.append_,run_underlying C,run_underlying D,sizeOf,typeInfo,zeroValue,hi,hz,E,hn,I,J,Question.forced,h,y,newRow];rfl
theorem Qg (C:P.underlying t=some (.slice e)) (D:P.underlying t'=some u) (J:(∃e',u= .slice e')\/u= .string) (hi:P.info? e=some i)
  {b:Option Addr} {len cap n:Nat} {x:Value} {vs:List Value} (L:Cy7 P w i.size x n vs) (E:len+n<=cap) {w':World}
  (h:(match b with | some ad=>storeCells (ad.add (len*i.size)) vs 0 | none=>pure ()).run P w= .ok () w'):
  (Builtin.append_ #[t,t'] ty #[.slice b len cap,x]).run P w= .ok (.slice b (len+n) cap) w':=by
 obtain⟨I,M⟩:=L
 have y:=M w.drawn
 have hw: { w with drawn:=w.drawn }=w:=rfl
 rw[hw] at y
 rcases J with⟨e',rfl⟩ | rfl
 ·cases b with
  | none=>simp at h;subst h;simp [Builtin.append_,run_underlying C,run_underlying D,sizeOf,typeInfo,hi,I,E,y]
  | some ad=>simp at h;simp [Builtin.append_,run_underlying C,run_underlying D,sizeOf,typeInfo,hi,I,E,y,h]
 ·cases b with
  | none=>simp at h;subst h;simp [Builtin.append_,run_underlying C,run_underlying D,sizeOf,typeInfo,hi,I,E,y]
  | some ad=>simp at h;simp [Builtin.append_,run_underlying C,run_underlying D,sizeOf,typeInfo,hi,I,E,y,h]
theorem Cb6 {u:Option TypeDesc} (h:Ar9 u=true): ∃d,u=some d/\((∃e',d= .slice e')\/d= .string):=by
 cases u with
 | none=>cases h
 | some d=>cases d<;>first | (exact⟨_,rfl, .inl ⟨_,rfl⟩⟩) | (exact⟨_,rfl, .inr rfl⟩) | (cases h;done)
theorem Cy9 {H:Ac} (J:Bj w H) {r p:Nat} {cs y:List DVal} {e:TypeId} (hr:H r=some (.cells cs e)) {vs:List Value} (hv:Az w H y vs) (h1:y.all (·.one)=true) (hp:p<=cs.length)
  (W: ∀c fz,w.heap[r]? =some (.cells c e fz)->p+y.length<=c.size) {cs':List DVal} (L:cs'=cs.take p++y):
  ∃w',(storeCells ⟨r,p,none⟩ vs 0).run P w= .ok () w'/\Bj w' (upd (upd H r none) r (some (.cells cs' e)))/\Ext H w (upd (upd H r none) r (some (.cells cs' e))) w':=by
 subst L;obtain⟨xs,c,fz,C,X,M,O⟩:=J r _ hr;obtain⟨Y,S⟩:=X;have ae:=M.length;have af:=hv.length;have L:c.size=xs.length+Y.length:=by rw[<-Array.length_toList,<-S];simp
 have ag:=W c fz C;obtain⟨w',c',Z,I,U,D,ah,aa,ab,ac⟩:=Np (P:=P) r p e fz vs 0 c w C (by omega) (Bg3 hv h1) O;have V:c'.size=c.size:=by
  rw[<-Array.length_toList,U];simp;omega
 have ad:upd (upd H r none) r (some (.cells (cs.take p++y) e))=upd H r (some (.cells (cs.take p++y) e)):=by
  funext j;simp only[upd];split<;>rfl
 rw[ad];have hE:Ext H w (upd H r (some (.cells (cs.take p++y) e))) w':=by
  refine⟨aa,ab,ac,by omega,fun b hb hn=>D b (fun h=>by subst h;rw[hr] at hn;cases hn),fun b hb=> ?_,fun b hb=> ?_,fun a _ _=>by
   unfold World.frozen?;by_cases h:a.block=r
   ·rw[h,I,C]
   ·rw[D _ h]⟩
  ·by_cases h:b=r
   ·subst h;exact .inl (by rw[hr];simp)
   ·simp only[upd,if_neg h] at hb;exact .inl hb
  ·by_cases h:b=r
   ·subst h;rw[I,C];simp [Pk,V]
   ·rw[D b h]
 refine⟨w',Z,fun r' o' E=> ?_,hE⟩;by_cases h:r'=r
 ·subst h;simp only[upd,if_pos] at E;cases E;refine⟨xs.take p++vs,c',fz,I, ?_,(Az.lasts hE.lasts _ _ (M.take p)).append (Az.lasts hE.lasts _ _ hv),by rw[V];exact O⟩;refine⟨c.toList.drop (p+0+vs.length), ?_⟩;rw[U,<-S,Nat.add_zero,List.take_append_of_le_length (by omega)]
 ·simp only[upd,if_neg h] at E;rw[D r' h];exact(J r' o' E).lasts hE.lasts
theorem Bj.letGo {H:Ac} (C:Bj w H) (r:Nat):Bj w (upd H r none):=by
 have hl:Lasts H w (upd H r none) w:=⟨fun b i x hb hc=>⟨by simp only[upd];split;rfl;exact hb,hc⟩,Nat.le_refl _,fun _ _=>rfl⟩;intro r' o' h;by_cases y:r'=r
 ·subst y;simp [upd] at h
 ·simp only[upd,if_neg y] at h;exact(C r' o' h).lasts hl
theorem Du0 {H:Ac} (r:Nat):Ext H w (upd H r none) w:=
 ⟨rfl,rfl,rfl,Nat.le_refl _,fun _ _ _=>rfl,fun b hb=> .inl (by simp only[upd] at hb;split at hb<;>simp_all),fun _ _=>rfl,fun _ _ _=>rfl⟩
theorem Rj (size:Nat) (k:Nat):(Builtin.firstCells size 0 (.slice none 0 0)).run P { w with drawn:=k }= .ok #[] { w with drawn:=k }:=by simp [Builtin.firstCells]
theorem Af8 {α:Type} (l m:List α):l<+:l++m:=⟨m,rfl⟩
theorem Ek3 (C:Sim G N s a w) (L:Da N o.dst=true) {c:Call} {x y:Operand} (hx:Ca N x=true) (hy:Ca N y=true) (he:o.op= .call c) (hc:c.callee= .builtin .append) (a1:c.args.toList= [x,y]) {t t':TypeId} (a2:c.argTypes.toList= [t,t'])
  (h:Bd5 P (Ar9 (P.underlying t')) (dev G s.env x) (dev G s.env y) o.dst (P.underlying t) K s):o.wp P a w (Ik G N K s w) Qx:=by
 have M:=Br C hx;have ry:=Br C hy;have hm:c.args.map a.eval= #[a.eval x,a.eval y]:=by apply Array.ext';simp [a1]
 have a3:c.argTypes= #[t,t']:=by apply Array.ext';simp [a2]
 have O:execOp a.eval o=(do pure (.value (←Builtin.append_ #[t,t'] o.type #[a.eval x,a.eval y]))):=by
  rw[Io he hc,hm,a3];rfl
 generalize S:P.underlying t=ut at h;unfold Bd5 at h;split at h<;>try exact h.elim
 rename_i e
 obtain⟨a4,a5,ac,a6,ad,h⟩:=h;obtain⟨u,hu,U⟩:=Cb6 a4;obtain⟨zd,hz⟩:=Option.isSome_iff_exists.1 a5;rw[hz] at ac;simp only[Option.all_some,decide_eq_true_eq] at ac;obtain⟨i,z,hi,aj,rfl⟩:=Ny hz;have ae:P.cellsOf e=i.size:=by simp [Program.cellsOf,hi]
 have ak:P.bytesOf e=i.bytes:=by simp [Program.bytesOf,hi]
 have al:z.cells.size=i.size:=by
  have:=(Mf (Gu w s.heap z)).length;rw[<-ae,<-ac,this];simp
 rw[ae,ak] at h;rw[ae] at a6;rw[ak] at ad;cases hsc:Yv i.size s.heap (dev G s.env y) with
 | none=>rw[hsc] at h;exact h.elim
 | some nn=>
  obtain⟨n,W⟩:=nn;rw[hsc] at h;obtain⟨a7,am,h⟩:=h;obtain⟨vs,V,X⟩:=Cy8 (P:=P) C.heap ry hsc a7;have bm:=X.length;generalize dev G s.env x=dx at h M;unfold Pq at h;split at h
  ·-- nil
   obtain⟨h0,h1⟩:=h;simp only[Rel] at M;by_cases hn:n=0
   ·have J:=h0 hn;subst hn;have af:vs= []:=List.length_eq_zero_iff.1 (by omega);subst af;have D:=Qg (ty:=o.type) (b:=none) (len:=0) (cap:=0) S hu U hi V (by omega) (w':=w) (by simp);refine Ko C L (x:= .slice none 0 0) ?_ (by simp [Rel]) J;rw[O,M];simp [D]
   ·obtain⟨Y,J⟩:=h1 hn;have ao:n<=35184372088832:=Nat.le_trans (Nat.le_mul_of_pos_right n ad) Y;obtain⟨E,a8,D⟩:=Zc (ty:=o.type) (b:=none) (len:=0) (cap:=0) (olds:= []) S hu U hi aj V (by omega) (by simpa using Y) (by omega) (fun k=>Rj i.size k);refine Ak7 C L (sz:=i.size) (lo:=n) (cap:=E) (n:=w.drawn+1) (len:=n) (e:=e) (c:= #[]++(vs.toArray++Builtin.zeroCells z.cells (E-(0+n)))) (by omega) (by omega) ?_ ?_ X ?_ J
    ·simp only[Array.size_append,size_zeroCells,al,List.size_toArray,jB,Nat.zero_add];have:vs.length=n*i.size:=by omega
     rw[this,<-Nat.add_mul];exact Nat.mul_le_mul_right _ (by omega)
    ·rw[O,M];simp only[Nat.zero_add] at D;simp [D]
    ·simp only[Array.toList_append,jG];exact Af8 _ _
  ·-- a slice of the call's own
   rename_i sz r off len lo
   obtain⟨rfl,h⟩:=h;simp only[Rel] at M;obtain⟨o',cap,hp,hlo,bn,aa,ab⟩:=M;cases hh:s.heap r with
   | none=>rw[hh] at h;exact h.elim
   | some ob=>
    cases ob with
    | loop=>rw[hh] at h;exact h.elim
    | iter=>rw[hh] at h;exact h.elim
    | map=>rw[hh] at h;exact h.elim
    | cells cs e'=>
     rw[hh] at h;obtain⟨rfl,a9,ba⟩:=h;by_cases hle:len+n<=lo
     ·-- in place, within what is known
      obtain⟨ap,J⟩:=a9 hle;have bo:(len+n)*i.size=len*i.size+n*i.size:=Nat.add_mul _ _ _;by_cases ag:cap=0
      ·have ah:len=0:=by omega
       have bb:n=0:=by omega
       subst ah;subst bb;have af:vs= []:=List.length_eq_zero_iff.1 (by omega);have bc:W= []:=List.length_eq_zero_iff.1 (by omega);subst af;subst bc;have D:=Qg (ty:=o.type) (b:=some ⟨r,o',none⟩) (len:=0) (cap:=cap) S hu U hi V (by omega) (w':=w) (by simp [storeCells]);have hsp:Cn cs (off+0*i.size) []=cs:=by simp [Cn]
       have bd:upd s.heap r (some (.cells (Cn cs (off+0*i.size) []) e'))=s.heap:=by
        funext j;rw[hsp];simp only[upd];split
        ·rename_i hj;rw[hj,hh]
        ·rfl
       rw[bd] at J;refine Ko C L (x:= .slice (some ⟨r,o',none⟩) 0 cap) ?_ ?_ J
       ·rw[O,hp];simp [D]
       ·simp only[Rel];exact⟨o',cap,rfl,hlo,by omega,aa,ab⟩
      ·have:o'=off:=aa.resolve_left ag;subst this;obtain⟨w',hst,hH,hE⟩:=As2 (P:=P) C.heap hh X am (off:=o'+len*i.size) (by omega);have D:=Qg (ty:=o.type) (b:=some ⟨r,o',none⟩) (len:=len) (cap:=cap) S hu U hi V (by omega) (w':=w') (by simpa [Me] using hst);refine In C L (x:= .slice (some ⟨r,o',none⟩) (len+n) cap) ?_ hE hH ?_ J
       ·rw[O,hp];simp [D]
       ·simp only[Rel];exact⟨o',cap,rfl,hlo,by omega, .inr rfl,hE.lasts.room ab⟩
     ·-- the room is not known
      obtain⟨ap,Y,J⟩:=ba hle;have ao:len+n<=35184372088832:=Nat.le_trans (Nat.le_mul_of_pos_right _ ad) Y;obtain⟨xs,aq,be⟩:=C.heap.holds hh;have bp:=aq.length;by_cases ar:len+n<=cap
      ·-- in place
       have:o'=off:=aa.resolve_left (by omega);subst this;have bf: ∀c fz,w.heap[r]? =some (.cells c e' fz)->o'+len*i.size+W.length<=c.size:=by
        intro c fz hcc;have:=ab.2 c.size (by rw[hcc];rfl);have h2:(len+n)*i.size<=cap*i.size:=Nat.mul_le_mul_right _ ar;rw[Nat.add_mul] at h2;omega
       obtain⟨w',hst,hH,hE⟩:=Cy9 (P:=P) C.heap hh X am (p:=o'+len*i.size) ap bf (cs':=cs.take o'++(cs.drop o').take (len*i.size)++W) (by rw[List.take_add]);have D:=Qg (ty:=o.type) (b:=some ⟨r,o',none⟩) (len:=len) (cap:=cap) S hu U hi V ar (w':=w') (by simpa [Me] using hst);have I:=J r (cs.take o') (by simp [upd]) (fun e0=>by simp [e0]);rw[if_pos (.inr rfl)] at I;have bg:(cs.take o').length=o':=by simp;omega
       rw[bg] at I;refine In C L (x:= .slice (some ⟨r,o',none⟩) (len+n) cap) ?_ hE hH ?_ I
       ·rw[O,hp];simp [D]
       ·simp only[Rel];exact⟨o',cap,rfl,by omega,by omega, .inr rfl,hE.lasts.room ab⟩
      ·-- a new row
       have holds: ∃olds,Az w s.heap ((cs.drop off).take (len*i.size)) olds/\olds.length=len*i.size/\ ∀k,(Builtin.firstCells i.size len (.slice (some ⟨r,o',none⟩) len cap)).run P { w with drawn:=k }= .ok olds.toArray { w with drawn:=k }:=by
        by_cases ag:cap=0
        ·have ah:len=0:=by omega
         subst ah;exact⟨[],by simp [Az],by simp,fun k=>by simp [Builtin.firstCells,loadCells,loadCellsFrom]⟩
        ·have:o'=off:=aa.resolve_left ag;subst this;have au:((xs.drop o').take (len*i.size)).length=len*i.size:=by
          simp only[List.length_take,List.length_drop];omega
         refine⟨_,(aq.drop _).take _,au,fun k=> ?_⟩;have h1:Rp w r o' (xs.drop o'):=by simpa using be.drop (n:=o')
         have:=Fu (P:=P) (w:= { w with drawn:=k }) (Rp.take (n:=len*i.size) (Zb h1));rw[au] at this;simpa [Builtin.firstCells] using this
       obtain⟨olds,bh,bi,bj⟩:=holds;obtain⟨E,a8,D⟩:=Zc (ty:=o.type) S hu U hi aj V (by omega) Y ao bj;have av: ∀Z:Ac,Bj w Z->Ext s.heap w Z w->K ⟨Ho s.env o.dst (.oslice i.size w.heap.size 0 (len+n) (len+n)),upd Z w.heap.size (some (.cells ((cs.drop off).take (len*i.size)++W) e'))⟩->o.wp P a w (Ik G N K s w) Qx:=by
        intro Z aw ai I;have bk:Az w Z ((cs.drop off).take (len*i.size)++W) (olds++vs):=
         (Az.lasts ai.lasts _ _ bh).append (Az.lasts ai.lasts _ _ X)
        have bl:(olds++vs)<+:(olds.toArray++(vs.toArray++Builtin.zeroCells z.cells (E-(len+n)))).toList:=by
         simp only[Array.toList_append,<-jO];exact Af8 _ _
        have bq:E*i.size<=(olds.toArray++(vs.toArray++Builtin.zeroCells z.cells (E-(len+n)))).size:=by
         simp only[Array.size_append,size_zeroCells,al,List.size_toArray,bi];have h1:vs.length=n*i.size:=by omega
         rw[h1,<-Nat.add_mul,<-Nat.add_mul];exact Nat.mul_le_mul_right _ (by omega)
        refine In C L (x:= .slice (some ⟨w.heap.size,0,none⟩) (len+n) E) ?_ ((ai.trans (Ac1 aw _ _ _)).drawn (w.drawn+1)) ((Vb aw bk _ bl e').drawn (w.drawn+1)) ?_ I
        ·rw[O,hp];simp [D]
        ·simp only[Rel];refine⟨0,E,rfl,by omega,by omega, .inr rfl, ?_⟩;constructor
         ·show w.heap.size<(w.alloc _).heap.size;simp
         ·intro k hk;have h1:(w.alloc (.cells (olds.toArray++(vs.toArray++Builtin.zeroCells z.cells (E-(len+n)))) e')).heap[w.heap.size]? =some (.cells (olds.toArray++(vs.toArray++Builtin.zeroCells z.cells (E-(len+n)))) e'):=by
           show(w.heap.push _)[w.heap.size]? =_;simp
          have ax:Pk (w.alloc (.cells (olds.toArray++(vs.toArray++Builtin.zeroCells z.cells (E-(len+n)))) e')).heap[w.heap.size]? =some k:=hk;rw[h1] at ax;simp only[Pk,Option.some.injEq] at ax;omega
       have ay:=C.heap.letGo r;have I:=J w.heap.size [] ay.fresh (fun _=>rfl);simp only[jG,jB] at I;by_cases a0:len<=lo\/w.heap.size=r
       ·rw[if_pos a0] at I;exact av _ ay (Du0 r) I
       ·rw[if_neg a0] at I;exact av _ C.heap (Ext.refl _ _) I
  ·exact h.elim
end
section
variable {P:Program} {G:Nat->DVal} {N:Fr}
variable {o:Oper} {s:DS} {a:Act} {w:World} {K:DK} {Qx:Exit->Act->World->Prop}
theorem Gk3 (C:Sim G N s a w) (E:Da N o.dst=true) {c:Call} {x:Operand} {t:TypeId} (hx:Ca N x=true) (he:o.op= .call c) (J:c.callee= .builtin .cap) (L:c.args.toList= [x]) (M:c.argTypes.toList= [t])
  (h:Ej5 o.dst (P.underlying t) (dev G s.env x) K s):PV P o s a w K:=by
 have y:=Br C hx;have hm:c.args.map a.eval= #[a.eval x]:=by apply Array.ext';simp [L]
 have D:=Io (a:=a) he J;rw[hm] at D;have I:c.argTypes[0]? =some t:=by rw[<-Array.getElem?_toList,M];rfl
 generalize hu:P.underlying t=u at h;generalize dev G s.env x=dx at h y;unfold Ej5 at h;split at h
 ·simp only[Rel] at y;exact Wq C E (by rw[D];simp [builtin,Builtin.cap_,I,run_underlying hu,y,goInt]) h
 ·simp only[Rel] at y;obtain⟨_,cap,y,hle,_⟩:=y;exact Wq C E (by rw[D];simp [builtin,Builtin.cap_,I,run_underlying hu,y,goInt]) (h cap hle)
 ·simp only[Rel] at y;obtain⟨_,cap,y,h1,h2,_⟩:=y;exact Wq C E (by rw[D];simp [builtin,Builtin.cap_,I,run_underlying hu,y,goInt]) (h cap h2 h1)
 ·exact h.elim
theorem Bc0 {e t t' ty:TypeId} {i:TypeInfo} {z:Value} {k:IntKind} (h:P.underlying t=some (.slice e)) (y:P.underlying t'=some (.int k)) (hi:P.info? e=some i) (hz:i.zero=some z) (hp:0<i.size)
  {n:Int} (h0:0<n) (C:n*i.bytes<=35184372088832) (E:n<=35184372088832):
  ∃c,n.toNat<=c/\(Builtin.append_ #[t,t'] ty #[.slice none 0 0, .int .i64 n]).run P w=
   .ok (.slice (some ⟨w.heap.size,0,none⟩) n.toNat c) { w.alloc (.cells (#[]++(Builtin.zeroCells z.cells n.toNat++Builtin.zeroCells z.cells (c-n.toNat))) e) with drawn:=w.drawn+1 }:=by
 obtain⟨m,rfl⟩: ∃m:Nat,n=m:=⟨n.toNat,by omega⟩;simp only[jD];have hw:IntKind.wrap .i64 (m:Int)=m:=IntWalk.i64_in m ⟨by omega,by omega⟩;have I:m*i.bytes<=35184372088832:=by
  have:((m*i.bytes:Nat):Int)<=35184372088832:=by rw[Int.natCast_mul];exact C
  omega
 refine⟨(Question.appendCap m 0 e).cut (w.tape w.drawn (.appendCap m 0 e)),by simp [Question.cut], ?_⟩;have D: ¬(Builtin.nextslicecap m 0*i.bytes>281474976710656):=by
  have:=growslice_fits (need:=m) (old:=0) (bytes:=i.bytes) (by omega) (by omega);omega
 have h1: ¬((m:Int)<0):=by omega
 have h2: ¬(281474976710656<(m:Int)*(i.bytes:Int)):=by omega
 have h3: ¬(9223372036854775807<(m:Int)):=by omega
 have h4:m≠0:=by omega
 have h5: ¬(m*i.size=0):=by
  intro e;rcases Nat.mul_eq_zero.1 e with e | e<;>omega
 have hf:=Rj (P:=P) (w:=w) i.size (w.drawn+1);simp only[World.drew_eq] at hf;simp [hf,Builtin.append_,run_underlying h,run_underlying y,sizeOf,typeInfo,zeroValue,hi,hz,asInt,asIntOf,hw,h1,h2,h3,h4,h5,D,Question.forced,newRow,Rj];rfl
theorem Du1 (C:Sim G N s a w) (M:Da N o.dst=true) {c:Call} {x y:Operand} (hx:Ca N x=true) (Y:Ca N y=true) (he:o.op= .call c) (Z:c.callee= .builtin .append) (aa:c.args.toList= [x,y]) {t t':TypeId} (ab:c.argTypes.toList= [t,t'])
  (D:Pr (P.underlying t')=true) (h:Ak3 P (dev G s.env x) (dev G s.env y) o.dst (P.underlying t) K s):o.wp P a w (Ik G N K s w) Qx:=by
 have E:=Br C hx;have I:=Br C Y;have hm:c.args.map a.eval= #[a.eval x,a.eval y]:=by apply Array.ext';simp [aa]
 have ac:c.argTypes= #[t,t']:=by apply Array.ext';simp [ab]
 have O:execOp a.eval o=(do pure (.value (←Builtin.append_ #[t,t'] o.type #[a.eval x,a.eval y]))):=by
  rw[Io he Z,hm,ac];rfl
 generalize S:P.underlying t=ut at h;unfold Ak3 at h;split at h<;>try exact h.elim
 rename_i e
 obtain⟨k,hu⟩: ∃k,P.underlying t'=some (.int k):=by
  cases hq:P.underlying t' with
  | none=>rw[hq] at D;cases D
  | some d=>cases d<;>first | exact⟨_,rfl⟩ | (rw[hq] at D;cases D)
 generalize dev G s.env x=dx at h E;generalize dev G s.env y=dy at h I;generalize ad:Bm P e=zo at h;unfold Bf6 at h;split at h<;>try exact h.elim
 obtain⟨h0,hp,ae,af⟩:=h
 rename_i n zd
 obtain⟨i,z,hi,ag,rfl⟩:=Ny ad;have ah:P.bytesOf e=i.bytes:=by simp [Program.bytesOf,hi]
 have hcs:P.cellsOf e=i.size:=by simp [Program.cellsOf,hi]
 simp only[Rel] at E I;by_cases hn:n=0
 ·have J:=ae hn;subst hn;refine Ko C M (x:= .slice none 0 0) ?_ (by simp [Rel]) J;rw[O,E,I];have hw:IntKind.wrap .i64 0=0:=by rfl
  simp [Builtin.append_,run_underlying S,run_underlying hu,sizeOf,typeInfo,hi,asInt,asIntOf,hw]
 ·obtain⟨U,hle,L,J⟩:=af hn;rw[ah] at U;rw[hcs] at hp L J;have V:Az w s.heap (Fe z).cells z.cells.toList:=Mf (Gu w s.heap z);have W:z.cells.size=i.size:=by rw[<-L,V.length];simp
  obtain⟨X,aj,ai⟩:=Bc0 (w:=w) (ty:=o.type) S hu hi ag hp (n:=n) (by omega) U hle;have hr:=Ac2 V n.toNat (n.toNat*z.cells.size) (by rw[L,W]);refine Ak7 C M (sz:=i.size) (lo:=n.toNat) (cap:=X) (n:=w.drawn+1) (len:=n.toNat) (e:=e) (c:= #[]++(Builtin.zeroCells z.cells n.toNat++Builtin.zeroCells z.cells (X-n.toNat))) (by omega) (by omega) ?_ ?_ hr ?_ J
  ·simp only[Array.size_append,size_zeroCells,W,List.size_toArray,jB,Nat.zero_add];rw[<-Nat.add_mul];exact Nat.mul_le_mul_right _ (by omega)
  ·rw[O,E,I];simp [ai]
  ·simp only[Array.toList_append,jG];exact Af8 _ _
theorem Fg1 (y:Sim G N s a w) (J:Da N o.dst=true) {c:Call} {x:Operand} {t:TypeId} (hx:Ca N x=true) (he:o.op= .call c) (U:c.callee= .builtin .clear) (V:c.args.toList= [x]) (W:c.argTypes.toList= [t])
  (h:Bf7 P o.dst (P.underlying t) (dev G s.env x) K s):o.wp P a w (Ik G N K s w) Qx:=by
 have C:=Br y hx;have hm:c.args.map a.eval= #[a.eval x]:=by apply Array.ext';simp [V]
 have D:=Io (a:=a) he U;rw[hm] at D;have L:c.argTypes[0]? =some t:=by rw[<-Array.getElem?_toList,W];rfl
 generalize hu:P.underlying t=u at h;generalize dev G s.env x=dx at h C;unfold Bf7 at h;split at h<;>try exact h.elim
 rename_i e
 generalize X:Bm P e=zo at h;unfold Cb0 at h;split at h<;>try exact h.elim
 ·simp only[Rel] at C;refine Ko y J (x:= .tuple #[]) ?_ (by simp [Rel,Az]) h;rw[D];simp [builtin,Builtin.clear_,L,run_underlying hu,C]
 ·rename_i z sz r off n lo
  obtain⟨rfl,ae,h⟩:=h;obtain⟨i,v,hi,Y,rfl⟩:=Ny X;have hcs:P.cellsOf e=i.size:=by simp [Program.cellsOf,hi]
  simp only[Rel] at C;obtain⟨o',cap,hp,hlo,af,Z,ag⟩:=C;cases hh:s.heap r with
  | none=>rw[hh] at h;exact h.elim
  | some ob=>
   cases ob with
   | loop=>rw[hh] at h;exact h.elim
   | iter=>rw[hh] at h;exact h.elim
   | map=>rw[hh] at h;exact h.elim
   | cells cs e'=>
    rw[hh] at h;obtain⟨E,M,hle,I⟩:=h;rw[hcs] at E hle;have O:Az w s.heap (Fe v).cells v.cells.toList:=Mf (Gu w s.heap v);have aa:v.cells.size=i.size:=by rw[<-E,O.length];simp
    by_cases hn:n=0
    ·subst hn;have hsp:Cn cs off (Cc 0 (Fe v).cells)=cs:=by simp [Cn,Cc]
     rw[hsp] at I;have ab:upd s.heap r (some (.cells cs e'))=s.heap:=by
      funext j;simp only[upd];split
      ·rename_i hj;rw[hj,hh]
      ·rfl
     rw[ab] at I;refine Ko y J (x:= .tuple #[]) ?_ (by simp [Rel,Az]) I;rw[D];simp [builtin,Builtin.clear_,L,run_underlying hu,hp]
    ·have:o'=off:=Z.resolve_left (by omega);subst this;have hr:=Ac2 O n (n*v.cells.size) (by rw[E,aa]);have ac:(Cc n (Fe v).cells).all (·.one)=true:=by
      rw[List.all_eq_true] at M⊢
      intro d S;simp only[Cc,List.mem_flatten,List.mem_replicate] at S;obtain⟨l,⟨_,rfl⟩,hm⟩:=S;exact M d hm
     obtain⟨w',hst,hH,hE⟩:=As2 (P:=P) y.heap hh hr ac (off:=o') (by rw[Qm,E];exact hle);refine In y J (x:= .tuple #[]) ?_ hE hH (by simp [Rel,Az]) I;rw[D];obtain⟨n',rfl⟩: ∃n',n=n'+1:=⟨n-1,by omega⟩;have ad:Sem.run P (storeCells ⟨r,o',none⟩ (Builtin.zeroCells v.cells (n'+1)).toList 0) w= .ok () w':=hst;simp [builtin,Builtin.clear_,L,run_underlying hu,hp,zeroValue,typeInfo,hi,Y,ad]
end
section
def Oq:Obj->Bool
 | .loop _=>true
 | .deferred _=>true
 | .map _ _=>true
 | .stringIter _ _=>true
 | _=>false
theorem Al2 {w:World} {l:Nat} {o o':Obj} (hl:w.heap[l]? =some o) (h:Oq o=true) (h':Oq o'=true) (b:Nat):Pk (w.putObj l o').heap[b]? =Pk w.heap[b]? :=by
 have y:l<w.heap.size:=(Array.getElem?_eq_some_iff.1 hl).1;by_cases e:b=l
 ·subst e;rw[World.putObj_heap_same y,hl];cases o<;>first | cases h;done | (cases o'<;>first | rfl | cases h';done)
 ·rw[World.putObj_heap_other e]
theorem Ws {w:World} {l:Nat} {o o':Obj} (hl:w.heap[l]? =some o) (h:Oq o=true) (h':Oq o'=true) (H:Ac):Lasts H w H (w.putObj l o'):=by
 refine⟨fun b i x hb hc=>⟨hb, ?_⟩,by simp [World.putObj],fun b hb=>Al2 hl h h' b⟩;by_cases e:b=l
 ·subst e;unfold World.cell? at hc;rw[hl] at hc;cases o<;>first | cases h;done | simp at hc
 ·unfold World.cell? at hc⊢
  simp only[World.putObj_heap_other e];exact hc
theorem Bv2 {w:World} {l:Nat} {o o':Obj} (hl:w.heap[l]? =some o) (h:Oq o=true) (h':Oq o'=true) (a:Addr):(w.putObj l o').frozen? a=w.frozen? a:=by
 have y:l<w.heap.size:=(Array.getElem?_eq_some_iff.1 hl).1;unfold World.frozen?;by_cases e:a.block=l
 ·rw[e,World.putObj_heap_same y,hl];cases o<;>first | cases h;done | (cases o'<;>first | rfl | cases h';done)
 ·rw[World.putObj_heap_other e]
theorem Cz0 {w:World} {l:Nat} {o o':Obj} {H:Ac} (hl:w.heap[l]? =some o) (h:Oq o=true) (h':Oq o'=true) (y:Bj w H) (C:H l=none):Bj (w.putObj l o') H:=by
 intro r ob ho;have hr:r≠l:=fun e=>by rw[e,C] at ho;cases ho
 rw[World.putObj_heap_other hr];exact(y r ob ho).lasts (Ws hl h h' H)
theorem Uj {P:Program} {w:World} {r:Nat} {o:Obj} (h:w.heap[r]? =some o) (hb:Oq o=true):(getObj r).run P w= .ok o w:=by
 simp only[getObj,Sem.run,h];cases o<;>first | rfl | cases hb
theorem Oa {P:Program} {w:World} {r:Nat} {o:Obj} (o':Obj) (h:w.heap[r]? =some o) (hb:Oq o=true):(setObj r o').run P w= .ok () (w.putObj r o'):=by
 simp only[setObj,Sem.run,h,World.putObj];cases o<;>first | rfl | cases hb
theorem Zd {w:World} {H:Ac} {r:Nat} {o o':Obj} {ob:DObj} (C:Bj w H) (hr:H r≠none) (y:w.heap[r]? =some o) (h:Oq o=true) (h':Oq o'=true)
  (D: ∀w' H',Lasts H w H' w'->Af4 w' H' ob (some o')):Bj (w.putObj r o') (upd H r (some ob))/\Ext H w (upd H r (some ob)) (w.putObj r o'):=by
 have E:r<w.heap.size:=(Array.getElem?_eq_some_iff.1 y).1;have hl:Lasts H w (upd H r (some ob)) (w.putObj r o'):=by
  have h1:=Ws y h h' H;refine⟨fun b i x hb hc=>⟨?_,(h1.cell b i x hb hc).2⟩,h1.size,h1.keep⟩;have:b≠r:=fun e=>hr (e▸hb);simp [upd,this,hb]
 refine⟨fun b x hx=> ?_,by rfl,by rfl,by rfl,by simp,fun b hb hn=> ?_,fun b hb=> ?_,fun b hb=>Al2 y h h' b,fun a _ _=>Bv2 y h h' a⟩
 ·by_cases e:b=r
  ·subst e;simp only[upd,if_pos] at hx;cases hx;rw[World.putObj_heap_same E];exact D _ _ hl
  ·simp only[upd,if_neg e] at hx;rw[World.putObj_heap_other e];exact(C b x hx).lasts hl
 ·rw[World.putObj_heap_other (fun e=>hr (by rw[<-e];exact hn))]
 ·by_cases e:b=r
  ·exact .inl (e▸hr)
  ·simp only[upd,if_neg e] at hb;exact .inl hb
theorem Cl7 {w:World} {H:Ac} {o:Obj} {ob:DObj} (C:Bj w H) (h:Oq o=true)
  (D: ∀w' H',Lasts H w H' w'->Af4 w' H' ob (some o)):Bj (w.alloc o) (upd H w.heap.size (some ob))/\Ext H w (upd H w.heap.size (some ob)) (w.alloc o):=by
 have y: ∀b,b<w.heap.size->(w.alloc o).heap[b]? =w.heap[b]? :=fun b hb=>by
  show(w.heap.push o)[b]? =_;rw[Array.getElem?_push,if_neg (by omega)]
 have hE:Ext H w (upd H w.heap.size (some ob)) (w.alloc o):=by
  refine⟨rfl,rfl,rfl,by simp,fun b hb _=>y b hb,fun b hb=> ?_,fun b hb=>by rw[y b hb],fun a _ _=> ?_⟩
  ·by_cases E:b=w.heap.size
   ·exact .inr (by omega)
   ·simp only[upd,if_neg E] at hb;exact .inl hb
  ·unfold World.frozen?;have hh:(w.alloc o).heap[a.block]? =if a.block=w.heap.size then some o else w.heap[a.block]? :=by
    show(w.heap.push o)[a.block]? =_;rw[Array.getElem?_push]
   rw[hh];by_cases e:a.block=w.heap.size
   ·rw[if_pos e,e,Array.getElem?_eq_none (Nat.le_refl _)];cases o<;>first | cases h;done | rfl
   ·rw[if_neg e]
 refine⟨fun r x hx=> ?_,hE⟩;by_cases e:r=w.heap.size
 ·subst e;simp only[upd,if_pos] at hx;cases hx;have:(w.alloc o).heap[w.heap.size]? =some o:=by
   show(w.heap.push o)[w.heap.size]? =_;simp
  rw[this];exact D _ _ hE.lasts
 ·simp only[upd,if_neg e] at hx;rw[y r (C.lt (by simp [hx]))];exact(C r x hx).lasts hE.lasts
end
section
variable {P:Program} {G:Nat->DVal} {N:Fr}
variable {o:Oper} {s:DS} {a:Act} {w:World} {K:DK} {Qx:Exit->Act->World->Prop}
theorem As7 {H:Ac}: ∀ {h:List DVal} {vs:List Value} {l:List UInt8},Az w H h vs->Yt h=some l-> ∃ns:List Int,vs=ns.map (Value.int .u8)/\l=ns.map fun n=>UInt8.ofNat n.toNat
 | [],vs,l,hr,hl=>by
  simp only[Az] at hr;subst hr;simp only[Yt,Option.some.injEq] at hl;subst hl;exact⟨[],rfl,rfl⟩
 | d::h,vs,l,hr,hl=>by
  simp only[Az] at hr;obtain⟨y,ys,rfl,h1,h2⟩:=hr;unfold Yt at hl;split at hl<;>try (cases hl;done)
  ·rename_i e;cases e
  ·rename_i n C e
   obtain⟨rfl,rfl⟩:=List.cons.inj e;obtain⟨l',h3,rfl⟩:=Option.map_eq_some_iff.1 hl;obtain⟨ns,rfl,rfl⟩:=As7 h2 h3;simp only[Rel] at h1;subst h1;exact⟨n::ns,rfl,rfl⟩
theorem Bv3: ∀(h:List Int) (s:ByteArray),(h.foldl (fun r n=>r.push (UInt8.ofNat n.toNat)) s).data.toList=s.data.toList++h.map fun n=>UInt8.ofNat n.toNat
 | [],s=>by simp
 | n::h,s=>by rw[List.foldl_cons,Bv3 h];simp [ByteArray.push]
theorem Bg6 (y:List Int):y.foldl (fun r n=>r.push (UInt8.ofNat n.toNat)) ByteArray.empty=⟨⟨y.map fun n=>UInt8.ofNat n.toNat⟩⟩:=by
 have:=Bv3 y ByteArray.empty;cases h:y.foldl (fun r n=>r.push (UInt8.ofNat n.toNat)) ByteArray.empty with
 | mk d=>
  rw[h] at this;congr 1;apply Array.ext';simpa using this
theorem Fg2 (I:Sim G N s a w) (J:Da N o.dst=true) {D t:TypeId} {x:Operand} (hx:Ca N x=true) (he:o.op= .convert D t x)
  (h:Yu P o.dst (P.underlying D) (P.underlying t) (dev G s.env x) K s):PV P o s a w K:=by
 have r:=Br I hx;by_cases hc: ∃e,P.underlying D=some (.slice e)/\P.underlying t=some .string
 ·obtain⟨e,hs,ht⟩:=hc;rw[hs,ht] at h;obtain⟨hu,h⟩:=h;generalize dev G s.env x=dx at h r;cases hb:(Af5 s.heap dx).bind Yt with
  | none=>rw[hb] at h;exact h.elim
  | some l=>
   rw[hb] at h;obtain⟨ds,h1,h2⟩:=Option.bind_eq_some_iff.1 hb;refine pvI I J (x:= .string ⟨⟨l⟩⟩) ?_ (by simp [Rel]) h;have go: ∀(y:Option Addr) (n c:Nat),a.eval x= .slice y n c->(Conv.bytesToString (.slice y n c)).run P w= .ok (.string ⟨⟨l⟩⟩) w->(execOp a.eval o).run P w= .ok (.value (.string ⟨⟨l⟩⟩)) w:=by
    intro y n c e1 C;simp [execOp,he,e1,run_convert_bytes_string w D t e y n c hs hu ht,C]
   unfold Af5 at h1;split at h1<;>try (cases h1;done)
   ·cases h1;simp only[Yt,Option.some.injEq] at h2;subst h2;simp only[Rel] at r;exact go none 0 0 r (by simp [Conv.bytesToString];rfl)
   ·rename_i cs n
    split at h1<;>cases h1
    rename_i hle
    simp only[Rel] at r;obtain⟨y,cap,e1,_,hc⟩:=r;refine go y n cap e1 ?_;rcases hc with rfl | ⟨b,o',xs,rfl,hc,hr⟩
    ·have hn:n=0:=by simpa using hle
     subst hn;simp only[List.take_nil,Yt,Option.some.injEq] at h2;subst h2;cases y with
     | none=>simp [Conv.bytesToString];rfl
     | some y=>exact run_bytesToString w y 0 cap [] (by simp [loadCells,loadCellsFrom])
    ·obtain⟨E,C,rfl⟩:=As7 (hr.take n) h2;have L:=hr.length;have hl:(E.map (Value.int .u8)).length=n:=by rw[<-C];simp;omega
     have:=Fu (P:=P) (w:=w) (Rp.take (n:=n) hc.holds);rw[C,hl] at this;rw[run_bytesToString w _ n cap E this,Bg6]
   ·rename_i sz r' off n lo
    unfold Dm8 at h1;split at h1<;>try (cases h1;done)
    rename_i cs e' hh
    split at h1<;>cases h1
    rename_i hle
    simp only[Rel] at r;obtain⟨o',cap,e1,_,U,M,_⟩:=r;refine go _ n cap e1 ?_;obtain⟨xs,hr,O⟩:=I.heap.holds hh;by_cases S:cap=0
    ·have hn:n=0:=by omega
     subst hn;simp only[jR,Yt,Option.some.injEq] at h2;subst h2;exact run_bytesToString w _ 0 cap [] (by simp [loadCells,loadCellsFrom])
    ·have:o'=off:=M.resolve_left S;subst this;obtain⟨E,C,rfl⟩:=As7 ((hr.drop o').take n) h2;have L:=hr.length;have hl:(E.map (Value.int .u8)).length=n:=by rw[<-C];simp;omega
     have h3:Rp w r' o' (xs.drop o'):=by simpa using O.drop (n:=o')
     have:=Fu (P:=P) (w:=w) (Rp.take (n:=n) h3);rw[C,hl] at this;rw[run_bytesToString w _ n cap E this,Bg6]
 ·refine Dt7 I J hx he ?_;revert h;generalize hs:P.underlying D=us at hc;generalize ht:P.underlying t=ut at hc;intro h;unfold Yu at h;split at h
  ·exact absurd ⟨_,rfl,rfl⟩ hc
  ·exact h
theorem Fg3 (y:Sim G N s a w) (C:Da N o.dst=true) {t:TypeId} {x:Operand} (hx:Ca N x=true) (he:o.op= .range t x)
  (h:Ca8 o.dst (P.underlying t) (dev G s.env x) K s):o.wp P a w (Ik G N K s w) Qx:=by
 have r:=Br y hx;generalize dev G s.env x=dx at h r;generalize hu:P.underlying t=u at h;unfold Ca8 at h;split at h<;>try exact h.elim
 rename_i l
 simp only[Rel] at r;obtain⟨k1,D⟩:=Cl7 (o:= .stringIter ⟨⟨l⟩⟩ 0) (ob:= .iter l 0) y.heap rfl (fun w' H' _=>rfl);refine In y C (x:= .pointer (some ⟨w.heap.size,0,none⟩)) ?_ D k1 (by simp [Rel]) (h _ y.heap.fresh);simp [execOp,he,r,run_range_string w t _ hu,World.iter]
theorem Fz6 (y:Sim G N s a w) (C:Da N o.dst=true) {b:Bool} {x:Operand} (hx:Ca N x=true) (he:o.op= .next x b)
  (h:Dm9 o.dst b (dev G s.env x) K s):o.wp P a w (Ik G N K s w) Qx:=by
 have r:=Br y hx;generalize dev G s.env x=dx at h r;unfold Dm9 at h;split at h<;>try exact h.elim
 rename_i r0
 simp only[Rel] at r;generalize hh:s.heap r0=ob at h;unfold Cy0 at h;split at h<;>try exact h.elim
 rename_i l pos
 have ho:w.heap[r0]? =some (.stringIter ⟨⟨l⟩⟩ pos):=y.heap _ _ hh;have hg:=Uj (P:=P) ho rfl;have D:(ByteArray.mk ⟨l⟩).size=l.length:=rfl;by_cases hp:pos<l.length
 ·obtain⟨k1,E⟩:=Zd (o':= .stringIter ⟨⟨l⟩⟩ (pos+(Ss l pos).2)) (ob:= .iter l (pos+(Ss l pos).2)) y.heap (by rw[hh];simp) ho rfl rfl (fun w' H' _=>rfl);refine In y C (x:= .tuple #[.bool true, .int .i64 pos, .int .i32 (Ss l pos).1]) ?_ E k1 (by simp [Rel,Az]) (h.1 hp);have I:=Oa (P:=P) (.stringIter ⟨⟨l⟩⟩ (pos+(Ss l pos).2)) ho rfl;simp only[execOp,he,r,Instr.next,Sem.run_bind,hg,Result.andThen_ok,D,if_pos hp];show Result.andThen (Result.andThen ((setObj r0 (.stringIter ⟨⟨l⟩⟩ (pos+(Ss l pos).2))).run P w) _) _=_;rw[I];simp [goInt,Ss]
 ·refine Ko y C (x:= .tuple #[.bool false]) ?_ (by simp [Rel,Az]) (h.2 hp);simp [execOp,he,r,Instr.next,hg,D,hp]
theorem Du2 (C:Sim G N s a w) (E:Da N o.dst=true) {t:TypeId} {x:Option Operand} (hx:(match x with | some x=>Ca N x | none=>true)=true) (he:o.op= .makeMap t x)
  (h:Yy o.dst (P.underlying t) (Rh G s.env x) K s):o.wp P a w (Ik G N K s w) Qx:=by
 obtain⟨k1,I⟩:=Cl7 (o:= .map #[] 0) (ob:= .map []) C.heap rfl (fun w' H' _=>⟨#[],0,rfl,rfl⟩)
 have J:=C.heap.fresh
 generalize hu:P.underlying t=u at h
 rcases Bg5 C hx with⟨rfl,e⟩ | ⟨y,rfl,e,r⟩
 ·rw[e] at h
  unfold Yy at h
  split at h<;>try exact h.elim
  ·refine In C E (x:= .map (some w.heap.size)) ?_ I k1 (by simp [Rel]) (h _ J)
   simp [execOp,he,Instr.makeMap,run_newObj_alloc]
  ·rename_i D;cases D
 ·rw[e] at h
  cases hdv:dev G s.env y<;>rw[hdv] at h r<;>(unfold Yy at h;split at h<;>try exact h.elim)
  all_goals try (rename_i D;cases D;done)
  all_goals
   simp only[Rel] at r
   refine In C E (x:= .map (some w.heap.size)) ?_ I k1 (by simp [Rel]) (h _ J)
   simp [execOp,he,Instr.makeMap,run_newObj_alloc,run_underlying hu,r,asInt,asIntOf]
theorem Ys.len {w:World} {H:Ac}: ∀ {es:List (DVal×DVal)} {ms:List MapEntry},Ys w H es ms->es.length=ms.length
 | [],_,h=>by rw[show _=_ from h];rfl
 | p::es,ms,h=>by
  obtain⟨m,y,rfl,_,_,h3⟩:=h;simp [Ys.len h3]
theorem Ys.get {w:World} {H:Ac}: ∀ {es:List (DVal×DVal)} {ms:List MapEntry},Ys w H es ms-> ∀ {i:Nat} {p:DVal×DVal},es[i]? =some p-> ∃m,ms[i]? =some m/\Rel w H p.1 m.key/\Rel w H p.2 m.val
 | [],_,_,i,p,hp=>by simp at hp
 | q::es,ms,h,i,p,hp=>by
  obtain⟨m,D,rfl,h1,h2,h3⟩:=h;cases i with
  | zero=>simp at hp;subst hp;exact⟨m,rfl,h1,h2⟩
  | succ i=>simp at hp;obtain⟨y,e1,C⟩:=Ys.get h3 hp;exact⟨y,by simpa using e1,C⟩
theorem Ys.app {w:World} {H:Ac}: ∀ {es fs:List (DVal×DVal)} {ms y:List MapEntry},Ys w H es ms->Ys w H fs y->Ys w H (es++fs) (ms++y)
 | [],_,_,_,h,k=>by rw[show _=_ from h];exact k
 | p::es,fs,ms,y,h,k=>by
  obtain⟨m,C,rfl,h1,h2,h3⟩:=h;exact⟨m,C++y,rfl,h1,h2,Ys.app h3 k⟩
theorem Ys.erase {w:World} {H:Ac}: ∀ {es:List (DVal×DVal)} {ms:List MapEntry},Ys w H es ms-> ∀(i:Nat),Ys w H (es.eraseIdx i) (ms.eraseIdx i)
 | [],_,h,i=>by rw[show _=_ from h];exact rfl
 | q::es,ms,h,0=>by
  obtain⟨y,C,rfl,h1,h2,h3⟩:=h;exact h3
 | q::es,ms,h,i+1=>by
  obtain⟨y,C,rfl,h1,h2,h3⟩:=h;exact⟨y,_,rfl,h1,h2,Ys.erase h3 i⟩
theorem Ek4 {w:World} {H:Ac} {d:TypeDesc} {k k':DVal} {x y:Value} (hk:Uf (some d) k=true) (h:Rel w H k x) (h':Rel w H k' y) {b:Bool} (hb:Yk k k'=some b):Instr.sameNow d x y=some b:=by
 cases k<;>first | (cases d<;>(simp [Uf] at hk;done)) | skip
 case int kk n=>
  cases d<;>simp [Uf] at hk;subst hk;cases k'<;>simp only[Yk] at hb<;>try (cases hb;done)
  rename_i D m
  split at hb
  ·rename_i e;subst e
   cases hb;simp only[Rel] at h h';subst h;subst h';simp only[Instr.sameNow,if_true];rfl
  ·cases hb
 case str l=>
  cases d<;>simp [Uf] at hk;cases k'<;>simp only[Yk] at hb<;>try (cases hb;done)
  cases hb;simp only[Rel] at h h';subst h;subst h';simp only[Instr.sameNow]
  rename_i s1
  have e1:((⟨⟨l⟩⟩:ByteArray)==⟨⟨s1⟩⟩)=((⟨l⟩:Array UInt8)==⟨s1⟩):=rfl;rw[e1];congr 1;rw[Bool.eq_iff_iff];simp
 case bool l=>
  cases d<;>simp [Uf] at hk;cases k'<;>simp only[Yk] at hb<;>try (cases hb;done)
  cases hb;simp only[Rel] at h h';subst h;subst h';simp only[Instr.sameNow]
  rename_i C;cases l<;>cases C<;>rfl
theorem Cl8 {w:World} {H:Ac} {d:TypeDesc} {k:DVal} {x:Value} (hk:Uf (some d) k=true) (h:Rel w H k x): ∀ {es:List (DVal×DVal)} {ms:List MapEntry},Ys w H es ms-> ∀(i:Nat) {r:Option Nat},Mz k es i=some r->
  Instr.findNow d x ms i=some (r.bind fun j=>(ms[j-i]?).map fun m=>(j,m.val))/\ ∀j,r=some j->i<=j
 | [],ms,hm,i,r,hf=>by
  rw[show ms= [] from hm];simp only[Mz] at hf;cases hf;exact⟨rfl,fun j hj=>by cases hj⟩
 | p::es,ms,hm,i,r,hf=>by
  obtain⟨m,D,rfl,h1,h2,h3⟩:=hm;simp only[Mz] at hf;cases hb:Yk k p.1 with
  | none=>rw[hb] at hf;cases hf
  | some b=>
   rw[hb] at hf;have hs:=Ek4 hk h h1 hb;cases b with
   | true=>
    simp only[Yw] at hf;cases hf;simp only[Instr.findNow,hs];exact⟨by simp,fun j hj=>by cases hj;exact Nat.le_refl _⟩
   | false=>
    simp only[Yw] at hf;obtain⟨C,y⟩:=Cl8 hk h h3 (i+1) hf;simp only[Instr.findNow,hs,C];refine⟨?_,fun j hj=>by have:=y j hj;omega⟩;cases r with
    | none=>rfl
    | some j=>
     have:=y j rfl;simp only[Option.bind_some];rw[show j-i=(j-(i+1))+1 by omega];simp
theorem Cl9 {w:World} {H:Ac} {y:TypeId} {k:DVal} {x:Value} (hk:Uf (P.underlying y) k=true) (h:Rel w H k x) {es:List (DVal×DVal)} {ms:List MapEntry} (hm:Ys w H es ms) {r:Option Nat} (hf:Mz k es 0=some r):
  (Instr.findKey y x ms).run P w= .ok (r.bind fun j=>(ms[j]?).map fun m=>(j,m.val)) w:=by
 cases hu:P.underlying y with
 | none=>rw[hu] at hk;cases hk
 | some d=>
  rw[hu] at hk;obtain⟨C,_⟩:=Cl8 hk h hm 0 hf;simp only[Nat.sub_zero] at C;simp [Instr.findKey,run_underlying hu,C]
theorem Cb7 {w:World} {H:Ac} {y:TypeId} {k:DVal} {x:Value} {b:Bool} (hk:Uf (P.underlying y) k=true) (h:Rel w H k x) (n:Nat):(Instr.checkKey b (n+1) y x).run P w= .ok () w:=by
 cases hu:P.underlying y with
 | none=>rw[hu] at hk;cases hk
 | some d=>
  rw[hu] at hk;unfold Uf at hk;split at hk<;>first | (cases hk;done) | (rename_i e;cases e;simp only[Rel] at h;subst h;simp [Instr.checkKey,run_underlying hu])
theorem Cz1 {t:Option TypeDesc} (h:Bu9 P t=true): ∃e ie,t=some (.array 2 e)/\P.underlying e=some .bool/\P.info? e=some ie/\P.cellsOf e=1:=by
 unfold Bu9 at h;split at h
 ·rename_i e
  simp only[jF,beq_iff_eq] at h;obtain⟨⟨h1,h2⟩,h3⟩:=h;obtain⟨ie,hie⟩:=Option.isSome_iff_exists.1 h2;refine⟨e,ie,rfl, ?_,hie,h3⟩;unfold Dn2 at h1;split at h1
  ·rename_i e1;exact e1
  ·cases h1
 ·cases h
theorem Bv4 {t:Option TypeDesc} {k:DVal} (h:Yx P t k=true):Uf t k=true\/ ∃a b,k= .agg [.bool a, .bool b]/\Bu9 P t=true:=by
 unfold Yx at h;split at h
 ·exact .inr ⟨_,_,rfl,h⟩
 ·exact .inl h
theorem Fz7 {t e:TypeId} {h:TypeInfo} {a b c d:Bool} (h1:P.underlying t=some (.array 2 e)) (h2:P.underlying e=some .bool) (h3:P.info? e=some h) (y:P.cellsOf e=1):
  Ar5 P 2 t [.bool a, .bool b] [.bool c, .bool d]=some (decide (a=c)&&decide (b=d)):=by
 have hag:Dy P e=some false:=by simp [Dy,h2]
 have hr:List.range 2= [0,1]:=rfl;simp only[Ar5,h1,Ae4,h3,Option.isSome_some,if_true,hr,Ck1,h2,hag,y,Jh,Ck2,List.drop,List.take,Nat.mul_one];cases a<;>cases b<;>cases c<;>cases d<;>rfl
theorem Do0 {a b:Bool} {k':DVal} {r:Bool} (h:Yk (.agg [.bool a, .bool b]) k'=some r): ∃c d,k'= .agg [.bool c, .bool d]/\r=(decide (a=c)&&decide (b=d)):=by
 unfold Yk at h;split at h;all_goals first | (cases h;done) | skip
 all_goals first | (rename_i y;cases y;done) | skip
 rename_i y
 cases y;cases h;exact⟨_,_,rfl,rfl⟩
theorem Cb8 {w:World} {H:Ac} {t:TypeId} {a b:Bool} {k':DVal} {x y:Value} {r:Bool} (hk:Bu9 P (P.underlying t)=true) (h:Rel w H (.agg [.bool a, .bool b]) x) (h':Rel w H k' y) (hb:Yk (.agg [.bool a, .bool b]) k'=some r):
  (Op.equal t x y).run P w= .ok r w:=by
 obtain⟨e,E,h1,h2,h3,h4⟩:=Cz1 hk;have hag:Dy P t=some true:=by simp [Dy,h1]
 obtain⟨c,d,rfl,rfl⟩:=Do0 hb;have g: ∃xs,x= .agg xs/\Az w H [.bool a, .bool b] xs.toList:=h;have C: ∃xs,y= .agg xs/\Az w H [.bool c, .bool d] xs.toList:=h';obtain⟨xs,rfl,hx⟩:=g;obtain⟨ys,rfl,D⟩:=C;exact Ps (P:=P) (w:=w) (H:=H) 2 Op.maxDepth (by decide) t _ _ _ _ true _ hag hx D (fun _=>⟨_,rfl⟩) (fun _=>⟨_,rfl⟩) (Fz7 h1 h2 h3 h4)
theorem Ay4 {w:World} {H:Ac} {t:TypeId} {a b:Bool} {x:Value} (hk:Bu9 P (P.underlying t)=true) (h:Rel w H (.agg [.bool a, .bool b]) x): ∀ {es:List (DVal×DVal)} {ms:List MapEntry},Ys w H es ms-> ∀(i:Nat) {r:Option Nat},Mz (.agg [.bool a, .bool b]) es i=some r->
  (Instr.findAsking t x ms i).run P w= .ok (r.bind fun j=>(ms[j-i]?).map fun m=>(j,m.val)) w/\ ∀j,r=some j->i<=j
 | [],ms,hm,i,r,hf=>by
  rw[show ms= [] from hm];simp only[Mz] at hf;cases hf;exact⟨by simp [Instr.findAsking],fun j hj=>by cases hj⟩
 | p::es,ms,hm,i,r,hf=>by
  obtain⟨m,D,rfl,h1,h2,h3⟩:=hm;simp only[Mz] at hf;cases hb:Yk (.agg [.bool a, .bool b]) p.1 with
  | none=>rw[hb] at hf;cases hf
  | some b'=>
   rw[hb] at hf;have hs:=Cb8 hk h h1 hb;cases b' with
   | true=>
    simp only[Yw] at hf;cases hf;refine⟨by simp [Instr.findAsking,hs],fun j hj=>by cases hj;exact Nat.le_refl _⟩
   | false=>
    simp only[Yw] at hf;obtain⟨C,y⟩:=Ay4 hk h h3 (i+1) hf;refine⟨?_,fun j hj=>by have:=y j hj;omega⟩;simp only[Instr.findAsking,Sem.run_bind,hs,Result.andThen_ok,Bool.false_eq_true,if_false,C];cases r with
    | none=>rfl
    | some j=>
     have:=y j rfl;simp only[Option.bind_some];rw[show j-i=(j-(i+1))+1 by omega];simp
theorem Rz {w:World} {H:Ac} {y:TypeId} {k:DVal} {x:Value} (hk:Yx P (P.underlying y) k=true) (h:Rel w H k x) {es:List (DVal×DVal)} {ms:List MapEntry} (hm:Ys w H es ms) {r:Option Nat} (hf:Mz k es 0=some r):
  (Instr.findKey y x ms).run P w= .ok (r.bind fun j=>(ms[j]?).map fun m=>(j,m.val)) w:=by
 rcases Bv4 hk with hk | ⟨a,b,rfl,hk⟩
 ·exact Cl9 hk h hm hf
 ·obtain⟨C,_⟩:=Ay4 hk h hm 0 hf;simp only[Nat.sub_zero] at C;obtain⟨e,D,h1,h2,h3,h4⟩:=Cz1 hk;cases ms with
  | nil=>
   have:es= []:=by cases es with
    | nil=>rfl
    | cons p es=>obtain⟨m,E,e,_⟩:=hm;cases e
   subst this;simp only[Mz] at hf;cases hf;simp [Instr.findKey,run_underlying h1,Instr.findNow]
  | cons m ms=>
   have hn:Instr.findNow (.array 2 e) x (m::ms) 0=none:=by simp [Instr.findNow,Instr.sameNow]
   simp [Instr.findKey,run_underlying h1,hn,C]
theorem Qh {w:World} {H:Ac} {C:TypeId} {k:DVal} {x:Value} {b:Bool} (hk:Yx P (P.underlying C) k=true) (h:Rel w H k x):(Instr.checkKey b (9999+1) C x).run P w= .ok () w:=by
 rcases Bv4 hk with hk | ⟨c,d,rfl,hk⟩
 ·exact Cb7 hk h 9999
 ·obtain⟨e,L,h1,h2,h3,h4⟩:=Cz1 hk;simp only[Rel,Az] at h;obtain⟨xs,rfl,y,ys,hx,rfl,z,M,rfl,rfl,rfl⟩:=h;have hag:Dy P e=some false:=by simp [Dy,h2]
  have E:xs= #[.bool c, .bool d]:=by apply Array.ext';simpa using hx
  subst E;have I:(part e #[Value.bool c, .bool d] 0).run P w= .ok (.bool c) w:=by simp [part,Nx hag]
  have hp1:(part e #[Value.bool c, .bool d] 1).run P w= .ok (.bool d) w:=by simp [part,Nx hag]
  have D:=Dd (P:=P) (w:=w) (t:=e) (by rw[h3];rfl);rw[h4] at D;have J: ∀n,(Instr.checkKey b (n+1+1) C (.agg #[.bool c, .bool d])).run P w= .ok () w:=fun n=>by
   simp [Instr.checkKey,run_underlying h1,run_underlying h2,D,Std.Legacy.Range.forIn_eq_forIn_range',Std.Legacy.Range.size,List.range',I,hp1]
  exact J 9998
theorem Ek5 (C:Sim G N s a w) (L:Da N o.dst=true) {t:TypeId} {x k:Operand} {ok:Bool} (hx:Ca N x=true) (hk:Ca N k=true) (he:o.op= .lookup t x k ok)
  (h:Bd6 P ok o.dst (P.underlying t) (dev G s.env x) (dev G s.env k) K s):o.wp P a w (Ik G N K s w) Qx:=by
 have D:=Br C hx;have E:=Br C hk;generalize hu:P.underlying t=u at h;generalize dev G s.env x=dx at h D;generalize dev G s.env k=dk at h E;unfold Bd6 at h;split at h<;>try exact h.elim
 ·rename_i U e r
  obtain⟨I,h⟩:=h;simp only[Rel] at D;cases hh:s.heap r with
  | none=>rw[hh] at h;exact h.elim
  | some ob=>
   cases ob with
   | loop=>rw[hh] at h;exact h.elim
   | iter=>rw[hh] at h;exact h.elim
   | cells=>rw[hh] at h;exact h.elim
   | map es=>
    rw[hh] at h;simp only[Cy3] at h;obtain⟨ms,Y,ho,hm⟩:=C.heap r _ hh;cases hf:Mz dk es 0 with
    | none=>rw[hf] at h;cases hz:Bm P e<;>rw[hz] at h<;>exact h.elim
    | some V=>
     rw[hf] at h;have y:=Rz (P:=P) (w:=w) I E hm hf;have J:=fun b=>Qh (P:=P) (w:=w) (b:=b) I E;have O:=Uj (P:=P) ho rfl;cases V with
     | some i=>
      have h': ∃p,es[i]? =some p/\Cy2 ok o.dst p.2 true K s:=by
       cases hz:Bm P e<;>rw[hz] at h<;>exact h
      obtain⟨p,hp,W⟩:=h';obtain⟨m,hmi,Z,S⟩:=hm.get hp;have aa:ms[i]? =some m:=by rw[<-Array.getElem?_toList];exact hmi
      simp only[Option.bind_some,hmi,Option.map_some] at y;refine Ko C L (x:=if ok then .tuple #[m.val, .bool true] else m.val) ?_ ?_ W
      ·cases ok<;>simp [execOp,he,D,Instr.lookup,run_underlying hu,O,J,y]
      ·cases ok
       ·exact S
       ·simp only[if_true,Rel,Az];exact⟨_,rfl,_,_,rfl,S,_,_,rfl,rfl,rfl⟩
     | none=>
      simp only[Option.bind_none] at y;cases hz:Bm P e with
      | none=>rw[hz] at h;exact h.elim
      | some z=>
       rw[hz] at h;obtain⟨X,v,hie,M,rfl⟩:=Ny hz;refine Ko C L (x:=if ok then .tuple #[v, .bool false] else v) ?_ ?_ h
       ·cases ok<;>simp [execOp,he,D,Instr.lookup,run_underlying hu,O,J,y,zeroValue,typeInfo,hie,M]
       ·cases ok
        ·exact Gu w s.heap v
        ·simp only[if_true,Rel,Az];exact⟨_,rfl,_,_,rfl,Gu w s.heap v,_,_,rfl,rfl,rfl⟩
 ·rename_i U e
  obtain⟨I,h⟩:=h;simp only[Rel] at D;have y:=Rz (P:=P) (w:=w) (es:= []) (ms:= []) I E rfl (r:=none) rfl;have J:=fun b=>Qh (P:=P) (w:=w) (b:=b) I E;simp only[Option.bind_none] at y;cases hz:Bm P e with
  | none=>rw[hz] at h;exact h.elim
  | some z=>
   rw[hz] at h;obtain⟨X,v,hie,M,rfl⟩:=Ny hz;refine Ko C L (x:=if ok then .tuple #[v, .bool false] else v) ?_ ?_ h
   ·cases ok<;>simp [execOp,he,D,Instr.lookup,run_underlying hu,J,y,zeroValue,typeInfo,hie,M]
   ·cases ok
    ·exact Gu w s.heap v
    ·simp only[if_true,Rel,Az];exact⟨_,rfl,_,_,rfl,Gu w s.heap v,_,_,rfl,rfl,rfl⟩
theorem Ek6 (y:Sim G N s a w) (M:Da N o.dst=true) {c:Call} {x k:Operand} {t:TypeId} {ts:List TypeId} (hx:Ca N x=true) (hk:Ca N k=true) (he:o.op= .call c) (Y:c.callee= .builtin .delete) (Z:c.args.toList= [x,k]) (aa:c.argTypes.toList=t::ts)
  (h:Ak6 P o.dst (P.underlying t) (dev G s.env x) (dev G s.env k) K s):o.wp P a w (Ik G N K s w) Qx:=by
 have E:=Br y hx;have O:=Br y hk;have ab:c.args.map a.eval= #[a.eval x,a.eval k]:=by apply Array.ext';simp [Z]
 have L:=Io (a:=a) he Y;rw[ab] at L;have S:c.argTypes[0]? =some t:=by rw[<-Array.getElem?_toList,aa];rfl
 generalize hu:P.underlying t=u at h;generalize dev G s.env x=dx at h E;generalize dev G s.env k=dk at h O;unfold Ak6 at h;split at h<;>try exact h.elim
 rename_i kt e r
 obtain⟨X,h⟩:=h;simp only[Rel] at E;cases hh:s.heap r with
 | none=>rw[hh] at h;exact h.elim
 | some ob=>
  cases ob with
  | loop=>rw[hh] at h;exact h.elim
  | iter=>rw[hh] at h;exact h.elim
  | cells=>rw[hh] at h;exact h.elim
  | map es=>
   rw[hh] at h;simp only[Bg1] at h;obtain⟨ms,C,ho,hm⟩:=y.heap r _ hh;cases hf:Mz dk es 0 with
   | none=>rw[hf] at h;exact h.elim
   | some fi=>
    rw[hf] at h;simp only[Bg0] at h;have D:=Rz (P:=P) (w:=w) X O hm hf;have U:=fun b=>Qh (P:=P) (w:=w) (b:=b) X O;have V:=Uj (P:=P) ho rfl;have W:s.heap r≠none:=by rw[hh];simp
    cases fi with
    | none=>
     simp only[Option.bind_none] at D;obtain⟨k1,I⟩:=Zd (o':= .map ms C) (ob:= .map es) y.heap W ho rfl rfl (fun w' H' hl=>⟨ms,C,rfl,hm.lasts hl⟩);have J:=Oa (P:=P) (.map ms C) ho rfl;refine In y M (x:= .tuple #[]) ?_ I k1 (by simp [Rel,Az]) h;rw[L];simp [builtin,Builtin.delete_,S,run_underlying hu,E,V,U,D,J]
    | some i=>
     cases hmi:ms.toList[i]? with
     | none=>
      have hle:ms.toList.length<=i:=by rwa [List.getElem?_eq_none_iff] at hmi
      have ac:es.eraseIdx i=es:=List.eraseIdx_of_length_le (by rw[hm.len];exact hle);simp only[Option.bind_some,hmi,Option.map_none] at D;simp only[Ck6,ac] at h;obtain⟨k1,I⟩:=Zd (o':= .map ms C) (ob:= .map es) y.heap W ho rfl rfl (fun w' H' hl=>⟨ms,C,rfl,hm.lasts hl⟩);have J:=Oa (P:=P) (.map ms C) ho rfl;refine In y M (x:= .tuple #[]) ?_ I k1 (by simp [Rel,Az]) h;rw[L];simp [builtin,Builtin.delete_,S,run_underlying hu,E,V,U,D,J]
     | some m=>
      simp only[Option.bind_some,hmi,Option.map_some] at D;obtain⟨k1,I⟩:=Zd (o':= .map (ms.eraseIdxIfInBounds i) C) (ob:= .map (es.eraseIdx i)) y.heap W ho rfl rfl (fun w' H' hl=>⟨_,C,rfl,by
       rw[Array.toList_eraseIdxIfInBounds];exact(hm.lasts hl).erase i⟩)
      have J:=Oa (P:=P) (.map (ms.eraseIdxIfInBounds i) C) ho rfl;refine In y M (x:= .tuple #[]) ?_ I k1 (by simp [Rel,Az]) h;rw[L];simp [builtin,Builtin.delete_,S,run_underlying hu,E,V,U,D,J]
theorem Ys.modify {w:World} {H:Ac} {f:MapEntry->MapEntry}: ∀ {es:List (DVal×DVal)} {ms:List MapEntry},Ys w H es ms-> ∀(i:Nat) {p:DVal×DVal},(∀m,Rel w H p.1 (f m).key/\Rel w H p.2 (f m).val)->Ys w H (es.set i p) (ms.modify i f)
 | [],_,h,i,p,_=>by rw[show _=_ from h];cases i<;>exact rfl
 | q::es,ms,h,0,p,k=>by
  obtain⟨y,C,rfl,h1,h2,h3⟩:=h;exact⟨f y,C,rfl,(k y).1,(k y).2,h3⟩
 | q::es,ms,h,i+1,p,k=>by
  obtain⟨y,C,rfl,h1,h2,h3⟩:=h;exact⟨y,_,rfl,h1,h2,Ys.modify h3 i k⟩
theorem Bg7 {k:DVal}: ∀ {es:List (DVal×DVal)} {n i:Nat},Mz k es n=some (some i)-> ∃p,n<=i/\es[i-n]? =some p/\Yk k p.1=some true
 | [],n,i,h=>by simp [Mz] at h
 | q::es,n,i,h=>by
  simp only[Mz] at h;cases hb:Yk k q.1 with
  | none=>rw[hb] at h;cases h
  | some b=>
   rw[hb] at h;cases b with
   | true=>simp only[Yw] at h;cases h;exact⟨q,Nat.le_refl _,by simp,hb⟩
   | false=>
    simp only[Yw] at h;obtain⟨p,h1,h2,h3⟩:=Bg7 h;refine⟨p,by omega, ?_,h3⟩;rw[show i-n=(i-(n+1))+1 by omega];simpa using h2
theorem Du3 {w:World} {H:Ac} {k k':DVal} {x D:Value} (h:Rel w H k x) (h':Rel w H k' D) (hb:Yk k k'=some true) (n:Nat):Instr.sameBits (n+1) D x=true:=by
 cases k<;>(try (simp [Yk] at hb;done))<;>cases k'<;>simp only[Yk] at hb<;>(try (cases hb;done))
 ·simp only[Rel] at h h';subst h;subst h';simp at hb;subst hb;cases n<;>simp [Instr.sameBits]
 ·split at hb<;>simp at hb
  rename_i e;subst e;subst hb
  simp only[Rel] at h h';subst h;subst h';cases n<;>simp [Instr.sameBits]
 ·simp only[Rel] at h h';subst h;subst h';simp at hb;subst hb;have e1: ∀l:List UInt8,((⟨⟨l⟩⟩:ByteArray)==⟨⟨l⟩⟩)=true:=fun l=>by
   show((⟨l⟩:Array UInt8)==⟨l⟩)=true;simp
  cases n<;>simp [Instr.sameBits,e1]
 ·rename_i E I
  have hb:Yk (.agg E) (.agg I)=some true:=hb;obtain⟨a,b,e1⟩: ∃a b,E= [.bool a, .bool b]:=by
   unfold Yk at hb;split at hb;all_goals first | (cases hb;done) | skip
   all_goals first | (rename_i J _;cases J;done) | skip
   rename_i h1 h2
   cases h1;exact⟨_,_,rfl⟩
  subst e1;obtain⟨c,d,L,y⟩:=Do0 hb;cases L;have y:=y.symm;simp only[jF,decide_eq_true_eq] at y;obtain⟨rfl,rfl⟩:=y;have g: ∃xs,x= .agg xs/\Az w H [.bool a, .bool b] xs.toList:=h;have M: ∃xs,D= .agg xs/\Az w H [.bool a, .bool b] xs.toList:=h';obtain⟨xs,rfl,hx⟩:=g;obtain⟨ys,rfl,C⟩:=M;simp only[Az,Rel] at hx C;obtain⟨_,_,hx,rfl,_,_,rfl,rfl,rfl⟩:=hx;obtain⟨_,_,C,rfl,_,_,rfl,rfl,rfl⟩:=C;have O:xs= #[.bool a, .bool b]:=by apply Array.ext';simpa using hx
  have S:ys= #[.bool a, .bool b]:=by apply Array.ext';simpa using C
  subst O;subst S;cases n<;>simp [Instr.sameBits]
theorem Cm0 (C:Sim G N s a w) {t:TypeId} {x k y:Operand} (hx:Ca N x=true) (hk:Ca N k=true) (X:Ca N y=true) (he:o.op= .mapUpdate t x k y\/o.op= .insert t x k y)
  (h:Ab9 P o.dst (P.underlying t) (dev G s.env x) (dev G s.env k) (dev G s.env y) K s):o.wp P a w (Ik G N K s w) Qx:=by
 have I:=Br C hx;have D:=Br C hk;have L:=Br C X;generalize hu:P.underlying t=u at h;generalize dev G s.env x=dx at h I;generalize dev G s.env k=dk at h D;generalize dev G s.env y=dy at h L;unfold Ab9 at h;split at h<;>try exact h.elim
 rename_i kt e r
 obtain⟨hdst,S,h⟩:=h;simp only[Rel] at I;cases hh:s.heap r with
 | none=>rw[hh] at h;exact h.elim
 | some ob=>
  cases ob with
  | loop=>rw[hh] at h;exact h.elim
  | iter=>rw[hh] at h;exact h.elim
  | cells=>rw[hh] at h;exact h.elim
  | map es=>
   rw[hh] at h;obtain⟨ag,h⟩:=h;obtain⟨ms,E,ho,hm⟩:=C.heap r _ hh;cases hf:Mz dk es 0 with
   | none=>rw[hf] at h;exact h.elim
   | some Y=>
    rw[hf] at h;simp only[Ak5] at h;have J:=Rz (P:=P) (w:=w) S D hm hf;have U:=fun b=>Qh (P:=P) (w:=w) (b:=b) S D;have V:=Uj (P:=P) ho rfl;have Z:s.heap r≠none:=by rw[hh];simp
    have fin: ∀ {o':Obj} {M:List (DVal×DVal)},Oq o'=true->(∀w' H',Lasts s.heap w H' w'->Af4 w' H' (.map M) (some o'))->(execOp a.eval o).run P w= .ok .skip (w.putObj r o')->K ⟨s.env,upd s.heap r (some (.map M))⟩->o.wp P a w (Ik G N K s w) Qx:=by
     intro o' M aa ab ac hK;obtain⟨k1,W⟩:=Zd C.heap Z ho rfl aa ab;unfold Oper.wp;rw[ac];show Ik G N K s w (a.put o.dst undef) _;rw[hdst];exact⟨_,hK,C.ext W k1,W⟩
    cases Y with
    | none=>
     simp only[Option.bind_none] at J;have O:=Oa (P:=P) (.map (ms.push { key:=a.eval k,val:=a.eval y,born:=E }) (E+1)) ho rfl;refine fin (o':= .map (ms.push { key:=a.eval k,val:=a.eval y,born:=E }) (E+1)) rfl (fun w' H' hl=>⟨_,_,rfl, ?_⟩) ?_ h
     ·rw[Array.toList_push];exact(hm.lasts hl).app (fs:= [(dk,dy)]) ⟨_,[],rfl,Rel.lasts hl _ _ D,Rel.lasts hl _ _ L,rfl⟩
     ·rcases he with he | he<;>simp [execOp,he,I,Instr.mapUpdate,run_underlying hu,V,U,J,O]
    | some i=>
     obtain⟨p,_,hp,ad⟩:=Bg7 hf;rw[Nat.sub_zero] at hp;obtain⟨m,hmi,r1,r2⟩:=hm.get hp;have ae:ms[i]? =some m:=by rw[<-Array.getElem?_toList];exact hmi
     simp only[Option.bind_some,hmi,Option.map_some] at J;have af:=Du3 D r1 ad 9999;have O:=Oa (P:=P) (.map (ms.modify i fun e=> { e with key:=a.eval k,val:=a.eval y }) E) ho rfl;refine fin (o':= .map (ms.modify i fun e=> { e with key:=a.eval k,val:=a.eval y }) E) rfl (fun w' H' hl=>⟨_,_,rfl, ?_⟩) ?_ h
     ·rw[Array.toList_modify];exact(hm.lasts hl).modify i (fun m=>⟨Rel.lasts hl _ _ D,Rel.lasts hl _ _ L⟩)
     ·rcases he with he | he<;>simp [execOp,he,I,Instr.mapUpdate,run_underlying hu,V,U,J,ae,Instr.keyThatStays,af,O]
end
section
variable {P:Program} {G:Nat->DVal} {N:Fr}
variable {o:Oper} {s s0:DS} {a:Act} {w w0:World} {K:DK} {Q:DExit->DS->Prop}
theorem Af.mono {f:FuncId} {args:List DVal} {H:Ac} {R y:DEnd->Ac->Prop} (h:Af P G f args H R) (hr: ∀e H',R e H'->y e H'):Af P G f args H y:=
 ⟨h.1,fun vs w hv C hG=>(h.2 vs w hv C hG).mono fun e w' ⟨e',H',r,k⟩=>⟨e',H',hr _ _ r,k⟩⟩
theorem Bd2.mono {l:Nat} {args:List DVal} {H:Ac} {R y:DEnd->Ac->Prop} (h:Bd2 P G l args H R) (hr: ∀e H',R e H'->y e H'):Bd2 P G l args H y:=
 fun F n C vs w hv D hG=>by
  obtain⟨fn,tmps,E,I,h1,h2⟩:=h F n C vs w hv D hG;exact⟨fn,tmps,E,I,h1,h2.mono fun e w' ⟨e',H',r,k⟩=>⟨e',H',hr _ _ r,k⟩⟩
theorem Fz8 (y:Sim G N s a w) (L:Ext s0.heap w0 s.heap w) (M:Da N o.dst=true) {c:Call} {f:Operand} (hf:Ca N f=true) (hx:c.args.toList.all (Ca N)=true) (he:o.op= .call c) (O:c.callee= .value f)
  (D: ∀l,dev G s.env f≠ .func (.yield l) [] []) (h:Bg2 P G (Hf G s.env c.args.toList) o.dst Q (dev G s.env f) K s):o.wp P a w (Ik G N K s w) (Ro G N Q s0 w0):=by
 have C:=Br y hf;have E:=Sy y hx;generalize dev G s.env f=df at h C D;generalize Hf G s.env c.args.toList=ds at h E;unfold Bg2 at h;split at h<;>try first | exact h.elim | exact(D _ rfl).elim
 rename_i k first captured
 simp only[Rel] at C;obtain⟨xs,ys,S,h1,h2⟩:=C;obtain⟨U,V⟩:=h;have W:Az w s.heap (first++ds++captured) (xs.toList++c.args.toList.map a.eval++ys.toList):=(h1.append E).append h2;have X:(xs++c.args.map a.eval++ys)=(xs.toList++c.args.toList.map a.eval++ys.toList).toArray:=by apply Array.ext';simp
 have Y:(execOp a.eval o).run P w= .ok (.enter k (xs++c.args.map a.eval++ys)) w:=by
  simp only[execOp,he,resolve,O,S,Deferred.ofValue,Sem.run_bind,Sem.run_pure,Result.andThen_ok,invoke,U]
 unfold Oper.wp;rw[Y,X];refine(V _ _ W y.heap y.glob).mono fun e w' ⟨e',H',I,Z,J,hE⟩=> ?_;cases Z with
 | ret d v hv=>exact⟨_,I,(y.ext hE J).put M hv,hE⟩
 | panic d v hv=>exact⟨_,_,I, .panic _ _ hv,y.ext hE J,L.trans hE⟩
theorem Pt (h:Ll N o=true):Da N o.dst=true:=by
 unfold Ll at h;rw[jF] at h;unfold Da;exact h.1
theorem Bg8 {α:Type} (p:α->Bool) (xs:Array α):xs.all p=xs.toList.all p:=by
 rw[<-Array.all_toList]
theorem Cm1 {x:DVal} {v:Value} (C:Sim G N s a w) (D:Ext s0.heap w0 s.heap w) (E:(execOp a.eval o).run P w=((Instr.panic v).run P w).andThen fun v w'=> .ok (.value v) w') (hv:Rel w s.heap x v) (h:Af6 Q s x) {next:Act->World->Prop}:o.wp P a w next (Ro G N Q s0 w0):=by
 unfold Af6 at h;split at h<;>try exact h.elim
 have I:=hv;simp only[Rel] at hv;obtain⟨y,rfl,J⟩:=hv;unfold Oper.wp;rw[E];simp only[Instr.panic,goPanic,Sem.run_halt,Result.andThen_halt];exact⟨_,s,h, .panic _ _ I,C,D⟩
theorem Du4 (U: ∀c f l,o.op= .call c->c.callee= .value f->dev G s.env f≠ .func (.yield l) [] []) (L:Ll N o=true) (C:Sim G N s a w) (O:Ext s0.heap w0 s.heap w) (h:dop P G o.dst K Q s o.op):o.wp P a w (Ik G N K s w) (Ro G N Q s0 w0):=by
 have hd:=Pt L
 unfold Ll at L
 rw[jF] at L
 have D:=L.2
 rw[Bg8] at D
 cases hq:o.op<;>rw[hq] at h D<;>simp only[Op.operands,Call.operands,List.all_cons,List.all_nil,Bool.and_true,jF] at D<;>try (exact h.elim)
 case move x=>exact(Fz0 C hd D hq h).wp C hd
 case assign x=>exact(Ej8 C hd D hq h).wp C hd
 case pick c x y=>exact(Fz1 C hd D.1 D.2.1 D.2.2 hq h).wp C hd
 case alloc e=>exact Ff5 C hd hq h
 case box e x=>exact Gk1 C hd D hq h
 case build t ps=>exact Ff7 C hd (by simpa [Function.comp_def] using D) hq h
 case buildSlice t n ps=>exact Cb4 C hd (by simpa [Function.comp_def] using D) hq h
 case load t x=>exact(Fz2 C hd D hq h).wp C hd
 case store t x y=>exact Ff6 C D.1 D.2 hq h
 case nilCheck x=>exact(Cy5 C hd D hq h).wp C hd
 case binOp op t x y t'=>exact(Fz5 C hd D.1 D.2 hq h).wp C hd
 case unOp op t x=>exact(Fz3 C hd D hq h).wp C hd
 case convert src t x=>exact(Fg2 C hd D hq h).wp C hd
 case range t x=>exact Fg3 C hd D hq h
 case next x b=>exact Fz6 C hd D hq h
 case makeInterface t x=>exact(Ck9 C hd D hq h).wp C hd
 case makeFunc fn fs cs=>
  simp only[Array.toList_append,List.all_append,jF] at D
  exact(Cy6 C hd D.1 D.2 hq h).wp C hd
 case makeMap t x=>
  have I: ∀(z:Option Operand),z.toArray.toList.all (Ca N)=true->(match z with | some x=>Ca N x | none=>true)=true:=by
   intro z hz;cases z with
   | none=>rfl
   | some z=>simpa using hz
  exact Du2 C hd (I _ D) hq h
 case lookup t x k ok=>exact Ek5 C hd D.1 D.2 hq h
 case mapUpdate t m k x=>exact Cm0 C D.1 D.2.1 D.2.2 (.inl hq) h
 case insert t m k x=>exact Cm0 C D.1 D.2.1 D.2.2 (.inr hq) h
 case makeSlice t l c=>exact Cl3 C hd D.1 D.2 hq h
 case slice t x lo hi mx=>
  simp only[Array.toList_append,List.all_append,jF,List.all_cons,List.all_nil,Bool.and_true] at D
  have I: ∀(z:Option Operand),z.toArray.toList.all (Ca N)=true->(match z with | some x=>Ca N x | none=>true)=true:=by
   intro z hz;cases z with
   | none=>rfl
   | some z=>simpa using hz
  exact(Fg0 C hd D.1.1.1 (I _ D.1.1.2) (I _ D.1.2) (I _ D.2) hq h).wp C hd
 case fieldAddr t x f=>exact(Cl1 C hd D hq h).wp C hd
 case field t x f=>exact(Ff8 C hd D hq h).wp C hd
 case indexAddr t x i=>exact(Cl2 C hd D.1 D.2 hq h).wp C hd
 case index t x i=>exact(Ff9 C hd D.1 D.2 hq h).wp C hd
 case typeAssert x t u ok=>exact(Cb5 C hd D hq h).wp C hd
 case extract x i=>exact(Dt6 C hd D hq h).wp C hd
 case panic x=>
  exact Cm1 C O (v:=a.eval x) (by simp [execOp,hq]) (Br C D) h
 case call c=>
  simp only[dop] at h
  simp only[Array.toList_append,List.all_append,jF] at D
  obtain⟨S,E⟩:=D
  cases hc:c.callee with
  | invoke r m=>rw[hc] at h;exact h.elim
  | value f=>
   rw[hc] at h S
   simp only[Wo] at h
   exact Fz8 C O hd (by simpa using S) E hq hc (fun l=>U c f l hq hc) h
  | builtin b=>
   rw[hc] at h
   simp only[Wo] at h
   cases b<;>(try (cases hdv:Hf G s.env c.args.toList<;>rw[hdv] at h<;>exact h.elim))
   case len=>
    cases hdv:Hf G s.env c.args.toList with
    | nil=>rw[hdv] at h;exact h.elim
    | cons d ds=>cases ds with
     | cons J ds=>rw[hdv] at h;exact h.elim
     | nil=>
      obtain⟨x,hx,rfl⟩:=Al1 hdv
      rw[hdv] at h
      rw[hx] at E
      simp only[Na] at h
      cases hts:c.argTypes.toList with
      | nil=>rw[hts] at h;exact h.elim
      | cons t ts=>cases ts with
       | nil=>rw[hts] at h;exact(Gk2 C hd (by simpa using E) hq hc hx hts h).wp C hd
       | cons t' M=>rw[hts] at h;exact h.elim
   case cap=>
    cases hdv:Hf G s.env c.args.toList with
    | nil=>rw[hdv] at h;exact h.elim
    | cons d ds=>cases ds with
     | cons J ds=>rw[hdv] at h;exact h.elim
     | nil=>
      obtain⟨x,hx,rfl⟩:=Al1 hdv
      rw[hdv] at h
      rw[hx] at E
      simp only[Na] at h
      cases hts:c.argTypes.toList with
      | nil=>rw[hts] at h;exact h.elim
      | cons t ts=>cases ts with
       | nil=>rw[hts] at h;exact(Gk3 C hd (by simpa using E) hq hc hx hts h).wp C hd
       | cons t' M=>rw[hts] at h;exact h.elim
   case clear=>
    cases hdv:Hf G s.env c.args.toList with
    | nil=>rw[hdv] at h;exact h.elim
    | cons d ds=>cases ds with
     | cons J ds=>rw[hdv] at h;exact h.elim
     | nil=>
      obtain⟨x,hx,rfl⟩:=Al1 hdv
      rw[hdv] at h
      rw[hx] at E
      simp only[Na] at h
      cases hts:c.argTypes.toList with
      | nil=>rw[hts] at h;exact h.elim
      | cons t ts=>cases ts with
       | nil=>rw[hts] at h;exact Fg1 C hd (by simpa using E) hq hc hx hts h
       | cons t' M=>rw[hts] at h;exact h.elim
   case delete=>
    cases hdv:Hf G s.env c.args.toList with
    | nil=>rw[hdv] at h;exact h.elim
    | cons d ds=>cases ds with
     | nil=>rw[hdv] at h;exact h.elim
     | cons J ds=>cases ds with
      | cons V ds=>rw[hdv] at h;exact h.elim
      | nil=>
       obtain⟨x,y,hx,rfl,rfl⟩:=Cl5 hdv
       rw[hdv] at h
       rw[hx] at E
       simp only[List.all_cons,List.all_nil,Bool.and_true,jF] at E
       simp only[Na] at h
       cases hts:c.argTypes.toList with
       | nil=>rw[hts] at h;exact h.elim
       | cons t ts=>rw[hts] at h;exact Ek6 C hd E.1 E.2 hq hc hx hts h
   case append=>
    cases hdv:Hf G s.env c.args.toList with
    | nil=>rw[hdv] at h;exact h.elim
    | cons d ds=>cases ds with
     | nil=>rw[hdv] at h;exact h.elim
     | cons J ds=>cases ds with
      | cons V ds=>rw[hdv] at h;exact h.elim
      | nil=>
       obtain⟨x,y,hx,rfl,rfl⟩:=Cl5 hdv
       rw[hdv] at h
       rw[hx] at E
       simp only[List.all_cons,List.all_nil,Bool.and_true,jF] at E
       simp only[Na] at h
       cases hts:c.argTypes.toList with
       | nil=>rw[hts] at h;exact h.elim
       | cons t ts=>cases ts with
        | nil=>rw[hts] at h;exact h.elim
        | cons t' M=>cases M with
         | nil=>
          rw[hts] at h
          simp only[As0] at h
          cases hit:Pr (P.underlying t') with
          | true=>rw[hit] at h;exact Du1 C hd E.1 E.2 hq hc hx hts hit h
          | false=>rw[hit] at h;exact Ek3 C hd E.1 E.2 hq hc hx hts h
         | cons W X=>rw[hts] at h;exact h.elim
   case min=>exact(Cl6 (isMax:=false) C hd E hq hc h).wp C hd
   case max=>exact(Cl6 (isMax:=true) C hd E hq hc h).wp C hd
   case panic=>
    cases hdv:Hf G s.env c.args.toList with
    | nil=>rw[hdv] at h;exact h.elim
    | cons d ds=>cases ds with
     | cons J ds=>rw[hdv] at h;exact h.elim
     | nil=>
      obtain⟨x,hx,rfl⟩:=Al1 hdv
      rw[hdv] at h
      rw[hx] at E
      have hm:c.args.map a.eval= #[a.eval x]:=by apply Array.ext';simp [hx]
      refine Cm1 C O (v:=a.eval x) ?_ (Br C (by simpa using E)) h
      rw[Io hq hc,hm]
      simp [builtin]
theorem Al3: ∀(all:List Oper) (j:Nat),Ug all j=(all[j]?).bind (·.dst)
 | [],j=>by simp [Ug]
 | o::r,0=>by simp [Ug]
 | o::r,j+1=>by simp [Ug,Al3 r j]
theorem Cm2 {dst:Option Nat} {K:DK} {Q:DExit->DS->Prop} {s:DS} {op:Op} (h:dop P G dst K Q s op) (c:Call):op≠ .defer c:=by
 intro e;subst e;exact h
theorem Fg4 {F:Fence} {n:Nat} (C:FOk F) (y:Sim G N s a w) (M:Ext s0.heap w0 s.heap w) (O:Da N o.dst=true) {c:Call} {f:Operand} {l:Nat} (hf:Ca N f=true) (hx:c.args.toList.all (Ca N)=true) (he:o.op= .call c) (S:c.callee= .value f)
  (U:dev G s.env f= .func (.yield l) [] []) (h:Bd2 P G l (Hf G s.env c.args.toList) s.heap (Cy4 o.dst K Q s.env)):o.wpIn F n P a w (Ik G N K s w) (Ro G N Q s0 w0):=by
 have D:=Br y hf;have E:=Sy y hx;rw[U] at D;generalize Hf G s.env c.args.toList=ds at h E;simp only[Rel,Az] at D;obtain⟨xs,ys,V,h1,h2⟩:=D;have W:xs= #[]:=by cases xs;simp at h1;subst h1;rfl
 subst W;obtain⟨fn,tmps,X,Y,I,Z⟩:=h F (n-1) C _ w E y.heap y.glob;have aa:(execOp a.eval o).run P w= .ok (.round l fn tmps X Y) w:=by
  have:(c.args.toList.map a.eval).toArray=c.args.map a.eval:=by apply Array.ext';simp
  rw[this] at I;simp only[execOp,he,resolve,S,V,Deferred.ofValue,Sem.run_bind,Sem.run_pure,Result.andThen_ok,invoke];simpa using I
 refine⟨fun f _=>C.fn f, ?_⟩;rw[Oper.semAt_eq _ _ _ (by intro c' e;rw[he] at e;cases e),aa,Oper.uponIn_round];refine⟨(by rw[C.depth];intro hh;cases hh),Z.mono fun e w' ⟨e',H',J,ab,L,hE⟩=> ?_⟩;cases ab with
 | ret d v hv=>exact⟨_,J,(y.ext hE L).put O hv,hE⟩
 | panic d v hv=>exact⟨_,_,J, .panic _ _ hv,y.ext hE L,M.trans hE⟩
theorem Uk {F:Fence} {n:Nat} (D:FOk F) (y:Ll N o=true) (E:Sim G N s a w) (I:Ext s0.heap w0 s.heap w) (h:dop P G o.dst K Q s o.op):o.wpIn F n P a w (Ik G N K s w) (Ro G N Q s0 w0):=by
 by_cases J: ∃c f l,o.op= .call c/\c.callee= .value f/\dev G s.env f= .func (.yield l) [] []
 ·obtain⟨c,f,l,h1,h2,h3⟩:=J;have hd:=Pt y;unfold Ll at y;rw[jF] at y;have C:=y.2;rw[Bg8] at C;rw[h1] at h C;simp only[Op.operands,Call.operands,Array.toList_append,List.all_append,jF] at C;obtain⟨L,M⟩:=C;rw[h2] at L;simp only[dop,h2,Wo,h3,Bg2] at h;exact Fg4 D E I hd (by simpa using L) M h1 h2 h3 h
 ·exact D.oper (Cm2 h) (Du4 (fun c f l h1 h2 h3=>J ⟨c,f,l,h1,h2,h3⟩) y E I h)
theorem Af9 {F:Fence} {n:Nat} (C:FOk F) (all:List Oper) (I:all.all (Ll N)=true): ∀(rest:List Oper),rest.all (Ll N)=true-> ∀(s:DS) (a:Act) (w:World),Sim G N s a w->Ext s0.heap w0 s.heap w->Rx P G all Q rest s->
  wpListIn F n P all.toArray (Ro G N Q s0 w0) rest a w
 | [],_,s,a,w,hS,hE,h=>⟨.normal,s,h, .normal,hS,hE⟩
 | o::rest,hr,s,a,w,hS,hE,h=>by
  simp only[List.all_cons,jF] at hr;have next: ∀(o:Oper) s a w,Sim G N s a w->Ext s0.heap w0 s.heap w->Ll N o=true->dop P G o.dst (Rx P G all Q rest) Q s o.op->o.wpIn F n P a w (wpListIn F n P all.toArray (Ro G N Q s0 w0) rest) (Ro G N Q s0 w0):=by
   intro o s a w hS hE hok hd;exact Oper.wpIn_mono (fun a' w' ⟨s',V,W,X⟩=>Af9 C all I rest hr.2 s' a' w' W (hE.trans X) V) (Uk C hok hS hE hd)
  have skip:Bs o.dst Fa (Rx P G all Q rest) s->wpListIn F n P all.toArray (Ro G N Q s0 w0) rest (a.put o.dst undef) w:=fun hp=>
   Af9 C all I rest hr.2 _ _ _ (hS.put (Pt hr.1) (Wp w s.heap)) hE hp
  unfold wpListIn;simp only[Rx] at h;cases hg:o.guard with
  | none=>
   rw[hg] at h;rw[if_pos (by simp [Region.wanted,hg])];exact(next o s a w hS hE hr.1 h)
  | some Y=>
   obtain⟨j,b⟩:=Y;rw[hg] at h;simp only at h;cases hj:Ug all j with
   | none=>rw[hj] at h;exact h.elim
   | some g=>
    rw[hj] at h;simp only at h;have J:(all[j]?).bind (·.dst)=some g:=by rw[<-Al3];exact hj
    obtain⟨L,M,O⟩:=Option.bind_eq_some_iff.1 J;have Z:L∈all:=List.mem_of_getElem? M;have aa:g<N:=by
     have:=List.all_eq_true.1 I L Z;have:=Pt this;rw[O] at this;simpa [Da] using this
    have y:=hS.tmps g aa;by_cases S:s.env g= .tuple []
    ·rw[S] at h y;simp only[Rel,Az] at y;obtain⟨xs,U,ab⟩:=y;have D:yielded all.toArray a.tmps j=none:=by
      have h2: ∀z,a.tmps[g]? =some z->z= .tuple xs:=fun z hz=>by
       rw[Array.getD_eq_getD_getElem?,hz] at U;simpa using U
      unfold yielded;simp only[List.getElem?_toArray,J,Option.bind_some];cases hz:a.tmps[g]? with
      | none=>rfl
      | some z=>rw[h2 z hz]
     rw[if_neg (by simp [Region.wanted,hg,D])];exact⟨fun f _=>C.fn f,skip h⟩
    split at h<;>(try exact h.elim)<;>(try (rename_i hv;exact absurd hv S))
    rename_i v hv
    rw[hv] at y;simp only[Rel] at y;have D:yielded all.toArray a.tmps j=some v:=by
     have h1:a.tmps[g]? =some (.bool v):=by
      rw[Array.getD_eq_getD_getElem?] at y;cases hq:a.tmps[g]? with
      | none=>
       have:=hS.size;rw[Array.getElem?_eq_none_iff] at hq;omega
      | some z=>rw[hq] at y;simpa using y
     simp [yielded,M,O,h1]
    by_cases E:v=b
    ·rw[if_pos (by simp [Region.wanted,hg,D,E])];exact(next o s a w hS hE hr.1 (h.1 E))
    ·rw[if_neg (by simp [Region.wanted,hg,D,E])];exact⟨fun f _=>C.fn f,skip (h.2 E)⟩
end
section
variable {P:Program} {G:Nat->DVal} {N:Nat} {all:List Oper} {Q:DExit->DS->Prop} {s:DS} {rest:List Oper}
theorem Ek7:Rx P G all Q [] s=Q .normal s:=rfl
theorem Du5 {dst:Option Nat} {op:Op} {t:TypeId} {p:String} {a:Array Edge}:Rx P G all Q (⟨dst,op,t,p,a,none⟩::rest) s=dop P G dst (Rx P G all Q rest) Q s op:=rfl
theorem Du6 (dst:Option Nat) (op:Op) (b:Bool) (g:DVal):As1 P G all Q dst op rest s b g=(match g with
  | .bool v=>(v=b->dop P G dst (Rx P G all Q rest) Q s op)/\(v≠b->Bs dst Fa (Rx P G all Q rest) s)
  | .tuple []=>Bs dst Fa (Rx P G all Q rest) s
  | _=>False):=by
 cases g with
 | bool v=>cases b<;>cases v<;>simp [As1]
 | tuple l=>cases l<;>cases b<;>rfl
 | _=>cases b<;>rfl
theorem Cz2 {dst:Option Nat} {op:Op} {t:TypeId} {p:String} {a:Array Edge} {j:Nat} {b:Bool}:
  Rx P G all Q (⟨dst,op,t,p,a,some (j,b)⟩::rest) s=Cb1 P G all Q dst op rest s b (Ug all j):=by
 rw[Rx];cases h:Ug all j with
 | none=>simp [Cb1,h]
 | some g=>
  simp only[Cb1,h,Du6];rfl
theorem Ot {dst:Option Nat} {op:Op} {b v:Bool} (h:v=true->As1 P G all Q dst op rest s b (.bool true)) (hf:v=false->As1 P G all Q dst op rest s b (.bool false)):
  As1 P G all Q dst op rest s b (.bool v):=by
 cases v
 ·exact hf rfl
 ·exact h rfl
theorem Lm {X Y:DK} {v:Bool} (h:v=true->Ck7 X Y s (.bool true)) (hf:v=false->Ck7 X Y s (.bool false)):Ck7 X Y s (.bool v):=by
 cases v
 ·exact hf rfl
 ·exact h rfl
theorem Ek8:dwp P G N .skip Q s=Q .normal s:=rfl
theorem Du7 {l:Nat}:dwp P G N (.label l) Q s=Q .normal s:=rfl
theorem Cz3 {id:Nat} {h:List Oper}:dwp P G N (.region id h.toArray false) Q s=Rx P G h Q h s:=rfl
theorem Fg5 {a b:Code}:dwp P G N (.seq a b) Q s=dwp P G N a (Ay2 (dwp P G N b Q) Q) s:=rfl
theorem Ek9 {c:Operand} {a b:Code}:dwp P G N (.cond c a b) Q s=Ck7 (dwp P G N a Q) (dwp P G N b Q) s (dev G s.env c):=rfl
theorem Du8 {id:Nat} {c:Code}:dwp P G N (.block id c) Q s=dwp P G N c (Cb3 id Q) s:=rfl
theorem El0 {c:Code}:dwp P G N (.loop c) Q s=Dn5 G (dwp P G N c) Q s:=rfl
theorem Du9 {c:Code}:dwp P G N (.scope c) Q s=dwp P G N c (Dn4 Q) s:=rfl
theorem El1 {id:Nat}:dwp P G N (.exit id) Q s=Q (.exit id) s:=rfl
theorem Fg6:dwp P G N .ret Q s=Q .ret s:=rfl
theorem Aa {α:Type} (f:Nat->α) (i:Nat) (v:α):upd f i v i=v:=by simp [upd]
theorem Dv0 {α:Type} (f:Nat->α) (i j:Nat) (v:α):upd f i v j=if j=i then v else f j:=rfl
theorem El2 (n:Nat) (z:DVal):Cc n [z]=List.replicate n z:=by
 unfold Cc
 induction n with
 | zero=>rfl
 | succ n ih=>simp [List.replicate_succ,ih]
end
section
variable {P:Program} {s:DS}
theorem Cz4 (e:TypeId):Fy7 (some (.slice e))=true:=rfl
theorem Fg7 {t:TypeId} {c:Bool} {op:BinOp} {dst:Option Nat} {cs:List DVal} {n:Nat} {y:DVal} {K:DK}:Ax9 P t c op dst true (.vslice cs n) y K s=(Fy7 (P.underlying t)=true/\Fv3 cs op dst K s):=rfl
theorem Dv1 {t:TypeId} {c:Bool} {op:BinOp} {dst:Option Nat} {y:DVal} {K:DK}:Ax9 P t c op dst true .nilSlice y K s=Rg P t c op dst .nilSlice y K s:=rfl
theorem Fg8 {t:TypeId} {c:Bool} {op:BinOp} {dst:Option Nat} {z r o n l:Nat} {y:DVal} {K:DK}:Ax9 P t c op dst true (.oslice z r o n l) y K s=Rg P t c op dst (.oslice z r o n l) y K s:=rfl
theorem Cz5 (t:Nat):Ji (.tmp t)=false:=rfl
theorem Bs5 (t:Nat):Ji (.global t)=false:=rfl
theorem Cm3 (t:Nat):Ji (.func t)=false:=rfl
theorem Cz6 (k:IntKind) (n:Int):Ji (.const (.int k n))=false:=rfl
theorem Cm4 (b:Bool):Ji (.const (.bool b))=false:=rfl
theorem Cz7 (b:ByteArray):Ji (.const (.string b))=false:=rfl
theorem Cz8 (b:Option Addr):Ji (.const (.pointer b))=false:=rfl
theorem Cz9 (b:Option Nat):Ji (.const (.map b))=false:=rfl
theorem Dv2:Ji (.const .nilFunc)=false:=rfl
theorem Dv3:Ji (.const .nilIface)=false:=rfl
theorem Da0 (a:Array Value):Ji (.const (.agg a))=false:=rfl
theorem Da1:Ji (.const (.slice none 0 0))=true:=rfl
end
attribute [go_sem] Cz4 Uh Fg7 Dv1 Fg8 Cz5 Bs5 Cm3 Cz6 Cm4 Cz7 Cz8 Cz9 Dv2 Dv3 Da0 Da1
theorem Ag0 {P:Program} {t:TypeId} {c:Bool} {op:BinOp} {dst:Option Nat} {K:DK} {s:DS} {a:Bool} {b:Bool}:Rg P t c op dst (.bool a) (.bool b) K s=Sr dst (Tu op) (Yj c (P.underlying t) (.bool a) (.bool b)) K s:=rfl
theorem Ag1 {P:Program} {t:TypeId} {c:Bool} {op:BinOp} {dst:Option Nat} {K:DK} {s:DS}:Rg P t c op dst (.nilPtr) (.nilPtr) K s=Sr dst (Tu op) (Yj c (P.underlying t) (.nilPtr) (.nilPtr)) K s:=rfl
theorem Ze {P:Program} {t:TypeId} {c:Bool} {op:BinOp} {dst:Option Nat} {K:DK} {s:DS} {r:Nat} {o:Nat}:Rg P t c op dst (.nilPtr) (.optr r o) K s=Sr dst (Tu op) (Yj c (P.underlying t) (.nilPtr) (.optr r o)) K s:=rfl
theorem Yl {P:Program} {t:TypeId} {c:Bool} {op:BinOp} {dst:Option Nat} {K:DK} {s:DS} {o:Nat} {cs:List DVal}:Rg P t c op dst (.nilPtr) (.vptr cs o) K s=Sr dst (Tu op) (Yj c (P.underlying t) (.nilPtr) (.vptr cs o)) K s:=rfl
theorem Zf {P:Program} {t:TypeId} {c:Bool} {op:BinOp} {dst:Option Nat} {K:DK} {s:DS} {r:Nat} {o:Nat}:Rg P t c op dst (.optr r o) (.nilPtr) K s=Sr dst (Tu op) (Yj c (P.underlying t) (.optr r o) (.nilPtr)) K s:=rfl
theorem Ym {P:Program} {t:TypeId} {c:Bool} {op:BinOp} {dst:Option Nat} {K:DK} {s:DS} {o:Nat} {cs:List DVal}:Rg P t c op dst (.vptr cs o) (.nilPtr) K s=Sr dst (Tu op) (Yj c (P.underlying t) (.vptr cs o) (.nilPtr)) K s:=rfl
theorem Vn {P:Program} {t:TypeId} {c:Bool} {op:BinOp} {dst:Option Nat} {K:DK} {s:DS} {i:TypeId} {v:DVal}:Rg P t c op dst (.nilIface) (.iface i v) K s=Sr dst (Tu op) (Yj c (P.underlying t) (.nilIface) (.iface i v)) K s:=rfl
theorem Vo {P:Program} {t:TypeId} {c:Bool} {op:BinOp} {dst:Option Nat} {K:DK} {s:DS} {i:TypeId} {v:DVal}:Rg P t c op dst (.iface i v) (.nilIface) K s=Sr dst (Tu op) (Yj c (P.underlying t) (.iface i v) (.nilIface)) K s:=rfl
theorem Wt {P:Program} {t:TypeId} {c:Bool} {op:BinOp} {dst:Option Nat} {K:DK} {s:DS}:Rg P t c op dst (.nilIface) (.nilIface) K s=Sr dst (Tu op) (Yj c (P.underlying t) (.nilIface) (.nilIface)) K s:=rfl
theorem Zg {P:Program} {t:TypeId} {c:Bool} {op:BinOp} {dst:Option Nat} {K:DK} {s:DS}:Rg P t c op dst (.nilFunc) (.nilFunc) K s=Sr dst (Tu op) (Yj c (P.underlying t) (.nilFunc) (.nilFunc)) K s:=rfl
theorem Vp {P:Program} {t:TypeId} {c:Bool} {op:BinOp} {dst:Option Nat} {K:DK} {s:DS} {f:Fn} {x:List DVal} {y:List DVal}:Rg P t c op dst (.func f x y) (.nilFunc) K s=Sr dst (Tu op) (Yj c (P.underlying t) (.func f x y) (.nilFunc)) K s:=rfl
theorem Vq {P:Program} {t:TypeId} {c:Bool} {op:BinOp} {dst:Option Nat} {K:DK} {s:DS} {f:Fn} {x:List DVal} {y:List DVal}:Rg P t c op dst (.nilFunc) (.func f x y) K s=Sr dst (Tu op) (Yj c (P.underlying t) (.nilFunc) (.func f x y)) K s:=rfl
theorem Wu {P:Program} {t:TypeId} {c:Bool} {op:BinOp} {dst:Option Nat} {K:DK} {s:DS}:Rg P t c op dst (.nilSlice) (.nilSlice) K s=Sr dst (Tu op) (Yj c (P.underlying t) (.nilSlice) (.nilSlice)) K s:=rfl
theorem Pu {P:Program} {t:TypeId} {c:Bool} {op:BinOp} {dst:Option Nat} {K:DK} {s:DS} {r:Nat} {o:Nat} {n:Nat} {l:Nat} {z:Nat}:Rg P t c op dst (.oslice z r o n l) (.nilSlice) K s=Sr dst (Tu op) (Yj c (P.underlying t) (.oslice z r o n l) (.nilSlice)) K s:=rfl
theorem Pv {P:Program} {t:TypeId} {c:Bool} {op:BinOp} {dst:Option Nat} {K:DK} {s:DS} {r:Nat} {o:Nat} {n:Nat} {l:Nat} {z:Nat}:Rg P t c op dst (.nilSlice) (.oslice z r o n l) K s=Sr dst (Tu op) (Yj c (P.underlying t) (.nilSlice) (.oslice z r o n l)) K s:=rfl
theorem Da2 {P:Program} {dst:Option Nat} {K:DK} {s:DS} {k h y:IntKind} {n:Int}:Yu P dst (some (.int k)) (some (.int h)) (.int y n) K s=Bs dst (.int h (h.wrap n)) K s:=rfl
theorem Da3 {P:Program} {dst:Option Nat} {K:DK} {s:DS} {l:List UInt8}:Yu P dst (some .string) (some .string) (.str l) K s=Bs dst (.str l) K s:=rfl
theorem Dv4 (t:Nat):Ig (.tmp t)=false:=rfl
theorem Dv5 (t:Nat):Ig (.global t)=false:=rfl
theorem Dv6 (t:Nat):Ig (.func t)=false:=rfl
theorem Fg9 (P:Program) (n:Nat) (t:TypeId) (xs h:List DVal):Ar5 P (n+1) t xs h=Ae4 P (Ar5 P n) t xs h (P.underlying t):=rfl
theorem Dv7 (v:Value):(DVal.raw v).cells= [.raw v]:=rfl
theorem Da4 (b:Bool):(DVal.bool b).cells= [.bool b]:=rfl
theorem El3 (b:Bool):(DVal.bool b).one=true:=rfl
theorem Dv8 (k:IntKind) (n:Int):(DVal.int k n).cells= [.int k n]:=rfl
theorem Fh0 (k:IntKind) (n:Int):(DVal.int k n).one=true:=rfl
theorem Dv9 (s:List UInt8):(DVal.str s).cells= [.str s]:=rfl
theorem Fh1 (s:List UInt8):(DVal.str s).one=true:=rfl
theorem Cb9:(DVal.nilPtr).cells= [.nilPtr]:=rfl
theorem Da5:(DVal.nilPtr).one=true:=rfl
theorem Da6 (c:List DVal) (o:Nat):(DVal.vptr c o).cells= [.vptr c o]:=rfl
theorem El4 (c:List DVal) (o:Nat):(DVal.vptr c o).one=true:=rfl
theorem Da7 (r o:Nat):(DVal.optr r o).cells= [.optr r o]:=rfl
theorem El5 (r o:Nat):(DVal.optr r o).one=true:=rfl
theorem Bg9:(DVal.nilSlice).cells= [.nilSlice]:=rfl
theorem Cc0:(DVal.nilSlice).one=true:=rfl
theorem Cc1 (c:List DVal) (n:Nat):(DVal.vslice c n).cells= [.vslice c n]:=rfl
theorem Da8 (c:List DVal) (n:Nat):(DVal.vslice c n).one=true:=rfl
theorem Cc2 (z r o n l:Nat):(DVal.oslice z r o n l).cells= [.oslice z r o n l]:=rfl
theorem Da9 (z r o n l:Nat):(DVal.oslice z r o n l).one=true:=rfl
theorem Cc3:(DVal.nilMap).cells= [.nilMap]:=rfl
theorem Db0:(DVal.nilMap).one=true:=rfl
theorem Db1 (r:Nat):(DVal.omap r).cells= [.omap r]:=rfl
theorem El6 (r:Nat):(DVal.omap r).one=true:=rfl
theorem Db2 (f:Fn) (a c:List DVal):(DVal.func f a c).cells= [.func f a c]:=rfl
theorem El7 (f:Fn) (a c:List DVal):(DVal.func f a c).one=true:=rfl
theorem Bs6:(DVal.nilFunc).cells= [.nilFunc]:=rfl
theorem Cm5:(DVal.nilFunc).one=true:=rfl
theorem Cm6 (t:TypeId) (v:DVal):(DVal.iface t v).cells= [.iface t v]:=rfl
theorem Dw0 (t:TypeId) (v:DVal):(DVal.iface t v).one=true:=rfl
theorem Bh0:(DVal.nilIface).cells= [.nilIface]:=rfl
theorem Cc4:(DVal.nilIface).one=true:=rfl
theorem Cm7 (v:List DVal):(DVal.tuple v).cells= [.tuple v]:=rfl
theorem Dw1 (v:List DVal):(DVal.tuple v).one=false:=rfl
theorem Dw2 (c:List DVal):(DVal.agg c).cells=c:=rfl
theorem Fh2 (c:List DVal):(DVal.agg c).one=false:=rfl
theorem Dw3:Gt .add=false:=rfl
theorem Dw4:Gt .sub=false:=rfl
theorem Dw5:Gt .mul=false:=rfl
theorem Dw6:Gt .quo=false:=rfl
theorem Dw7:Gt .rem=false:=rfl
theorem Dw8:Gt .and=false:=rfl
theorem El8:Gt .or=false:=rfl
theorem Dw9:Gt .xor=false:=rfl
theorem Cc5:Gt .andNot=false:=rfl
theorem Dx0:Gt .eql=false:=rfl
theorem Dx1:Gt .neq=false:=rfl
theorem Dx2:Gt .lss=false:=rfl
theorem Dx3:Gt .leq=false:=rfl
theorem Dx4:Gt .gtr=false:=rfl
theorem Dx5:Gt .geq=false:=rfl
theorem Dx6:Gt .shl=true:=rfl
theorem Dx7:Gt .shr=true:=rfl
theorem Bs7:Fg (some (.bool))=true:=rfl
theorem Cm8:Pr (some (.bool))=false:=rfl
theorem Cc6 (k:IntKind):Fg (some (.int k))=true:=rfl
theorem Bc1:Fg (some (.string))=true:=rfl
theorem Bs8:Pr (some (.string))=false:=rfl
theorem Bs9:Ar9 (some (.string))=true:=rfl
theorem As8 (e:TypeId):Fg (some (.pointer e))=true:=rfl
theorem Bh1 (e:TypeId):Pr (some (.pointer e))=false:=rfl
theorem Bh2 (e:TypeId):Fg (some (.slice e))=true:=rfl
theorem Cc7 (e:TypeId):Pr (some (.slice e))=false:=rfl
theorem Cc8 (e:TypeId):Ar9 (some (.slice e))=true:=rfl
theorem Bh3 (n:Nat) (e:TypeId):Fg (some (.array n e))=true:=rfl
theorem Cc9 (n:Nat) (e:TypeId):Pr (some (.array n e))=false:=rfl
theorem Cd0 (k e:TypeId):Fg (some (.map k e))=true:=rfl
theorem Db3 (k e:TypeId):Pr (some (.map k e))=false:=rfl
theorem Bc2 (f:Array Field):Fg (some (.struct f))=true:=rfl
theorem Bt0 (f:Array Field):Pr (some (.struct f))=false:=rfl
theorem Bt1 (p r:Array TypeId) (v:Bool):Fg (some (.func p r v))=true:=rfl
theorem Cm9 (p r:Array TypeId) (v:Bool):Pr (some (.func p r v))=false:=rfl
theorem Bh4 (e:Array TypeId):Fg (some (.tuple e))=true:=rfl
theorem Cd1 (e:Array TypeId):Pr (some (.tuple e))=false:=rfl
theorem Ag2 (m:Array (String×TypeId)):Fg (some (.interface m))=false:=rfl
theorem Db4 (b:Bool):Fe (.bool b)= .bool b:=rfl
theorem Dx8 (k:IntKind) (n:Int):Fe (.int k n)= .int k n:=rfl
theorem Cd2 (l:List UInt8):Fe (.string (ByteArray.mk l.toArray))= .str l:=rfl
theorem Cd3:Fe (.pointer none)= .nilPtr:=rfl
theorem Bh5:Fe (.slice none 0 0)= .nilSlice:=rfl
theorem Cd4:Fe (.map none)= .nilMap:=rfl
theorem Bt2:Fe (.nilFunc)= .nilFunc:=rfl
theorem Bh6:Fe (.nilIface)= .nilIface:=rfl
theorem Dx9 (l:List Value):Fe (.agg l.toArray)= .agg (Ix l):=rfl
theorem Cn0 (l:List Value):Fe (.tuple l.toArray)= .tuple (Ix l):=rfl
theorem Db5 (f:Fn) (a c:List Value):Fe (.func f a.toArray c.toArray)= .func f (Ix a) (Ix c):=rfl
attribute [go_sem] Ek7 Du5 Cz2 Ek8 Du7 Cz3 Fg5 Ek9 Du8 El0 Du9 El1 Fg6 Aa Dv0 El2 List.toList_toArray jI jG List.getElem?_cons_zero List.getElem?_cons_succ List.getElem?_nil true_and and_true eq_self dop.eq_1 dop.eq_2 dop.eq_3 dop.eq_4 dop.eq_5 dop.eq_6 dop.eq_7 dop.eq_8 dop.eq_9 dop.eq_10 dop.eq_11 dop.eq_12 dop.eq_13 dop.eq_14 dop.eq_15 dop.eq_16 dop.eq_17 dop.eq_18 dop.eq_19 dop.eq_20 dop.eq_21 dop.eq_22 dop.eq_23 dop.eq_24 dop.eq_25 dop.eq_26 dop.eq_27 dop.eq_28 dop.eq_29 dop.eq_30 dop.eq_31 Yt.eq_1 Yt.eq_2 Gk0.eq_1 Gk0.eq_2 Dm8.eq_1 Af5.eq_1 Af5.eq_2 Af5.eq_3 Fy8.eq_1 Yu.eq_1 Ca8.eq_1 Cy0.eq_1 Dm9.eq_1 Bs.eq_1 Vm.eq_1 Vm.eq_2 dev.eq_1 dev.eq_2 dev.eq_3 dev.eq_4 Hf.eq_1 Hf.eq_2 Rh.eq_1 Rh.eq_2 Ms.eq_1 Ms.eq_2 Ho.eq_1 Ho.eq_2 Ck0.eq_1 Ej4.eq_1 Ej4.eq_2 Ca4.eq_1 Ca4.eq_2 Xy.eq_1 Xy.eq_2 Cx8.eq_1 Bf1.eq_1 Cx9.eq_1 Cx9.eq_2 Aj8.eq_1 Aj8.eq_2 Ue.eq_1 Bf2.eq_1 Bf2.eq_2 Bf2.eq_3 Ca5.eq_1 Bu7.eq_1 Bu7.eq_2 Dm3.eq_1 Ca6.eq_1 Ab8.eq_1 Ab8.eq_2 Ab8.eq_3 Ab8.eq_4 Ab8.eq_5 Yj.eq_1 Yj.eq_2 Yj.eq_3 Yj.eq_4 Yj.eq_5 Yj.eq_6 Yj.eq_7 Yj.eq_8 Yj.eq_9 Yj.eq_10 Yj.eq_11 Yj.eq_12 Yj.eq_13 Yj.eq_14 Yj.eq_15 Fy6.eq_1 Fy6.eq_2 Jh.eq_1 Jh.eq_2 Jh.eq_3 Dm4.eq_1 Dm4.eq_2 Ck1.eq_1 Ck1.eq_2 Ck2.eq_1 Dm5.eq_1 Dm6.eq_1 Fv2.eq_1 Fv2.eq_2 Ae4.eq_1 Ae4.eq_2 Ae4.eq_3 Ae4.eq_4 Ae4.eq_5 Sr.eq_1 Sr.eq_2 Tu.eq_1 Tu.eq_2 Ig.eq_1 Bd3.eq_1 Bd3.eq_2 Bd3.eq_3 Bd3.eq_4 Bd3.eq_5 Bd3.eq_6 Bd3.eq_7 Bd3.eq_8 Bd3.eq_9 Bd3.eq_10 Bd3.eq_11 Bd3.eq_12 Bd3.eq_13 Bd3.eq_14 Bd3.eq_15 Ca7.eq_1 Ca7.eq_2 Aj9.eq_1 Aj9.eq_2 Aj9.eq_3 Aj9.eq_4 Aj9.eq_5 Aj9.eq_6 Aj9.eq_7 Dm7.eq_1 Dm7.eq_2 Rg.eq_1 Rg.eq_2 Rg.eq_3 dUn.eq_1 dUn.eq_2 dUn.eq_3 Ak0.eq_1 Ak0.eq_2 Wl.eq_1 Wl.eq_2 Ay0.eq_1 Ay0.eq_2 Wm.eq_1 dLo.eq_1 dLo.eq_2 dHi.eq_1 dHi.eq_2 Ar6.eq_1 Ak1.eq_1 Wn.eq_1 Ca9.eq_1 Fv4.eq_1 Ar7.eq_1 Ar7.eq_2 Ar7.eq_3 Ar7.eq_4 Ar7.eq_5 Ar7.eq_6 Ar7.eq_7 Bd4.eq_1 Bd4.eq_2 Ay1.eq_1 Ay1.eq_2 Su.eq_1 Ck3.eq_1 Ck3.eq_2 Ck3.eq_3 Dn0.eq_1 Dn0.eq_2 Bf3.eq_1 Sv.eq_1 Sv.eq_2 Sv.eq_3 Bf4.eq_1 Bf4.eq_2 Ak2.eq_1 Bf5.eq_1 Bf5.eq_2 Ar8.eq_1 Ar8.eq_2 Ar8.eq_3 Ar8.eq_4 Ql.eq_1 Ql.eq_2 dLen.eq_1 dLen.eq_2 dLen.eq_3 dLen.eq_4 dLen.eq_5 Cy1.eq_1 Bu8.eq_1 Yv.eq_1 Yv.eq_2 Yv.eq_3 Yv.eq_4 Pq.eq_1 Pq.eq_2 Ck4.eq_1 Ck4.eq_2 Bd5.eq_1 As0.eq_1 Ej5.eq_1 Ej5.eq_2 Ej5.eq_3 Ej6.eq_1 Bf6.eq_1 Dn1.eq_1 Cb0.eq_1 Cb0.eq_2 Bf7.eq_1 Ck5.eq_1 Pr.eq_1 Ak3.eq_1 Ak4.eq_1 Ak4.eq_2 Yk.eq_1 Yk.eq_2 Yk.eq_3 Yk.eq_4 Yw.eq_1 Yw.eq_2 Yw.eq_3 Mz.eq_1 Mz.eq_2 Uf.eq_1 Uf.eq_2 Uf.eq_3 Dn2.eq_1 Bu9.eq_1 Yx.eq_1 Dn3.eq_1 Dn3.eq_2 Ak5.eq_1 Bf8.eq_1 Ab9.eq_1 Cy2.eq_1 Bf9.eq_1 Bf9.eq_2 Cy3.eq_1 Bd6.eq_1 Bd6.eq_2 Ck6.eq_1 Ck6.eq_2 Bg0.eq_1 Bg1.eq_1 Ak6.eq_1 Bv0.eq_1 Yy.eq_1 Yy.eq_2 dMM.eq_1 Yz.eq_1 Yz.eq_2 Yz.eq_3 Ac0.eq_1 Ac0.eq_2 Cy4.eq_1 Cy4.eq_2 Bg2.eq_1 Bg2.eq_2 Af6.eq_1 Na.eq_1 Na.eq_2 Na.eq_3 Na.eq_4 Na.eq_5 Na.eq_6 Na.eq_7 Na.eq_8 Wo.eq_1 Wo.eq_2 Wo.eq_3 Ug.eq_1 Ug.eq_2 Ug.eq_3 As1.eq_1 As1.eq_2 As1.eq_3 As1.eq_4 As1.eq_5 As1.eq_6 Cb1.eq_1 Cb1.eq_2 Ay2.eq_1 Ay2.eq_2 Ay2.eq_3 Ay2.eq_4 Ay2.eq_5 Cb2.eq_1 Cb2.eq_2 Cb3.eq_1 Cb3.eq_2 Cb3.eq_3 Cb3.eq_4 Cb3.eq_5 Dn4.eq_1 Dn4.eq_2 Dn4.eq_3 Dn4.eq_4 Dn4.eq_5 Ck7.eq_1 Ck7.eq_2 Fa.eq_1 Ix.eq_1 Ix.eq_2 Ag0 Ag1 Ze Yl Zf Ym Vn Vo Wt Zg Vp Vq Wu Pu Pv Da2 Da3 Dv4 Dv5 Dv6 Fg9 Dv7 Da4 El3 Dv8 Fh0 Dv9 Fh1 Cb9 Da5 Da6 El4 Da7 El5 Bg9 Cc0 Cc1 Da8 Cc2 Da9 Cc3 Db0 Db1 El6 Db2 El7 Bs6 Cm5 Cm6 Dw0 Bh0 Cc4 Cm7 Dw1 Dw2 Fh2 Dw3 Dw4 Dw5 Dw6 Dw7 Dw8 El8 Dw9 Cc5 Dx0 Dx1 Dx2 Dx3 Dx4 Dx5 Dx6 Dx7 Bs7 Cm8 Cc6 Bc1 Bs8 Bs9 As8 Bh1 Bh2 Cc7 Cc8 Bh3 Cc9 Cd0 Db3 Bc2 Bt0 Bt1 Cm9 Bh4 Cd1 Ag2 Db4 Dx8 Cd2 Cd3 Bh5 Cd4 Bt2 Bh6 Dx9 Cn0 Db5
section
variable {P:Program} {G:Nat->DVal} {N:Fr}
variable {s s0:DS} {a:Act} {w w0:World} {Q:DExit->DS->Prop}
theorem Ri.refl (s:DS):Ri G s s:=fun w y hG=>⟨y,fun b h=>h,hG,fun i x h=>h⟩
theorem Ri.sim {C:DS} (h:Ri G s C) (y:Sim G N s a w):Sim G N C a w/\Ext s.heap w C.heap w:=by
 obtain⟨h1,h2,h3,h4⟩:=h w y.heap y.glob;exact⟨⟨y.size,y.defers.less h2,fun i hi=>h4 i _ (y.tmps i hi),h1,h3,y.base⟩,⟨rfl,rfl,rfl,Nat.le_refl _,fun _ _ _=>rfl,fun b hb=> .inl (h2 b hb),fun _ _=>rfl,fun _ _ _=>rfl⟩⟩
theorem Db6 {e:Exit} {y:Act} {w' w1:World} {s1:DS} (h:Ro G N Q s1 w1 e y w') (C:Ext s0.heap w0 s1.heap w1):Ro G N Q s0 w0 e y w':=by
 obtain⟨e',s',hq,hx,hS,D⟩:=h;exact⟨e',s',hq,hx,hS,C.trans D⟩
theorem Db7 {F:Fence} {n:Nat} {c:Code} {ι:Type} (I:ι->DS->Prop) (μ:ι->Nat) (i:ι) (M:Sim G N s a w) (O:I i s) (S:Ext s0.heap w0 s.heap w)
  (U: ∀i s a w,Sim G N s a w->I i s->c.wpIn F n P (Ro G N (Ay2 (fun s1=> ∃j s2,Ri G s1 s2/\I j s2/\μ j<μ i) Q) s w) a w):(Code.loop c).wpIn F n P (Ro G N Q s0 w0) a w:=by
 intro b k cs V hb hr;have key: ∀n i s a w,μ i=n->I i s->Sim G N s a w->Ext s0.heap w0 s.heap w->
   ∃e a' w',Ro G N Q s0 w0 e a' w'/\ArrivesIn (Machine.fenced P F) P (lone (b.atR a (.code c:: .inLoop c::k)) cs w) b k cs e a' w':=by
  intro n
  induction n using Nat.strongRecOn with
  | _ n ih=>
   intro i s a w hn O M S;obtain⟨e,y,C,hq,h⟩:=U i s a w M O b (.inLoop c::k) cs V hb hr;obtain⟨e',L,D,W,E,X⟩:=hq;have J:=S.trans X;cases W with
   | normal=>
    obtain⟨j,Y,hg,Z,aa⟩:=D;obtain⟨ab,ac⟩:=hg.sim E;obtain⟨e₂,a₂,w₂,ad,ae⟩:=ih (μ j) (hn▸aa) j Y y C rfl Z ab (J.trans ac);exact⟨e₂,a₂,w₂,ad, .of_steps (StepsIn.trans h (.one (fenced_calm hb hr rfl) stepR_inLoop)) ae⟩
   | exit id=>exact⟨_,y,C,⟨_,L,D, .exit id,E,J⟩, .pass (x:= .inLoop c) rfl (fun _ _=> .inl (by simp)) h⟩
   | goto l=>exact⟨_,y,C,⟨_,L,D, .goto l,E,J⟩, .pass (x:= .inLoop c) rfl (fun _ _=> .inl (by simp)) h⟩
   | ret=>exact⟨_,y,C,⟨_,L,D, .ret,E,J⟩, .pass (x:= .inLoop c) rfl (fun _ _=> .inl (by simp)) h⟩
   | panic d v hv=>exact⟨_,y,C,⟨_,L,D, .panic d v hv,E,J⟩, .pass (x:= .inLoop c) rfl (fun _ _=> .inl (by simp)) h⟩
 obtain⟨e,a',w',hq,h⟩:=key _ i s a w rfl O M S;exact⟨e,a',w',hq, .of_steps (.one (fenced_calm hb hr rfl) stepR_loop) h⟩
theorem Ae1 {F:Fence} {n:Nat} {c:Code} {I J:Exit->Act->World->Prop} (h:c.wpIn F n P I a w) (L: ∀e a w,I e a w->(∀l,e≠ .goto l)/\J e a w):(Code.scope c).wpIn F n P J a w:=by
 intro b k cs M hb hr;have h0:(lone (b.atR a (.code (.scope c)::k)) cs w).fenced P F:=fenced_calm hb hr rfl;have s0:step P (lone (b.atR a (.code (.scope c)::k)) cs w)= .next (lone (b.atR a (.code c:: .inScope c::k)) cs w):=step_lone_go (by simp [stepG,stepG.exec,Frame.atR])
 have s1: ∀(a:Act) (w:World),step P (lone (b.atR a (.inScope c::k)) cs w)= .next (lone (b.atR a k) cs w):=fun a w=>step_lone_go (by simp [stepG,stepG.exec,Frame.atR])
 obtain⟨e,C,D,O,y⟩:=h b (.inScope c::k) cs M hb hr;obtain⟨hg,E⟩:=L _ _ _ O;cases e with
 | normal=>exact⟨.normal,C,D,E, .head h0 s0 (StepsIn.trans y (.one (fenced_calm hb hr rfl) (s1 _ _)))⟩
 | exit id=>
  have hx:exitTo id (.inScope c::k)=exitTo id k:=by simp [exitTo]
  exact⟨.exit id,C,D,E,fun k' hk=> .head h0 s0 (y.1 k' (by rw[hx];exact hk)),
   fun S hk=>let ⟨k₁,h1,h2⟩:=y.2 S (by rw[hx];exact hk);⟨k₁,h1, .head h0 s0 h2⟩⟩
 | goto l=>exact absurd rfl (hg l)
 | ret=>exact⟨_,C,D,E, .of_steps (.one h0 s0) y⟩
 | panic ch=>exact⟨_,C,D,E, .of_steps (.one h0 s0) y⟩
 | outgrown=>exact⟨_,C,D,E, .of_steps (.one h0 s0) y⟩
def Yn:Code->Bool
 | .seq a b=>Yn a&&Yn b
 | .cond _ a b=>Yn a&&Yn b
 | .block _ c=>Yn c
 | .loop c=>Yn c
 | .scope c=>Yn c
 | .rangeFunc _ _ _ _=>false
 | _=>true
theorem Hg {N:Nat} {F:Fence} {n:Nat} {B:Base} (E:FOk F): ∀(c:Code),Im N c=true->(F=Fence.wide/\B.still=false\/Yn c=true)-> ∀(Q:DExit->DS->Prop) (s:DS),dwp P G N c Q s->
  ∀(a:Act) (w:World),Sim G ⟨N,B⟩ s a w->c.wpIn F n P (fun e a' w'=> ∃e' s',Q e' s'/\RelX w' s'.heap e' e/\Sim G ⟨N,B⟩ s' a' w'/\Ext s.heap w s'.heap w') a w
 | .skip,_,_,Q,s,h=>fun a w hS=>wpIn_skip ⟨.normal,s,h, .normal,hS,Ext.refl _ _⟩
 | .label l,_,_,Q,s,h=>fun a w hS=>wpIn_label ⟨.normal,s,h, .normal,hS,Ext.refl _ _⟩
 | .region id ops false,hok,_,Q,s,h=>fun a w hS=>by
  have O:ops.toList.all (Ll N)=true:=by
   have:ops.all (Ll N)=true:=hok;rw[Bg8] at this;exact this
  have h1:=Af9 (n:=n) E (P:=P) (G:=G) (N:=⟨N,B⟩) (s0:=s) (w0:=w) (Q:=Q) ops.toList O ops.toList O s a w hS (Ext.refl _ _) h;have:ops=ops.toList.toArray:=by simp
  rw[this];exact wpIn_region_lit h1
 | .region id ops true,_,_,Q,s,h=>fun a w hS=>h F n B E a w hS
 | .seq x y,hok,hfl,Q,s,h=>fun a w hS=>by
  simp only[Im,jF] at hok;simp only[Yn,jF] at hfl;refine wpIn_seq (wpIn_mono (Hg E x hok.1 (hfl.imp id (·.1)) _ s h a w hS) ?_);rintro e a' w' ⟨e',s',C,J,D,hE⟩;cases J with
  | normal=>exact wpIn_mono (Hg E y hok.2 (hfl.imp id (·.2)) Q s' C a' w' D) fun e a w he=>Db6 he hE
  | exit id=>exact⟨_,s',C, .exit id,D,hE⟩
  | goto l=>exact⟨_,s',C, .goto l,D,hE⟩
  | ret=>exact⟨_,s',C, .ret,D,hE⟩
  | panic d v hv=>exact⟨_,s',C, .panic d v hv,D,hE⟩
 | .cond c x y,hok,hfl,Q,s,h=>fun a w hS=>by
  simp only[Im,jF] at hok;simp only[Yn,jF] at hfl;have r:=Br hS hok.1.1;simp only[dwp] at h;cases hv:dev G s.env c<;>rw[hv] at h r<;>try exact h.elim
  rename_i b
  simp only[Rel] at r;cases b
  ·exact wpIn_cond_false r (Hg E y hok.2 (hfl.imp id (·.2)) Q s h a w hS)
  ·exact wpIn_cond_true r (Hg E x hok.1.2 (hfl.imp id (·.1)) Q s h a w hS)
 | .block id c,hok,hfl,Q,s,h=>fun a w hS=>by
  simp only[Im] at hok;simp only[Yn] at hfl;refine wpIn_block (wpIn_mono (Hg E c hok hfl _ s h a w hS) ?_);rintro e a' w' ⟨e',s',C,J,D,hE⟩;cases J with
  | normal=>exact⟨_,s',C, .normal,D,hE⟩
  | exit L=>
   simp only[Exit.inBlock];simp only[Cb3] at C;by_cases M:L=id
   ·rw[if_pos M];simp only[M,decide_true,Cb2] at C;exact⟨_,s',C, .normal,D,hE⟩
   ·rw[if_neg M];simp only[M,decide_false,Cb2] at C;exact⟨_,s',C, .exit L,D,hE⟩
  | goto l=>exact⟨_,s',C, .goto l,D,hE⟩
  | ret=>exact⟨_,s',C, .ret,D,hE⟩
  | panic d v hv=>exact⟨_,s',C, .panic d v hv,D,hE⟩
 | .loop c,hok,hfl,Q,s,h=>fun a w hS=>by
  simp only[Im] at hok;simp only[Yn] at hfl;obtain⟨ι,I,μ,⟨i,s',hg,S⟩,U⟩:=h;obtain⟨D,V⟩:=hg.sim hS;exact Db7 I μ i D S V fun W s1 X w1 Y Z=>Hg E c hok hfl _ s1 (U W s1 Z) X w1 Y
 | .rangeFunc _ _ _ _,_,hfl,_,_,h=>fun a w hS=>by
  rcases hfl with⟨rfl,hst⟩ | hfl
  ·exact h n B hst a w hS
  ·cases hfl
 | .exit id,_,_,Q,s,h=>fun a w hS=>wpIn_exit ⟨.exit id,s,h, .exit id,hS,Ext.refl _ _⟩
 | .scope c,hok,hfl,Q,s,h=>fun a w hS=>by
  simp only[Im] at hok;simp only[Yn] at hfl;refine Ae1 (Hg E c hok hfl _ s h a w hS) ?_;rintro e a' w' ⟨e',s',C,J,D,hE⟩;cases J with
  | normal=>exact⟨by simp,_,s',C, .normal,D,hE⟩
  | exit L=>exact⟨by simp,_,s',C, .exit L,D,hE⟩
  | goto l=>exact C.elim
  | ret=>exact⟨by simp,_,s',C, .ret,D,hE⟩
  | panic d v hv=>exact⟨by simp,_,s',C, .panic d v hv,D,hE⟩
 | .goto l,_,_,Q,s,h=>fun a w hS=>wpIn_goto ⟨.goto l,s,h, .goto l,hS,Ext.refl _ _⟩
 | .ret,_,_,Q,s,h=>fun a w hS=>wpIn_ret ⟨.ret,s,h, .ret,hS,Ext.refl _ _⟩
 | .refuse _,_,_,_,_,h=>h.elim
theorem Db8 {N:Nat} (c:Code) (y:Im N c=true) (Q:DExit->DS->Prop) (s:DS) (h:dwp P G N c Q s):Gj9 P G N c Q s:=
 fun _ _ hst a w hS=>Hg (.inl rfl) c y (.inl ⟨rfl,hst⟩) Q s h a w hS
def Db9 (size:Nat) (cs:List DVal) (off:Nat):Option Bool->Option DVal
 | some true=>if off+size<=cs.length then some (.agg ((cs.drop off).take size)) else none
 | some false=>cs[off]?
 | none=>none
def Al4 (size:Nat) (ag:Option Bool) (off:Nat):Option DObj->Option DVal
 | some (.cells cs _)=>Db9 size cs off ag
 | _=>none
def El9 (size:Nat) (ag:Option Bool) (H:Ac):DVal->Option DVal
 | .optr r off=>Al4 size ag off (H r)
 | _=>none
def Cn1 (P:Program) (s:DS):ResultVar->Option DVal
 | .tmp t=>some (s.env t)
 | .cell x t=>El9 (P.cellsOf t) (Dy P t) s.heap (s.env x)
def Fv7:Option DVal->Option (List DVal)->Option (List DVal)
 | some d,some ds=>some (d::ds)
 | _,_=>none
def Qn (P:Program) (s:DS):List ResultVar->Option (List DVal)
 | []=>some []
 | r::rs=>Fv7 (Cn1 P s r) (Qn P s rs)
def Mt:Option (List DVal)->Option DVal
 | some [d]=>some d
 | some ds=>some (.tuple ds)
 | none=>none
def Es (R:DEnd->Ac->Prop) (v:DVal) (H:Ac):Prop:=
 ∃v' H',(∀w,Bj w H->Bj w H'/\(∀b,H' b≠none->H b≠none)/\ ∀x,Rel w H v x->Rel w H' v' x)/\R (.ret v') H'
def Sz (R:DEnd->Ac->Prop) (v:DVal) (H:Ac):Prop:=
 ∃v' H',(∀w,Bj w H->Bj w H'/\(∀b,H' b≠none->H b≠none)/\ ∀x,Rel w H v x->Rel w H' v' x)/\R (.panic v') H'
def Bv5 (R:DEnd->Ac->Prop) (H:Ac):Option DVal->Prop
 | some v=>Es R v H
 | none=>False
def Em0 (P:Program) (rs:List ResultVar) (R:DEnd->Ac->Prop):DExit->DS->Prop
 | .normal,s=>Bv5 R s.heap (Mt (Qn P s rs))
 | .ret,s=>Bv5 R s.heap (Mt (Qn P s rs))
 | .panic v,s=>Sz R v s.heap
 | _,_=>False
def Ta:List DVal->Nat->(Nat->DVal)
 | [],_=>fun _=>Fa
 | x::xs,k=>upd (Ta xs (k+1)) k x
def Bh7 (N:Nat):ResultVar->Bool
 | .tmp t=>decide (t<N)
 | .cell x _=>decide (x<N)
theorem Es.refl {R:DEnd->Ac->Prop} {v:DVal} {H:Ac} (h:R (.ret v) H):Es R v H:=⟨v,H,fun w y=>⟨y,fun b hb=>hb,fun x hx=>hx⟩,h⟩
theorem Sz.refl {R:DEnd->Ac->Prop} {v:DVal} {H:Ac} (h:R (.panic v) H):Sz R v H:=⟨v,H,fun w y=>⟨y,fun b hb=>hb,fun x hx=>hx⟩,h⟩
theorem Em1 (y:Sim G N s a w) {r:ResultVar} (hr:Bh7 N r=true) {d:DVal} (h:Cn1 P s r=some d):
  ∃x,((match r with
  | .tmp t=>pure (a.tmps.getD t undef)
  | .cell x t=>do loadVar t (←asAddr (a.tmps.getD x undef))):Sem Value).run P w= .ok x w/\Rel w s.heap d x:=by
 cases r with
 | tmp t=>
  simp only[Cn1] at h;cases h
  exact⟨_,rfl,y.tmps t (by simpa [Bh7] using hr)⟩
 | cell x t=>
  simp only[Cn1] at h
  have C:=y.tmps x (by simpa [Bh7] using hr)
  cases hv:s.env x<;>rw[hv] at h C<;>simp only[El9] at h<;>try (cases h;done)
  rename_i r0 off
  simp only[Rel] at C
  cases hh:s.heap r0 with
  | none=>rw[hh] at h;cases h
  | some ob=>
   cases ob with
   | loop=>rw[hh] at h;simp only[Al4] at h;cases h
   | iter=>rw[hh] at h;simp only[Al4] at h;cases h
   | map=>rw[hh] at h;simp only[Al4] at h;cases h
   | cells cs e=>
    rw[hh] at h
    simp only[Al4] at h
    obtain⟨xs,hl,D⟩:=y.heap.holds hh
    have L:=hl.length
    have M: ∀z,(do loadVar t (←asAddr z):Sem Value)=(do let ad<-asAddr z;loadVar t ad):=fun z=>rfl
    simp only[C,asAddr]
    cases hag:Dy P t with
    | none=>rw[hag] at h;cases h
    | some E=>
     rw[hag] at h
     cases E with
     | true=>
      simp only[Db9] at h
      split at h<;>try (cases h;done)
      rename_i hle
      cases h
      have hx:Rp w r0 off ((xs.drop off).take (P.cellsOf t)):=by
       have:=(D.drop (n:=off)).take (n:=P.cellsOf t)
       simpa using this
      have I:((xs.drop off).take (P.cellsOf t)).length=P.cellsOf t:=by
       simp;omega
      refine⟨_,by simp [Xz hag hx I];rfl, ?_⟩
      simp only[Rel]
      exact⟨_,rfl,(hl.drop off).take _⟩
     | false=>
      simp only[Db9] at h
      obtain⟨x,hx,J⟩:=hl.get h
      have:=D off x hx
      rw[Nat.zero_add] at this
      exact⟨x,by simp [Ya hag this],J⟩
theorem Cn2 (D:Sim G N s a w): ∀ {y:List ResultVar},y.all (Bh7 N)=true-> ∀ {C:List DVal},Qn P s y=some C->
  ∃xs,(y.mapM (fun r=>(match r with
  | .tmp t=>pure (a.tmps.getD t undef)
  | .cell x t=>do loadVar t (←asAddr (a.tmps.getD x undef)):Sem Value))).run P w= .ok xs w/\Az w s.heap C xs
 | [],_,C,h=>by
  simp only[Qn] at h;cases h
  exact⟨[],by simp,by simp [Az]⟩
 | r::y,hok,C,h=>by
  simp only[List.all_cons,jF] at hok
  simp only[Qn] at h
  cases h1:Cn1 P s r with
  | none=>rw[h1] at h;cases h
  | some d=>
   cases h2:Qn P s y with
   | none=>rw[h1,h2] at h;cases h
   | some J=>
    rw[h1,h2] at h
    simp only[Fv7] at h;cases h
    obtain⟨x,hx,hr⟩:=Em1 (P:=P) D hok.1 h1
    obtain⟨xs,E,I⟩:=Cn2 D hok.2 h2
    refine⟨x::xs, ?_,by simp only[Az];exact⟨x,xs,rfl,hr,I⟩⟩
    simp only[List.mapM_cons,Sem.run_bind,hx,E,Result.andThen_ok,Sem.run_pure]
theorem Ay5 (D:Sim G N s a w) {fn:Func} (E:fn.results.toList.all (Bh7 N)=true) {d:DVal} (h:Mt (Qn P s fn.results.toList)=some d):
  ∃x,(results fn a.tmps).run P w= .ok x w/\Rel w s.heap d x:=by
 cases h2:Qn P s fn.results.toList with
 | none=>rw[h2] at h;cases h
 | some ds=>
  rw[h2] at h
  obtain⟨xs,I,C⟩:=Cn2 (P:=P) D E h2
  have J:(results fn a.tmps).run P w= .ok (if h:xs.toArray.size=1 then xs.toArray[0] else .tuple xs.toArray) w:=by
   unfold results
   rw[Array.mapM_eq_mapM_toList]
   simp only[Sem.run_bind,Sem.run_map]
   have:(fn.results.toList.mapM (fun r=>(match r with
    | .tmp t=>pure (a.tmps.getD t undef)
    | .cell x t=>do loadVar t (←asAddr (a.tmps.getD x undef)):Sem Value))).run P w= .ok xs w:=I
   first
    | rw[this]
    | (show((Sem.run P (fn.results.toList.mapM (fun r=>(match r with
    | .tmp t=>pure (a.tmps.getD t undef)
    | .cell x t=>do loadVar t (←asAddr (a.tmps.getD x undef)):Sem Value))) w).andThen _).andThen _=_;rw[this])
   rfl
  have hl:=C.length
  refine⟨_,J, ?_⟩
  cases ds with
  | nil=>
   simp only[Mt] at h;cases h
   simp only[Az] at C;subst C
   simp only[Rel]
   exact⟨#[],rfl,by simp [Az]⟩
  | cons M ds=>
   cases ds with
   | nil=>
    simp only[Mt] at h;cases h
    simp only[Az] at C
    obtain⟨y,ys,rfl,L,rfl⟩:=C
    simpa using L
   | cons O ds=>
    simp only[Mt] at h;cases h
    have:xs.toArray.size≠1:=by simp at hl⊢;omega
    rw[dif_neg this]
    simp only[Rel]
    exact⟨_,rfl,C⟩
theorem As9: ∀(args:List DVal) (k i:Nat),Ta args k (k+i)=args.getD i Fa
 | [],k,i=>rfl
 | x::xs,k,0=>by simp [Ta,upd]
 | x::xs,k,i+1=>by
  simp only[Ta,upd];rw[if_neg (by omega)];have:=As9 xs (k+1) i;rw[show k+(i+1)=k+1+i by omega,this];simp
def Gk4 (fn:Func) (n:Nat):Bool:=
 decide (n<=fn.ntmps)&&(match fn.body with | some c=>Im fn.ntmps c | none=>false)&&fn.results.toList.all (Bh7 fn.ntmps)
theorem Dy0 {w:World} {D:Nat} (h:w.heap[D]? =some (.deferred (some []))) (H:Ac):Lasts H w H (w.putObj D (.deferred none)):=Ws h rfl rfl H
theorem Fh3 {w:World} {D:Nat} {H:Ac} (h:w.heap[D]? =some (.deferred (some []))) (y:Bj w H) (C:H D=none):Bj (w.putObj D (.deferred none)) H:=Cz0 h rfl rfl y C
theorem Fh4 {w w0:World} {D:Nat} {H H0:Ac} (y:w.heap[D]? =some (.deferred (some []))) (C:w0.heap.size<=D) (h:Ext H0 w0 H w):Ext H0 w0 H (w.putObj D (.deferred none)):=by
 refine⟨h.os,h.tape,h.output,by simpa [World.putObj] using h.size,fun b hb hn=> ?_,h.own,fun b hb=> ?_,fun a ha hn=> ?_⟩
 ·rw[World.putObj_heap_other (by omega)];exact h.block b hb hn
 ·rw[World.putObj_heap_other (by omega)];exact h.keep b hb
 ·rw[<-h.fz a ha hn];exact Bv2 y rfl rfl a
theorem Sim.leaveT {F:Fence} {n:Nat} {H0:Ac} {w0:World} {fn:Func} {tmps:Array Value} {R:Ending->World->Prop} {u:FrameMode} {T:List Deferred} (O:u≠ .run) (J:N.base=⟨w0.heap.size,T,false⟩) {a:Act}:
  ∀(y:List Nat) (w:World),y.Nodup->(∀D∈y,(N.base.b<=D/\N.base.still=false)/\w.heap[D]? =some (.deferred (some []))/\s.heap D=none)->
   Sim G N s { tmps:=a.tmps,defers:=y.map (fun D=>({ target:= .collected D,args:= #[] }:Deferred))++T } w->Ext H0 w0 s.heap w->
   (∀w',Sim G N s { tmps:=a.tmps,defers:=T } w'->Ext H0 w0 s.heap w'->Lasts s.heap w s.heap w'->LeavesInM F n P fn tmps R T u w')->
   LeavesInM F n P fn tmps R (y.map (fun D=>({ target:= .collected D,args:= #[] }:Deferred))++T) u w
 | [],w,_,_,hS,hE,h=>h w hS hE (Ext.refl _ _).lasts
 | D::y,w,h2,h3,hS,hE,h=>by
  have Y:N.base.b=w0.heap.size:=by rw[J]
  have S:N.base.late=T:=by rw[J]
  obtain⟨Z,E,U⟩:=h3 D (by simp);have hl:=Dy0 E s.heap;have L:=List.nodup_cons.1 h2;have h4: ∀C∈y,(N.base.b<=C/\N.base.still=false)/\(w.putObj D (.deferred none)).heap[C]? =some (.deferred (some []))/\s.heap C=none:=fun C I=>⟨(h3 C (by simp [I])).1,by
   have V:C≠D:=fun e=>L.1 (by rw[<-e];exact I);rw[World.putObj_heap_other V];exact(h3 C (by simp [I])).2.1,(h3 C (by simp [I])).2.2⟩
  refine⟨O, .inl ⟨D,_,rfl,run_takeDeferred E,Sim.leaveT O J y _ L.2 h4 ?_ (Fh4 E (by omega) hE) fun w' W X M=>h w' W X ?_⟩⟩
  ·exact⟨hS.size,⟨y,by rw[S],L.2,h4⟩,
    fun i hi=>Rel.lasts hl _ _ (hS.tmps i hi),Fh3 E hS.heap U,hS.glob.lasts hl,by simpa [World.putObj] using hS.base⟩
  ·exact⟨fun b i x hb hc=>M.cell b i x hb (hl.cell b i x hb hc).2,Nat.le_trans hl.size M.size,fun b hb=>by rw[M.keep b (Nat.lt_of_lt_of_le hb hl.size),hl.keep b hb]⟩
theorem Sim.leaveL {F:Fence} {n:Nat} {H0:Ac} {w0:World} {fn:Func} {tmps:Array Value} {R:Ending->World->Prop} {u:FrameMode} {T:List Deferred} (E:u≠ .run) (y:N.base=⟨w0.heap.size,T,false⟩) {a:Act}
  (C:List Deferred) (w:World) (D:Sim G N s { tmps:=a.tmps,defers:=C } w) (I:Ext H0 w0 s.heap w)
  (h: ∀w',Sim G N s { tmps:=a.tmps,defers:=T } w'->Ext H0 w0 s.heap w'->Lasts s.heap w s.heap w'->LeavesInM F n P fn tmps R T u w'):LeavesInM F n P fn tmps R C u w:=by
 obtain⟨J,h1,h2,h3⟩:=D.defers;have L:N.base.late=T:=by rw[y]
 rw[L] at h1;dsimp only at h1;subst h1;exact Sim.leaveT E y J w h2 h3 D I h
theorem Sim.leave {F:Fence} {n:Nat} {H0:Ac} {w0:World} {fn:Func} {tmps:Array Value} {R:Ending->World->Prop} {u:FrameMode} (C:u≠ .run) (D:N.base=⟨w0.heap.size,[],false⟩) {a:Act}:
  ∀(y:List Deferred) (w:World),Sim G N s { tmps:=a.tmps,defers:=y } w->Ext H0 w0 s.heap w->
   (∀w',Sim G N s { tmps:=a.tmps,defers:= [] } w'->Ext H0 w0 s.heap w'->Lasts s.heap w s.heap w'->LeavesIn F n P fn tmps R [] u w')->LeavesInM F n P fn tmps R y u w:=
 fun y w hS hE h=>Sim.leaveL (T:= []) C D y w hS hE h
theorem Ab {f:FuncId} {fn:Func} {c:Code} {args:List DVal} {H:Ac} {R:DEnd->Ac->Prop} (hf:P.funcs[f]? =some fn)
  (U: ∀vs w,(callFunc f vs).run P w= .ok (.enter f vs) w) (hb:fn.body=some c) (hk:Gk4 fn args.length=true)
  (h:dwp P G fn.ntmps c (Em0 P fn.results.toList R) ⟨Ta args 0,H⟩):Af P G f args H R:=by
 unfold Gk4 at hk;rw[hb] at hk;simp only[jF,decide_eq_true_eq] at hk;obtain⟨⟨hA,hok⟩,hres⟩:=hk;refine⟨U,fun vs w hv V hG=> ?_⟩;have hl:=hv.length;refine(callsIn_wide (n:=0)).1 (callsIn_of_wp_marks hf hb trivial ?_);have hS:Sim G ⟨fn.ntmps,⟨w.heap.size,[],false⟩⟩ ⟨Ta args 0,H⟩ { tmps:=vs.toArray++Array.replicate (fn.ntmps-vs.toArray.size) undef,defers:= [] } w:=by
  refine⟨by simp;omega,Dfs.nil _ _ _,fun i hi=> ?_,V,hG,Nat.le_refl _⟩;have h0:=As9 args 0 i;rw[Nat.zero_add] at h0;show Rel w H (Ta args 0 i) _;rw[h0];by_cases M:i<args.length
  ·have h1:args[i]? =some (args.getD i Fa):=by simp [List.getD,List.getElem?_eq_getElem M]
   obtain⟨x,hx,hr⟩:=hv.get h1;have:(vs.toArray++Array.replicate (fn.ntmps-vs.toArray.size) undef).getD i undef=x:=by
    have W:i<vs.length:=by omega
    rw[Array.getD_eq_getD_getElem?,Array.getElem?_append_left (by simpa using W)];simp [hx]
   rw[this];exact hr
  ·have h1:args.getD i Fa=Fa:=by simp [List.getD,List.getElem?_eq_none (Nat.le_of_not_lt M)]
   have:(vs.toArray++Array.replicate (fn.ntmps-vs.toArray.size) undef).getD i undef=undef:=by
    rw[Array.getD_eq_getD_getElem?,Array.getElem?_append_right (by simp;omega)];simp only[Array.getElem?_replicate];split<;>rfl
   rw[h1,this];exact Wp w H
 refine wpIn_mono (Db8 c hok _ _ h 0 ⟨w.heap.size,[],false⟩ rfl _ w hS) ?_;rintro e a' w1 ⟨e',s',y,X,O,S⟩;have fin: ∀(v:DVal),Mt (Qn P s' fn.results.toList)=some v->Es R v s'.heap->
   LeavesInM Fence.wide 0 P fn a'.tmps (fun e w'=> ∃e' H',R e' H'/\RelE w' H' e' e/\Bj w' H'/\Ext H w H' w') a'.defers .returning w1:=by
  intro v hv Y;refine Sim.leave (a:=a') (by simp) rfl a'.defers w1 O S fun w' C D _=> ?_;obtain⟨x,hx,hr⟩:=Ay5 (P:=P) C hres hv;obtain⟨v',H',hg,E⟩:=Y;obtain⟨I,J,L⟩:=hg w' C.heap;exact⟨x,hx, .ret v',H',E, .ret v' x (L x hr),I,D.trans ⟨rfl,rfl,rfl,Nat.le_refl _,fun _ _ _=>rfl,fun b hb=> .inl (J b hb),fun _ _=>rfl,fun _ _ _=>rfl⟩⟩
 cases X with
 | normal=>
  simp only[Em0] at y;cases hd:Mt (Qn P s' fn.results.toList) with
  | none=>rw[hd] at y;exact y.elim
  | some v=>rw[hd] at y;exact fin v hd y
 | ret=>
  simp only[Em0] at y;cases hd:Mt (Qn P s' fn.results.toList) with
  | none=>rw[hd] at y;exact y.elim
  | some v=>rw[hd] at y;exact fin v hd y
 | exit id=>exact y.elim
 | goto l=>exact y.elim
 | panic d v hv=>
  obtain⟨v',H',hg,E⟩:=y;refine Sim.leave (a:=a') (by simp) rfl a'.defers w1 O S fun w' C D hl=> ?_;obtain⟨I,J,L⟩:=hg w' C.heap;exact⟨.panic v',H',E, .panic v' v (L v (Rel.lasts hl _ _ hv)),I,D.trans ⟨rfl,rfl,rfl,Nat.le_refl _,fun _ _ _=>rfl,fun b hb=> .inl (J b hb),fun _ _=>rfl,fun _ _ _=>rfl⟩⟩
end
attribute [go_sem] Db9.eq_1 Db9.eq_2 Al4.eq_1 El9.eq_1 Cn1.eq_1 Cn1.eq_2 Fv7.eq_1 Qn.eq_1 Qn.eq_2 Mt.eq_1 Bv5.eq_1 Em0.eq_1 Em0.eq_2 Em0.eq_3 Ta.eq_1 Ta.eq_2
theorem Dc0 (x y:DVal) (h:List DVal):Mt (some (x::y::h))=some (.tuple (x::y::h)):=rfl
theorem Dc1:Mt (some [])=some (.tuple []):=rfl
attribute [go_sem] Dc0 Dc1
theorem Dy1 {n:Int} (h1: -9223372036854775808<=n) (h2:n<=9223372036854775807):IntKind.wrap .i64 n=n:=IntWalk.i64_in n ⟨h1,h2⟩
abbrev dI (n:Int):DVal:= .int .i64 n
theorem Dn5.run {G:Nat->DVal} {y:(DExit->DS->Prop)->DK} {Q:DExit->DS->Prop} {s:DS} {ι:Type} (I:ι->(Nat->DVal)->Ac->Prop) (μ:ι->Nat) (i:ι) (h0:I i s.env s.heap)
  (hr: ∀i env heap,I i env heap->y (Ay2 (fun s1=> ∃j s2,Ri G s1 s2/\I j s2.env s2.heap/\μ j<μ i) Q) ⟨env,heap⟩):Dn5 G y Q s:=
 ⟨ι,fun i s=>I i s.env s.heap,μ,⟨i,s,Ri.refl s,h0⟩,fun i s h=>hr i s.env s.heap h⟩
theorem Fv8 {G:Nat->DVal} {ι:Type} {I:ι->(Nat->DVal)->Ac->Prop} {μ:ι->Nat} {s:DS} {m:Nat} (j:ι) (h:I j s.env s.heap) (hm:μ j<m): ∃j s2,Ri G s s2/\I j s2.env s2.heap/\μ j<m:=⟨j,s,Ri.refl s,h,hm⟩
theorem Cn3 {α:Type} (f:α->DVal) (l:List α) (i:Nat) (h:i<l.length):(l.map f)[i]? =some (f l[i]):=by simp [h]
theorem Fz9 {a b:Prop} (h:a):(a/\b)=b:=by simp [h]
theorem Em2 {p:Prop} [Decidable p] (h:p):decide p=true:=by simp [h]
theorem Dy2 {p:Prop} [Decidable p] (h: ¬p):decide p=false:=by simp [h]
theorem Ak {α:Type} (f:Nat->α) (i j:Nat) (v:α) (h:j≠i):upd f i v j=f j:=by simp [upd,h]
end Go.Dl
