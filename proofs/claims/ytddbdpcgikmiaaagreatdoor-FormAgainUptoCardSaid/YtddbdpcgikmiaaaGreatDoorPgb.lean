/- The data level and the contracts of the functions that are reached (part 2). -/
import Derived.Laws.BytesString
import Derived.Laws.RangeString
import Derived.Test.YtddbdpcgikmiaaaGreatDoorPga
set_option linter.unusedSimpArgs false
set_option linter.unusedVariables false
set_option linter.unusedSectionVars false
-- Dt
namespace Go.Dl
open Go
section
variable {P:Program} {G:Nat->DVal} {N:Fr}
variable {o:Oper} {s:DS} {a:Act} {w:World} {K:DK} {Q:DExit->DS->Prop} {Qx:Exit->Act->World->Prop}
theorem Ah7 {t:TypeId} (h:Fk (P.underlying t)=true): ∃d,P.underlying t=some d/\ ∀m,d≠ .interface m:=by
 cases hu:P.underlying t with
 | none=>rw[hu] at h;cases h
 | some d=>refine⟨d,rfl,fun m e=> ?_⟩;rw[hu,e] at h;cases h
theorem Cf7 (D:Sim G N s a w) (J:Cz N o.dst=true) {x:Operand} {L t:TypeId} {ok:Bool} (hx:Cc N x=true) (he:o.op= .typeAssert x L t ok)
  (h:Rm P t ok o.dst (Fk (P.underlying t)) (dev G s.env x) K s):PV P o s a w K:=by
 have E:=Bs D hx;generalize hn:Fk (P.underlying t)=nb at h;generalize dev G s.env x=dx at h E;unfold Rm at h;split at h
 ·rename_i C W
  obtain⟨d,hu,M⟩:=Ah7 hn;simp only[Rel] at E;obtain⟨y,hp,U⟩:=E;have I:(execOp a.eval o).run P w=((Instr.typeAssert (.iface C y) L t ok).run P w).andThen fun v w'=> .ok (.value v) w':=by
   simp [execOp,he,hp]
  have V:(Instr.typeAssert (.iface C y) L t ok).run P w=if C=t then .ok (if ok then .tuple #[y, .bool true] else y) w else((if ok then(do pure (.tuple #[<-zeroValue t, .bool false])) else runtimePanic (.typeAssertion (some L) (some C) t "")):Sem Value).run P w:=by
   simp only[Instr.typeAssert,Sem.run_bind,run_underlying hu,Result.andThen_ok];cases d<;>first | exact absurd rfl (M _) | (by_cases e:C=t<;>simp [e])
  by_cases e:C=t
  ·subst e;simp only[decide_true] at h;rw[V,if_pos rfl] at I;cases ok
   ·exact pvI D J I U h
   ·refine pvI D J I ?_ h;simp only[Rel];exact⟨_,rfl,by simp only[if_true,Az,Rel];exact⟨_,_,rfl,U,_,_,rfl,rfl,rfl⟩⟩
  ·simp only[e,decide_false] at h;cases ok
   ·exact h.elim
   ·simp only[Av6] at h;cases hz:Bn P t with
    | none=>rw[hz] at h;exact h.elim
    | some z=>
     rw[hz] at h;obtain⟨i,v,hi,O,rfl⟩:=Oj hz;have S:(zeroValue t).run P w= .ok v w:=by simp [zeroValue,Sm hi,O]
     rw[V,if_neg e] at I;refine pvI D J (x:= .tuple #[v, .bool false]) (by rw[I];simp [S]) ?_ h;simp only[Rel];exact⟨_,rfl,by simp only[Az,Rel];exact⟨_,_,rfl,Hd w s.heap v,_,_,rfl,rfl,rfl⟩⟩
 ·obtain⟨d,hu,M⟩:=Ah7 hn;obtain⟨rfl,h⟩:=h;simp only[Rel] at E;cases hz:Bn P t with
  | none=>rw[hz] at h;exact h.elim
  | some z=>
   rw[hz] at h;obtain⟨i,v,hi,O,rfl⟩:=Oj hz;have S:(zeroValue t).run P w= .ok v w:=by simp [zeroValue,Sm hi,O]
   refine pvI D J (x:= .tuple #[v, .bool false]) ?_ ?_ h
   ·simp only[execOp,he,E,Instr.typeAssert,Sem.run_bind,run_underlying hu,Result.andThen_ok];cases d<;>first | exact absurd rfl (M _) | simp [S]
   ·simp only[Rel];exact⟨_,rfl,by simp only[Az,Rel];exact⟨_,_,rfl,Hd w s.heap v,_,_,rfl,rfl,rfl⟩⟩
 ·exact h.elim
theorem Jf {c:Call} {b:Builtin} (he:o.op= .call c) (C:c.callee= .builtin b):
  execOp a.eval o=builtin b c.argTypes o.type (c.args.map fun | .const _=>true | _=>false) (c.args.map a.eval):=by
 simp only[execOp,he,resolve,C];rfl
theorem Ao4 {xs:List Operand} {d:DVal} (h:Hh G s.env xs= [d]): ∃x,xs= [x]/\dev G s.env x=d:=by
 cases xs with
 | nil=>simp [Hh] at h
 | cons x xs=>cases xs with
  | nil=>simp [Hh] at h;exact⟨x,rfl,h⟩
  | cons y ys=>simp [Hh] at h
theorem Cp5 {xs:List Operand} {d e:DVal} (h:Hh G s.env xs= [d,e]): ∃x y,xs= [x,y]/\dev G s.env x=d/\dev G s.env y=e:=by
 cases xs with
 | nil=>simp [Hh] at h
 | cons x xs=>cases xs with
  | nil=>simp [Hh] at h
  | cons y ys=>cases ys with
   | nil=>simp [Hh] at h;exact⟨x,y,rfl,h.1,h.2⟩
   | cons z C=>simp [Hh] at h
theorem Gr1 (D:Sim G N s a w) (I:Cz N o.dst=true) {c:Call} {x:Operand} (hx:Cc N x=true) (he:o.op= .call c) (L:c.callee= .builtin .len) (M:c.args.toList= [x]) {t:TypeId} (O:c.argTypes.toList= [t])
  (h:dLen o.dst (P.underlying t) (dev G s.env x) K s):PV P o s a w K:=by
 have C:=Bs D hx;have hm:c.args.map a.eval= #[a.eval x]:=by apply Array.ext';simp [M]
 have E:=Jf (a:=a) he L;rw[hm] at E;have J:c.argTypes[0]? =some t:=by rw[<-Array.getElem?_toList,O];rfl
 generalize hu:P.underlying t=u at h;generalize dev G s.env x=dx at h C;unfold dLen at h;split at h
 ·simp only[Rel] at C;exact Xm D I (by rw[E];simp [builtin,Builtin.len_,J,run_underlying hu,C,goInt];rfl) h
 ·exact Xm D I (by rw[E];simp [builtin,Builtin.len_,J,run_underlying hu,goInt]) h
 ·simp only[Rel] at C;exact Xm D I (by rw[E];simp [builtin,Builtin.len_,J,run_underlying hu,C,goInt]) h
 ·simp only[Rel] at C;obtain⟨_,_,C,_⟩:=C;exact Xm D I (by rw[E];simp [builtin,Builtin.len_,J,run_underlying hu,C,goInt]) h
 ·simp only[Rel] at C;obtain⟨_,_,C,_⟩:=C;exact Xm D I (by rw[E];simp [builtin,Builtin.len_,J,run_underlying hu,C,goInt]) h
 ·exact h.elim
theorem Bb6 {H:Ac} (isMax:Bool): ∀(C:List DVal) (vs:List Value) (x:DVal) (v:Value) (r:DVal),Az w H C vs->Rel w H x v->Zy isMax (some x) C=some r->
  ∃u,(vs.foldlM (if isMax then Builtin.max2 else Builtin.min2) v).run P w= .ok u w/\Rel w H r u
 | [],vs,x,v,r,hl,hx,h=>by
  simp only[Az] at hl;subst hl;simp only[Zy] at h;cases h;exact⟨v,by simp,hx⟩
 | y::C,vs,x,v,r,hl,hx,h=>by
  simp only[Az] at hl;obtain⟨u,us,rfl,D,hl⟩:=hl;simp only[Zy] at h;cases hm:dMM isMax x y with
  | none=>rw[hm] at h;cases C<;>cases h
  | some z=>
   rw[hm] at h;unfold dMM at hm;split at hm<;>try (cases hm;done)
   rename_i k m k' n
   simp only[Rel] at hx D;subst hx;subst D;cases hm;obtain⟨q,hq,hr⟩:=Bb6 isMax C us _ (.int k (if isMax then(if n>m then n else m) else(if n<m then n else m))) r hl (by simp [Rel]) h;refine⟨q, ?_,hr⟩;cases isMax
   ·simpa [Builtin.min2] using hq
   ·simpa [Builtin.max2] using hq
theorem Cp6 (E:Sim G N s a w) (I:Cz N o.dst=true) {c:Call} {isMax:Bool} (hx:c.args.toList.all (Cc N)=true) (he:o.op= .call c) (J:c.callee= .builtin (if isMax then .max else .min))
  (h:Wi o.dst (Ae7 isMax (Hh G s.env c.args.toList)) K s):PV P o s a w K:=by
 have C:=Tr E hx;have L:=Jf (a:=a) he J;obtain⟨d,D,M⟩:=Kt h;have hm:(c.args.map a.eval).toList=c.args.toList.map a.eval:=by simp
 generalize S:c.args.toList.map a.eval=vs at C hm;generalize Hh G s.env c.args.toList=ds at C D;cases ds with
 | nil=>cases D
 | cons x rest=>
  simp only[Az] at C;obtain⟨v,us,rfl,O,hl⟩:=C;simp only[Ae7] at D;obtain⟨u,hu,hr⟩:=Bb6 (P:=P) isMax rest us x v d hl O D;refine pvI E I ?_ hr M;rw[L];cases isMax
  ·simp at hu;simp only[builtin,Builtin.min_,hm,Bool.false_eq_true,if_false,Sem.run_bind,hu,Result.andThen_ok,Sem.run_pure]
  ·simp at hu;simp only[builtin,Builtin.max_,hm,if_true,Sem.run_bind,hu,Result.andThen_ok,Sem.run_pure]
end
section
variable {P:Program} {G:Nat->DVal} {N:Fr}
variable {o:Oper} {s:DS} {a:Act} {w:World} {K:DK} {Q:DExit->DS->Prop} {Qx:Exit->Act->World->Prop}
def Dd6 (P:Program) (w:World) (size:Nat) (x:Value) (n:Nat) (vs:List Value):Prop:=
 (Builtin.lenOf x).run P w= .ok n w/\ ∀k,(Builtin.firstCells size n x).run P { w with drawn:=k }= .ok vs.toArray { w with drawn:=k }
theorem Aa0 {b off k:Nat} {xs:List Value} (h:Nr w b off xs):Nr { w with drawn:=k } b off xs:=h
theorem Dd7 {size:Nat} {y:DVal} {v:Value} {H:Ac} (J:Bm w H) (hv:Rel w H y v) {n:Nat} {C:List DVal} (hs:Zu size H y=some (n,C)) (hl:C.length=n*size):
  ∃vs,Dd6 P w size v n vs/\Az w H C vs:=by
 unfold Zu at hs;split at hs
 ·cases hs;simp only[Rel] at hv;subst hv;exact⟨[],⟨by simp [Builtin.lenOf],fun k=>by simp [Builtin.firstCells]⟩,by simp [Az]⟩
 ·cases hs;simp only[Rel] at hv;obtain⟨E,cap,rfl,_,hc⟩:=hv;rcases hc with rfl | ⟨b,o',xs,rfl,hc,hr⟩
  ·have hz:n*size=0:=by simpa using hl.symm
   refine⟨[],⟨by simp [Builtin.lenOf],fun k=> ?_⟩,by simp [Az]⟩;cases E with
   | none=>simp [Builtin.firstCells]
   | some E=>
    simp [Builtin.firstCells,hz,loadCells,loadCellsFrom]
  ·refine⟨xs.take (n*size),⟨by simp [Builtin.lenOf],fun k=> ?_⟩,hr.take _⟩;have L:=hr.length;have D:(xs.take (n*size)).length=n*size:=by
    simp only[List.length_take] at hl⊢;omega
   have:=Ge (P:=P) (w:= { w with drawn:=k }) (Nr.take (n:=n*size) (Aa0 hc.holds));rw[D] at this;simpa [Builtin.firstCells] using this
 ·rename_i sz r off n' lo
  unfold By2 at hs;split at hs<;>try (cases hs;done)
  rename_i cs e hh
  cases hs;simp only[Rel] at hv;obtain⟨o',cap,rfl,_,V,M,_⟩:=hv;obtain⟨xs,hr,O⟩:=J.holds hh;by_cases S:cap=0
  ·have hn:n=0:=by omega
   subst hn;refine⟨[],⟨by simp [Builtin.lenOf],fun k=>by simp [Builtin.firstCells,loadCells,loadCellsFrom]⟩, ?_⟩;simp [Az]
  ·have:o'=off:=M.resolve_left S;subst this;refine⟨(xs.drop o').take (n*size),⟨by simp [Builtin.lenOf],fun k=> ?_⟩,(hr.drop _).take _⟩;have L:=hr.length;have D:((xs.drop o').take (n*size)).length=n*size:=by
    simp only[List.length_take,List.length_drop] at hl⊢;omega
   have h1:Nr w r o' (xs.drop o'):=by simpa using O.drop (n:=o')
   have:=Ge (P:=P) (w:= { w with drawn:=k }) (Nr.take (n:=n*size) (Aa0 h1));rw[D] at this;simpa [Builtin.firstCells] using this
 ·rename_i l
  cases hs;simp only[Rel] at hv;subst hv;have U:(ByteArray.mk ⟨l⟩).size=l.length:=rfl;refine⟨l.map fun b=> .int .u8 b.toNat,⟨by simp [Builtin.lenOf,U],fun k=> ?_⟩, ?_⟩
  ·simp [Builtin.firstCells]
  ·refine Az.mk (by simp) fun i d x h1 h2=> ?_;simp only[List.getElem?_map,Option.map_eq_some_iff] at h1 h2;obtain⟨W,e1,rfl⟩:=h1;obtain⟨X,I,rfl⟩:=h2;rw[e1] at I;cases I;simp [Rel]
 ·cases hs
variable {t t' e:TypeId} {ty:TypeId} {i:TypeInfo} {z:Value} {u:TypeDesc}
theorem Aa1 (E:P.underlying t=some (.slice e)) (I:P.underlying t'=some u) (O:(∃e',u= .slice e')\/u= .string) (hi:P.info? e=some i) (hz:i.zero=some z)
  {b:Option Addr} {len cap n:Nat} {x:Value} {vs:List Value} (S:Dd6 P w i.size x n vs) (U:cap<len+n) (X:(len+n)*i.bytes<=35184372088832) (Y:(len+n:Nat)<=35184372088832)
  {olds:List Value} (V: ∀k,(Builtin.firstCells i.size len (.slice b len cap)).run P { w with drawn:=k }= .ok olds.toArray { w with drawn:=k }):
  ∃c,len+n<=c/\(Builtin.append_ #[t,t'] ty #[.slice b len cap,x]).run P w=
   .ok (.slice (some ⟨w.heap.size,0,none⟩) (len+n) c) { w.alloc (.cells (olds.toArray++(vs.toArray++Builtin.zeroCells z.cells (c-(len+n)))) e) with drawn:=w.drawn+1 }:=by
 obtain⟨J,W⟩:=S;refine⟨(Question.appendCap (len+n) cap e).cut (w.tape w.drawn (.appendCap (len+n) cap e)),by simp [Question.cut], ?_⟩;have hn: ¬(len+n<=cap):=by omega
 have L: ¬(Builtin.nextslicecap (len+n) cap*i.bytes>281474976710656):=by
  have:=growslice_fits (need:=len+n) (old:=cap) (bytes:=i.bytes) U (by omega);omega
 have C:=W (w.drawn+1);have D:=V (w.drawn+1);have M: ¬(9223372036854775807<((len:Int)+(n:Int))):=by omega
 simp only[World.drew_eq] at C D;rcases O with⟨e',rfl⟩ | rfl
 ·simp [Builtin.append_,run_underlying E,run_underlying I,sizeOf,typeInfo,zeroValue,hi,hz,J,hn,L,M,Question.forced,C,D,newRow];rfl
 ·simp [Builtin.append_,run_underlying E,run_underlying I,sizeOf,typeInfo,zeroValue,hi,hz,J,hn,L,M,Question.forced,C,D,newRow];rfl
theorem Rg (E:P.underlying t=some (.slice e)) (I:P.underlying t'=some u) (M:(∃e',u= .slice e')\/u= .string) (hi:P.info? e=some i)
  {b:Option Addr} {len cap n:Nat} {x:Value} {vs:List Value} (O:Dd6 P w i.size x n vs) (J:len+n<=cap) {w':World}
  (C:(match b with | some ad=>storeCells (ad.add (len*i.size)) vs 0 | none=>pure ()).run P w= .ok () w'):
  (Builtin.append_ #[t,t'] ty #[.slice b len cap,x]).run P w= .ok (.slice b (len+n) cap) w':=by
 obtain⟨L,S⟩:=O
 have D:=S w.drawn
 have hw: { w with drawn:=w.drawn }=w:=rfl
 rw[hw] at D
 rcases M with⟨e',rfl⟩ | rfl
 ·cases b with
  | none=>simp at C;subst C;simp [Builtin.append_,run_underlying E,run_underlying I,sizeOf,typeInfo,hi,L,J,D]
  | some ad=>simp at C;simp [Builtin.append_,run_underlying E,run_underlying I,sizeOf,typeInfo,hi,L,J,D,C]
 ·cases b with
  | none=>simp at C;subst C;simp [Builtin.append_,run_underlying E,run_underlying I,sizeOf,typeInfo,hi,L,J,D]
  | some ad=>simp at C;simp [Builtin.append_,run_underlying E,run_underlying I,sizeOf,typeInfo,hi,L,J,D,C]
theorem Cf8 {u:Option TypeDesc} (h:Av7 u=true): ∃d,u=some d/\((∃e',d= .slice e')\/d= .string):=by
 cases u with
 | none=>cases h
 | some d=>cases d<;>first | (exact⟨_,rfl, .inl ⟨_,rfl⟩⟩) | (exact⟨_,rfl, .inr rfl⟩) | (cases h;done)
theorem Dd8 {H:Ac} (M:Bm w H) {r p:Nat} {cs D:List DVal} {e:TypeId} (hr:H r=some (.cells cs e)) {vs:List Value} (hv:Az w H D vs) (h1:D.all (·.one)=true) (hp:p<=cs.length)
  (Y: ∀c fz,w.heap[r]? =some (.cells c e fz)->p+D.length<=c.size) {cs':List DVal} (O:cs'=cs.take p++D):
  ∃w',(storeCells ⟨r,p,none⟩ vs 0).run P w= .ok () w'/\Bm w' (upd (upd H r none) r (some (.cells cs' e)))/\Ext H w (upd (upd H r none) r (some (.cells cs' e))) w':=by
 subst O;obtain⟨xs,c,fz,E,Z,S,U⟩:=M r _ hr;obtain⟨tl,V⟩:=Z;have af:=S.length;have ag:=hv.length;have O:c.size=xs.length+tl.length:=by rw[<-Array.length_toList,<-V];simp
 have ah:=Y c fz E;obtain⟨w',c',aa,L,W,I,ai,ab,ac,ad⟩:=Oe (P:=P) r p e fz vs 0 c w E (by omega) (Bj4 hv h1) U;have X:c'.size=c.size:=by
  rw[<-Array.length_toList,W];simp;omega
 have ae:upd (upd H r none) r (some (.cells (cs.take p++D) e))=upd H r (some (.cells (cs.take p++D) e)):=by
  funext j;simp only[upd];split<;>rfl
 rw[ae];have hE:Ext H w (upd H r (some (.cells (cs.take p++D) e))) w':=by
  refine⟨ab,ac,ad,by omega,fun b hb hn=>I b (fun C=>by subst C;rw[hr] at hn;cases hn),fun b hb=> ?_,fun b hb=> ?_,fun a _ _=>by
   unfold World.frozen?;by_cases C:a.block=r
   ·rw[C,L,E]
   ·rw[I _ C]⟩
  ·by_cases C:b=r
   ·subst C;exact .inl (by rw[hr];simp)
   ·simp only[upd,if_neg C] at hb;exact .inl hb
  ·by_cases C:b=r
   ·subst C;rw[L,E];simp [Qa,X]
   ·rw[I b C]
 refine⟨w',aa,fun r' o' J=> ?_,hE⟩;by_cases C:r'=r
 ·subst C;simp only[upd,if_pos] at J;cases J;refine⟨xs.take p++vs,c',fz,L, ?_,(Az.lasts hE.lasts _ _ (S.take p)).append (Az.lasts hE.lasts _ _ hv),by rw[X];exact U⟩;refine⟨c.toList.drop (p+0+vs.length), ?_⟩;rw[W,<-V,Nat.add_zero,List.take_append_of_le_length (by omega)]
 ·simp only[upd,if_neg C] at J;rw[I r' C];exact(M r' o' J).lasts hE.lasts
theorem Bm.letGo {H:Ac} (E:Bm w H) (r:Nat):Bm w (upd H r none):=by
 have hl:Lasts H w (upd H r none) w:=⟨fun b i x hb hc=>⟨by simp only[upd];split;rfl;exact hb,hc⟩,Nat.le_refl _,fun _ _=>rfl⟩;intro r' o' C;by_cases D:r'=r
 ·subst D;simp [upd] at C
 ·simp only[upd,if_neg D] at C;exact(E r' o' C).lasts hl
theorem Dz0 {H:Ac} (r:Nat):Ext H w (upd H r none) w:=
 ⟨rfl,rfl,rfl,Nat.le_refl _,fun _ _ _=>rfl,fun b hb=> .inl (by simp only[upd] at hb;split at hb<;>simp_all),fun _ _=>rfl,fun _ _ _=>rfl⟩
theorem Sa (size:Nat) (k:Nat):(Builtin.firstCells size 0 (.slice none 0 0)).run P { w with drawn:=k }= .ok #[] { w with drawn:=k }:=by simp [Builtin.firstCells]
theorem Aj2 {α:Type} (l m:List α):l<+:l++m:=⟨m,rfl⟩
theorem Ep3 (C:Sim G N s a w) (L:Cz N o.dst=true) {c:Call} {x y:Operand} (hx:Cc N x=true) (hy:Cc N y=true) (he:o.op= .call c) (hc:c.callee= .builtin .append) (a1:c.args.toList= [x,y]) {t t':TypeId} (a2:c.argTypes.toList= [t,t'])
  (h:Bg1 P (Av7 (P.underlying t')) (dev G s.env x) (dev G s.env y) o.dst (P.underlying t) K s):o.wp P a w (Io G N K s w) Qx:=by
 have M:=Bs C hx;have ry:=Bs C hy;have hm:c.args.map a.eval= #[a.eval x,a.eval y]:=by apply Array.ext';simp [a1]
 have a3:c.argTypes= #[t,t']:=by apply Array.ext';simp [a2]
 have O:execOp a.eval o=(do pure (.value (←Builtin.append_ #[t,t'] o.type #[a.eval x,a.eval y]))):=by
  rw[Jf he hc,hm,a3];rfl
 generalize S:P.underlying t=ut at h;unfold Bg1 at h;split at h<;>try exact h.elim
 rename_i e
 obtain⟨a4,a5,ac,a6,ad,h⟩:=h;obtain⟨u,hu,U⟩:=Cf8 a4;obtain⟨zd,hz⟩:=Option.isSome_iff_exists.1 a5;rw[hz] at ac;simp only[Option.all_some,decide_eq_true_eq] at ac;obtain⟨i,z,hi,aj,rfl⟩:=Oj hz;have ae:P.cellsOf e=i.size:=by simp [Program.cellsOf,hi]
 have ak:P.bytesOf e=i.bytes:=by simp [Program.bytesOf,hi]
 have al:z.cells.size=i.size:=by
  have:=(Mu (Hd w s.heap z)).length;rw[<-ae,<-ac,this];simp
 rw[ae,ak] at h;rw[ae] at a6;rw[ak] at ad;cases hsc:Zu i.size s.heap (dev G s.env y) with
 | none=>rw[hsc] at h;exact h.elim
 | some nn=>
  obtain⟨n,W⟩:=nn;rw[hsc] at h;obtain⟨a7,am,h⟩:=h;obtain⟨vs,V,X⟩:=Dd7 (P:=P) C.heap ry hsc a7;have bm:=X.length;generalize dev G s.env x=dx at h M;unfold Ql at h;split at h
  ·-- nil
   obtain⟨h0,h1⟩:=h;simp only[Rel] at M;by_cases hn:n=0
   ·have J:=h0 hn;subst hn;have af:vs= []:=List.length_eq_zero_iff.1 (by omega);subst af;have D:=Rg (ty:=o.type) (b:=none) (len:=0) (cap:=0) S hu U hi V (by omega) (w':=w) (by simp);refine Ld C L (x:= .slice none 0 0) ?_ (by simp [Rel]) J;rw[O,M];simp [D]
   ·obtain⟨Y,J⟩:=h1 hn;have ao:n<=35184372088832:=Nat.le_trans (Nat.le_mul_of_pos_right n ad) Y;obtain⟨E,a8,D⟩:=Aa1 (ty:=o.type) (b:=none) (len:=0) (cap:=0) (olds:= []) S hu U hi aj V (by omega) (by simpa using Y) (by omega) (fun k=>Sa i.size k);refine Ao0 C L (sz:=i.size) (lo:=n) (cap:=E) (n:=w.drawn+1) (len:=n) (e:=e) (c:= #[]++(vs.toArray++Builtin.zeroCells z.cells (E-(0+n)))) (by omega) (by omega) ?_ ?_ X ?_ J
    ·simp only[Array.size_append,size_zeroCells,al,List.size_toArray,jB,Nat.zero_add];have:vs.length=n*i.size:=by omega
     rw[this,<-Nat.add_mul];exact Nat.mul_le_mul_right _ (by omega)
    ·rw[O,M];simp only[Nat.zero_add] at D;simp [D]
    ·simp only[Array.toList_append,jG];exact Aj2 _ _
  ·-- a slice of the call's own
   rename_i sz r off len lo
   obtain⟨rfl,h⟩:=h;simp only[Rel] at M;obtain⟨o',cap,hp,hlo,bn,aa,ab⟩:=M;cases hh:s.heap r with
   | none=>rw[hh] at h;exact h.elim
   | some ob=>
    cases ob with
    | loop=>rw[hh] at h;exact h.elim
    | iter=>rw[hh] at h;exact h.elim
    | map=>rw[hh] at h;exact h.elim
    | cells cs e'=>
     rw[hh] at h;obtain⟨rfl,a9,ba⟩:=h;by_cases hle:len+n<=lo
     ·-- in place, within what is known
      obtain⟨ap,J⟩:=a9 hle;have bo:(len+n)*i.size=len*i.size+n*i.size:=Nat.add_mul _ _ _;by_cases ag:cap=0
      ·have ah:len=0:=by omega
       have bb:n=0:=by omega
       subst ah;subst bb;have af:vs= []:=List.length_eq_zero_iff.1 (by omega);have bc:W= []:=List.length_eq_zero_iff.1 (by omega);subst af;subst bc;have D:=Rg (ty:=o.type) (b:=some ⟨r,o',none⟩) (len:=0) (cap:=cap) S hu U hi V (by omega) (w':=w) (by simp [storeCells]);have hsp:Cn cs (off+0*i.size) []=cs:=by simp [Cn]
       have bd:upd s.heap r (some (.cells (Cn cs (off+0*i.size) []) e'))=s.heap:=by
        funext j;rw[hsp];simp only[upd];split
        ·rename_i hj;rw[hj,hh]
        ·rfl
       rw[bd] at J;refine Ld C L (x:= .slice (some ⟨r,o',none⟩) 0 cap) ?_ ?_ J
       ·rw[O,hp];simp [D]
       ·simp only[Rel];exact⟨o',cap,rfl,hlo,by omega,aa,ab⟩
      ·have:o'=off:=aa.resolve_left ag;subst this;obtain⟨w',hst,hH,hE⟩:=Aw1 (P:=P) C.heap hh X am (off:=o'+len*i.size) (by omega);have D:=Rg (ty:=o.type) (b:=some ⟨r,o',none⟩) (len:=len) (cap:=cap) S hu U hi V (by omega) (w':=w') (by simpa [Mt] using hst);refine Je C L (x:= .slice (some ⟨r,o',none⟩) (len+n) cap) ?_ hE hH ?_ J
       ·rw[O,hp];simp [D]
       ·simp only[Rel];exact⟨o',cap,rfl,hlo,by omega, .inr rfl,hE.lasts.room ab⟩
     ·-- the room is not known
      obtain⟨ap,Y,J⟩:=ba hle;have ao:len+n<=35184372088832:=Nat.le_trans (Nat.le_mul_of_pos_right _ ad) Y;obtain⟨xs,aq,be⟩:=C.heap.holds hh;have bp:=aq.length;by_cases ar:len+n<=cap
      ·-- in place
       have:o'=off:=aa.resolve_left (by omega);subst this;have bf: ∀c fz,w.heap[r]? =some (.cells c e' fz)->o'+len*i.size+W.length<=c.size:=by
        intro c fz hcc;have:=ab.2 c.size (by rw[hcc];rfl);have h2:(len+n)*i.size<=cap*i.size:=Nat.mul_le_mul_right _ ar;rw[Nat.add_mul] at h2;omega
       obtain⟨w',hst,hH,hE⟩:=Dd8 (P:=P) C.heap hh X am (p:=o'+len*i.size) ap bf (cs':=cs.take o'++(cs.drop o').take (len*i.size)++W) (by rw[List.take_add]);have D:=Rg (ty:=o.type) (b:=some ⟨r,o',none⟩) (len:=len) (cap:=cap) S hu U hi V ar (w':=w') (by simpa [Mt] using hst);have I:=J r (cs.take o') (by simp [upd]) (fun e0=>by simp [e0]);rw[if_pos (.inr rfl)] at I;have bg:(cs.take o').length=o':=by simp;omega
       rw[bg] at I;refine Je C L (x:= .slice (some ⟨r,o',none⟩) (len+n) cap) ?_ hE hH ?_ I
       ·rw[O,hp];simp [D]
       ·simp only[Rel];exact⟨o',cap,rfl,by omega,by omega, .inr rfl,hE.lasts.room ab⟩
      ·-- a new row
       have holds: ∃olds,Az w s.heap ((cs.drop off).take (len*i.size)) olds/\olds.length=len*i.size/\ ∀k,(Builtin.firstCells i.size len (.slice (some ⟨r,o',none⟩) len cap)).run P { w with drawn:=k }= .ok olds.toArray { w with drawn:=k }:=by
        by_cases ag:cap=0
        ·have ah:len=0:=by omega
         subst ah;exact⟨[],by simp [Az],by simp,fun k=>by simp [Builtin.firstCells,loadCells,loadCellsFrom]⟩
        ·have:o'=off:=aa.resolve_left ag;subst this;have au:((xs.drop o').take (len*i.size)).length=len*i.size:=by
          simp only[List.length_take,List.length_drop];omega
         refine⟨_,(aq.drop _).take _,au,fun k=> ?_⟩;have h1:Nr w r o' (xs.drop o'):=by simpa using be.drop (n:=o')
         have:=Ge (P:=P) (w:= { w with drawn:=k }) (Nr.take (n:=len*i.size) (Aa0 h1));rw[au] at this;simpa [Builtin.firstCells] using this
       obtain⟨olds,bh,bi,bj⟩:=holds;obtain⟨E,a8,D⟩:=Aa1 (ty:=o.type) S hu U hi aj V (by omega) Y ao bj;have av: ∀Z:Ac,Bm w Z->Ext s.heap w Z w->K ⟨Hr s.env o.dst (.oslice i.size w.heap.size 0 (len+n) (len+n)),upd Z w.heap.size (some (.cells ((cs.drop off).take (len*i.size)++W) e'))⟩->o.wp P a w (Io G N K s w) Qx:=by
        intro Z aw ai I;have bk:Az w Z ((cs.drop off).take (len*i.size)++W) (olds++vs):=
         (Az.lasts ai.lasts _ _ bh).append (Az.lasts ai.lasts _ _ X)
        have bl:(olds++vs)<+:(olds.toArray++(vs.toArray++Builtin.zeroCells z.cells (E-(len+n)))).toList:=by
         simp only[Array.toList_append,<-jO];exact Aj2 _ _
        have bq:E*i.size<=(olds.toArray++(vs.toArray++Builtin.zeroCells z.cells (E-(len+n)))).size:=by
         simp only[Array.size_append,size_zeroCells,al,List.size_toArray,bi];have h1:vs.length=n*i.size:=by omega
         rw[h1,<-Nat.add_mul,<-Nat.add_mul];exact Nat.mul_le_mul_right _ (by omega)
        refine Je C L (x:= .slice (some ⟨w.heap.size,0,none⟩) (len+n) E) ?_ ((ai.trans (Ae8 aw _ _ _)).drawn (w.drawn+1)) ((Vw aw bk _ bl e').drawn (w.drawn+1)) ?_ I
        ·rw[O,hp];simp [D]
        ·simp only[Rel];refine⟨0,E,rfl,by omega,by omega, .inr rfl, ?_⟩;constructor
         ·show w.heap.size<(w.alloc _).heap.size;simp
         ·intro k hk;have h1:(w.alloc (.cells (olds.toArray++(vs.toArray++Builtin.zeroCells z.cells (E-(len+n)))) e')).heap[w.heap.size]? =some (.cells (olds.toArray++(vs.toArray++Builtin.zeroCells z.cells (E-(len+n)))) e'):=by
           show(w.heap.push _)[w.heap.size]? =_;simp
          have ax:Qa (w.alloc (.cells (olds.toArray++(vs.toArray++Builtin.zeroCells z.cells (E-(len+n)))) e')).heap[w.heap.size]? =some k:=hk;rw[h1] at ax;simp only[Qa,Option.some.injEq] at ax;omega
       have ay:=C.heap.letGo r;have I:=J w.heap.size [] ay.fresh (fun _=>rfl);simp only[jG,jB] at I;by_cases a0:len<=lo\/w.heap.size=r
       ·rw[if_pos a0] at I;exact av _ ay (Dz0 r) I
       ·rw[if_neg a0] at I;exact av _ C.heap (Ext.refl _ _) I
  ·exact h.elim
end
section
variable {P:Program} {G:Nat->DVal} {N:Fr}
variable {o:Oper} {s:DS} {a:Act} {w:World} {K:DK} {Qx:Exit->Act->World->Prop}
theorem Gr2 (D:Sim G N s a w) (I:Cz N o.dst=true) {c:Call} {x:Operand} {t:TypeId} (hx:Cc N x=true) (he:o.op= .call c) (L:c.callee= .builtin .cap) (M:c.args.toList= [x]) (O:c.argTypes.toList= [t])
  (h:Eo5 o.dst (P.underlying t) (dev G s.env x) K s):PV P o s a w K:=by
 have C:=Bs D hx;have hm:c.args.map a.eval= #[a.eval x]:=by apply Array.ext';simp [M]
 have E:=Jf (a:=a) he L;rw[hm] at E;have J:c.argTypes[0]? =some t:=by rw[<-Array.getElem?_toList,O];rfl
 generalize hu:P.underlying t=u at h;generalize dev G s.env x=dx at h C;unfold Eo5 at h;split at h
 ·simp only[Rel] at C;exact Xm D I (by rw[E];simp [builtin,Builtin.cap_,J,run_underlying hu,C,goInt]) h
 ·simp only[Rel] at C;obtain⟨_,cap,C,hle,_⟩:=C;exact Xm D I (by rw[E];simp [builtin,Builtin.cap_,J,run_underlying hu,C,goInt]) (h cap hle)
 ·simp only[Rel] at C;obtain⟨_,cap,C,h1,h2,_⟩:=C;exact Xm D I (by rw[E];simp [builtin,Builtin.cap_,J,run_underlying hu,C,goInt]) (h cap h2 h1)
 ·exact h.elim
theorem Bf3 {e t t' ty:TypeId} {i:TypeInfo} {z:Value} {k:IntKind} (C:P.underlying t=some (.slice e)) (D:P.underlying t'=some (.int k)) (hi:P.info? e=some i) (hz:i.zero=some z) (hp:0<i.size)
  {n:Int} (h0:0<n) (E:n*i.bytes<=35184372088832) (J:n<=35184372088832):
  ∃c,n.toNat<=c/\(Builtin.append_ #[t,t'] ty #[.slice none 0 0, .int .i64 n]).run P w=
   .ok (.slice (some ⟨w.heap.size,0,none⟩) n.toNat c) { w.alloc (.cells (#[]++(Builtin.zeroCells z.cells n.toNat++Builtin.zeroCells z.cells (c-n.toNat))) e) with drawn:=w.drawn+1 }:=by
 obtain⟨m,rfl⟩: ∃m:Nat,n=m:=⟨n.toNat,by omega⟩;simp only[jD];have hw:IntKind.wrap .i64 (m:Int)=m:=IntWalk.i64_in m ⟨by omega,by omega⟩;have L:m*i.bytes<=35184372088832:=by
  have:((m*i.bytes:Nat):Int)<=35184372088832:=by rw[Int.natCast_mul];exact E
  omega
 refine⟨(Question.appendCap m 0 e).cut (w.tape w.drawn (.appendCap m 0 e)),by simp [Question.cut], ?_⟩;have I: ¬(Builtin.nextslicecap m 0*i.bytes>281474976710656):=by
  have:=growslice_fits (need:=m) (old:=0) (bytes:=i.bytes) (by omega) (by omega);omega
 have h1: ¬((m:Int)<0):=by omega
 have h2: ¬(281474976710656<(m:Int)*(i.bytes:Int)):=by omega
 have h3: ¬(9223372036854775807<(m:Int)):=by omega
 have h4:m≠0:=by omega
 have h5: ¬(m*i.size=0):=by
  intro e;rcases Nat.mul_eq_zero.1 e with e | e<;>omega
 have hf:=Sa (P:=P) (w:=w) i.size (w.drawn+1);simp only[World.drew_eq] at hf;simp [hf,Builtin.append_,run_underlying C,run_underlying D,sizeOf,typeInfo,zeroValue,hi,hz,asInt,asIntOf,hw,h1,h2,h3,h4,h5,I,Question.forced,newRow,Sa];rfl
theorem Dz1 (C:Sim G N s a w) (M:Cz N o.dst=true) {c:Call} {x y:Operand} (hx:Cc N x=true) (Y:Cc N y=true) (he:o.op= .call c) (Z:c.callee= .builtin .append) (aa:c.args.toList= [x,y]) {t t':TypeId} (ab:c.argTypes.toList= [t,t'])
  (D:Qm (P.underlying t')=true) (h:An6 P (dev G s.env x) (dev G s.env y) o.dst (P.underlying t) K s):o.wp P a w (Io G N K s w) Qx:=by
 have E:=Bs C hx;have I:=Bs C Y;have hm:c.args.map a.eval= #[a.eval x,a.eval y]:=by apply Array.ext';simp [aa]
 have ac:c.argTypes= #[t,t']:=by apply Array.ext';simp [ab]
 have O:execOp a.eval o=(do pure (.value (←Builtin.append_ #[t,t'] o.type #[a.eval x,a.eval y]))):=by
  rw[Jf he Z,hm,ac];rfl
 generalize S:P.underlying t=ut at h;unfold An6 at h;split at h<;>try exact h.elim
 rename_i e
 obtain⟨k,hu⟩: ∃k,P.underlying t'=some (.int k):=by
  cases hq:P.underlying t' with
  | none=>rw[hq] at D;cases D
  | some d=>cases d<;>first | exact⟨_,rfl⟩ | (rw[hq] at D;cases D)
 generalize dev G s.env x=dx at h E;generalize dev G s.env y=dy at h I;generalize ad:Bn P e=zo at h;unfold Bi7 at h;split at h<;>try exact h.elim
 obtain⟨h0,hp,ae,af⟩:=h
 rename_i n zd
 obtain⟨i,z,hi,ag,rfl⟩:=Oj ad;have ah:P.bytesOf e=i.bytes:=by simp [Program.bytesOf,hi]
 have hcs:P.cellsOf e=i.size:=by simp [Program.cellsOf,hi]
 simp only[Rel] at E I;by_cases hn:n=0
 ·have J:=ae hn;subst hn;refine Ld C M (x:= .slice none 0 0) ?_ (by simp [Rel]) J;rw[O,E,I];have hw:IntKind.wrap .i64 0=0:=by rfl
  simp [Builtin.append_,run_underlying S,run_underlying hu,sizeOf,typeInfo,hi,asInt,asIntOf,hw]
 ·obtain⟨U,hle,L,J⟩:=af hn;rw[ah] at U;rw[hcs] at hp L J;have V:Az w s.heap (Fj z).cells z.cells.toList:=Mu (Hd w s.heap z);have W:z.cells.size=i.size:=by rw[<-L,V.length];simp
  obtain⟨X,aj,ai⟩:=Bf3 (w:=w) (ty:=o.type) S hu hi ag hp (n:=n) (by omega) U hle;have hr:=Ae9 V n.toNat (n.toNat*z.cells.size) (by rw[L,W]);refine Ao0 C M (sz:=i.size) (lo:=n.toNat) (cap:=X) (n:=w.drawn+1) (len:=n.toNat) (e:=e) (c:= #[]++(Builtin.zeroCells z.cells n.toNat++Builtin.zeroCells z.cells (X-n.toNat))) (by omega) (by omega) ?_ ?_ hr ?_ J
  ·simp only[Array.size_append,size_zeroCells,W,List.size_toArray,jB,Nat.zero_add];rw[<-Nat.add_mul];exact Nat.mul_le_mul_right _ (by omega)
  ·rw[O,E,I];simp [ai]
  ·simp only[Array.toList_append,jG];exact Aj2 _ _
theorem Fm0 (C:Sim G N s a w) (L:Cz N o.dst=true) {c:Call} {x:Operand} {t:TypeId} (hx:Cc N x=true) (he:o.op= .call c) (V:c.callee= .builtin .clear) (W:c.args.toList= [x]) (X:c.argTypes.toList= [t])
  (h:Bi8 P o.dst (P.underlying t) (dev G s.env x) K s):o.wp P a w (Io G N K s w) Qx:=by
 have D:=Bs C hx;have hm:c.args.map a.eval= #[a.eval x]:=by apply Array.ext';simp [W]
 have E:=Jf (a:=a) he V;rw[hm] at E;have M:c.argTypes[0]? =some t:=by rw[<-Array.getElem?_toList,X];rfl
 generalize hu:P.underlying t=u at h;generalize dev G s.env x=dx at h D;unfold Bi8 at h;split at h<;>try exact h.elim
 rename_i e
 generalize Y:Bn P e=zo at h;unfold Cf2 at h;split at h<;>try exact h.elim
 ·simp only[Rel] at D;refine Ld C L (x:= .tuple #[]) ?_ (by simp [Rel,Az]) h;rw[E];simp [builtin,Builtin.clear_,M,run_underlying hu,D]
 ·rename_i z sz r off n lo
  obtain⟨rfl,af,h⟩:=h;obtain⟨i,v,hi,Z,rfl⟩:=Oj Y;have hcs:P.cellsOf e=i.size:=by simp [Program.cellsOf,hi]
  simp only[Rel] at D;obtain⟨o',cap,hp,hlo,ag,aa,ah⟩:=D;cases hh:s.heap r with
  | none=>rw[hh] at h;exact h.elim
  | some ob=>
   cases ob with
   | loop=>rw[hh] at h;exact h.elim
   | iter=>rw[hh] at h;exact h.elim
   | map=>rw[hh] at h;exact h.elim
   | cells cs e'=>
    rw[hh] at h;obtain⟨I,O,hle,J⟩:=h;rw[hcs] at I hle;have S:Az w s.heap (Fj v).cells v.cells.toList:=Mu (Hd w s.heap v);have ab:v.cells.size=i.size:=by rw[<-I,S.length];simp
    by_cases hn:n=0
    ·subst hn;have hsp:Cn cs off (Cd 0 (Fj v).cells)=cs:=by simp [Cn,Cd]
     rw[hsp] at J;have ac:upd s.heap r (some (.cells cs e'))=s.heap:=by
      funext j;simp only[upd];split
      ·rename_i hj;rw[hj,hh]
      ·rfl
     rw[ac] at J;refine Ld C L (x:= .tuple #[]) ?_ (by simp [Rel,Az]) J;rw[E];simp [builtin,Builtin.clear_,M,run_underlying hu,hp]
    ·have:o'=off:=aa.resolve_left (by omega);subst this;have hr:=Ae9 S n (n*v.cells.size) (by rw[I,ab]);have ad:(Cd n (Fj v).cells).all (·.one)=true:=by
      rw[List.all_eq_true] at O⊢
      intro d U;simp only[Cd,List.mem_flatten,List.mem_replicate] at U;obtain⟨l,⟨_,rfl⟩,hm⟩:=U;exact O d hm
     obtain⟨w',hst,hH,hE⟩:=Aw1 (P:=P) C.heap hh hr ad (off:=o') (by rw[Rn,I];exact hle);refine Je C L (x:= .tuple #[]) ?_ hE hH (by simp [Rel,Az]) J;rw[E];obtain⟨n',rfl⟩: ∃n',n=n'+1:=⟨n-1,by omega⟩;have ae:Sem.run P (storeCells ⟨r,o',none⟩ (Builtin.zeroCells v.cells (n'+1)).toList 0) w= .ok () w':=hst;simp [builtin,Builtin.clear_,M,run_underlying hu,hp,zeroValue,typeInfo,hi,Z,ae]
end
section
def Pd:Obj->Bool
 | .loop _=>true
 | .deferred _=>true
 | .map _ _=>true
 | .stringIter _ _=>true
 | _=>false
theorem Ao5 {w:World} {l:Nat} {o o':Obj} (hl:w.heap[l]? =some o) (h:Pd o=true) (h':Pd o'=true) (b:Nat):Qa (w.putObj l o').heap[b]? =Qa w.heap[b]? :=by
 have C:l<w.heap.size:=(Array.getElem?_eq_some_iff.1 hl).1;by_cases e:b=l
 ·subst e;rw[World.putObj_heap_same C,hl];cases o<;>first | cases h;done | (cases o'<;>first | rfl | cases h';done)
 ·rw[World.putObj_heap_other e]
theorem Xo {w:World} {l:Nat} {o o':Obj} (hl:w.heap[l]? =some o) (h:Pd o=true) (h':Pd o'=true) (H:Ac):Lasts H w H (w.putObj l o'):=by
 refine⟨fun b i x hb hc=>⟨hb, ?_⟩,by simp [World.putObj],fun b hb=>Ao5 hl h h' b⟩;by_cases e:b=l
 ·subst e;unfold World.cell? at hc;rw[hl] at hc;cases o<;>first | cases h;done | simp at hc
 ·unfold World.cell? at hc⊢
  simp only[World.putObj_heap_other e];exact hc
theorem By6 {w:World} {l:Nat} {o o':Obj} (hl:w.heap[l]? =some o) (h:Pd o=true) (h':Pd o'=true) (a:Addr):(w.putObj l o').frozen? a=w.frozen? a:=by
 have C:l<w.heap.size:=(Array.getElem?_eq_some_iff.1 hl).1;unfold World.frozen?;by_cases e:a.block=l
 ·rw[e,World.putObj_heap_same C,hl];cases o<;>first | cases h;done | (cases o'<;>first | rfl | cases h';done)
 ·rw[World.putObj_heap_other e]
theorem Dd9 {w:World} {l:Nat} {o o':Obj} {H:Ac} (hl:w.heap[l]? =some o) (h:Pd o=true) (h':Pd o'=true) (C:Bm w H) (D:H l=none):Bm (w.putObj l o') H:=by
 intro r ob ho;have hr:r≠l:=fun e=>by rw[e,D] at ho;cases ho
 rw[World.putObj_heap_other hr];exact(C r ob ho).lasts (Xo hl h h' H)
theorem Vb {P:Program} {w:World} {r:Nat} {o:Obj} (h:w.heap[r]? =some o) (hb:Pd o=true):(getObj r).run P w= .ok o w:=by
 simp only[getObj,Sem.run,h];cases o<;>first | rfl | cases hb
theorem Ol {P:Program} {w:World} {r:Nat} {o:Obj} (o':Obj) (h:w.heap[r]? =some o) (hb:Pd o=true):(setObj r o').run P w= .ok () (w.putObj r o'):=by
 simp only[setObj,Sem.run,h,World.putObj];cases o<;>first | rfl | cases hb
theorem Aa2 {w:World} {H:Ac} {r:Nat} {o o':Obj} {ob:DObj} (D:Bm w H) (hr:H r≠none) (C:w.heap[r]? =some o) (h:Pd o=true) (h':Pd o'=true)
  (E: ∀w' H',Lasts H w H' w'->Ai8 w' H' ob (some o')):Bm (w.putObj r o') (upd H r (some ob))/\Ext H w (upd H r (some ob)) (w.putObj r o'):=by
 have I:r<w.heap.size:=(Array.getElem?_eq_some_iff.1 C).1;have hl:Lasts H w (upd H r (some ob)) (w.putObj r o'):=by
  have h1:=Xo C h h' H;refine⟨fun b i x hb hc=>⟨?_,(h1.cell b i x hb hc).2⟩,h1.size,h1.keep⟩;have:b≠r:=fun e=>hr (e▸hb);simp [upd,this,hb]
 refine⟨fun b x hx=> ?_,by rfl,by rfl,by rfl,by simp,fun b hb hn=> ?_,fun b hb=> ?_,fun b hb=>Ao5 C h h' b,fun a _ _=>By6 C h h' a⟩
 ·by_cases e:b=r
  ·subst e;simp only[upd,if_pos] at hx;cases hx;rw[World.putObj_heap_same I];exact E _ _ hl
  ·simp only[upd,if_neg e] at hx;rw[World.putObj_heap_other e];exact(D b x hx).lasts hl
 ·rw[World.putObj_heap_other (fun e=>hr (by rw[<-e];exact hn))]
 ·by_cases e:b=r
  ·exact .inl (e▸hr)
  ·simp only[upd,if_neg e] at hb;exact .inl hb
theorem Cp7 {w:World} {H:Ac} {o:Obj} {ob:DObj} (D:Bm w H) (h:Pd o=true)
  (E: ∀w' H',Lasts H w H' w'->Ai8 w' H' ob (some o)):Bm (w.alloc o) (upd H w.heap.size (some ob))/\Ext H w (upd H w.heap.size (some ob)) (w.alloc o):=by
 have C: ∀b,b<w.heap.size->(w.alloc o).heap[b]? =w.heap[b]? :=fun b hb=>by
  show(w.heap.push o)[b]? =_;rw[Array.getElem?_push,if_neg (by omega)]
 have hE:Ext H w (upd H w.heap.size (some ob)) (w.alloc o):=by
  refine⟨rfl,rfl,rfl,by simp,fun b hb _=>C b hb,fun b hb=> ?_,fun b hb=>by rw[C b hb],fun a _ _=> ?_⟩
  ·by_cases I:b=w.heap.size
   ·exact .inr (by omega)
   ·simp only[upd,if_neg I] at hb;exact .inl hb
  ·unfold World.frozen?;have hh:(w.alloc o).heap[a.block]? =if a.block=w.heap.size then some o else w.heap[a.block]? :=by
    show(w.heap.push o)[a.block]? =_;rw[Array.getElem?_push]
   rw[hh];by_cases e:a.block=w.heap.size
   ·rw[if_pos e,e,Array.getElem?_eq_none (Nat.le_refl _)];cases o<;>first | cases h;done | rfl
   ·rw[if_neg e]
 refine⟨fun r x hx=> ?_,hE⟩;by_cases e:r=w.heap.size
 ·subst e;simp only[upd,if_pos] at hx;cases hx;have:(w.alloc o).heap[w.heap.size]? =some o:=by
   show(w.heap.push o)[w.heap.size]? =_;simp
  rw[this];exact E _ _ hE.lasts
 ·simp only[upd,if_neg e] at hx;rw[C r (D.lt (by simp [hx]))];exact(D r x hx).lasts hE.lasts
end
section
variable {P:Program} {G:Nat->DVal} {N:Fr}
variable {o:Oper} {s:DS} {a:Act} {w:World} {K:DK} {Qx:Exit->Act->World->Prop}
theorem Aw6 {H:Ac}: ∀ {C:List DVal} {vs:List Value} {l:List UInt8},Az w H C vs->Zs C=some l-> ∃ns:List Int,vs=ns.map (Value.int .u8)/\l=ns.map fun n=>UInt8.ofNat n.toNat
 | [],vs,l,hr,hl=>by
  simp only[Az] at hr;subst hr;simp only[Zs,Option.some.injEq] at hl;subst hl;exact⟨[],rfl,rfl⟩
 | d::C,vs,l,hr,hl=>by
  simp only[Az] at hr;obtain⟨y,ys,rfl,h1,h2⟩:=hr;unfold Zs at hl;split at hl<;>try (cases hl;done)
  ·rename_i e;cases e
  ·rename_i n ds' e
   obtain⟨rfl,rfl⟩:=List.cons.inj e;obtain⟨l',h3,rfl⟩:=Option.map_eq_some_iff.1 hl;obtain⟨ns,rfl,rfl⟩:=Aw6 h2 h3;simp only[Rel] at h1;subst h1;exact⟨n::ns,rfl,rfl⟩
theorem By7: ∀(C:List Int) (s:ByteArray),(C.foldl (fun r n=>r.push (UInt8.ofNat n.toNat)) s).data.toList=s.data.toList++C.map fun n=>UInt8.ofNat n.toNat
 | [],s=>by simp
 | n::C,s=>by rw[List.foldl_cons,By7 C];simp [ByteArray.push]
theorem Bj7 (C:List Int):C.foldl (fun r n=>r.push (UInt8.ofNat n.toNat)) ByteArray.empty=⟨⟨C.map fun n=>UInt8.ofNat n.toNat⟩⟩:=by
 have:=By7 C ByteArray.empty;cases h:C.foldl (fun r n=>r.push (UInt8.ofNat n.toNat)) ByteArray.empty with
 | mk d=>
  rw[h] at this;congr 1;apply Array.ext';simpa using this
theorem Fm1 (I:Sim G N s a w) (J:Cz N o.dst=true) {E t:TypeId} {x:Operand} (hx:Cc N x=true) (he:o.op= .convert E t x)
  (h:Zt P o.dst (P.underlying E) (P.underlying t) (dev G s.env x) K s):PV P o s a w K:=by
 have r:=Bs I hx;by_cases hc: ∃e,P.underlying E=some (.slice e)/\P.underlying t=some .string
 ·obtain⟨e,hs,ht⟩:=hc;rw[hs,ht] at h;obtain⟨hu,h⟩:=h;generalize dev G s.env x=dx at h r;cases hb:(Ai9 s.heap dx).bind Zs with
  | none=>rw[hb] at h;exact h.elim
  | some l=>
   rw[hb] at h;obtain⟨ds,h1,h2⟩:=Option.bind_eq_some_iff.1 hb;refine pvI I J (x:= .string ⟨⟨l⟩⟩) ?_ (by simp [Rel]) h;have go: ∀(C:Option Addr) (n c:Nat),a.eval x= .slice C n c->(Conv.bytesToString (.slice C n c)).run P w= .ok (.string ⟨⟨l⟩⟩) w->(execOp a.eval o).run P w= .ok (.value (.string ⟨⟨l⟩⟩)) w:=by
    intro C n c e1 D;simp [execOp,he,e1,run_convert_bytes_string w E t e C n c hs hu ht,D]
   unfold Ai9 at h1;split at h1<;>try (cases h1;done)
   ·cases h1;simp only[Zs,Option.some.injEq] at h2;subst h2;simp only[Rel] at r;exact go none 0 0 r (by simp [Conv.bytesToString];rfl)
   ·rename_i cs n
    split at h1<;>cases h1
    rename_i hle
    simp only[Rel] at r;obtain⟨C,cap,e1,_,hc⟩:=r;refine go C n cap e1 ?_;rcases hc with rfl | ⟨b,o',xs,rfl,hc,hr⟩
    ·have hn:n=0:=by simpa using hle
     subst hn;simp only[List.take_nil,Zs,Option.some.injEq] at h2;subst h2;cases C with
     | none=>simp [Conv.bytesToString];rfl
     | some C=>exact run_bytesToString w C 0 cap [] (by simp [loadCells,loadCellsFrom])
    ·obtain⟨ns,D,rfl⟩:=Aw6 (hr.take n) h2;have L:=hr.length;have hl:(ns.map (Value.int .u8)).length=n:=by rw[<-D];simp;omega
     have:=Ge (P:=P) (w:=w) (Nr.take (n:=n) hc.holds);rw[D,hl] at this;rw[run_bytesToString w _ n cap ns this,Bj7]
   ·rename_i sz r' off n lo
    unfold Dr0 at h1;split at h1<;>try (cases h1;done)
    rename_i cs e' hh
    split at h1<;>cases h1
    rename_i hle
    simp only[Rel] at r;obtain⟨o',cap,e1,_,U,M,_⟩:=r;refine go _ n cap e1 ?_;obtain⟨xs,hr,O⟩:=I.heap.holds hh;by_cases S:cap=0
    ·have hn:n=0:=by omega
     subst hn;simp only[jR,Zs,Option.some.injEq] at h2;subst h2;exact run_bytesToString w _ 0 cap [] (by simp [loadCells,loadCellsFrom])
    ·have:o'=off:=M.resolve_left S;subst this;obtain⟨ns,D,rfl⟩:=Aw6 ((hr.drop o').take n) h2;have L:=hr.length;have hl:(ns.map (Value.int .u8)).length=n:=by rw[<-D];simp;omega
     have h3:Nr w r' o' (xs.drop o'):=by simpa using O.drop (n:=o')
     have:=Ge (P:=P) (w:=w) (Nr.take (n:=n) h3);rw[D,hl] at this;rw[run_bytesToString w _ n cap ns this,Bj7]
 ·refine Dy7 I J hx he ?_;revert h;generalize hs:P.underlying E=us at hc;generalize ht:P.underlying t=ut at hc;intro h;unfold Zt at h;split at h
  ·exact absurd ⟨_,rfl,rfl⟩ hc
  ·exact h
theorem Fm2 (C:Sim G N s a w) (D:Cz N o.dst=true) {t:TypeId} {x:Operand} (hx:Cc N x=true) (he:o.op= .range t x)
  (h:Cf0 o.dst (P.underlying t) (dev G s.env x) K s):o.wp P a w (Io G N K s w) Qx:=by
 have r:=Bs C hx;generalize dev G s.env x=dx at h r;generalize hu:P.underlying t=u at h;unfold Cf0 at h;split at h<;>try exact h.elim
 rename_i l
 simp only[Rel] at r;obtain⟨k1,E⟩:=Cp7 (o:= .stringIter ⟨⟨l⟩⟩ 0) (ob:= .iter l 0) C.heap rfl (fun w' H' _=>rfl);refine Je C D (x:= .pointer (some ⟨w.heap.size,0,none⟩)) ?_ E k1 (by simp [Rel]) (h _ C.heap.fresh);simp [execOp,he,r,run_range_string w t _ hu,World.iter]
theorem Gg1 (C:Sim G N s a w) (D:Cz N o.dst=true) {b:Bool} {x:Operand} (hx:Cc N x=true) (he:o.op= .next x b)
  (h:Dr1 o.dst b (dev G s.env x) K s):o.wp P a w (Io G N K s w) Qx:=by
 have r:=Bs C hx;generalize dev G s.env x=dx at h r;unfold Dr1 at h;split at h<;>try exact h.elim
 rename_i r0
 simp only[Rel] at r;generalize hh:s.heap r0=ob at h;unfold Dd0 at h;split at h<;>try exact h.elim
 rename_i l pos
 have ho:w.heap[r0]? =some (.stringIter ⟨⟨l⟩⟩ pos):=C.heap _ _ hh;have hg:=Vb (P:=P) ho rfl;have E:(ByteArray.mk ⟨l⟩).size=l.length:=rfl;by_cases hp:pos<l.length
 ·obtain⟨k1,I⟩:=Aa2 (o':= .stringIter ⟨⟨l⟩⟩ (pos+(Tm l pos).2)) (ob:= .iter l (pos+(Tm l pos).2)) C.heap (by rw[hh];simp) ho rfl rfl (fun w' H' _=>rfl);refine Je C D (x:= .tuple #[.bool true, .int .i64 pos, .int .i32 (Tm l pos).1]) ?_ I k1 (by simp [Rel,Az]) (h.1 hp);have J:=Ol (P:=P) (.stringIter ⟨⟨l⟩⟩ (pos+(Tm l pos).2)) ho rfl;simp only[execOp,he,r,Instr.next,Sem.run_bind,hg,Result.andThen_ok,E,if_pos hp];show Result.andThen (Result.andThen ((setObj r0 (.stringIter ⟨⟨l⟩⟩ (pos+(Tm l pos).2))).run P w) _) _=_;rw[J];simp [goInt,Tm]
 ·refine Ld C D (x:= .tuple #[.bool false]) ?_ (by simp [Rel,Az]) (h.2 hp);simp [execOp,he,r,Instr.next,hg,E,hp]
theorem Dz2 (C:Sim G N s a w) (E:Cz N o.dst=true) {t:TypeId} {x:Option Operand} (hx:(match x with | some x=>Cc N x | none=>true)=true) (he:o.op= .makeMap t x)
  (h:Zx o.dst (P.underlying t) (Ry G s.env x) K s):o.wp P a w (Io G N K s w) Qx:=by
 obtain⟨k1,I⟩:=Cp7 (o:= .map #[] 0) (ob:= .map []) C.heap rfl (fun w' H' _=>⟨#[],0,rfl,rfl⟩)
 have J:=C.heap.fresh
 generalize hu:P.underlying t=u at h
 rcases Bj6 C hx with⟨rfl,e⟩ | ⟨y,rfl,e,r⟩
 ·rw[e] at h
  unfold Zx at h
  split at h<;>try exact h.elim
  ·refine Je C E (x:= .map (some w.heap.size)) ?_ I k1 (by simp [Rel]) (h _ J)
   simp [execOp,he,Instr.makeMap,run_newObj_alloc]
  ·rename_i D;cases D
 ·rw[e] at h
  cases hdv:dev G s.env y<;>rw[hdv] at h r<;>(unfold Zx at h;split at h<;>try exact h.elim)
  all_goals try (rename_i D;cases D;done)
  all_goals
   simp only[Rel] at r
   refine Je C E (x:= .map (some w.heap.size)) ?_ I k1 (by simp [Rel]) (h _ J)
   simp [execOp,he,Instr.makeMap,run_newObj_alloc,run_underlying hu,r,asInt,asIntOf]
theorem Zr.len {w:World} {H:Ac}: ∀ {es:List (DVal×DVal)} {ms:List MapEntry},Zr w H es ms->es.length=ms.length
 | [],_,h=>by rw[show _=_ from h];rfl
 | p::es,ms,h=>by
  obtain⟨m,C,rfl,_,_,h3⟩:=h;simp [Zr.len h3]
theorem Zr.get {w:World} {H:Ac}: ∀ {es:List (DVal×DVal)} {ms:List MapEntry},Zr w H es ms-> ∀ {i:Nat} {p:DVal×DVal},es[i]? =some p-> ∃m,ms[i]? =some m/\Rel w H p.1 m.key/\Rel w H p.2 m.val
 | [],_,_,i,p,hp=>by simp at hp
 | q::es,ms,h,i,p,hp=>by
  obtain⟨m,E,rfl,h1,h2,h3⟩:=h;cases i with
  | zero=>simp at hp;subst hp;exact⟨m,rfl,h1,h2⟩
  | succ i=>simp at hp;obtain⟨C,e1,D⟩:=Zr.get h3 hp;exact⟨C,by simpa using e1,D⟩
theorem Zr.app {w:World} {H:Ac}: ∀ {es fs:List (DVal×DVal)} {ms C:List MapEntry},Zr w H es ms->Zr w H fs C->Zr w H (es++fs) (ms++C)
 | [],_,_,_,h,k=>by rw[show _=_ from h];exact k
 | p::es,fs,ms,C,h,k=>by
  obtain⟨m,D,rfl,h1,h2,h3⟩:=h;exact⟨m,D++C,rfl,h1,h2,Zr.app h3 k⟩
theorem Zr.erase {w:World} {H:Ac}: ∀ {es:List (DVal×DVal)} {ms:List MapEntry},Zr w H es ms-> ∀(i:Nat),Zr w H (es.eraseIdx i) (ms.eraseIdx i)
 | [],_,h,i=>by rw[show _=_ from h];exact rfl
 | q::es,ms,h,0=>by
  obtain⟨C,D,rfl,h1,h2,h3⟩:=h;exact h3
 | q::es,ms,h,i+1=>by
  obtain⟨C,D,rfl,h1,h2,h3⟩:=h;exact⟨C,_,rfl,h1,h2,Zr.erase h3 i⟩
theorem Ep4 {w:World} {H:Ac} {d:TypeDesc} {k k':DVal} {x C:Value} (hk:Ux (some d) k=true) (h:Rel w H k x) (h':Rel w H k' C) {b:Bool} (hb:Zj k k'=some b):Instr.sameNow d x C=some b:=by
 cases k<;>first | (cases d<;>(simp [Ux] at hk;done)) | skip
 case int kk n=>
  cases d<;>simp [Ux] at hk;subst hk;cases k'<;>simp only[Zj] at hb<;>try (cases hb;done)
  rename_i E m
  split at hb
  ·rename_i e;subst e
   cases hb;simp only[Rel] at h h';subst h;subst h';simp only[Instr.sameNow,if_true];rfl
  ·cases hb
 case str l=>
  cases d<;>simp [Ux] at hk;cases k'<;>simp only[Zj] at hb<;>try (cases hb;done)
  cases hb;simp only[Rel] at h h';subst h;subst h';simp only[Instr.sameNow]
  rename_i s1
  have e1:((⟨⟨l⟩⟩:ByteArray)==⟨⟨s1⟩⟩)=((⟨l⟩:Array UInt8)==⟨s1⟩):=rfl;rw[e1];congr 1;rw[Bool.eq_iff_iff];simp
 case bool l=>
  cases d<;>simp [Ux] at hk;cases k'<;>simp only[Zj] at hb<;>try (cases hb;done)
  cases hb;simp only[Rel] at h h';subst h;subst h';simp only[Instr.sameNow]
  rename_i D;cases l<;>cases D<;>rfl
theorem Cp8 {w:World} {H:Ac} {d:TypeDesc} {k:DVal} {x:Value} (hk:Ux (some d) k=true) (h:Rel w H k x): ∀ {es:List (DVal×DVal)} {ms:List MapEntry},Zr w H es ms-> ∀(i:Nat) {r:Option Nat},Np k es i=some r->
  Instr.findNow d x ms i=some (r.bind fun j=>(ms[j-i]?).map fun m=>(j,m.val))/\ ∀j,r=some j->i<=j
 | [],ms,hm,i,r,hf=>by
  rw[show ms= [] from hm];simp only[Np] at hf;cases hf;exact⟨rfl,fun j hj=>by cases hj⟩
 | p::es,ms,hm,i,r,hf=>by
  obtain⟨m,E,rfl,h1,h2,h3⟩:=hm;simp only[Np] at hf;cases hb:Zj k p.1 with
  | none=>rw[hb] at hf;cases hf
  | some b=>
   rw[hb] at hf;have hs:=Ep4 hk h h1 hb;cases b with
   | true=>
    simp only[Zv] at hf;cases hf;simp only[Instr.findNow,hs];exact⟨by simp,fun j hj=>by cases hj;exact Nat.le_refl _⟩
   | false=>
    simp only[Zv] at hf;obtain⟨D,C⟩:=Cp8 hk h h3 (i+1) hf;simp only[Instr.findNow,hs,D];refine⟨?_,fun j hj=>by have:=C j hj;omega⟩;cases r with
    | none=>rfl
    | some j=>
     have:=C j rfl;simp only[Option.bind_some];rw[show j-i=(j-(i+1))+1 by omega];simp
theorem Cp9 {w:World} {H:Ac} {C:TypeId} {k:DVal} {x:Value} (hk:Ux (P.underlying C) k=true) (h:Rel w H k x) {es:List (DVal×DVal)} {ms:List MapEntry} (hm:Zr w H es ms) {r:Option Nat} (hf:Np k es 0=some r):
  (Instr.findKey C x ms).run P w= .ok (r.bind fun j=>(ms[j]?).map fun m=>(j,m.val)) w:=by
 cases hu:P.underlying C with
 | none=>rw[hu] at hk;cases hk
 | some d=>
  rw[hu] at hk;obtain⟨D,_⟩:=Cp8 hk h hm 0 hf;simp only[Nat.sub_zero] at D;simp [Instr.findKey,run_underlying hu,D]
theorem Cf9 {w:World} {H:Ac} {C:TypeId} {k:DVal} {x:Value} {b:Bool} (hk:Ux (P.underlying C) k=true) (h:Rel w H k x) (n:Nat):(Instr.checkKey b (n+1) C x).run P w= .ok () w:=by
 cases hu:P.underlying C with
 | none=>rw[hu] at hk;cases hk
 | some d=>
  rw[hu] at hk;unfold Ux at hk;split at hk<;>first | (cases hk;done) | (rename_i e;cases e;simp only[Rel] at h;subst h;simp [Instr.checkKey,run_underlying hu])
theorem De0 {t:Option TypeDesc} (h:By3 P t=true): ∃e ie,t=some (.array 2 e)/\P.underlying e=some .bool/\P.info? e=some ie/\P.cellsOf e=1:=by
 unfold By3 at h;split at h
 ·rename_i e
  simp only[jF,beq_iff_eq] at h;obtain⟨⟨h1,h2⟩,h3⟩:=h;obtain⟨ie,hie⟩:=Option.isSome_iff_exists.1 h2;refine⟨e,ie,rfl, ?_,hie,h3⟩;unfold Dr4 at h1;split at h1
  ·rename_i e1;exact e1
  ·cases h1
 ·cases h
theorem By8 {t:Option TypeDesc} {k:DVal} (h:Zw P t k=true):Ux t k=true\/ ∃a b,k= .agg [.bool a, .bool b]/\By3 P t=true:=by
 unfold Zw at h;split at h
 ·exact .inr ⟨_,_,rfl,h⟩
 ·exact .inl h
theorem Gg2 {t e:TypeId} {C:TypeInfo} {a b c d:Bool} (h1:P.underlying t=some (.array 2 e)) (h2:P.underlying e=some .bool) (h3:P.info? e=some C) (D:P.cellsOf e=1):
  Av3 P 2 t [.bool a, .bool b] [.bool c, .bool d]=some (decide (a=c)&&decide (b=d)):=by
 have hag:Eb P e=some false:=by simp [Eb,h2]
 have hr:List.range 2= [0,1]:=rfl;simp only[Av3,h1,Ah5,h3,Option.isSome_some,if_true,hr,Co1,h2,hag,D,Ki,Co2,List.drop,List.take,Nat.mul_one];cases a<;>cases b<;>cases c<;>cases d<;>rfl
theorem Ds2 {a b:Bool} {k':DVal} {r:Bool} (h:Zj (.agg [.bool a, .bool b]) k'=some r): ∃c d,k'= .agg [.bool c, .bool d]/\r=(decide (a=c)&&decide (b=d)):=by
 unfold Zj at h;split at h;all_goals first | (cases h;done) | skip
 all_goals first | (rename_i C;cases C;done) | skip
 rename_i C
 cases C;cases h;exact⟨_,_,rfl,rfl⟩
theorem Cg0 {w:World} {H:Ac} {t:TypeId} {a b:Bool} {k':DVal} {x C:Value} {r:Bool} (hk:By3 P (P.underlying t)=true) (h:Rel w H (.agg [.bool a, .bool b]) x) (h':Rel w H k' C) (hb:Zj (.agg [.bool a, .bool b]) k'=some r):
  (Op.equal t x C).run P w= .ok r w:=by
 obtain⟨e,I,h1,h2,h3,h4⟩:=De0 hk;have hag:Eb P t=some true:=by simp [Eb,h1]
 obtain⟨c,d,rfl,rfl⟩:=Ds2 hb;have g: ∃xs,x= .agg xs/\Az w H [.bool a, .bool b] xs.toList:=h;have D: ∃xs,C= .agg xs/\Az w H [.bool c, .bool d] xs.toList:=h';obtain⟨xs,rfl,hx⟩:=g;obtain⟨ys,rfl,E⟩:=D;exact Qn (P:=P) (w:=w) (H:=H) 2 Op.maxDepth (by decide) t _ _ _ _ true _ hag hx E (fun _=>⟨_,rfl⟩) (fun _=>⟨_,rfl⟩) (Gg2 h1 h2 h3 h4)
theorem Bb7 {w:World} {H:Ac} {t:TypeId} {a b:Bool} {x:Value} (hk:By3 P (P.underlying t)=true) (h:Rel w H (.agg [.bool a, .bool b]) x): ∀ {es:List (DVal×DVal)} {ms:List MapEntry},Zr w H es ms-> ∀(i:Nat) {r:Option Nat},Np (.agg [.bool a, .bool b]) es i=some r->
  (Instr.findAsking t x ms i).run P w= .ok (r.bind fun j=>(ms[j-i]?).map fun m=>(j,m.val)) w/\ ∀j,r=some j->i<=j
 | [],ms,hm,i,r,hf=>by
  rw[show ms= [] from hm];simp only[Np] at hf;cases hf;exact⟨by simp [Instr.findAsking],fun j hj=>by cases hj⟩
 | p::es,ms,hm,i,r,hf=>by
  obtain⟨m,E,rfl,h1,h2,h3⟩:=hm;simp only[Np] at hf;cases hb:Zj (.agg [.bool a, .bool b]) p.1 with
  | none=>rw[hb] at hf;cases hf
  | some b'=>
   rw[hb] at hf;have hs:=Cg0 hk h h1 hb;cases b' with
   | true=>
    simp only[Zv] at hf;cases hf;refine⟨by simp [Instr.findAsking,hs],fun j hj=>by cases hj;exact Nat.le_refl _⟩
   | false=>
    simp only[Zv] at hf;obtain⟨D,C⟩:=Bb7 hk h h3 (i+1) hf;refine⟨?_,fun j hj=>by have:=C j hj;omega⟩;simp only[Instr.findAsking,Sem.run_bind,hs,Result.andThen_ok,Bool.false_eq_true,if_false,D];cases r with
    | none=>rfl
    | some j=>
     have:=C j rfl;simp only[Option.bind_some];rw[show j-i=(j-(i+1))+1 by omega];simp
theorem Sn {w:World} {H:Ac} {C:TypeId} {k:DVal} {x:Value} (hk:Zw P (P.underlying C) k=true) (h:Rel w H k x) {es:List (DVal×DVal)} {ms:List MapEntry} (hm:Zr w H es ms) {r:Option Nat} (hf:Np k es 0=some r):
  (Instr.findKey C x ms).run P w= .ok (r.bind fun j=>(ms[j]?).map fun m=>(j,m.val)) w:=by
 rcases By8 hk with hk | ⟨a,b,rfl,hk⟩
 ·exact Cp9 hk h hm hf
 ·obtain⟨D,_⟩:=Bb7 hk h hm 0 hf;simp only[Nat.sub_zero] at D;obtain⟨e,E,h1,h2,h3,h4⟩:=De0 hk;cases ms with
  | nil=>
   have:es= []:=by cases es with
    | nil=>rfl
    | cons p es=>obtain⟨m,I,e,_⟩:=hm;cases e
   subst this;simp only[Np] at hf;cases hf;simp [Instr.findKey,run_underlying h1,Instr.findNow]
  | cons m ms=>
   have hn:Instr.findNow (.array 2 e) x (m::ms) 0=none:=by simp [Instr.findNow,Instr.sameNow]
   simp [Instr.findKey,run_underlying h1,hn,D]
theorem Rh {w:World} {H:Ac} {C:TypeId} {k:DVal} {x:Value} {b:Bool} (hk:Zw P (P.underlying C) k=true) (h:Rel w H k x):(Instr.checkKey b (9999+1) C x).run P w= .ok () w:=by
 rcases By8 hk with hk | ⟨c,d,rfl,hk⟩
 ·exact Cf9 hk h 9999
 ·obtain⟨e,L,h1,h2,h3,h4⟩:=De0 hk;simp only[Rel,Az] at h;obtain⟨xs,rfl,y,ys,hx,rfl,z,M,rfl,rfl,rfl⟩:=h;have hag:Eb P e=some false:=by simp [Eb,h2]
  have E:xs= #[.bool c, .bool d]:=by apply Array.ext';simpa using hx
  subst E;have I:(part e #[Value.bool c, .bool d] 0).run P w= .ok (.bool c) w:=by simp [part,Oi hag]
  have hp1:(part e #[Value.bool c, .bool d] 1).run P w= .ok (.bool d) w:=by simp [part,Oi hag]
  have D:=Dk (P:=P) (w:=w) (t:=e) (by rw[h3];rfl);rw[h4] at D;have J: ∀n,(Instr.checkKey b (n+1+1) C (.agg #[.bool c, .bool d])).run P w= .ok () w:=fun n=>by
   simp [Instr.checkKey,run_underlying h1,run_underlying h2,D,Std.Legacy.Range.forIn_eq_forIn_range',Std.Legacy.Range.size,List.range',I,hp1]
  exact J 9998
theorem Ep5 (D:Sim G N s a w) (M:Cz N o.dst=true) {t:TypeId} {x k:Operand} {ok:Bool} (hx:Cc N x=true) (hk:Cc N k=true) (he:o.op= .lookup t x k ok)
  (h:Bg2 P ok o.dst (P.underlying t) (dev G s.env x) (dev G s.env k) K s):o.wp P a w (Io G N K s w) Qx:=by
 have E:=Bs D hx;have I:=Bs D hk;generalize hu:P.underlying t=u at h;generalize dev G s.env x=dx at h E;generalize dev G s.env k=dk at h I;unfold Bg2 at h;split at h<;>try exact h.elim
 ·rename_i V e r
  obtain⟨J,h⟩:=h;simp only[Rel] at E;cases hh:s.heap r with
  | none=>rw[hh] at h;exact h.elim
  | some ob=>
   cases ob with
   | loop=>rw[hh] at h;exact h.elim
   | iter=>rw[hh] at h;exact h.elim
   | cells=>rw[hh] at h;exact h.elim
   | map es=>
    rw[hh] at h;simp only[Dd3] at h;obtain⟨ms,Z,ho,hm⟩:=D.heap r _ hh;cases hf:Np dk es 0 with
    | none=>rw[hf] at h;cases hz:Bn P e<;>rw[hz] at h<;>exact h.elim
    | some W=>
     rw[hf] at h;have C:=Sn (P:=P) (w:=w) J I hm hf;have L:=fun b=>Rh (P:=P) (w:=w) (b:=b) J I;have S:=Vb (P:=P) ho rfl;cases W with
     | some i=>
      have h': ∃p,es[i]? =some p/\Dd2 ok o.dst p.2 true K s:=by
       cases hz:Bn P e<;>rw[hz] at h<;>exact h
      obtain⟨p,hp,X⟩:=h';obtain⟨m,hmi,r1,U⟩:=hm.get hp;have aa:ms[i]? =some m:=by rw[<-Array.getElem?_toList];exact hmi
      simp only[Option.bind_some,hmi,Option.map_some] at C;refine Ld D M (x:=if ok then .tuple #[m.val, .bool true] else m.val) ?_ ?_ X
      ·cases ok<;>simp [execOp,he,E,Instr.lookup,run_underlying hu,S,L,C]
      ·cases ok
       ·exact U
       ·simp only[if_true,Rel,Az];exact⟨_,rfl,_,_,rfl,U,_,_,rfl,rfl,rfl⟩
     | none=>
      simp only[Option.bind_none] at C;cases hz:Bn P e with
      | none=>rw[hz] at h;exact h.elim
      | some z=>
       rw[hz] at h;obtain⟨Y,v,hie,O,rfl⟩:=Oj hz;refine Ld D M (x:=if ok then .tuple #[v, .bool false] else v) ?_ ?_ h
       ·cases ok<;>simp [execOp,he,E,Instr.lookup,run_underlying hu,S,L,C,zeroValue,typeInfo,hie,O]
       ·cases ok
        ·exact Hd w s.heap v
        ·simp only[if_true,Rel,Az];exact⟨_,rfl,_,_,rfl,Hd w s.heap v,_,_,rfl,rfl,rfl⟩
 ·rename_i V e
  obtain⟨J,h⟩:=h;simp only[Rel] at E;have C:=Sn (P:=P) (w:=w) (es:= []) (ms:= []) J I rfl (r:=none) rfl;have L:=fun b=>Rh (P:=P) (w:=w) (b:=b) J I;simp only[Option.bind_none] at C;cases hz:Bn P e with
  | none=>rw[hz] at h;exact h.elim
  | some z=>
   rw[hz] at h;obtain⟨Y,v,hie,O,rfl⟩:=Oj hz;refine Ld D M (x:=if ok then .tuple #[v, .bool false] else v) ?_ ?_ h
   ·cases ok<;>simp [execOp,he,E,Instr.lookup,run_underlying hu,L,C,zeroValue,typeInfo,hie,O]
   ·cases ok
    ·exact Hd w s.heap v
    ·simp only[if_true,Rel,Az];exact⟨_,rfl,_,_,rfl,Hd w s.heap v,_,_,rfl,rfl,rfl⟩
theorem Ep6 (C:Sim G N s a w) (O:Cz N o.dst=true) {c:Call} {x k:Operand} {t:TypeId} {ts:List TypeId} (hx:Cc N x=true) (hk:Cc N k=true) (he:o.op= .call c) (Z:c.callee= .builtin .delete) (aa:c.args.toList= [x,k]) (ab:c.argTypes.toList=t::ts)
  (h:An9 P o.dst (P.underlying t) (dev G s.env x) (dev G s.env k) K s):o.wp P a w (Io G N K s w) Qx:=by
 have I:=Bs C hx;have S:=Bs C hk;have ac:c.args.map a.eval= #[a.eval x,a.eval k]:=by apply Array.ext';simp [aa]
 have M:=Jf (a:=a) he Z;rw[ac] at M;have U:c.argTypes[0]? =some t:=by rw[<-Array.getElem?_toList,ab];rfl
 generalize hu:P.underlying t=u at h;generalize dev G s.env x=dx at h I;generalize dev G s.env k=dk at h S;unfold An9 at h;split at h<;>try exact h.elim
 rename_i kt e r
 obtain⟨Y,h⟩:=h;simp only[Rel] at I;cases hh:s.heap r with
 | none=>rw[hh] at h;exact h.elim
 | some ob=>
  cases ob with
  | loop=>rw[hh] at h;exact h.elim
  | iter=>rw[hh] at h;exact h.elim
  | cells=>rw[hh] at h;exact h.elim
  | map es=>
   rw[hh] at h;simp only[Bj2] at h;obtain⟨ms,D,ho,hm⟩:=C.heap r _ hh;cases hf:Np dk es 0 with
   | none=>rw[hf] at h;exact h.elim
   | some fi=>
    rw[hf] at h;simp only[Bj1] at h;have E:=Sn (P:=P) (w:=w) Y S hm hf;have V:=fun b=>Rh (P:=P) (w:=w) (b:=b) Y S;have W:=Vb (P:=P) ho rfl;have X:s.heap r≠none:=by rw[hh];simp
    cases fi with
    | none=>
     simp only[Option.bind_none] at E;obtain⟨k1,J⟩:=Aa2 (o':= .map ms D) (ob:= .map es) C.heap X ho rfl rfl (fun w' H' hl=>⟨ms,D,rfl,hm.lasts hl⟩);have L:=Ol (P:=P) (.map ms D) ho rfl;refine Je C O (x:= .tuple #[]) ?_ J k1 (by simp [Rel,Az]) h;rw[M];simp [builtin,Builtin.delete_,U,run_underlying hu,I,W,V,E,L]
    | some i=>
     cases hmi:ms.toList[i]? with
     | none=>
      have hle:ms.toList.length<=i:=by rwa [List.getElem?_eq_none_iff] at hmi
      have ad:es.eraseIdx i=es:=List.eraseIdx_of_length_le (by rw[hm.len];exact hle);simp only[Option.bind_some,hmi,Option.map_none] at E;simp only[Co6,ad] at h;obtain⟨k1,J⟩:=Aa2 (o':= .map ms D) (ob:= .map es) C.heap X ho rfl rfl (fun w' H' hl=>⟨ms,D,rfl,hm.lasts hl⟩);have L:=Ol (P:=P) (.map ms D) ho rfl;refine Je C O (x:= .tuple #[]) ?_ J k1 (by simp [Rel,Az]) h;rw[M];simp [builtin,Builtin.delete_,U,run_underlying hu,I,W,V,E,L]
     | some m=>
      simp only[Option.bind_some,hmi,Option.map_some] at E;obtain⟨k1,J⟩:=Aa2 (o':= .map (ms.eraseIdxIfInBounds i) D) (ob:= .map (es.eraseIdx i)) C.heap X ho rfl rfl (fun w' H' hl=>⟨_,D,rfl,by
       rw[Array.toList_eraseIdxIfInBounds];exact(hm.lasts hl).erase i⟩)
      have L:=Ol (P:=P) (.map (ms.eraseIdxIfInBounds i) D) ho rfl;refine Je C O (x:= .tuple #[]) ?_ J k1 (by simp [Rel,Az]) h;rw[M];simp [builtin,Builtin.delete_,U,run_underlying hu,I,W,V,E,L]
theorem Zr.modify {w:World} {H:Ac} {f:MapEntry->MapEntry}: ∀ {es:List (DVal×DVal)} {ms:List MapEntry},Zr w H es ms-> ∀(i:Nat) {p:DVal×DVal},(∀m,Rel w H p.1 (f m).key/\Rel w H p.2 (f m).val)->Zr w H (es.set i p) (ms.modify i f)
 | [],_,h,i,p,_=>by rw[show _=_ from h];cases i<;>exact rfl
 | q::es,ms,h,0,p,k=>by
  obtain⟨C,D,rfl,h1,h2,h3⟩:=h;exact⟨f C,D,rfl,(k C).1,(k C).2,h3⟩
 | q::es,ms,h,i+1,p,k=>by
  obtain⟨C,D,rfl,h1,h2,h3⟩:=h;exact⟨C,_,rfl,h1,h2,Zr.modify h3 i k⟩
theorem Bj8 {k:DVal}: ∀ {es:List (DVal×DVal)} {n i:Nat},Np k es n=some (some i)-> ∃p,n<=i/\es[i-n]? =some p/\Zj k p.1=some true
 | [],n,i,h=>by simp [Np] at h
 | q::es,n,i,h=>by
  simp only[Np] at h;cases hb:Zj k q.1 with
  | none=>rw[hb] at h;cases h
  | some b=>
   rw[hb] at h;cases b with
   | true=>simp only[Zv] at h;cases h;exact⟨q,Nat.le_refl _,by simp,hb⟩
   | false=>
    simp only[Zv] at h;obtain⟨p,h1,h2,h3⟩:=Bj8 h;refine⟨p,by omega, ?_,h3⟩;rw[show i-n=(i-(n+1))+1 by omega];simpa using h2
theorem Dz3 {w:World} {H:Ac} {k k':DVal} {x E:Value} (h:Rel w H k x) (h':Rel w H k' E) (hb:Zj k k'=some true) (n:Nat):Instr.sameBits (n+1) E x=true:=by
 cases k<;>(try (simp [Zj] at hb;done))<;>cases k'<;>simp only[Zj] at hb<;>(try (cases hb;done))
 ·simp only[Rel] at h h';subst h;subst h';simp at hb;subst hb;cases n<;>simp [Instr.sameBits]
 ·split at hb<;>simp at hb
  rename_i e;subst e;subst hb
  simp only[Rel] at h h';subst h;subst h';cases n<;>simp [Instr.sameBits]
 ·simp only[Rel] at h h';subst h;subst h';simp at hb;subst hb;have e1: ∀l:List UInt8,((⟨⟨l⟩⟩:ByteArray)==⟨⟨l⟩⟩)=true:=fun l=>by
   show((⟨l⟩:Array UInt8)==⟨l⟩)=true;simp
  cases n<;>simp [Instr.sameBits,e1]
 ·rename_i I J
  have hb:Zj (.agg I) (.agg J)=some true:=hb;obtain⟨a,b,e1⟩: ∃a b,I= [.bool a, .bool b]:=by
   unfold Zj at hb;split at hb;all_goals first | (cases hb;done) | skip
   all_goals first | (rename_i L _;cases L;done) | skip
   rename_i h1 h2
   cases h1;exact⟨_,_,rfl⟩
  subst e1;obtain⟨c,d,M,C⟩:=Ds2 hb;cases M;have C:=C.symm;simp only[jF,decide_eq_true_eq] at C;obtain⟨rfl,rfl⟩:=C;have g: ∃xs,x= .agg xs/\Az w H [.bool a, .bool b] xs.toList:=h;have O: ∃xs,E= .agg xs/\Az w H [.bool a, .bool b] xs.toList:=h';obtain⟨xs,rfl,hx⟩:=g;obtain⟨ys,rfl,D⟩:=O;simp only[Az,Rel] at hx D;obtain⟨_,_,hx,rfl,_,_,rfl,rfl,rfl⟩:=hx;obtain⟨_,_,D,rfl,_,_,rfl,rfl,rfl⟩:=D;have S:xs= #[.bool a, .bool b]:=by apply Array.ext';simpa using hx
  have hys:ys= #[.bool a, .bool b]:=by apply Array.ext';simpa using D
  subst S;subst hys;cases n<;>simp [Instr.sameBits]
theorem Cq0 (C:Sim G N s a w) {t:TypeId} {x k y:Operand} (hx:Cc N x=true) (hk:Cc N k=true) (X:Cc N y=true) (he:o.op= .mapUpdate t x k y\/o.op= .insert t x k y)
  (h:Ae6 P o.dst (P.underlying t) (dev G s.env x) (dev G s.env k) (dev G s.env y) K s):o.wp P a w (Io G N K s w) Qx:=by
 have I:=Bs C hx;have D:=Bs C hk;have L:=Bs C X;generalize hu:P.underlying t=u at h;generalize dev G s.env x=dx at h I;generalize dev G s.env k=dk at h D;generalize dev G s.env y=dy at h L;unfold Ae6 at h;split at h<;>try exact h.elim
 rename_i kt e r
 obtain⟨hdst,S,h⟩:=h;simp only[Rel] at I;cases hh:s.heap r with
 | none=>rw[hh] at h;exact h.elim
 | some ob=>
  cases ob with
  | loop=>rw[hh] at h;exact h.elim
  | iter=>rw[hh] at h;exact h.elim
  | cells=>rw[hh] at h;exact h.elim
  | map es=>
   rw[hh] at h;obtain⟨ag,h⟩:=h;obtain⟨ms,E,ho,hm⟩:=C.heap r _ hh;cases hf:Np dk es 0 with
   | none=>rw[hf] at h;exact h.elim
   | some Y=>
    rw[hf] at h;simp only[An8] at h;have J:=Sn (P:=P) (w:=w) S D hm hf;have U:=fun b=>Rh (P:=P) (w:=w) (b:=b) S D;have V:=Vb (P:=P) ho rfl;have Z:s.heap r≠none:=by rw[hh];simp
    have fin: ∀ {o':Obj} {M:List (DVal×DVal)},Pd o'=true->(∀w' H',Lasts s.heap w H' w'->Ai8 w' H' (.map M) (some o'))->(execOp a.eval o).run P w= .ok .skip (w.putObj r o')->K ⟨s.env,upd s.heap r (some (.map M))⟩->o.wp P a w (Io G N K s w) Qx:=by
     intro o' M aa ab ac hK;obtain⟨k1,W⟩:=Aa2 C.heap Z ho rfl aa ab;unfold Oper.wp;rw[ac];show Io G N K s w (a.put o.dst undef) _;rw[hdst];exact⟨_,hK,C.ext W k1,W⟩
    cases Y with
    | none=>
     simp only[Option.bind_none] at J;have O:=Ol (P:=P) (.map (ms.push { key:=a.eval k,val:=a.eval y,born:=E }) (E+1)) ho rfl;refine fin (o':= .map (ms.push { key:=a.eval k,val:=a.eval y,born:=E }) (E+1)) rfl (fun w' H' hl=>⟨_,_,rfl, ?_⟩) ?_ h
     ·rw[Array.toList_push];exact(hm.lasts hl).app (fs:= [(dk,dy)]) ⟨_,[],rfl,Rel.lasts hl _ _ D,Rel.lasts hl _ _ L,rfl⟩
     ·rcases he with he | he<;>simp [execOp,he,I,Instr.mapUpdate,run_underlying hu,V,U,J,O]
    | some i=>
     obtain⟨p,_,hp,ad⟩:=Bj8 hf;rw[Nat.sub_zero] at hp;obtain⟨m,hmi,r1,r2⟩:=hm.get hp;have ae:ms[i]? =some m:=by rw[<-Array.getElem?_toList];exact hmi
     simp only[Option.bind_some,hmi,Option.map_some] at J;have af:=Dz3 D r1 ad 9999;have O:=Ol (P:=P) (.map (ms.modify i fun e=> { e with key:=a.eval k,val:=a.eval y }) E) ho rfl;refine fin (o':= .map (ms.modify i fun e=> { e with key:=a.eval k,val:=a.eval y }) E) rfl (fun w' H' hl=>⟨_,_,rfl, ?_⟩) ?_ h
     ·rw[Array.toList_modify];exact(hm.lasts hl).modify i (fun m=>⟨Rel.lasts hl _ _ D,Rel.lasts hl _ _ L⟩)
     ·rcases he with he | he<;>simp [execOp,he,I,Instr.mapUpdate,run_underlying hu,V,U,J,ae,Instr.keyThatStays,af,O]
end
section
variable {P:Program} {G:Nat->DVal} {N:Fr}
variable {o:Oper} {s s0:DS} {a:Act} {w w0:World} {K:DK} {Q:DExit->DS->Prop}
theorem Ag.mono {f:FuncId} {args:List DVal} {H:Ac} {R C:DEnd->Ac->Prop} (h:Ag P G f args H R) (hr: ∀e H',R e H'->C e H'):Ag P G f args H C:=
 ⟨h.1,fun vs w hv D hG=>(h.2 vs w hv D hG).mono fun e w' ⟨e',H',r,k⟩=>⟨e',H',hr _ _ r,k⟩⟩
theorem Bf8.mono {l:Nat} {args:List DVal} {H:Ac} {R C:DEnd->Ac->Prop} (h:Bf8 P G l args H R) (hr: ∀e H',R e H'->C e H'):Bf8 P G l args H C:=
 fun F n D vs w hv E hG=>by
  obtain⟨fn,tmps,I,J,h1,h2⟩:=h F n D vs w hv E hG;exact⟨fn,tmps,I,J,h1,h2.mono fun e w' ⟨e',H',r,k⟩=>⟨e',H',hr _ _ r,k⟩⟩
theorem Gg3 (C:Sim G N s a w) (M:Ext s0.heap w0 s.heap w) (O:Cz N o.dst=true) {c:Call} {f:Operand} (hf:Cc N f=true) (hx:c.args.toList.all (Cc N)=true) (he:o.op= .call c) (S:c.callee= .value f)
  (E: ∀l,dev G s.env f≠ .func (.yield l) [] []) (h:Bj3 P G (Hh G s.env c.args.toList) o.dst Q (dev G s.env f) K s):o.wp P a w (Io G N K s w) (Sg G N Q s0 w0):=by
 have D:=Bs C hf;have I:=Tr C hx;generalize dev G s.env f=df at h D E;generalize Hh G s.env c.args.toList=ds at h I;unfold Bj3 at h;split at h<;>try first | exact h.elim | exact(E _ rfl).elim
 rename_i k first captured
 simp only[Rel] at D;obtain⟨xs,ys,U,h1,h2⟩:=D;obtain⟨V,W⟩:=h;have X:Az w s.heap (first++ds++captured) (xs.toList++c.args.toList.map a.eval++ys.toList):=(h1.append I).append h2;have Y:(xs++c.args.map a.eval++ys)=(xs.toList++c.args.toList.map a.eval++ys.toList).toArray:=by apply Array.ext';simp
 have Z:(execOp a.eval o).run P w= .ok (.enter k (xs++c.args.map a.eval++ys)) w:=by
  simp only[execOp,he,resolve,S,U,Deferred.ofValue,Sem.run_bind,Sem.run_pure,Result.andThen_ok,invoke,V]
 unfold Oper.wp;rw[Z,Y];refine(W _ _ X C.heap C.glob).mono fun e w' ⟨e',H',J,aa,L,hE⟩=> ?_;cases aa with
 | ret d v hv=>exact⟨_,J,(C.ext hE L).put O hv,hE⟩
 | panic d v hv=>exact⟨_,_,J, .panic _ _ hv,C.ext hE L,M.trans hE⟩
theorem Qo (h:Lz N o=true):Cz N o.dst=true:=by
 unfold Lz at h;rw[jF] at h;unfold Cz;exact h.1
theorem Bj9 {α:Type} (p:α->Bool) (xs:Array α):xs.all p=xs.toList.all p:=by
 rw[<-Array.all_toList]
theorem Cq1 {x:DVal} {v:Value} (C:Sim G N s a w) (D:Ext s0.heap w0 s.heap w) (E:(execOp a.eval o).run P w=((Instr.panic v).run P w).andThen fun v w'=> .ok (.value v) w') (hv:Rel w s.heap x v) (h:Aj0 Q s x) {next:Act->World->Prop}:o.wp P a w next (Sg G N Q s0 w0):=by
 unfold Aj0 at h;split at h<;>try exact h.elim
 have I:=hv;simp only[Rel] at hv;obtain⟨y,rfl,J⟩:=hv;unfold Oper.wp;rw[E];simp only[Instr.panic,goPanic,Sem.run_halt,Result.andThen_halt];exact⟨_,s,h, .panic _ _ I,C,D⟩
theorem Dz4 (U: ∀c f l,o.op= .call c->c.callee= .value f->dev G s.env f≠ .func (.yield l) [] []) (L:Lz N o=true) (C:Sim G N s a w) (O:Ext s0.heap w0 s.heap w) (h:dop P G o.dst K Q s o.op):o.wp P a w (Io G N K s w) (Sg G N Q s0 w0):=by
 have hd:=Qo L
 unfold Lz at L
 rw[jF] at L
 have D:=L.2
 rw[Bj9] at D
 cases hq:o.op<;>rw[hq] at h D<;>simp only[Op.operands,Call.operands,List.all_cons,List.all_nil,Bool.and_true,jF] at D<;>try (exact h.elim)
 case move x=>exact(Gf5 C hd D hq h).wp C hd
 case assign x=>exact(Eo8 C hd D hq h).wp C hd
 case pick c x y=>exact(Gf6 C hd D.1 D.2.1 D.2.2 hq h).wp C hd
 case alloc e=>exact Fl4 C hd hq h
 case box e x=>exact Gr0 C hd D hq h
 case build t ps=>exact Fl6 C hd (by simpa [Function.comp_def] using D) hq h
 case buildSlice t n ps=>exact Cf6 C hd (by simpa [Function.comp_def] using D) hq h
 case load t x=>exact(Gf7 C hd D hq h).wp C hd
 case store t x y=>exact Fl5 C D.1 D.2 hq h
 case nilCheck x=>exact(Dd4 C hd D hq h).wp C hd
 case binOp op t x y t'=>exact(Gg0 C hd D.1 D.2 hq h).wp C hd
 case unOp op t x=>exact(Gf8 C hd D hq h).wp C hd
 case convert src t x=>exact(Fm1 C hd D hq h).wp C hd
 case range t x=>exact Fm2 C hd D hq h
 case next x b=>exact Gg1 C hd D hq h
 case makeInterface t x=>exact(Co9 C hd D hq h).wp C hd
 case makeFunc fn fs cs=>
  simp only[Array.toList_append,List.all_append,jF] at D
  exact(Dd5 C hd D.1 D.2 hq h).wp C hd
 case makeMap t x=>
  have I: ∀(z:Option Operand),z.toArray.toList.all (Cc N)=true->(match z with | some x=>Cc N x | none=>true)=true:=by
   intro z hz;cases z with
   | none=>rfl
   | some z=>simpa using hz
  exact Dz2 C hd (I _ D) hq h
 case lookup t x k ok=>exact Ep5 C hd D.1 D.2 hq h
 case mapUpdate t m k x=>exact Cq0 C D.1 D.2.1 D.2.2 (.inl hq) h
 case insert t m k x=>exact Cq0 C D.1 D.2.1 D.2.2 (.inr hq) h
 case makeSlice t l c=>exact Cp3 C hd D.1 D.2 hq h
 case slice t x lo hi mx=>
  simp only[Array.toList_append,List.all_append,jF,List.all_cons,List.all_nil,Bool.and_true] at D
  have I: ∀(z:Option Operand),z.toArray.toList.all (Cc N)=true->(match z with | some x=>Cc N x | none=>true)=true:=by
   intro z hz;cases z with
   | none=>rfl
   | some z=>simpa using hz
  exact(Fl9 C hd D.1.1.1 (I _ D.1.1.2) (I _ D.1.2) (I _ D.2) hq h).wp C hd
 case fieldAddr t x f=>exact(Cp1 C hd D hq h).wp C hd
 case field t x f=>exact(Fl7 C hd D hq h).wp C hd
 case indexAddr t x i=>exact(Cp2 C hd D.1 D.2 hq h).wp C hd
 case index t x i=>exact(Fl8 C hd D.1 D.2 hq h).wp C hd
 case typeAssert x t u ok=>exact(Cf7 C hd D hq h).wp C hd
 case extract x i=>exact(Dy6 C hd D hq h).wp C hd
 case panic x=>
  exact Cq1 C O (v:=a.eval x) (by simp [execOp,hq]) (Bs C D) h
 case call c=>
  simp only[dop] at h
  simp only[Array.toList_append,List.all_append,jF] at D
  obtain⟨S,E⟩:=D
  cases hc:c.callee with
  | invoke r m=>rw[hc] at h;exact h.elim
  | value f=>
   rw[hc] at h S
   simp only[Xk] at h
   exact Gg3 C O hd (by simpa using S) E hq hc (fun l=>U c f l hq hc) h
  | builtin b=>
   rw[hc] at h
   simp only[Xk] at h
   cases b<;>(try (cases hdv:Hh G s.env c.args.toList<;>rw[hdv] at h<;>exact h.elim))
   case len=>
    cases hdv:Hh G s.env c.args.toList with
    | nil=>rw[hdv] at h;exact h.elim
    | cons d ds=>cases ds with
     | cons J ds=>rw[hdv] at h;exact h.elim
     | nil=>
      obtain⟨x,hx,rfl⟩:=Ao4 hdv
      rw[hdv] at h
      rw[hx] at E
      simp only[Nq] at h
      cases hts:c.argTypes.toList with
      | nil=>rw[hts] at h;exact h.elim
      | cons t ts=>cases ts with
       | nil=>rw[hts] at h;exact(Gr1 C hd (by simpa using E) hq hc hx hts h).wp C hd
       | cons t' M=>rw[hts] at h;exact h.elim
   case cap=>
    cases hdv:Hh G s.env c.args.toList with
    | nil=>rw[hdv] at h;exact h.elim
    | cons d ds=>cases ds with
     | cons J ds=>rw[hdv] at h;exact h.elim
     | nil=>
      obtain⟨x,hx,rfl⟩:=Ao4 hdv
      rw[hdv] at h
      rw[hx] at E
      simp only[Nq] at h
      cases hts:c.argTypes.toList with
      | nil=>rw[hts] at h;exact h.elim
      | cons t ts=>cases ts with
       | nil=>rw[hts] at h;exact(Gr2 C hd (by simpa using E) hq hc hx hts h).wp C hd
       | cons t' M=>rw[hts] at h;exact h.elim
   case clear=>
    cases hdv:Hh G s.env c.args.toList with
    | nil=>rw[hdv] at h;exact h.elim
    | cons d ds=>cases ds with
     | cons J ds=>rw[hdv] at h;exact h.elim
     | nil=>
      obtain⟨x,hx,rfl⟩:=Ao4 hdv
      rw[hdv] at h
      rw[hx] at E
      simp only[Nq] at h
      cases hts:c.argTypes.toList with
      | nil=>rw[hts] at h;exact h.elim
      | cons t ts=>cases ts with
       | nil=>rw[hts] at h;exact Fm0 C hd (by simpa using E) hq hc hx hts h
       | cons t' M=>rw[hts] at h;exact h.elim
   case delete=>
    cases hdv:Hh G s.env c.args.toList with
    | nil=>rw[hdv] at h;exact h.elim
    | cons d ds=>cases ds with
     | nil=>rw[hdv] at h;exact h.elim
     | cons J ds=>cases ds with
      | cons V ds=>rw[hdv] at h;exact h.elim
      | nil=>
       obtain⟨x,y,hx,rfl,rfl⟩:=Cp5 hdv
       rw[hdv] at h
       rw[hx] at E
       simp only[List.all_cons,List.all_nil,Bool.and_true,jF] at E
       simp only[Nq] at h
       cases hts:c.argTypes.toList with
       | nil=>rw[hts] at h;exact h.elim
       | cons t ts=>rw[hts] at h;exact Ep6 C hd E.1 E.2 hq hc hx hts h
   case append=>
    cases hdv:Hh G s.env c.args.toList with
    | nil=>rw[hdv] at h;exact h.elim
    | cons d ds=>cases ds with
     | nil=>rw[hdv] at h;exact h.elim
     | cons J ds=>cases ds with
      | cons V ds=>rw[hdv] at h;exact h.elim
      | nil=>
       obtain⟨x,y,hx,rfl,rfl⟩:=Cp5 hdv
       rw[hdv] at h
       rw[hx] at E
       simp only[List.all_cons,List.all_nil,Bool.and_true,jF] at E
       simp only[Nq] at h
       cases hts:c.argTypes.toList with
       | nil=>rw[hts] at h;exact h.elim
       | cons t ts=>cases ts with
        | nil=>rw[hts] at h;exact h.elim
        | cons t' M=>cases M with
         | nil=>
          rw[hts] at h
          simp only[Av8] at h
          cases hit:Qm (P.underlying t') with
          | true=>rw[hit] at h;exact Dz1 C hd E.1 E.2 hq hc hx hts hit h
          | false=>rw[hit] at h;exact Ep3 C hd E.1 E.2 hq hc hx hts h
         | cons W X=>rw[hts] at h;exact h.elim
   case min=>exact(Cp6 (isMax:=false) C hd E hq hc h).wp C hd
   case max=>exact(Cp6 (isMax:=true) C hd E hq hc h).wp C hd
   case panic=>
    cases hdv:Hh G s.env c.args.toList with
    | nil=>rw[hdv] at h;exact h.elim
    | cons d ds=>cases ds with
     | cons J ds=>rw[hdv] at h;exact h.elim
     | nil=>
      obtain⟨x,hx,rfl⟩:=Ao4 hdv
      rw[hdv] at h
      rw[hx] at E
      have hm:c.args.map a.eval= #[a.eval x]:=by apply Array.ext';simp [hx]
      refine Cq1 C O (v:=a.eval x) ?_ (Bs C (by simpa using E)) h
      rw[Jf hq hc,hm]
      simp [builtin]
theorem Ao6: ∀(all:List Oper) (j:Nat),Uy all j=(all[j]?).bind (·.dst)
 | [],j=>by simp [Uy]
 | o::r,0=>by simp [Uy]
 | o::r,j+1=>by simp [Uy,Ao6 r j]
theorem Cq2 {dst:Option Nat} {K:DK} {Q:DExit->DS->Prop} {s:DS} {op:Op} (h:dop P G dst K Q s op) (c:Call):op≠ .defer c:=by
 intro e;subst e;exact h
theorem Fm3 {F:Fence} {n:Nat} (D:FOk F) (C:Sim G N s a w) (O:Ext s0.heap w0 s.heap w) (S:Cz N o.dst=true) {c:Call} {f:Operand} {l:Nat} (hf:Cc N f=true) (hx:c.args.toList.all (Cc N)=true) (he:o.op= .call c) (U:c.callee= .value f)
  (V:dev G s.env f= .func (.yield l) [] []) (h:Bf8 P G l (Hh G s.env c.args.toList) s.heap (Av9 o.dst K Q s.env)):o.wpIn F n P a w (Io G N K s w) (Sg G N Q s0 w0):=by
 have E:=Bs C hf;have I:=Tr C hx;rw[V] at E;generalize Hh G s.env c.args.toList=ds at h I;simp only[Rel,Az] at E;obtain⟨xs,ys,W,h1,h2⟩:=E;have X:xs= #[]:=by cases xs;simp at h1;subst h1;rfl
 subst X;obtain⟨fn,tmps,Y,Z,J,aa⟩:=h F (n-1) D _ w I C.heap C.glob;have ab:(execOp a.eval o).run P w= .ok (.round l fn tmps Y Z) w:=by
  have:(c.args.toList.map a.eval).toArray=c.args.map a.eval:=by apply Array.ext';simp
  rw[this] at J;simp only[execOp,he,resolve,U,W,Deferred.ofValue,Sem.run_bind,Sem.run_pure,Result.andThen_ok,invoke];simpa using J
 refine⟨fun f _=>D.fn f, ?_⟩;rw[Oper.semAt_eq _ _ _ (by intro c' e;rw[he] at e;cases e),ab,Oper.uponIn_round];refine⟨(by rw[D.depth];intro hh;cases hh),aa.mono fun e w' ⟨e',H',L,ac,M,hE⟩=> ?_⟩;cases ac with
 | ret d v hv=>exact⟨_,L,(C.ext hE M).put S hv,hE⟩
 | panic d v hv=>exact⟨_,_,L, .panic _ _ hv,C.ext hE M,O.trans hE⟩
theorem Vc {F:Fence} {n:Nat} (E:FOk F) (C:Lz N o=true) (I:Sim G N s a w) (J:Ext s0.heap w0 s.heap w) (h:dop P G o.dst K Q s o.op):o.wpIn F n P a w (Io G N K s w) (Sg G N Q s0 w0):=by
 by_cases L: ∃c f l,o.op= .call c/\c.callee= .value f/\dev G s.env f= .func (.yield l) [] []
 ·obtain⟨c,f,l,h1,h2,h3⟩:=L;have hd:=Qo C;unfold Lz at C;rw[jF] at C;have D:=C.2;rw[Bj9] at D;rw[h1] at h D;simp only[Op.operands,Call.operands,Array.toList_append,List.all_append,jF] at D;obtain⟨M,O⟩:=D;rw[h2] at M;simp only[dop,h2,Xk,h3,Bj3] at h;exact Fm3 E I J hd (by simpa using M) O h1 h2 h3 h
 ·exact E.oper (Cq2 h) (Dz4 (fun c f l h1 h2 h3=>L ⟨c,f,l,h1,h2,h3⟩) C I J h)
theorem Aj3 {F:Fence} {n:Nat} (D:FOk F) (all:List Oper) (J:all.all (Lz N)=true): ∀(rest:List Oper),rest.all (Lz N)=true-> ∀(s:DS) (a:Act) (w:World),Sim G N s a w->Ext s0.heap w0 s.heap w->Sl P G all Q rest s->
  wpListIn F n P all.toArray (Sg G N Q s0 w0) rest a w
 | [],_,s,a,w,hS,hE,h=>⟨.normal,s,h, .normal,hS,hE⟩
 | o::rest,hr,s,a,w,hS,hE,h=>by
  simp only[List.all_cons,jF] at hr;have next: ∀(o:Oper) s a w,Sim G N s a w->Ext s0.heap w0 s.heap w->Lz N o=true->dop P G o.dst (Sl P G all Q rest) Q s o.op->o.wpIn F n P a w (wpListIn F n P all.toArray (Sg G N Q s0 w0) rest) (Sg G N Q s0 w0):=by
   intro o s a w hS hE hok hd;exact Oper.wpIn_mono (fun a' w' ⟨s',W,X,Y⟩=>Aj3 D all J rest hr.2 s' a' w' X (hE.trans Y) W) (Vc D hok hS hE hd)
  have skip:Cb o.dst Ez (Sl P G all Q rest) s->wpListIn F n P all.toArray (Sg G N Q s0 w0) rest (a.put o.dst undef) w:=fun hp=>
   Aj3 D all J rest hr.2 _ _ _ (hS.put (Qo hr.1) (Xl w s.heap)) hE hp
  unfold wpListIn;simp only[Sl] at h;cases hg:o.guard with
  | none=>
   rw[hg] at h;rw[if_pos (by simp [Region.wanted,hg])];exact(next o s a w hS hE hr.1 h)
  | some Z=>
   obtain⟨j,b⟩:=Z;rw[hg] at h;simp only at h;cases hj:Uy all j with
   | none=>rw[hj] at h;exact h.elim
   | some g=>
    rw[hj] at h;simp only at h;have L:(all[j]?).bind (·.dst)=some g:=by rw[<-Ao6];exact hj
    obtain⟨M,O,S⟩:=Option.bind_eq_some_iff.1 L;have aa:M∈all:=List.mem_of_getElem? O;have ab:g<N:=by
     have:=List.all_eq_true.1 J M aa;have:=Qo this;rw[S] at this;simpa [Cz] using this
    have C:=hS.tmps g ab;by_cases U:s.env g= .tuple []
    ·rw[U] at h C;simp only[Rel,Az] at C;obtain⟨xs,V,ac⟩:=C;have E:yielded all.toArray a.tmps j=none:=by
      have h2: ∀z,a.tmps[g]? =some z->z= .tuple xs:=fun z hz=>by
       rw[Array.getD_eq_getD_getElem?,hz] at V;simpa using V
      unfold yielded;simp only[List.getElem?_toArray,L,Option.bind_some];cases hz:a.tmps[g]? with
      | none=>rfl
      | some z=>rw[h2 z hz]
     rw[if_neg (by simp [Region.wanted,hg,E])];exact⟨fun f _=>D.fn f,skip h⟩
    split at h<;>(try exact h.elim)<;>(try (rename_i hv;exact absurd hv U))
    rename_i v hv
    rw[hv] at C;simp only[Rel] at C;have E:yielded all.toArray a.tmps j=some v:=by
     have h1:a.tmps[g]? =some (.bool v):=by
      rw[Array.getD_eq_getD_getElem?] at C;cases hq:a.tmps[g]? with
      | none=>
       have:=hS.size;rw[Array.getElem?_eq_none_iff] at hq;omega
      | some z=>rw[hq] at C;simpa using C
     simp [yielded,O,S,h1]
    by_cases I:v=b
    ·rw[if_pos (by simp [Region.wanted,hg,E,I])];exact(next o s a w hS hE hr.1 (h.1 I))
    ·rw[if_neg (by simp [Region.wanted,hg,E,I])];exact⟨fun f _=>D.fn f,skip (h.2 I)⟩
end
section
variable {P:Program} {G:Nat->DVal} {N:Nat} {all:List Oper} {Q:DExit->DS->Prop} {s:DS} {rest:List Oper}
theorem Ep7:Sl P G all Q [] s=Q .normal s:=rfl
theorem Dz5 {dst:Option Nat} {op:Op} {t:TypeId} {p:String} {a:Array Edge}:Sl P G all Q (⟨dst,op,t,p,a,none⟩::rest) s=dop P G dst (Sl P G all Q rest) Q s op:=rfl
theorem Dz6 (dst:Option Nat) (op:Op) (b:Bool) (g:DVal):Aw0 P G all Q dst op rest s b g=(match g with
  | .bool v=>(v=b->dop P G dst (Sl P G all Q rest) Q s op)/\(v≠b->Cb dst Ez (Sl P G all Q rest) s)
  | .tuple []=>Cb dst Ez (Sl P G all Q rest) s
  | _=>False):=by
 cases g with
 | bool v=>cases b<;>cases v<;>simp [Aw0]
 | tuple l=>cases l<;>cases b<;>rfl
 | _=>cases b<;>rfl
theorem De1 {dst:Option Nat} {op:Op} {t:TypeId} {p:String} {a:Array Edge} {j:Nat} {b:Bool}:
  Sl P G all Q (⟨dst,op,t,p,a,some (j,b)⟩::rest) s=Cf3 P G all Q dst op rest s b (Uy all j):=by
 rw[Sl];cases h:Uy all j with
 | none=>simp [Cf3,h]
 | some g=>
  simp only[Cf3,h,Dz6];rfl
theorem Pe {dst:Option Nat} {op:Op} {b v:Bool} (C:v=true->Aw0 P G all Q dst op rest s b (.bool true)) (hf:v=false->Aw0 P G all Q dst op rest s b (.bool false)):
  Aw0 P G all Q dst op rest s b (.bool v):=by
 cases v
 ·exact hf rfl
 ·exact C rfl
theorem Ma {X Y:DK} {v:Bool} (C:v=true->Co7 X Y s (.bool true)) (hf:v=false->Co7 X Y s (.bool false)):Co7 X Y s (.bool v):=by
 cases v
 ·exact hf rfl
 ·exact C rfl
theorem Ep8:dwp P G N .skip Q s=Q .normal s:=rfl
theorem Dz7 {l:Nat}:dwp P G N (.label l) Q s=Q .normal s:=rfl
theorem De2 {id:Nat} {C:List Oper}:dwp P G N (.region id C.toArray false) Q s=Sl P G C Q C s:=rfl
theorem Fm4 {a b:Code}:dwp P G N (.seq a b) Q s=dwp P G N a (Bb5 (dwp P G N b Q) Q) s:=rfl
theorem Ep9 {c:Operand} {a b:Code}:dwp P G N (.cond c a b) Q s=Co7 (dwp P G N a Q) (dwp P G N b Q) s (dev G s.env c):=rfl
theorem Dz8 {id:Nat} {c:Code}:dwp P G N (.block id c) Q s=dwp P G N c (Cf5 id Q) s:=rfl
theorem Eq0 {c:Code}:dwp P G N (.loop c) Q s=Dr7 G (dwp P G N c) Q s:=rfl
theorem Dz9 {c:Code}:dwp P G N (.scope c) Q s=dwp P G N c (Dr6 Q) s:=rfl
theorem Eq1 {id:Nat}:dwp P G N (.exit id) Q s=Q (.exit id) s:=rfl
theorem Fm5:dwp P G N .ret Q s=Q .ret s:=rfl
theorem Aa {α:Type} (f:Nat->α) (i:Nat) (v:α):upd f i v i=v:=by simp [upd]
theorem Ea0 {α:Type} (f:Nat->α) (i j:Nat) (v:α):upd f i v j=if j=i then v else f j:=rfl
theorem Eq2 (n:Nat) (z:DVal):Cd n [z]=List.replicate n z:=by
 unfold Cd
 induction n with
 | zero=>rfl
 | succ n ih=>simp [List.replicate_succ,ih]
end
section
variable {P:Program} {s:DS}
theorem De3 (e:TypeId):Gf2 (some (.slice e))=true:=rfl
theorem Fm6 {t:TypeId} {c:Bool} {op:BinOp} {dst:Option Nat} {cs:List DVal} {n:Nat} {y:DVal} {K:DK}:Bb2 P t c op dst true (.vslice cs n) y K s=(Gf2 (P.underlying t)=true/\Gb7 cs op dst K s):=rfl
theorem Ea1 {t:TypeId} {c:Bool} {op:BinOp} {dst:Option Nat} {y:DVal} {K:DK}:Bb2 P t c op dst true .nilSlice y K s=Rx P t c op dst .nilSlice y K s:=rfl
theorem Fm7 {t:TypeId} {c:Bool} {op:BinOp} {dst:Option Nat} {z r o n l:Nat} {y:DVal} {K:DK}:Bb2 P t c op dst true (.oslice z r o n l) y K s=Rx P t c op dst (.oslice z r o n l) y K s:=rfl
theorem De4 (t:Nat):Kj (.tmp t)=false:=rfl
theorem Bw1 (t:Nat):Kj (.global t)=false:=rfl
theorem Cq3 (t:Nat):Kj (.func t)=false:=rfl
theorem De5 (k:IntKind) (n:Int):Kj (.const (.int k n))=false:=rfl
theorem Cq4 (b:Bool):Kj (.const (.bool b))=false:=rfl
theorem De6 (b:ByteArray):Kj (.const (.string b))=false:=rfl
theorem De7 (b:Option Addr):Kj (.const (.pointer b))=false:=rfl
theorem De8 (b:Option Nat):Kj (.const (.map b))=false:=rfl
theorem Ea2:Kj (.const .nilFunc)=false:=rfl
theorem Ea3:Kj (.const .nilIface)=false:=rfl
theorem De9 (a:Array Value):Kj (.const (.agg a))=false:=rfl
theorem Df0:Kj (.const (.slice none 0 0))=true:=rfl
end
attribute [go_sem] De3 Uz Fm6 Ea1 Fm7 De4 Bw1 Cq3 De5 Cq4 De6 De7 De8 Ea2 Ea3 De9 Df0
theorem Aj4 {P:Program} {t:TypeId} {c:Bool} {op:BinOp} {dst:Option Nat} {K:DK} {s:DS} {a:Bool} {b:Bool}:Rx P t c op dst (.bool a) (.bool b) K s=Tl dst (Un op) (Zi c (P.underlying t) (.bool a) (.bool b)) K s:=rfl
theorem Aj5 {P:Program} {t:TypeId} {c:Bool} {op:BinOp} {dst:Option Nat} {K:DK} {s:DS}:Rx P t c op dst (.nilPtr) (.nilPtr) K s=Tl dst (Un op) (Zi c (P.underlying t) (.nilPtr) (.nilPtr)) K s:=rfl
theorem Aa3 {P:Program} {t:TypeId} {c:Bool} {op:BinOp} {dst:Option Nat} {K:DK} {s:DS} {r:Nat} {o:Nat}:Rx P t c op dst (.nilPtr) (.optr r o) K s=Tl dst (Un op) (Zi c (P.underlying t) (.nilPtr) (.optr r o)) K s:=rfl
theorem Zk {P:Program} {t:TypeId} {c:Bool} {op:BinOp} {dst:Option Nat} {K:DK} {s:DS} {o:Nat} {cs:List DVal}:Rx P t c op dst (.nilPtr) (.vptr cs o) K s=Tl dst (Un op) (Zi c (P.underlying t) (.nilPtr) (.vptr cs o)) K s:=rfl
theorem Aa4 {P:Program} {t:TypeId} {c:Bool} {op:BinOp} {dst:Option Nat} {K:DK} {s:DS} {r:Nat} {o:Nat}:Rx P t c op dst (.optr r o) (.nilPtr) K s=Tl dst (Un op) (Zi c (P.underlying t) (.optr r o) (.nilPtr)) K s:=rfl
theorem Zl {P:Program} {t:TypeId} {c:Bool} {op:BinOp} {dst:Option Nat} {K:DK} {s:DS} {o:Nat} {cs:List DVal}:Rx P t c op dst (.vptr cs o) (.nilPtr) K s=Tl dst (Un op) (Zi c (P.underlying t) (.vptr cs o) (.nilPtr)) K s:=rfl
theorem Wj {P:Program} {t:TypeId} {c:Bool} {op:BinOp} {dst:Option Nat} {K:DK} {s:DS} {i:TypeId} {v:DVal}:Rx P t c op dst (.nilIface) (.iface i v) K s=Tl dst (Un op) (Zi c (P.underlying t) (.nilIface) (.iface i v)) K s:=rfl
theorem Wk {P:Program} {t:TypeId} {c:Bool} {op:BinOp} {dst:Option Nat} {K:DK} {s:DS} {i:TypeId} {v:DVal}:Rx P t c op dst (.iface i v) (.nilIface) K s=Tl dst (Un op) (Zi c (P.underlying t) (.iface i v) (.nilIface)) K s:=rfl
theorem Xp {P:Program} {t:TypeId} {c:Bool} {op:BinOp} {dst:Option Nat} {K:DK} {s:DS}:Rx P t c op dst (.nilIface) (.nilIface) K s=Tl dst (Un op) (Zi c (P.underlying t) (.nilIface) (.nilIface)) K s:=rfl
theorem Aa5 {P:Program} {t:TypeId} {c:Bool} {op:BinOp} {dst:Option Nat} {K:DK} {s:DS}:Rx P t c op dst (.nilFunc) (.nilFunc) K s=Tl dst (Un op) (Zi c (P.underlying t) (.nilFunc) (.nilFunc)) K s:=rfl
theorem Wl {P:Program} {t:TypeId} {c:Bool} {op:BinOp} {dst:Option Nat} {K:DK} {s:DS} {f:Fn} {x:List DVal} {y:List DVal}:Rx P t c op dst (.func f x y) (.nilFunc) K s=Tl dst (Un op) (Zi c (P.underlying t) (.func f x y) (.nilFunc)) K s:=rfl
theorem Wm {P:Program} {t:TypeId} {c:Bool} {op:BinOp} {dst:Option Nat} {K:DK} {s:DS} {f:Fn} {x:List DVal} {y:List DVal}:Rx P t c op dst (.nilFunc) (.func f x y) K s=Tl dst (Un op) (Zi c (P.underlying t) (.nilFunc) (.func f x y)) K s:=rfl
theorem Xq {P:Program} {t:TypeId} {c:Bool} {op:BinOp} {dst:Option Nat} {K:DK} {s:DS}:Rx P t c op dst (.nilSlice) (.nilSlice) K s=Tl dst (Un op) (Zi c (P.underlying t) (.nilSlice) (.nilSlice)) K s:=rfl
theorem Qp {P:Program} {t:TypeId} {c:Bool} {op:BinOp} {dst:Option Nat} {K:DK} {s:DS} {r:Nat} {o:Nat} {n:Nat} {l:Nat} {z:Nat}:Rx P t c op dst (.oslice z r o n l) (.nilSlice) K s=Tl dst (Un op) (Zi c (P.underlying t) (.oslice z r o n l) (.nilSlice)) K s:=rfl
theorem Qq {P:Program} {t:TypeId} {c:Bool} {op:BinOp} {dst:Option Nat} {K:DK} {s:DS} {r:Nat} {o:Nat} {n:Nat} {l:Nat} {z:Nat}:Rx P t c op dst (.nilSlice) (.oslice z r o n l) K s=Tl dst (Un op) (Zi c (P.underlying t) (.nilSlice) (.oslice z r o n l)) K s:=rfl
theorem Df1 {P:Program} {dst:Option Nat} {K:DK} {s:DS} {k C D:IntKind} {n:Int}:Zt P dst (some (.int k)) (some (.int C)) (.int D n) K s=Cb dst (.int C (C.wrap n)) K s:=rfl
theorem Df2 {P:Program} {dst:Option Nat} {K:DK} {s:DS} {l:List UInt8}:Zt P dst (some .string) (some .string) (.str l) K s=Cb dst (.str l) K s:=rfl
theorem Ea4 (t:Nat):Ik (.tmp t)=false:=rfl
theorem Ea5 (t:Nat):Ik (.global t)=false:=rfl
theorem Ea6 (t:Nat):Ik (.func t)=false:=rfl
theorem Fm8 (P:Program) (n:Nat) (t:TypeId) (xs C:List DVal):Av3 P (n+1) t xs C=Ah5 P (Av3 P n) t xs C (P.underlying t):=rfl
theorem Ea7 (v:Value):(DVal.raw v).cells= [.raw v]:=rfl
theorem Df3 (b:Bool):(DVal.bool b).cells= [.bool b]:=rfl
theorem Eq3 (b:Bool):(DVal.bool b).one=true:=rfl
theorem Ea8 (k:IntKind) (n:Int):(DVal.int k n).cells= [.int k n]:=rfl
theorem Fm9 (k:IntKind) (n:Int):(DVal.int k n).one=true:=rfl
theorem Ea9 (s:List UInt8):(DVal.str s).cells= [.str s]:=rfl
theorem Fn0 (s:List UInt8):(DVal.str s).one=true:=rfl
theorem Cg1:(DVal.nilPtr).cells= [.nilPtr]:=rfl
theorem Df4:(DVal.nilPtr).one=true:=rfl
theorem Df5 (c:List DVal) (o:Nat):(DVal.vptr c o).cells= [.vptr c o]:=rfl
theorem Eq4 (c:List DVal) (o:Nat):(DVal.vptr c o).one=true:=rfl
theorem Df6 (r o:Nat):(DVal.optr r o).cells= [.optr r o]:=rfl
theorem Eq5 (r o:Nat):(DVal.optr r o).one=true:=rfl
theorem Bk0:(DVal.nilSlice).cells= [.nilSlice]:=rfl
theorem Cg2:(DVal.nilSlice).one=true:=rfl
theorem Cg3 (c:List DVal) (n:Nat):(DVal.vslice c n).cells= [.vslice c n]:=rfl
theorem Df7 (c:List DVal) (n:Nat):(DVal.vslice c n).one=true:=rfl
theorem Cg4 (z r o n l:Nat):(DVal.oslice z r o n l).cells= [.oslice z r o n l]:=rfl
theorem Df8 (z r o n l:Nat):(DVal.oslice z r o n l).one=true:=rfl
theorem Cg5:(DVal.nilMap).cells= [.nilMap]:=rfl
theorem Df9:(DVal.nilMap).one=true:=rfl
theorem Dg0 (r:Nat):(DVal.omap r).cells= [.omap r]:=rfl
theorem Eq6 (r:Nat):(DVal.omap r).one=true:=rfl
theorem Dg1 (f:Fn) (a c:List DVal):(DVal.func f a c).cells= [.func f a c]:=rfl
theorem Eq7 (f:Fn) (a c:List DVal):(DVal.func f a c).one=true:=rfl
theorem Bw2:(DVal.nilFunc).cells= [.nilFunc]:=rfl
theorem Cq5:(DVal.nilFunc).one=true:=rfl
theorem Cq6 (t:TypeId) (v:DVal):(DVal.iface t v).cells= [.iface t v]:=rfl
theorem Eb0 (t:TypeId) (v:DVal):(DVal.iface t v).one=true:=rfl
theorem Bk1:(DVal.nilIface).cells= [.nilIface]:=rfl
theorem Cg6:(DVal.nilIface).one=true:=rfl
theorem Cq7 (v:List DVal):(DVal.tuple v).cells= [.tuple v]:=rfl
theorem Eb1 (v:List DVal):(DVal.tuple v).one=false:=rfl
theorem Eb2 (c:List DVal):(DVal.agg c).cells=c:=rfl
theorem Fn1 (c:List DVal):(DVal.agg c).one=false:=rfl
theorem Eb3:Gz .add=false:=rfl
theorem Eb4:Gz .sub=false:=rfl
theorem Eb5:Gz .mul=false:=rfl
theorem Eb6:Gz .quo=false:=rfl
theorem Eb7:Gz .rem=false:=rfl
theorem Eb8:Gz .and=false:=rfl
theorem Eq8:Gz .or=false:=rfl
theorem Eb9:Gz .xor=false:=rfl
theorem Cg7:Gz .andNot=false:=rfl
theorem Ec0:Gz .eql=false:=rfl
theorem Ec1:Gz .neq=false:=rfl
theorem Ec2:Gz .lss=false:=rfl
theorem Ec3:Gz .leq=false:=rfl
theorem Ec4:Gz .gtr=false:=rfl
theorem Ec5:Gz .geq=false:=rfl
theorem Ec6:Gz .shl=true:=rfl
theorem Ec7:Gz .shr=true:=rfl
theorem Bw3:Fk (some (.bool))=true:=rfl
theorem Cq8:Qm (some (.bool))=false:=rfl
theorem Cg8 (k:IntKind):Fk (some (.int k))=true:=rfl
theorem Bf4:Fk (some (.string))=true:=rfl
theorem Bw4:Qm (some (.string))=false:=rfl
theorem Bw5:Av7 (some (.string))=true:=rfl
theorem Aw7 (e:TypeId):Fk (some (.pointer e))=true:=rfl
theorem Bk2 (e:TypeId):Qm (some (.pointer e))=false:=rfl
theorem Bk3 (e:TypeId):Fk (some (.slice e))=true:=rfl
theorem Cg9 (e:TypeId):Qm (some (.slice e))=false:=rfl
theorem Ch0 (e:TypeId):Av7 (some (.slice e))=true:=rfl
theorem Bk4 (n:Nat) (e:TypeId):Fk (some (.array n e))=true:=rfl
theorem Ch1 (n:Nat) (e:TypeId):Qm (some (.array n e))=false:=rfl
theorem Ch2 (k e:TypeId):Fk (some (.map k e))=true:=rfl
theorem Dg2 (k e:TypeId):Qm (some (.map k e))=false:=rfl
theorem Bf5 (f:Array Field):Fk (some (.struct f))=true:=rfl
theorem Bw6 (f:Array Field):Qm (some (.struct f))=false:=rfl
theorem Bw7 (p r:Array TypeId) (v:Bool):Fk (some (.func p r v))=true:=rfl
theorem Cq9 (p r:Array TypeId) (v:Bool):Qm (some (.func p r v))=false:=rfl
theorem Bk5 (e:Array TypeId):Fk (some (.tuple e))=true:=rfl
theorem Ch3 (e:Array TypeId):Qm (some (.tuple e))=false:=rfl
theorem Aj6 (m:Array (String×TypeId)):Fk (some (.interface m))=false:=rfl
theorem Dg3 (b:Bool):Fj (.bool b)= .bool b:=rfl
theorem Ec8 (k:IntKind) (n:Int):Fj (.int k n)= .int k n:=rfl
theorem Ch4 (l:List UInt8):Fj (.string (ByteArray.mk l.toArray))= .str l:=rfl
theorem Ch5:Fj (.pointer none)= .nilPtr:=rfl
theorem Bk6:Fj (.slice none 0 0)= .nilSlice:=rfl
theorem Ch6:Fj (.map none)= .nilMap:=rfl
theorem Bw8:Fj (.nilFunc)= .nilFunc:=rfl
theorem Bk7:Fj (.nilIface)= .nilIface:=rfl
theorem Ec9 (l:List Value):Fj (.agg l.toArray)= .agg (Jv l):=rfl
theorem Cr0 (l:List Value):Fj (.tuple l.toArray)= .tuple (Jv l):=rfl
theorem Dg4 (f:Fn) (a c:List Value):Fj (.func f a.toArray c.toArray)= .func f (Jv a) (Jv c):=rfl
attribute [go_sem] Ep7 Dz5 De1 Ep8 Dz7 De2 Fm4 Ep9 Dz8 Eq0 Dz9 Eq1 Fm5 Aa Ea0 Eq2 List.toList_toArray jI jG List.getElem?_cons_zero List.getElem?_cons_succ List.getElem?_nil true_and and_true eq_self dop.eq_1 dop.eq_2 dop.eq_3 dop.eq_4 dop.eq_5 dop.eq_6 dop.eq_7 dop.eq_8 dop.eq_9 dop.eq_10 dop.eq_11 dop.eq_12 dop.eq_13 dop.eq_14 dop.eq_15 dop.eq_16 dop.eq_17 dop.eq_18 dop.eq_19 dop.eq_20 dop.eq_21 dop.eq_22 dop.eq_23 dop.eq_24 dop.eq_25 dop.eq_26 dop.eq_27 dop.eq_28 dop.eq_29 dop.eq_30 dop.eq_31 Zs.eq_1 Zs.eq_2 Gq9.eq_1 Gq9.eq_2 Dr0.eq_1 Ai9.eq_1 Ai9.eq_2 Ai9.eq_3 Gf3.eq_1 Zt.eq_1 Cf0.eq_1 Dd0.eq_1 Dr1.eq_1 Cb.eq_1 Wi.eq_1 Wi.eq_2 dev.eq_1 dev.eq_2 dev.eq_3 dev.eq_4 Hh.eq_1 Hh.eq_2 Ry.eq_1 Ry.eq_2 Ni.eq_1 Ni.eq_2 Hr.eq_1 Hr.eq_2 Co0.eq_1 Eo4.eq_1 Eo4.eq_2 Ce6.eq_1 Ce6.eq_2 Yx.eq_1 Yx.eq_2 Dc8.eq_1 Bi2.eq_1 Dc9.eq_1 Dc9.eq_2 An1.eq_1 An1.eq_2 Uw.eq_1 Bi3.eq_1 Bi3.eq_2 Bi3.eq_3 Ce7.eq_1 By1.eq_1 By1.eq_2 Dq5.eq_1 Ce8.eq_1 Ae5.eq_1 Ae5.eq_2 Ae5.eq_3 Ae5.eq_4 Ae5.eq_5 Zi.eq_1 Zi.eq_2 Zi.eq_3 Zi.eq_4 Zi.eq_5 Zi.eq_6 Zi.eq_7 Zi.eq_8 Zi.eq_9 Zi.eq_10 Zi.eq_11 Zi.eq_12 Zi.eq_13 Zi.eq_14 Zi.eq_15 Gf1.eq_1 Gf1.eq_2 Ki.eq_1 Ki.eq_2 Ki.eq_3 Dq6.eq_1 Dq6.eq_2 Co1.eq_1 Co1.eq_2 Co2.eq_1 Dq7.eq_1 Dq8.eq_1 Gb6.eq_1 Gb6.eq_2 Ah5.eq_1 Ah5.eq_2 Ah5.eq_3 Ah5.eq_4 Ah5.eq_5 Tl.eq_1 Tl.eq_2 Un.eq_1 Un.eq_2 Ik.eq_1 Bf9.eq_1 Bf9.eq_2 Bf9.eq_3 Bf9.eq_4 Bf9.eq_5 Bf9.eq_6 Bf9.eq_7 Bf9.eq_8 Bf9.eq_9 Bf9.eq_10 Bf9.eq_11 Bf9.eq_12 Bf9.eq_13 Bf9.eq_14 Bf9.eq_15 Ce9.eq_1 Ce9.eq_2 An2.eq_1 An2.eq_2 An2.eq_3 An2.eq_4 An2.eq_5 An2.eq_6 An2.eq_7 Dq9.eq_1 Dq9.eq_2 Rx.eq_1 Rx.eq_2 Rx.eq_3 dUn.eq_1 dUn.eq_2 dUn.eq_3 An3.eq_1 An3.eq_2 Xh.eq_1 Xh.eq_2 Bb3.eq_1 Bb3.eq_2 Xi.eq_1 dLo.eq_1 dLo.eq_2 dHi.eq_1 dHi.eq_2 Av4.eq_1 An4.eq_1 Xj.eq_1 Cf1.eq_1 Gb8.eq_1 Av5.eq_1 Av5.eq_2 Av5.eq_3 Av5.eq_4 Av5.eq_5 Av5.eq_6 Av5.eq_7 Bg0.eq_1 Bg0.eq_2 Bb4.eq_1 Bb4.eq_2 Tn.eq_1 Co3.eq_1 Co3.eq_2 Co3.eq_3 Dr2.eq_1 Dr2.eq_2 Bi4.eq_1 To.eq_1 To.eq_2 To.eq_3 Bi5.eq_1 Bi5.eq_2 An5.eq_1 Bi6.eq_1 Bi6.eq_2 Av6.eq_1 Av6.eq_2 Av6.eq_3 Av6.eq_4 Rm.eq_1 Rm.eq_2 dLen.eq_1 dLen.eq_2 dLen.eq_3 dLen.eq_4 dLen.eq_5 Dd1.eq_1 By2.eq_1 Zu.eq_1 Zu.eq_2 Zu.eq_3 Zu.eq_4 Ql.eq_1 Ql.eq_2 Co4.eq_1 Co4.eq_2 Bg1.eq_1 Av8.eq_1 Eo5.eq_1 Eo5.eq_2 Eo5.eq_3 Eo6.eq_1 Bi7.eq_1 Dr3.eq_1 Cf2.eq_1 Cf2.eq_2 Bi8.eq_1 Co5.eq_1 Qm.eq_1 An6.eq_1 An7.eq_1 An7.eq_2 Zj.eq_1 Zj.eq_2 Zj.eq_3 Zj.eq_4 Zv.eq_1 Zv.eq_2 Zv.eq_3 Np.eq_1 Np.eq_2 Ux.eq_1 Ux.eq_2 Ux.eq_3 Dr4.eq_1 By3.eq_1 Zw.eq_1 Dr5.eq_1 Dr5.eq_2 An8.eq_1 Bi9.eq_1 Ae6.eq_1 Dd2.eq_1 Bj0.eq_1 Bj0.eq_2 Dd3.eq_1 Bg2.eq_1 Bg2.eq_2 Co6.eq_1 Co6.eq_2 Bj1.eq_1 Bj2.eq_1 An9.eq_1 By4.eq_1 Zx.eq_1 Zx.eq_2 dMM.eq_1 Zy.eq_1 Zy.eq_2 Zy.eq_3 Ae7.eq_1 Ae7.eq_2 Av9.eq_1 Av9.eq_2 Bj3.eq_1 Bj3.eq_2 Aj0.eq_1 Nq.eq_1 Nq.eq_2 Nq.eq_3 Nq.eq_4 Nq.eq_5 Nq.eq_6 Nq.eq_7 Nq.eq_8 Xk.eq_1 Xk.eq_2 Xk.eq_3 Uy.eq_1 Uy.eq_2 Uy.eq_3 Aw0.eq_1 Aw0.eq_2 Aw0.eq_3 Aw0.eq_4 Aw0.eq_5 Aw0.eq_6 Cf3.eq_1 Cf3.eq_2 Bb5.eq_1 Bb5.eq_2 Bb5.eq_3 Bb5.eq_4 Bb5.eq_5 Cf4.eq_1 Cf4.eq_2 Cf5.eq_1 Cf5.eq_2 Cf5.eq_3 Cf5.eq_4 Cf5.eq_5 Dr6.eq_1 Dr6.eq_2 Dr6.eq_3 Dr6.eq_4 Dr6.eq_5 Co7.eq_1 Co7.eq_2 Ez.eq_1 Jv.eq_1 Jv.eq_2 Aj4 Aj5 Aa3 Zk Aa4 Zl Wj Wk Xp Aa5 Wl Wm Xq Qp Qq Df1 Df2 Ea4 Ea5 Ea6 Fm8 Ea7 Df3 Eq3 Ea8 Fm9 Ea9 Fn0 Cg1 Df4 Df5 Eq4 Df6 Eq5 Bk0 Cg2 Cg3 Df7 Cg4 Df8 Cg5 Df9 Dg0 Eq6 Dg1 Eq7 Bw2 Cq5 Cq6 Eb0 Bk1 Cg6 Cq7 Eb1 Eb2 Fn1 Eb3 Eb4 Eb5 Eb6 Eb7 Eb8 Eq8 Eb9 Cg7 Ec0 Ec1 Ec2 Ec3 Ec4 Ec5 Ec6 Ec7 Bw3 Cq8 Cg8 Bf4 Bw4 Bw5 Aw7 Bk2 Bk3 Cg9 Ch0 Bk4 Ch1 Ch2 Dg2 Bf5 Bw6 Bw7 Cq9 Bk5 Ch3 Aj6 Dg3 Ec8 Ch4 Ch5 Bk6 Ch6 Bw8 Bk7 Ec9 Cr0 Dg4
section
variable {P:Program} {G:Nat->DVal} {N:Fr}
variable {s s0:DS} {a:Act} {w w0:World} {Q:DExit->DS->Prop}
theorem Rz.refl (s:DS):Rz G s s:=fun w C hG=>⟨C,fun b h=>h,hG,fun i x h=>h⟩
theorem Rz.sim {D:DS} (h:Rz G s D) (C:Sim G N s a w):Sim G N D a w/\Ext s.heap w D.heap w:=by
 obtain⟨h1,h2,h3,h4⟩:=h w C.heap C.glob;exact⟨⟨C.size,C.defers.less h2,fun i hi=>h4 i _ (C.tmps i hi),h1,h3,C.base⟩,⟨rfl,rfl,rfl,Nat.le_refl _,fun _ _ _=>rfl,fun b hb=> .inl (h2 b hb),fun _ _=>rfl,fun _ _ _=>rfl⟩⟩
theorem Dg5 {e:Exit} {C:Act} {w' w1:World} {s1:DS} (h:Sg G N Q s1 w1 e C w') (D:Ext s0.heap w0 s1.heap w1):Sg G N Q s0 w0 e C w':=by
 obtain⟨e',s',hq,hx,hS,E⟩:=h;exact⟨e',s',hq,hx,hS,D.trans E⟩
theorem Dg6 {F:Fence} {n:Nat} {c:Code} {ι:Type} (I:ι->DS->Prop) (μ:ι->Nat) (i:ι) (S:Sim G N s a w) (U:I i s) (V:Ext s0.heap w0 s.heap w)
  (W: ∀i s a w,Sim G N s a w->I i s->c.wpIn F n P (Sg G N (Bb5 (fun s1=> ∃j s2,Rz G s1 s2/\I j s2/\μ j<μ i) Q) s w) a w):(Code.loop c).wpIn F n P (Sg G N Q s0 w0) a w:=by
 intro b k cs X hb hr;have key: ∀n i s a w,μ i=n->I i s->Sim G N s a w->Ext s0.heap w0 s.heap w->
   ∃e a' w',Sg G N Q s0 w0 e a' w'/\ArrivesIn (Machine.fenced P F) P (lone (b.atR a (.code c:: .inLoop c::k)) cs w) b k cs e a' w':=by
  intro n
  induction n using Nat.strongRecOn with
  | _ n ih=>
   intro i s a w hn U S V;obtain⟨e,D,E,hq,C⟩:=W i s a w S U b (.inLoop c::k) cs X hb hr;obtain⟨e',O,J,Y,L,Z⟩:=hq;have M:=V.trans Z;cases Y with
   | normal=>
    obtain⟨j,s₂,hg,aa,ab⟩:=J;obtain⟨ac,ad⟩:=hg.sim L;obtain⟨e₂,a₂,w₂,ae,af⟩:=ih (μ j) (hn▸ab) j s₂ D E rfl aa ac (M.trans ad);exact⟨e₂,a₂,w₂,ae, .of_steps (StepsIn.trans C (.one (fenced_calm hb hr rfl) stepR_inLoop)) af⟩
   | exit id=>exact⟨_,D,E,⟨_,O,J, .exit id,L,M⟩, .pass (x:= .inLoop c) rfl (fun _ _=> .inl (by simp)) C⟩
   | goto l=>exact⟨_,D,E,⟨_,O,J, .goto l,L,M⟩, .pass (x:= .inLoop c) rfl (fun _ _=> .inl (by simp)) C⟩
   | ret=>exact⟨_,D,E,⟨_,O,J, .ret,L,M⟩, .pass (x:= .inLoop c) rfl (fun _ _=> .inl (by simp)) C⟩
   | panic d v hv=>exact⟨_,D,E,⟨_,O,J, .panic d v hv,L,M⟩, .pass (x:= .inLoop c) rfl (fun _ _=> .inl (by simp)) C⟩
 obtain⟨e,a',w',hq,C⟩:=key _ i s a w rfl U S V;exact⟨e,a',w',hq, .of_steps (.one (fenced_calm hb hr rfl) stepR_loop) C⟩
theorem Ah4 {F:Fence} {n:Nat} {c:Code} {J L:Exit->Act->World->Prop} (h:c.wpIn F n P J a w) (M: ∀e a w,J e a w->(∀l,e≠ .goto l)/\L e a w):(Code.scope c).wpIn F n P L a w:=by
 intro b k cs O hb hr;have h0:(lone (b.atR a (.code (.scope c)::k)) cs w).fenced P F:=fenced_calm hb hr rfl;have s0:step P (lone (b.atR a (.code (.scope c)::k)) cs w)= .next (lone (b.atR a (.code c:: .inScope c::k)) cs w):=step_lone_go (by simp [stepG,stepG.exec,Frame.atR])
 have s1: ∀(a:Act) (w:World),step P (lone (b.atR a (.inScope c::k)) cs w)= .next (lone (b.atR a k) cs w):=fun a w=>step_lone_go (by simp [stepG,stepG.exec,Frame.atR])
 obtain⟨e,D,E,S,C⟩:=h b (.inScope c::k) cs O hb hr;obtain⟨hg,I⟩:=M _ _ _ S;cases e with
 | normal=>exact⟨.normal,D,E,I, .head h0 s0 (StepsIn.trans C (.one (fenced_calm hb hr rfl) (s1 _ _)))⟩
 | exit id=>
  have hx:exitTo id (.inScope c::k)=exitTo id k:=by simp [exitTo]
  exact⟨.exit id,D,E,I,fun k' hk=> .head h0 s0 (C.1 k' (by rw[hx];exact hk)),
   fun U hk=>let ⟨k₁,h1,h2⟩:=C.2 U (by rw[hx];exact hk);⟨k₁,h1, .head h0 s0 h2⟩⟩
 | goto l=>exact absurd rfl (hg l)
 | ret=>exact⟨_,D,E,I, .of_steps (.one h0 s0) C⟩
 | panic ch=>exact⟨_,D,E,I, .of_steps (.one h0 s0) C⟩
 | outgrown=>exact⟨_,D,E,I, .of_steps (.one h0 s0) C⟩
def Zm:Code->Bool
 | .seq a b=>Zm a&&Zm b
 | .cond _ a b=>Zm a&&Zm b
 | .block _ c=>Zm c
 | .loop c=>Zm c
 | .scope c=>Zm c
 | .rangeFunc _ _ _ _=>false
 | _=>true
theorem Hj {N:Nat} {F:Fence} {n:Nat} {B:Base} (E:FOk F): ∀(c:Code),Is N c=true->(F=Fence.wide/\B.still=false\/Zm c=true)-> ∀(Q:DExit->DS->Prop) (s:DS),dwp P G N c Q s->
  ∀(a:Act) (w:World),Sim G ⟨N,B⟩ s a w->c.wpIn F n P (fun e a' w'=> ∃e' s',Q e' s'/\RelX w' s'.heap e' e/\Sim G ⟨N,B⟩ s' a' w'/\Ext s.heap w s'.heap w') a w
 | .skip,_,_,Q,s,h=>fun a w hS=>wpIn_skip ⟨.normal,s,h, .normal,hS,Ext.refl _ _⟩
 | .label l,_,_,Q,s,h=>fun a w hS=>wpIn_label ⟨.normal,s,h, .normal,hS,Ext.refl _ _⟩
 | .region id ops false,hok,_,Q,s,h=>fun a w hS=>by
  have O:ops.toList.all (Lz N)=true:=by
   have:ops.all (Lz N)=true:=hok;rw[Bj9] at this;exact this
  have h1:=Aj3 (n:=n) E (P:=P) (G:=G) (N:=⟨N,B⟩) (s0:=s) (w0:=w) (Q:=Q) ops.toList O ops.toList O s a w hS (Ext.refl _ _) h;have:ops=ops.toList.toArray:=by simp
  rw[this];exact wpIn_region_lit h1
 | .region id ops true,_,_,Q,s,h=>fun a w hS=>h F n B E a w hS
 | .seq x y,hok,hfl,Q,s,h=>fun a w hS=>by
  simp only[Is,jF] at hok;simp only[Zm,jF] at hfl;refine wpIn_seq (wpIn_mono (Hj E x hok.1 (hfl.imp id (·.1)) _ s h a w hS) ?_);rintro e a' w' ⟨e',s',C,J,D,hE⟩;cases J with
  | normal=>exact wpIn_mono (Hj E y hok.2 (hfl.imp id (·.2)) Q s' C a' w' D) fun e a w he=>Dg5 he hE
  | exit id=>exact⟨_,s',C, .exit id,D,hE⟩
  | goto l=>exact⟨_,s',C, .goto l,D,hE⟩
  | ret=>exact⟨_,s',C, .ret,D,hE⟩
  | panic d v hv=>exact⟨_,s',C, .panic d v hv,D,hE⟩
 | .cond c x y,hok,hfl,Q,s,h=>fun a w hS=>by
  simp only[Is,jF] at hok;simp only[Zm,jF] at hfl;have r:=Bs hS hok.1.1;simp only[dwp] at h;cases hv:dev G s.env c<;>rw[hv] at h r<;>try exact h.elim
  rename_i b
  simp only[Rel] at r;cases b
  ·exact wpIn_cond_false r (Hj E y hok.2 (hfl.imp id (·.2)) Q s h a w hS)
  ·exact wpIn_cond_true r (Hj E x hok.1.2 (hfl.imp id (·.1)) Q s h a w hS)
 | .block id c,hok,hfl,Q,s,h=>fun a w hS=>by
  simp only[Is] at hok;simp only[Zm] at hfl;refine wpIn_block (wpIn_mono (Hj E c hok hfl _ s h a w hS) ?_);rintro e a' w' ⟨e',s',C,J,D,hE⟩;cases J with
  | normal=>exact⟨_,s',C, .normal,D,hE⟩
  | exit L=>
   simp only[Exit.inBlock];simp only[Cf5] at C;by_cases M:L=id
   ·rw[if_pos M];simp only[M,decide_true,Cf4] at C;exact⟨_,s',C, .normal,D,hE⟩
   ·rw[if_neg M];simp only[M,decide_false,Cf4] at C;exact⟨_,s',C, .exit L,D,hE⟩
  | goto l=>exact⟨_,s',C, .goto l,D,hE⟩
  | ret=>exact⟨_,s',C, .ret,D,hE⟩
  | panic d v hv=>exact⟨_,s',C, .panic d v hv,D,hE⟩
 | .loop c,hok,hfl,Q,s,h=>fun a w hS=>by
  simp only[Is] at hok;simp only[Zm] at hfl;obtain⟨ι,I,μ,⟨i,s',hg,S⟩,U⟩:=h;obtain⟨D,V⟩:=hg.sim hS;exact Dg6 I μ i D S V fun W s1 X w1 Y Z=>Hj E c hok hfl _ s1 (U W s1 Z) X w1 Y
 | .rangeFunc _ _ _ _,_,hfl,_,_,h=>fun a w hS=>by
  rcases hfl with⟨rfl,hst⟩ | hfl
  ·exact h n B hst a w hS
  ·cases hfl
 | .exit id,_,_,Q,s,h=>fun a w hS=>wpIn_exit ⟨.exit id,s,h, .exit id,hS,Ext.refl _ _⟩
 | .scope c,hok,hfl,Q,s,h=>fun a w hS=>by
  simp only[Is] at hok;simp only[Zm] at hfl;refine Ah4 (Hj E c hok hfl _ s h a w hS) ?_;rintro e a' w' ⟨e',s',C,J,D,hE⟩;cases J with
  | normal=>exact⟨by simp,_,s',C, .normal,D,hE⟩
  | exit L=>exact⟨by simp,_,s',C, .exit L,D,hE⟩
  | goto l=>exact C.elim
  | ret=>exact⟨by simp,_,s',C, .ret,D,hE⟩
  | panic d v hv=>exact⟨by simp,_,s',C, .panic d v hv,D,hE⟩
 | .goto l,_,_,Q,s,h=>fun a w hS=>wpIn_goto ⟨.goto l,s,h, .goto l,hS,Ext.refl _ _⟩
 | .ret,_,_,Q,s,h=>fun a w hS=>wpIn_ret ⟨.ret,s,h, .ret,hS,Ext.refl _ _⟩
 | .refuse _,_,_,_,_,h=>h.elim
theorem Dg7 {N:Nat} (c:Code) (C:Is N c=true) (Q:DExit->DS->Prop) (s:DS) (h:dwp P G N c Q s):Gq8 P G N c Q s:=
 fun _ _ hst a w hS=>Hj (.inl rfl) c C (.inl ⟨rfl,hst⟩) Q s h a w hS
def Dg8 (size:Nat) (cs:List DVal) (off:Nat):Option Bool->Option DVal
 | some true=>if off+size<=cs.length then some (.agg ((cs.drop off).take size)) else none
 | some false=>cs[off]?
 | none=>none
def Ao7 (size:Nat) (ag:Option Bool) (off:Nat):Option DObj->Option DVal
 | some (.cells cs _)=>Dg8 size cs off ag
 | _=>none
def Eq9 (size:Nat) (ag:Option Bool) (H:Ac):DVal->Option DVal
 | .optr r off=>Ao7 size ag off (H r)
 | _=>none
def Cr1 (P:Program) (s:DS):ResultVar->Option DVal
 | .tmp t=>some (s.env t)
 | .cell x t=>Eq9 (P.cellsOf t) (Eb P t) s.heap (s.env x)
def Gc1:Option DVal->Option (List DVal)->Option (List DVal)
 | some d,some ds=>some (d::ds)
 | _,_=>none
def Ro (P:Program) (s:DS):List ResultVar->Option (List DVal)
 | []=>some []
 | r::rs=>Gc1 (Cr1 P s r) (Ro P s rs)
def Nj:Option (List DVal)->Option DVal
 | some [d]=>some d
 | some ds=>some (.tuple ds)
 | none=>none
def Fa (R:DEnd->Ac->Prop) (v:DVal) (H:Ac):Prop:=
 ∃v' H',(∀w,Bm w H->Bm w H'/\(∀b,H' b≠none->H b≠none)/\ ∀x,Rel w H v x->Rel w H' v' x)/\R (.ret v') H'
def Vd (R:DEnd->Ac->Prop) (v:DVal) (H:Ac):Prop:=
 ∃v' H',(∀w,Bm w H->Bm w H'/\(∀b,H' b≠none->H b≠none)/\ ∀x,Rel w H v x->Rel w H' v' x)/\R (.panic v') H'
def By9 (R:DEnd->Ac->Prop) (H:Ac):Option DVal->Prop
 | some v=>Fa R v H
 | none=>False
def Er0 (P:Program) (rs:List ResultVar) (R:DEnd->Ac->Prop):DExit->DS->Prop
 | .normal,s=>By9 R s.heap (Nj (Ro P s rs))
 | .ret,s=>By9 R s.heap (Nj (Ro P s rs))
 | .panic v,s=>Vd R v s.heap
 | _,_=>False
def Ts:List DVal->Nat->(Nat->DVal)
 | [],_=>fun _=>Ez
 | x::xs,k=>upd (Ts xs (k+1)) k x
def Bk8 (N:Nat):ResultVar->Bool
 | .tmp t=>decide (t<N)
 | .cell x _=>decide (x<N)
theorem Fa.refl {R:DEnd->Ac->Prop} {v:DVal} {H:Ac} (h:R (.ret v) H):Fa R v H:=⟨v,H,fun w C=>⟨C,fun b hb=>hb,fun x hx=>hx⟩,h⟩
theorem Vd.refl {R:DEnd->Ac->Prop} {v:DVal} {H:Ac} (h:R (.panic v) H):Vd R v H:=⟨v,H,fun w C=>⟨C,fun b hb=>hb,fun x hx=>hx⟩,h⟩
theorem Er1 (C:Sim G N s a w) {r:ResultVar} (hr:Bk8 N r=true) {d:DVal} (h:Cr1 P s r=some d):
  ∃x,((match r with
  | .tmp t=>pure (a.tmps.getD t undef)
  | .cell x t=>do loadVar t (←asAddr (a.tmps.getD x undef))):Sem Value).run P w= .ok x w/\Rel w s.heap d x:=by
 cases r with
 | tmp t=>
  simp only[Cr1] at h;cases h
  exact⟨_,rfl,C.tmps t (by simpa [Bk8] using hr)⟩
 | cell x t=>
  simp only[Cr1] at h
  have D:=C.tmps x (by simpa [Bk8] using hr)
  cases hv:s.env x<;>rw[hv] at h D<;>simp only[Eq9] at h<;>try (cases h;done)
  rename_i r0 off
  simp only[Rel] at D
  cases hh:s.heap r0 with
  | none=>rw[hh] at h;cases h
  | some ob=>
   cases ob with
   | loop=>rw[hh] at h;simp only[Ao7] at h;cases h
   | iter=>rw[hh] at h;simp only[Ao7] at h;cases h
   | map=>rw[hh] at h;simp only[Ao7] at h;cases h
   | cells cs e=>
    rw[hh] at h
    simp only[Ao7] at h
    obtain⟨xs,hl,E⟩:=C.heap.holds hh
    have M:=hl.length
    have O: ∀z,(do loadVar t (←asAddr z):Sem Value)=(do let ad<-asAddr z;loadVar t ad):=fun z=>rfl
    simp only[D,asAddr]
    cases hag:Eb P t with
    | none=>rw[hag] at h;cases h
    | some I=>
     rw[hag] at h
     cases I with
     | true=>
      simp only[Dg8] at h
      split at h<;>try (cases h;done)
      rename_i hle
      cases h
      have hx:Nr w r0 off ((xs.drop off).take (P.cellsOf t)):=by
       have:=(E.drop (n:=off)).take (n:=P.cellsOf t)
       simpa using this
      have J:((xs.drop off).take (P.cellsOf t)).length=P.cellsOf t:=by
       simp;omega
      refine⟨_,by simp [Yy hag hx J];rfl, ?_⟩
      simp only[Rel]
      exact⟨_,rfl,(hl.drop off).take _⟩
     | false=>
      simp only[Dg8] at h
      obtain⟨x,hx,L⟩:=hl.get h
      have:=E off x hx
      rw[Nat.zero_add] at this
      exact⟨x,by simp [Yz hag this],L⟩
theorem Cr2 (E:Sim G N s a w): ∀ {C:List ResultVar},C.all (Bk8 N)=true-> ∀ {D:List DVal},Ro P s C=some D->
  ∃xs,(C.mapM (fun r=>(match r with
  | .tmp t=>pure (a.tmps.getD t undef)
  | .cell x t=>do loadVar t (←asAddr (a.tmps.getD x undef)):Sem Value))).run P w= .ok xs w/\Az w s.heap D xs
 | [],_,D,h=>by
  simp only[Ro] at h;cases h
  exact⟨[],by simp,by simp [Az]⟩
 | r::C,hok,D,h=>by
  simp only[List.all_cons,jF] at hok
  simp only[Ro] at h
  cases h1:Cr1 P s r with
  | none=>rw[h1] at h;cases h
  | some d=>
   cases h2:Ro P s C with
   | none=>rw[h1,h2] at h;cases h
   | some ds'=>
    rw[h1,h2] at h
    simp only[Gc1] at h;cases h
    obtain⟨x,hx,hr⟩:=Er1 (P:=P) E hok.1 h1
    obtain⟨xs,I,J⟩:=Cr2 E hok.2 h2
    refine⟨x::xs, ?_,by simp only[Az];exact⟨x,xs,rfl,hr,J⟩⟩
    simp only[List.mapM_cons,Sem.run_bind,hx,I,Result.andThen_ok,Sem.run_pure]
theorem Bb8 (D:Sim G N s a w) {fn:Func} (E:fn.results.toList.all (Bk8 N)=true) {d:DVal} (h:Nj (Ro P s fn.results.toList)=some d):
  ∃x,(results fn a.tmps).run P w= .ok x w/\Rel w s.heap d x:=by
 cases h2:Ro P s fn.results.toList with
 | none=>rw[h2] at h;cases h
 | some ds=>
  rw[h2] at h
  obtain⟨xs,I,C⟩:=Cr2 (P:=P) D E h2
  have J:(results fn a.tmps).run P w= .ok (if h:xs.toArray.size=1 then xs.toArray[0] else .tuple xs.toArray) w:=by
   unfold results
   rw[Array.mapM_eq_mapM_toList]
   simp only[Sem.run_bind,Sem.run_map]
   have:(fn.results.toList.mapM (fun r=>(match r with
    | .tmp t=>pure (a.tmps.getD t undef)
    | .cell x t=>do loadVar t (←asAddr (a.tmps.getD x undef)):Sem Value))).run P w= .ok xs w:=I
   first
    | rw[this]
    | (show((Sem.run P (fn.results.toList.mapM (fun r=>(match r with
    | .tmp t=>pure (a.tmps.getD t undef)
    | .cell x t=>do loadVar t (←asAddr (a.tmps.getD x undef)):Sem Value))) w).andThen _).andThen _=_;rw[this])
   rfl
  have hl:=C.length
  refine⟨_,J, ?_⟩
  cases ds with
  | nil=>
   simp only[Nj] at h;cases h
   simp only[Az] at C;subst C
   simp only[Rel]
   exact⟨#[],rfl,by simp [Az]⟩
  | cons M ds=>
   cases ds with
   | nil=>
    simp only[Nj] at h;cases h
    simp only[Az] at C
    obtain⟨y,ys,rfl,L,rfl⟩:=C
    simpa using L
   | cons O ds=>
    simp only[Nj] at h;cases h
    have:xs.toArray.size≠1:=by simp at hl⊢;omega
    rw[dif_neg this]
    simp only[Rel]
    exact⟨_,rfl,C⟩
theorem Aw8: ∀(args:List DVal) (k i:Nat),Ts args k (k+i)=args.getD i Ez
 | [],k,i=>rfl
 | x::xs,k,0=>by simp [Ts,upd]
 | x::xs,k,i+1=>by
  simp only[Ts,upd];rw[if_neg (by omega)];have:=Aw8 xs (k+1) i;rw[show k+(i+1)=k+1+i by omega,this];simp
def Gr3 (fn:Func) (n:Nat):Bool:=
 decide (n<=fn.ntmps)&&(match fn.body with | some c=>Is fn.ntmps c | none=>false)&&fn.results.toList.all (Bk8 fn.ntmps)
theorem Ed0 {w:World} {D:Nat} (C:w.heap[D]? =some (.deferred (some []))) (H:Ac):Lasts H w H (w.putObj D (.deferred none)):=Xo C rfl rfl H
theorem Fn2 {w:World} {D:Nat} {H:Ac} (C:w.heap[D]? =some (.deferred (some []))) (E:Bm w H) (I:H D=none):Bm (w.putObj D (.deferred none)) H:=Dd9 C rfl rfl E I
theorem Fn3 {w w0:World} {D:Nat} {H H0:Ac} (E:w.heap[D]? =some (.deferred (some []))) (I:w0.heap.size<=D) (C:Ext H0 w0 H w):Ext H0 w0 H (w.putObj D (.deferred none)):=by
 refine⟨C.os,C.tape,C.output,by simpa [World.putObj] using C.size,fun b hb hn=> ?_,C.own,fun b hb=> ?_,fun a ha hn=> ?_⟩
 ·rw[World.putObj_heap_other (by omega)];exact C.block b hb hn
 ·rw[World.putObj_heap_other (by omega)];exact C.keep b hb
 ·rw[<-C.fz a ha hn];exact By6 E rfl rfl a
theorem Sim.leaveT {F:Fence} {n:Nat} {H0:Ac} {w0:World} {fn:Func} {tmps:Array Value} {R:Ending->World->Prop} {u:FrameMode} {T:List Deferred} (S:u≠ .run) (L:N.base=⟨w0.heap.size,T,false⟩) {a:Act}:
  ∀(C:List Nat) (w:World),C.Nodup->(∀D∈C,(N.base.b<=D/\N.base.still=false)/\w.heap[D]? =some (.deferred (some []))/\s.heap D=none)->
   Sim G N s { tmps:=a.tmps,defers:=C.map (fun D=>({ target:= .collected D,args:= #[] }:Deferred))++T } w->Ext H0 w0 s.heap w->
   (∀w',Sim G N s { tmps:=a.tmps,defers:=T } w'->Ext H0 w0 s.heap w'->Lasts s.heap w s.heap w'->LeavesInM F n P fn tmps R T u w')->
   LeavesInM F n P fn tmps R (C.map (fun D=>({ target:= .collected D,args:= #[] }:Deferred))++T) u w
 | [],w,_,_,hS,hE,h=>h w hS hE (Ext.refl _ _).lasts
 | D::C,w,h2,h3,hS,hE,h=>by
  have Z:N.base.b=w0.heap.size:=by rw[L]
  have U:N.base.late=T:=by rw[L]
  obtain⟨g1,I,V⟩:=h3 D (by simp);have hl:=Ed0 I s.heap;have M:=List.nodup_cons.1 h2;have h4: ∀E∈C,(N.base.b<=E/\N.base.still=false)/\(w.putObj D (.deferred none)).heap[E]? =some (.deferred (some []))/\s.heap E=none:=fun E J=>⟨(h3 E (by simp [J])).1,by
   have W:E≠D:=fun e=>M.1 (by rw[<-e];exact J);rw[World.putObj_heap_other W];exact(h3 E (by simp [J])).2.1,(h3 E (by simp [J])).2.2⟩
  refine⟨S, .inl ⟨D,_,rfl,run_takeDeferred I,Sim.leaveT S L C _ M.2 h4 ?_ (Fn3 I (by omega) hE) fun w' X Y O=>h w' X Y ?_⟩⟩
  ·exact⟨hS.size,⟨C,by rw[U],M.2,h4⟩,
    fun i hi=>Rel.lasts hl _ _ (hS.tmps i hi),Fn2 I hS.heap V,hS.glob.lasts hl,by simpa [World.putObj] using hS.base⟩
  ·exact⟨fun b i x hb hc=>O.cell b i x hb (hl.cell b i x hb hc).2,Nat.le_trans hl.size O.size,fun b hb=>by rw[O.keep b (Nat.lt_of_lt_of_le hb hl.size),hl.keep b hb]⟩
theorem Sim.leaveL {F:Fence} {n:Nat} {H0:Ac} {w0:World} {fn:Func} {tmps:Array Value} {R:Ending->World->Prop} {u:FrameMode} {T:List Deferred} (I:u≠ .run) (C:N.base=⟨w0.heap.size,T,false⟩) {a:Act}
  (D:List Deferred) (w:World) (E:Sim G N s { tmps:=a.tmps,defers:=D } w) (J:Ext H0 w0 s.heap w)
  (h: ∀w',Sim G N s { tmps:=a.tmps,defers:=T } w'->Ext H0 w0 s.heap w'->Lasts s.heap w s.heap w'->LeavesInM F n P fn tmps R T u w'):LeavesInM F n P fn tmps R D u w:=by
 obtain⟨L,h1,h2,h3⟩:=E.defers;have M:N.base.late=T:=by rw[C]
 rw[M] at h1;dsimp only at h1;subst h1;exact Sim.leaveT I C L w h2 h3 E J h
theorem Sim.leave {F:Fence} {n:Nat} {H0:Ac} {w0:World} {fn:Func} {tmps:Array Value} {R:Ending->World->Prop} {u:FrameMode} (D:u≠ .run) (E:N.base=⟨w0.heap.size,[],false⟩) {a:Act}:
  ∀(C:List Deferred) (w:World),Sim G N s { tmps:=a.tmps,defers:=C } w->Ext H0 w0 s.heap w->
   (∀w',Sim G N s { tmps:=a.tmps,defers:= [] } w'->Ext H0 w0 s.heap w'->Lasts s.heap w s.heap w'->LeavesIn F n P fn tmps R [] u w')->LeavesInM F n P fn tmps R C u w:=
 fun C w hS hE h=>Sim.leaveL (T:= []) D E C w hS hE h
theorem Ab {f:FuncId} {fn:Func} {c:Code} {args:List DVal} {H:Ac} {R:DEnd->Ac->Prop} (hf:P.funcs[f]? =some fn)
  (V: ∀vs w,(callFunc f vs).run P w= .ok (.enter f vs) w) (hb:fn.body=some c) (hk:Gr3 fn args.length=true)
  (h:dwp P G fn.ntmps c (Er0 P fn.results.toList R) ⟨Ts args 0,H⟩):Ag P G f args H R:=by
 unfold Gr3 at hk;rw[hb] at hk;simp only[jF,decide_eq_true_eq] at hk;obtain⟨⟨hA,hok⟩,hres⟩:=hk;refine⟨V,fun vs w hv W hG=> ?_⟩;have hl:=hv.length;refine(callsIn_wide (n:=0)).1 (callsIn_of_wp_marks hf hb trivial ?_);have hS:Sim G ⟨fn.ntmps,⟨w.heap.size,[],false⟩⟩ ⟨Ts args 0,H⟩ { tmps:=vs.toArray++Array.replicate (fn.ntmps-vs.toArray.size) undef,defers:= [] } w:=by
  refine⟨by simp;omega,Dfs.nil _ _ _,fun i hi=> ?_,W,hG,Nat.le_refl _⟩;have h0:=Aw8 args 0 i;rw[Nat.zero_add] at h0;show Rel w H (Ts args 0 i) _;rw[h0];by_cases O:i<args.length
  ·have h1:args[i]? =some (args.getD i Ez):=by simp [List.getD,List.getElem?_eq_getElem O]
   obtain⟨x,hx,hr⟩:=hv.get h1;have:(vs.toArray++Array.replicate (fn.ntmps-vs.toArray.size) undef).getD i undef=x:=by
    have X:i<vs.length:=by omega
    rw[Array.getD_eq_getD_getElem?,Array.getElem?_append_left (by simpa using X)];simp [hx]
   rw[this];exact hr
  ·have h1:args.getD i Ez=Ez:=by simp [List.getD,List.getElem?_eq_none (Nat.le_of_not_lt O)]
   have:(vs.toArray++Array.replicate (fn.ntmps-vs.toArray.size) undef).getD i undef=undef:=by
    rw[Array.getD_eq_getD_getElem?,Array.getElem?_append_right (by simp;omega)];simp only[Array.getElem?_replicate];split<;>rfl
   rw[h1,this];exact Xl w H
 refine wpIn_mono (Dg7 c hok _ _ h 0 ⟨w.heap.size,[],false⟩ rfl _ w hS) ?_;rintro e a' w1 ⟨e',s',C,Y,S,U⟩;have fin: ∀(v:DVal),Nj (Ro P s' fn.results.toList)=some v->Fa R v s'.heap->
   LeavesInM Fence.wide 0 P fn a'.tmps (fun e w'=> ∃e' H',R e' H'/\RelE w' H' e' e/\Bm w' H'/\Ext H w H' w') a'.defers .returning w1:=by
  intro v hv Z;refine Sim.leave (a:=a') (by simp) rfl a'.defers w1 S U fun w' D E _=> ?_;obtain⟨x,hx,hr⟩:=Bb8 (P:=P) D hres hv;obtain⟨v',H',hg,I⟩:=Z;obtain⟨J,L,M⟩:=hg w' D.heap;exact⟨x,hx, .ret v',H',I, .ret v' x (M x hr),J,E.trans ⟨rfl,rfl,rfl,Nat.le_refl _,fun _ _ _=>rfl,fun b hb=> .inl (L b hb),fun _ _=>rfl,fun _ _ _=>rfl⟩⟩
 cases Y with
 | normal=>
  simp only[Er0] at C;cases hd:Nj (Ro P s' fn.results.toList) with
  | none=>rw[hd] at C;exact C.elim
  | some v=>rw[hd] at C;exact fin v hd C
 | ret=>
  simp only[Er0] at C;cases hd:Nj (Ro P s' fn.results.toList) with
  | none=>rw[hd] at C;exact C.elim
  | some v=>rw[hd] at C;exact fin v hd C
 | exit id=>exact C.elim
 | goto l=>exact C.elim
 | panic d v hv=>
  obtain⟨v',H',hg,I⟩:=C;refine Sim.leave (a:=a') (by simp) rfl a'.defers w1 S U fun w' D E hl=> ?_;obtain⟨J,L,M⟩:=hg w' D.heap;exact⟨.panic v',H',I, .panic v' v (M v (Rel.lasts hl _ _ hv)),J,E.trans ⟨rfl,rfl,rfl,Nat.le_refl _,fun _ _ _=>rfl,fun b hb=> .inl (L b hb),fun _ _=>rfl,fun _ _ _=>rfl⟩⟩
end
attribute [go_sem] Dg8.eq_1 Dg8.eq_2 Ao7.eq_1 Eq9.eq_1 Cr1.eq_1 Cr1.eq_2 Gc1.eq_1 Ro.eq_1 Ro.eq_2 Nj.eq_1 By9.eq_1 Er0.eq_1 Er0.eq_2 Er0.eq_3 Ts.eq_1 Ts.eq_2
theorem Dg9 (x y:DVal) (C:List DVal):Nj (some (x::y::C))=some (.tuple (x::y::C)):=rfl
theorem Dh0:Nj (some [])=some (.tuple []):=rfl
attribute [go_sem] Dg9 Dh0
theorem Ed1 {n:Int} (h1: -9223372036854775808<=n) (h2:n<=9223372036854775807):IntKind.wrap .i64 n=n:=IntWalk.i64_in n ⟨h1,h2⟩
abbrev dI (n:Int):DVal:= .int .i64 n
theorem Dr7.run {G:Nat->DVal} {C:(DExit->DS->Prop)->DK} {Q:DExit->DS->Prop} {s:DS} {ι:Type} (I:ι->(Nat->DVal)->Ac->Prop) (μ:ι->Nat) (i:ι) (h0:I i s.env s.heap)
  (hr: ∀i env heap,I i env heap->C (Bb5 (fun s1=> ∃j s2,Rz G s1 s2/\I j s2.env s2.heap/\μ j<μ i) Q) ⟨env,heap⟩):Dr7 G C Q s:=
 ⟨ι,fun i s=>I i s.env s.heap,μ,⟨i,s,Rz.refl s,h0⟩,fun i s h=>hr i s.env s.heap h⟩
theorem Gc2 {G:Nat->DVal} {ι:Type} {I:ι->(Nat->DVal)->Ac->Prop} {μ:ι->Nat} {s:DS} {m:Nat} (j:ι) (h:I j s.env s.heap) (hm:μ j<m): ∃j s2,Rz G s s2/\I j s2.env s2.heap/\μ j<m:=⟨j,s,Rz.refl s,h,hm⟩
theorem Cr3 {α:Type} (f:α->DVal) (l:List α) (i:Nat) (h:i<l.length):(l.map f)[i]? =some (f l[i]):=by simp [h]
theorem Gg4 {a b:Prop} (h:a):(a/\b)=b:=by simp [h]
theorem Er2 {p:Prop} [Decidable p] (h:p):decide p=true:=by simp [h]
theorem Ed2 {p:Prop} [Decidable p] (h: ¬p):decide p=false:=by simp [h]
theorem Am {α:Type} (f:Nat->α) (i j:Nat) (v:α) (h:j≠i):upd f i v j=f j:=by simp [upd,h]
end Go.Dl
