/- The data level and the contracts of the functions that are reached (part 2). -/
import Derived.Laws.BytesString
import Derived.Laws.RangeString
import Derived.Test.YtddbdpcgikmiaaaGreatDoorPia
set_option linter.unusedSimpArgs false
set_option linter.unusedVariables false
set_option linter.unusedSectionVars false
set_option maxHeartbeats 400000000
-- Dt
namespace Go.Dl
open Go
section
variable {P:Program} {G:Nat->DVal} {N:Fr}
variable {o:Oper} {s:DS} {a:Act} {w:World} {K:DK} {Q:DExit->DS->Prop} {Qx:Exit->Act->World->Prop}
theorem Al0 {t:TypeId} (h:Fl (P.underlying t)=true): ∃d,P.underlying t=some d/\ ∀m,d≠ .interface m:=by
 cases hu:P.underlying t with
 |none=>rw[hu] at h;cases h
 |some d=>refine⟨d,rfl,λm e=> ?_⟩;rw[hu,e] at h;cases h
theorem Cl9 (D:Sim G N s a w) (J:Cx N o.dst=true) {x:Operand} {L t:TypeId} {ok:Bool} (hx:Bx N x=true) (he:o.op= .typeAssert x L t ok)
  (h:Qq P t ok o.dst (Fl (P.underlying t)) (dev G s.env x) K s):PV P o s a w K:=by
 have E:=Bo D hx;generalize hn:Fl (P.underlying t)=nb at h;generalize dev G s.env x=dx at h E;unfold Qq at h;split at h
 ·rename_i C W
  obtain⟨d,hu,M⟩:=Al0 hn;simp only[Rel] at E;obtain⟨y,hp,U⟩:=E;have I:(execOp a.eval o).run P w=((Instr.typeAssert (.iface C y) L t ok).run P w).andThen λv w'=> .ok (.value v) w':=by
   simp [execOp,he,hp]
  have V:(Instr.typeAssert (.iface C y) L t ok).run P w=if C=t then .ok (if ok then .tuple #[y,.bool true] else y) w else((if ok then(do pure (.tuple #[<-zeroValue t,.bool false])) else runtimePanic (.typeAssertion (some L) (some C) t "")):Sem Value).run P w:=by
   simp only[Instr.typeAssert,Sem.run_bind,run_underlying hu,Result.andThen_ok];cases d<;>first|exact absurd rfl (M _)|(by_cases e:C=t<;>simp [e])
  by_cases e:C=t
  ·subst e;simp only[decide_true] at h;rw[V,if_pos rfl] at I;cases ok
   ·exact pvI D J I U h
   ·refine pvI D J I ?_ h;simp only[Rel];exact⟨_,rfl,by simp only[Ar,Rel];exact⟨_,_,rfl,U,_,_,rfl,rfl,rfl⟩⟩
  ·simp only[e,decide_false] at h;cases ok
   ·exact h.elim
   ·simp only[Az0] at h;cases hz:Bj P t with
    |none=>rw[hz] at h;exact h.elim
    |some z=>
     rw[hz] at h;obtain⟨i,v,hi,O,rfl⟩:=Od hz;(have S:(zeroValue t).run P w= .ok v w:=by simp [zeroValue,Sd hi,O]);rw[V,if_neg e] at I;refine pvI D J (x:= .tuple #[v,.bool false]) (by rw[I];simp [S]) ?_ h;simp only[Rel];exact⟨_,rfl,by simp only[Ar,Rel];exact⟨_,_,rfl,Hg w s.heap v,_,_,rfl,rfl,rfl⟩⟩
 ·obtain⟨d,hu,M⟩:=Al0 hn;obtain⟨rfl,h⟩:=h;simp only[Rel] at E;cases hz:Bj P t with
  |none=>rw[hz] at h;exact h.elim
  |some z=>
   rw[hz] at h;obtain⟨i,v,hi,O,rfl⟩:=Od hz;(have S:(zeroValue t).run P w= .ok v w:=by simp [zeroValue,Sd hi,O]);refine pvI D J (x:= .tuple #[v,.bool false]) ?_ ?_ h
   ·simp only[execOp,he,E,Instr.typeAssert,Sem.run_bind,run_underlying hu,Result.andThen_ok];cases d<;>first|exact absurd rfl (M _)|simp [S]
   ·simp only[Rel];exact⟨_,rfl,by simp only[Ar,Rel];exact⟨_,_,rfl,Hg w s.heap v,_,_,rfl,rfl,rfl⟩⟩
 ·exact h.elim
theorem It {c:Call} {b:Builtin} (he:o.op= .call c) (y:c.callee= .builtin b):
  execOp a.eval o=builtin b c.argTypes o.type (c.args.map λ| .const _=>true|_=>false) (c.args.map a.eval):=by
 simp only[execOp,he,resolve,y];rfl
theorem As2 {xs:List Operand} {d:DVal} (h:Hq G s.env xs= [d]): ∃x,xs= [x]/\dev G s.env x=d:=by
 cases xs with
 |nil=>simp [Hq] at h
 |cons x xs=>cases xs with
  |nil=>simp [Hq] at h;exact⟨x,rfl,h⟩
  |cons y ys=>simp [Hq] at h
theorem Cw4 {xs:List Operand} {d e:DVal} (h:Hq G s.env xs= [d,e]): ∃x y,xs= [x,y]/\dev G s.env x=d/\dev G s.env y=e:=by
 cases xs with
 |nil=>simp [Hq] at h
 |cons x xs=>cases xs with
  |nil=>simp [Hq] at h
  |cons y ys=>cases ys with
   |nil=>simp [Hq] at h;exact⟨x,y,rfl,h.1,h.2⟩
   |cons z C=>simp [Hq] at h
theorem Hb7 (C:Sim G N s a w) (E:Cx N o.dst=true) {c:Call} {x:Operand} (hx:Bx N x=true) (he:o.op= .call c) (J:c.callee= .builtin .len) (L:c.args.toList= [x]) {t:TypeId} (M:c.argTypes.toList= [t])
  (h:dLen o.dst (P.underlying t) (dev G s.env x) K s):PV P o s a w K:=by
 have y:=Bo C hx;have hm:c.args.map a.eval= #[a.eval x]:=by apply Array.ext';simp [L]
 have D:=It (a:=a) he J;rw[hm] at D;have I:c.argTypes[0]? =some t:=by rw[<-Array.getElem?_toList,M];rfl
 generalize hu:P.underlying t=u at h;generalize dev G s.env x=dx at h y;unfold dLen at h;split at h
 ·simp only[Rel] at y;exact Yb C E (by rw[D];simp [builtin,Builtin.len_,I,run_underlying hu,y,goInt];rfl) h
 ·exact Yb C E (by rw[D];simp [builtin,Builtin.len_,I,run_underlying hu,goInt]) h
 ·simp only[Rel] at y;exact Yb C E (by rw[D];simp [builtin,Builtin.len_,I,run_underlying hu,y,goInt]) h
 ·simp only[Rel] at y;obtain⟨_,_,y,_⟩:=y;exact Yb C E (by rw[D];simp [builtin,Builtin.len_,I,run_underlying hu,y,goInt]) h
 ·simp only[Rel] at y;obtain⟨_,_,y,_⟩:=y;exact Yb C E (by rw[D];simp [builtin,Builtin.len_,I,run_underlying hu,y,goInt]) h
 ·exact h.elim
theorem Bg1 {H:Ab} (isMax:Bool): ∀(ys:List DVal) (vs:List Value) (x:DVal) (v:Value) (r:DVal),Ar w H ys vs->Rel w H x v->Ac4 isMax (some x) ys=some r->
  ∃u,(vs.foldlM (if isMax then Builtin.max2 else Builtin.min2) v).run P w= .ok u w/\Rel w H r u
 | [],vs,x,v,r,hl,hx,h=>by
  simp only[Ar] at hl;subst hl;simp only[Ac4] at h;cases h;exact⟨v,by simp,hx⟩
 |y::ys,vs,x,v,r,hl,hx,h=>by
  simp only[Ar] at hl;obtain⟨u,us,rfl,C,hl⟩:=hl;simp only[Ac4] at h;cases hm:dMM isMax x y with
  |none=>rw[hm] at h;cases ys<;>cases h
  |some z=>
   rw[hm] at h;unfold dMM at hm;split at hm<;>try (cases hm;done)
   rename_i k m k' n
   simp only[Rel] at hx C;subst hx;subst C;cases hm;obtain⟨q,hq,hr⟩:=Bg1 isMax ys us _ (.int k (if isMax then(if n>m then n else m) else(if n<m then n else m))) r hl (by simp [Rel]) h;refine⟨q, ?_,hr⟩;cases isMax
   ·simpa [Builtin.min2] using hq
   ·simpa [Builtin.max2] using hq
theorem Cw5 (D:Sim G N s a w) (E:Cx N o.dst=true) {c:Call} {isMax:Bool} (hx:c.args.toList.all (Bx N)=true) (he:o.op= .call c) (I:c.callee= .builtin (if isMax then .max else .min))
  (h:Wl o.dst (Ah8 isMax (Hq G s.env c.args.toList)) K s):PV P o s a w K:=by
 have y:=Tk D hx;have J:=It (a:=a) he I;obtain⟨d,C,L⟩:=Kc h;have hm:(c.args.map a.eval).toList=c.args.toList.map a.eval:=by simp
 generalize O:c.args.toList.map a.eval=vs at y hm;generalize Hq G s.env c.args.toList=ds at y C;cases ds with
 |nil=>cases C
 |cons x rest=>
  simp only[Ar] at y;obtain⟨v,us,rfl,M,hl⟩:=y;simp only[Ah8] at C;obtain⟨u,hu,hr⟩:=Bg1 (P:=P) isMax rest us x v d hl M C;refine pvI D E ?_ hr L;rw[J];cases isMax
  ·simp at hu;simp only[builtin,Builtin.min_,hm,Bool.false_eq_true,if_false,Sem.run_bind,hu,Result.andThen_ok,Sem.run_pure]
  ·simp at hu;simp only[builtin,Builtin.max_,hm,if_true,Sem.run_bind,hu,Result.andThen_ok,Sem.run_pure]
end
section
variable {P:Program} {G:Nat->DVal} {N:Fr}
variable {o:Oper} {s:DS} {a:Act} {w:World} {K:DK} {Q:DExit->DS->Prop} {Qx:Exit->Act->World->Prop}
def Dl1 (P:Program) (w:World) (size:Nat) (x:Value) (n:Nat) (vs:List Value):Prop:=
 (Builtin.lenOf x).run P w= .ok n w/\ ∀k,(Builtin.firstCells size n x).run P { w with drawn:=k }= .ok vs.toArray { w with drawn:=k }
theorem Ac6 {b off k:Nat} {xs:List Value} (h:Mp w b off xs):Mp { w with drawn:=k } b off xs:=h
theorem Dl2 {size:Nat} {y:DVal} {v:Value} {H:Ab} (J:Bg w H) (hv:Rel w H y v) {n:Nat} {C:List DVal} (hs:Ac0 size H y=some (n,C)) (hl:C.length=n*size):
  ∃vs,Dl1 P w size v n vs/\Ar w H C vs:=by
 unfold Ac0 at hs;split at hs
 ·cases hs;simp only[Rel] at hv;subst hv;exact⟨[],⟨by simp [Builtin.lenOf],λk=>by simp [Builtin.firstCells]⟩,by simp [Ar]⟩
 ·cases hs;simp only[Rel] at hv;obtain⟨E,cap,rfl,_,hc⟩:=hv;rcases hc with rfl|⟨b,o',xs,rfl,hc,hr⟩
  ·(have hz:n*size=0:=by simpa using hl.symm);refine⟨[],⟨by simp [Builtin.lenOf],λk=> ?_⟩,by simp [Ar]⟩;cases E with
   |none=>simp [Builtin.firstCells]
   |some E=>
    simp [Builtin.firstCells,hz,loadCells,loadCellsFrom]
  ·refine⟨xs.take (n*size),⟨by simp [Builtin.lenOf],λk=> ?_⟩,hr.take _⟩;have L:=hr.length;have D:(xs.take (n*size)).length=n*size:=by
    simp only[List.length_take] at hl⊢;omega
   have:=Ge (P:=P) (w:= { w with drawn:=k }) (Mp.take (n:=n*size) (Ac6 hc.holds));rw[D] at this;simpa [Builtin.firstCells] using this
 ·rename_i sz r off n' lo
  unfold Ce0 at hs;split at hs<;>try (cases hs;done)
  rename_i cs e hh
  cases hs;simp only[Rel] at hv;obtain⟨o',cap,rfl,_,V,M,_⟩:=hv;obtain⟨xs,hr,O⟩:=J.holds hh;by_cases S:cap=0
  ·(have hn:n=0:=by omega);subst hn;refine⟨[],⟨by simp [Builtin.lenOf],λk=>by simp [Builtin.firstCells,loadCells,loadCellsFrom]⟩, ?_⟩;simp [Ar]
  ·have:o'=off:=M.resolve_left S;subst this;refine⟨(xs.drop o').take (n*size),⟨by simp [Builtin.lenOf],λk=> ?_⟩,(hr.drop _).take _⟩;have L:=hr.length;have D:((xs.drop o').take (n*size)).length=n*size:=by
    simp only[List.length_take,List.length_drop] at hl⊢;omega
   (have h1:Mp w r o' (xs.drop o'):=by simpa using O.drop (n:=o'));have:=Ge (P:=P) (w:= { w with drawn:=k }) (Mp.take (n:=n*size) (Ac6 h1));rw[D] at this;simpa [Builtin.firstCells] using this
 ·rename_i l
  cases hs;simp only[Rel] at hv;subst hv;have U:(ByteArray.mk ⟨l⟩).size=l.length:=rfl;refine⟨l.map λb=> .int .u8 b.toNat,⟨by simp [Builtin.lenOf,U],λk=> ?_⟩, ?_⟩
  ·simp [Builtin.firstCells]
  ·refine Ar.mk (by simp) λi d x h1 h2=> ?_;simp only[List.getElem?_map,Option.map_eq_some_iff] at h1 h2;obtain⟨W,e1,rfl⟩:=h1;obtain⟨X,I,rfl⟩:=h2;rw[e1] at I;cases I;simp [Rel]
 ·cases hs
variable {t t' e:TypeId} {ty:TypeId} {i:TypeInfo} {z:Value} {u:TypeDesc}
theorem Ac7 (D:P.underlying t=some (.slice e)) (E:P.underlying t'=some u) (M:(∃e',u= .slice e')\/u= .string) (hi:P.info? e=some i) (hz:i.zero=some z)
  {b:Option Addr} {len cap n:Nat} {x:Value} {vs:List Value} (O:Dl1 P w i.size x n vs) (S:cap<len+n) (W:(len+n)*i.bytes<=35184372088832) (X:(len+n:Nat)<=35184372088832)
  {olds:List Value} (U: ∀k,(Builtin.firstCells i.size len (.slice b len cap)).run P { w with drawn:=k }= .ok olds.toArray { w with drawn:=k }):
  ∃c,len+n<=c/\(Builtin.append_ #[t,t'] ty #[.slice b len cap,x]).run P w=
   .ok (.slice (some ⟨w.heap.size,0,none⟩) (len+n) c) { w.alloc (.cells (olds.toArray++(vs.toArray++Builtin.zeroCells z.cells (c-(len+n)))) e) with drawn:=w.drawn+1 }:=by
 obtain⟨I,V⟩:=O;refine⟨(Question.appendCap (len+n) cap e).cut (w.tape w.drawn (.appendCap (len+n) cap e)),by simp [Question.cut], ?_⟩;have hn: ¬(len+n<=cap):=by omega
 have J: ¬(Builtin.nextslicecap (len+n) cap*i.bytes>281474976710656):=by
  have:=growslice_fits (need:=len+n) (old:=cap) (bytes:=i.bytes) S (by omega);omega
 have y:=V (w.drawn+1);have C:=U (w.drawn+1);have L: ¬(9223372036854775807<((len:Int)+(n:Int))):=by omega
 simp only[World.drew_eq] at y C;rcases M with⟨e',rfl⟩|rfl
 ·simp [Builtin.append_,run_underlying D,run_underlying E,sizeOf,typeInfo,zeroValue,hi,hz,I,hn,J,L,Question.forced,y,C,newRow];rfl
 ·simp [Builtin.append_,run_underlying D,run_underlying E,sizeOf,typeInfo,zeroValue,hi,hz,I,hn,J,L,Question.forced,y,C,newRow];rfl
theorem Ql (D:P.underlying t=some (.slice e)) (E:P.underlying t'=some u) (L:(∃e',u= .slice e')\/u= .string) (hi:P.info? e=some i)
  {b:Option Addr} {len cap n:Nat} {x:Value} {vs:List Value} (M:Dl1 P w i.size x n vs) (I:len+n<=cap) {w':World}
  (y:(match b with|some ad=>storeCells (ad.add (len*i.size)) vs 0|none=>pure ()).run P w= .ok () w'):
  (Builtin.append_ #[t,t'] ty #[.slice b len cap,x]).run P w= .ok (.slice b (len+n) cap) w':=by
 obtain⟨J,O⟩:=M;have C:=O w.drawn;have hw: { w with drawn:=w.drawn }=w:=rfl;rw[hw] at C;rcases L with⟨e',rfl⟩|rfl
 ·cases b with
  |none=>simp at y;subst y;simp [Builtin.append_,run_underlying D,run_underlying E,sizeOf,typeInfo,hi,J,I,C]
  |some ad=>simp at y;simp [Builtin.append_,run_underlying D,run_underlying E,sizeOf,typeInfo,hi,J,I,C,y]
 ·cases b with
  |none=>simp at y;subst y;simp [Builtin.append_,run_underlying D,run_underlying E,sizeOf,typeInfo,hi,J,I,C]
  |some ad=>simp at y;simp [Builtin.append_,run_underlying D,run_underlying E,sizeOf,typeInfo,hi,J,I,C,y]
theorem Cm0 {u:Option TypeDesc} (h:Az1 u=true): ∃d,u=some d/\((∃e',d= .slice e')\/d= .string):=by
 cases u with
 |none=>cases h
 |some d=>cases d<;>first|(exact⟨_,rfl,.inl ⟨_,rfl⟩⟩)|(exact⟨_,rfl,.inr rfl⟩)|(cases h;done)
theorem Dl3 {H:Ab} (L:Bg w H) {r p:Nat} {cs C:List DVal} {e:TypeId} (hr:H r=some (.cells cs e)) {vs:List Value} (hv:Ar w H C vs) (h1:C.all (·.one)=true) (hp:p<=cs.length)
  (X: ∀c fz,w.heap[r]? =some (.cells c e fz)->p+C.length<=c.size) {cs':List DVal} (M:cs'=cs.take p++C):
  ∃w',(storeCells ⟨r,p,none⟩ vs 0).run P w= .ok () w'/\Bg w' (upd (upd H r none) r (some (.cells cs' e)))/\Ext H w (upd (upd H r none) r (some (.cells cs' e))) w':=by
 subst M;obtain⟨xs,c,fz,D,Y,O,S⟩:=L r _ hr;obtain⟨Z,U⟩:=Y;have af:=O.length;have ag:=hv.length;have M:c.size=xs.length+Z.length:=by rw[<-Array.length_toList,<-U];simp
 have ah:=X c fz D;obtain⟨w',c',aa,J,V,E,ai,ab,ac,ad⟩:=Nu (P:=P) r p e fz vs 0 c w D (by omega) (Bo7 hv h1) S;have W:c'.size=c.size:=by
  rw[<-Array.length_toList,V];simp;omega
 have ae:upd (upd H r none) r (some (.cells (cs.take p++C) e))=upd H r (some (.cells (cs.take p++C) e)):=by
  funext j;simp only[upd];split<;>rfl
 rw[ae];have hE:Ext H w (upd H r (some (.cells (cs.take p++C) e))) w':=by
  refine⟨ab,ac,ad,by omega,λb hb hn=>E b (λy=>by subst y;rw[hr] at hn;cases hn),λb hb=> ?_,λb hb=> ?_,λa _ _=>by
   unfold World.frozen?;by_cases y:a.block=r
   ·rw[y,J,D]
   ·rw[E _ y]⟩
  ·by_cases y:b=r
   ·subst y;exact .inl (by rw[hr];simp)
   ·simp only[upd,if_neg y] at hb;exact .inl hb
  ·by_cases y:b=r
   ·subst y;rw[J,D];simp [Pn,W]
   ·rw[E b y]
 refine⟨w',aa,λr' o' I=> ?_,hE⟩;by_cases y:r'=r
 ·subst y;simp only[upd,if_pos] at I;cases I;refine⟨xs.take p++vs,c',fz,J, ?_,(Ar.lasts hE.lasts _ _ (O.take p)).append (Ar.lasts hE.lasts _ _ hv),by rw[W];exact S⟩;refine⟨c.toList.drop (p+0+vs.length), ?_⟩;rw[V,<-U,Nat.add_zero,List.take_append_of_le_length (by omega)]
 ·simp only[upd,if_neg y] at I;rw[E r' y];exact(L r' o' I).lasts hE.lasts
theorem Bg.letGo {H:Ab} (D:Bg w H) (r:Nat):Bg w (upd H r none):=by
 have hl:Lasts H w (upd H r none) w:=⟨λb i x hb hc=>⟨by simp only[upd];split;rfl;exact hb,hc⟩,Nat.le_refl _,λ_ _=>rfl⟩;intro r' o' y;by_cases C:r'=r
 ·subst C;simp [upd] at y
 ·simp only[upd,if_neg C] at y;exact(D r' o' y).lasts hl
theorem Ei6 {H:Ab} (r:Nat):Ext H w (upd H r none) w:=
 ⟨rfl,rfl,rfl,Nat.le_refl _,λ_ _ _=>rfl,λb hb=> .inl (by simp only[upd] at hb;split at hb<;>simp_all),λ_ _=>rfl,λ_ _ _=>rfl⟩
theorem Aa1 (size:Nat) (k:Nat):(Builtin.firstCells size 0 (.slice none 0 0)).run P { w with drawn:=k }= .ok #[] { w with drawn:=k }:=by simp [Builtin.firstCells]
theorem Am8 {α:Type} (l m:List α):l<+:l++m:=⟨m,rfl⟩
theorem Ez7 (C:Sim G N s a w) (L:Cx N o.dst=true) {c:Call} {x y:Operand} (hx:Bx N x=true) (hy:Bx N y=true) (he:o.op= .call c) (hc:c.callee= .builtin .append) (a1:c.args.toList= [x,y]) {t t':TypeId} (a2:c.argTypes.toList= [t,t'])
  (h:Bl4 P (Az1 (P.underlying t')) (dev G s.env x) (dev G s.env y) o.dst (P.underlying t) K s):o.wp P a w (Il G N K s w) Qx:=by
 have M:=Bo C hx;have ry:=Bo C hy;have hm:c.args.map a.eval= #[a.eval x,a.eval y]:=by apply Array.ext';simp [a1]
 have a3:c.argTypes= #[t,t']:=by apply Array.ext';simp [a2]
 have O:execOp a.eval o=(do pure (.value (←Builtin.append_ #[t,t'] o.type #[a.eval x,a.eval y]))):=by
  rw[It he hc,hm,a3];rfl
 generalize S:P.underlying t=ut at h;unfold Bl4 at h;split at h<;>try exact h.elim
 rename_i e
 obtain⟨a4,a5,ac,a6,ad,h⟩:=h;obtain⟨u,hu,U⟩:=Cm0 a4;obtain⟨zd,hz⟩:=Option.isSome_iff_exists.1 a5;rw[hz] at ac;simp only[Option.all_some,decide_eq_true_eq] at ac;obtain⟨i,z,hi,aj,rfl⟩:=Od hz;have ae:P.cellsOf e=i.size:=by simp [Program.cellsOf,hi]
 have ak:P.bytesOf e=i.bytes:=by simp [Program.bytesOf,hi]
 have al:z.cells.size=i.size:=by
  have:=(Me (Hg w s.heap z)).length;rw[<-ae,<-ac,this];simp
 rw[ae,ak] at h;rw[ae] at a6;rw[ak] at ad;cases hsc:Ac0 i.size s.heap (dev G s.env y) with
 |none=>rw[hsc] at h;exact h.elim
 |some nn=>
  obtain⟨n,W⟩:=nn;rw[hsc] at h;obtain⟨a7,am,h⟩:=h;obtain⟨vs,V,X⟩:=Dl2 (P:=P) C.heap ry hsc a7;have bm:=X.length;generalize dev G s.env x=dx at h M;unfold Pt at h;split at h
  ·-- nil
   obtain⟨h0,h1⟩:=h;simp only[Rel] at M;by_cases hn:n=0
   ·have J:=h0 hn;subst hn;have af:vs= []:=List.length_eq_zero_iff.1 (by omega);subst af;have D:=Ql (ty:=o.type) (b:=none) (len:=0) (cap:=0) S hu U hi V (by omega) (w':=w) (by simp);refine Kl C L (x:= .slice none 0 0) ?_ (by simp [Rel]) J;rw[O,M];simp [D]
   ·obtain⟨Y,J⟩:=h1 hn;have ao:n<=35184372088832:=Nat.le_trans (Nat.le_mul_of_pos_right n ad) Y;obtain⟨E,a8,D⟩:=Ac7 (ty:=o.type) (b:=none) (len:=0) (cap:=0) (olds:= []) S hu U hi aj V (by omega) (by simpa using Y) (by omega) (λk=>Aa1 i.size k);refine Ar8 C L (sz:=i.size) (lo:=n) (cap:=E) (n:=w.drawn+1) (len:=n) (e:=e) (c:= #[]++(vs.toArray++Builtin.zeroCells z.cells (E-(0+n)))) (by omega) (by omega) ?_ ?_ X ?_ J
    ·simp only[Array.size_append,size_zeroCells,al,List.size_toArray,jB,Nat.zero_add];(have:vs.length=n*i.size:=by omega);rw[this,<-Nat.add_mul];exact Nat.mul_le_mul_right _ (by omega)
    ·rw[O,M];simp only[Nat.zero_add] at D;simp [D]
    ·simp only[Array.toList_append,jG];exact Am8 _ _
  ·-- a slice of the call's own
   rename_i sz r off len lo
   obtain⟨rfl,h⟩:=h;simp only[Rel] at M;obtain⟨o',cap,hp,hlo,bn,aa,ab⟩:=M;cases hh:s.heap r with
   |none=>rw[hh] at h;exact h.elim
   |some ob=>
    cases ob with
    |loop=>rw[hh] at h;exact h.elim
    |iter=>rw[hh] at h;exact h.elim
    |map=>rw[hh] at h;exact h.elim
    |cells cs e'=>
     rw[hh] at h;obtain⟨rfl,a9,ba⟩:=h;by_cases hle:len+n<=lo
     ·-- in place, within what is known
      obtain⟨ap,J⟩:=a9 hle;have bo:(len+n)*i.size=len*i.size+n*i.size:=Nat.add_mul _ _ _;by_cases ag:cap=0
      ·(have ah:len=0:=by omega);(have bb:n=0:=by omega);subst ah;subst bb;have af:vs= []:=List.length_eq_zero_iff.1 (by omega);have bc:W= []:=List.length_eq_zero_iff.1 (by omega);subst af;subst bc;have D:=Ql (ty:=o.type) (b:=some ⟨r,o',none⟩) (len:=0) (cap:=cap) S hu U hi V (by omega) (w':=w) (by simp [storeCells]);(have hsp:Di cs (off+0*i.size) []=cs:=by simp [Di]);have bd:upd s.heap r (some (.cells (Di cs (off+0*i.size) []) e'))=s.heap:=by
        funext j;rw[hsp];simp only[upd];split
        ·rename_i hj;rw[hj,hh]
        ·rfl
       rw[bd] at J;refine Kl C L (x:= .slice (some ⟨r,o',none⟩) 0 cap) ?_ ?_ J
       ·rw[O,hp];simp [D]
       ·simp only[Rel];exact⟨o',cap,rfl,hlo,by omega,aa,ab⟩
      ·have:o'=off:=aa.resolve_left ag;subst this;obtain⟨w',hst,hH,hE⟩:=Az4 (P:=P) C.heap hh X am (off:=o'+len*i.size) (by omega);have D:=Ql (ty:=o.type) (b:=some ⟨r,o',none⟩) (len:=len) (cap:=cap) S hu U hi V (by omega) (w':=w') (by simpa [Md] using hst);refine Is C L (x:= .slice (some ⟨r,o',none⟩) (len+n) cap) ?_ hE hH ?_ J
       ·rw[O,hp];simp [D]
       ·simp only[Rel];exact⟨o',cap,rfl,hlo,by omega,.inr rfl,hE.lasts.room ab⟩
     ·-- the room is not known
      obtain⟨ap,Y,J⟩:=ba hle;have ao:len+n<=35184372088832:=Nat.le_trans (Nat.le_mul_of_pos_right _ ad) Y;obtain⟨xs,aq,be⟩:=C.heap.holds hh;have bp:=aq.length;by_cases ar:len+n<=cap
      ·-- in place
       have:o'=off:=aa.resolve_left (by omega);subst this;have bf: ∀c fz,w.heap[r]? =some (.cells c e' fz)->o'+len*i.size+W.length<=c.size:=by
        intro c fz hcc;have:=ab.2 c.size (by rw[hcc];rfl);have h2:(len+n)*i.size<=cap*i.size:=Nat.mul_le_mul_right _ ar;rw[Nat.add_mul] at h2;omega
       obtain⟨w',hst,hH,hE⟩:=Dl3 (P:=P) C.heap hh X am (p:=o'+len*i.size) ap bf (cs':=cs.take o'++(cs.drop o').take (len*i.size)++W) (by rw[List.take_add]);have D:=Ql (ty:=o.type) (b:=some ⟨r,o',none⟩) (len:=len) (cap:=cap) S hu U hi V ar (w':=w') (by simpa [Md] using hst);have I:=J r (cs.take o') (by simp [upd]) (λe0=>by simp [e0]);rw[if_pos (.inr rfl)] at I;(have bg:(cs.take o').length=o':=by simp;omega);rw[bg] at I;refine Is C L (x:= .slice (some ⟨r,o',none⟩) (len+n) cap) ?_ hE hH ?_ I
       ·rw[O,hp];simp [D]
       ·simp only[Rel];exact⟨o',cap,rfl,by omega,by omega,.inr rfl,hE.lasts.room ab⟩
      ·-- a new row
       have holds: ∃olds,Ar w s.heap ((cs.drop off).take (len*i.size)) olds/\olds.length=len*i.size/\ ∀k,(Builtin.firstCells i.size len (.slice (some ⟨r,o',none⟩) len cap)).run P { w with drawn:=k }= .ok olds.toArray { w with drawn:=k }:=by
        by_cases ag:cap=0
        ·(have ah:len=0:=by omega);subst ah;exact⟨[],by simp [Ar],by simp,λk=>by simp [Builtin.firstCells,loadCells,loadCellsFrom]⟩
        ·have:o'=off:=aa.resolve_left ag;subst this;have au:((xs.drop o').take (len*i.size)).length=len*i.size:=by
          simp only[List.length_take,List.length_drop];omega
         refine⟨_,(aq.drop _).take _,au,λk=> ?_⟩;(have h1:Mp w r o' (xs.drop o'):=by simpa using be.drop (n:=o'));have:=Ge (P:=P) (w:= { w with drawn:=k }) (Mp.take (n:=len*i.size) (Ac6 h1));rw[au] at this;simpa [Builtin.firstCells] using this
       obtain⟨olds,bh,bi,bj⟩:=holds;obtain⟨E,a8,D⟩:=Ac7 (ty:=o.type) S hu U hi aj V (by omega) Y ao bj;have av: ∀Z:Ab,Bg w Z->Ext s.heap w Z w->K ⟨Hv s.env o.dst (.oslice i.size w.heap.size 0 (len+n) (len+n)),upd Z w.heap.size (some (.cells ((cs.drop off).take (len*i.size)++W) e'))⟩->o.wp P a w (Il G N K s w) Qx:=by
        intro Z aw ai I;have bk:Ar w Z ((cs.drop off).take (len*i.size)++W) (olds++vs):=
         (Ar.lasts ai.lasts _ _ bh).append (Ar.lasts ai.lasts _ _ X)
        have bl:(olds++vs)<+:(olds.toArray++(vs.toArray++Builtin.zeroCells z.cells (E-(len+n)))).toList:=by
         simp only[Array.toList_append,<-jO];exact Am8 _ _
        have bq:E*i.size<=(olds.toArray++(vs.toArray++Builtin.zeroCells z.cells (E-(len+n)))).size:=by
         simp only[Array.size_append,size_zeroCells,al,List.size_toArray,bi];(have h1:vs.length=n*i.size:=by omega);rw[h1,<-Nat.add_mul,<-Nat.add_mul];exact Nat.mul_le_mul_right _ (by omega)
        refine Is C L (x:= .slice (some ⟨w.heap.size,0,none⟩) (len+n) E) ?_ ((ai.trans (Ah9 aw _ _ _)).drawn (w.drawn+1)) ((Vy aw bk _ bl e').drawn (w.drawn+1)) ?_ I
        ·rw[O,hp];simp [D]
        ·simp only[Rel];refine⟨0,E,rfl,by omega,by omega,.inr rfl, ?_⟩;constructor
         ·show w.heap.size<(w.alloc _).heap.size;simp
         ·intro k hk;have h1:(w.alloc (.cells (olds.toArray++(vs.toArray++Builtin.zeroCells z.cells (E-(len+n)))) e')).heap[w.heap.size]? =some (.cells (olds.toArray++(vs.toArray++Builtin.zeroCells z.cells (E-(len+n)))) e'):=by
           show(w.heap.push _)[w.heap.size]? =_;simp
          have ax:Pn (w.alloc (.cells (olds.toArray++(vs.toArray++Builtin.zeroCells z.cells (E-(len+n)))) e')).heap[w.heap.size]? =some k:=hk;rw[h1] at ax;simp only[Pn,Option.some.injEq] at ax;omega
       have ay:=C.heap.letGo r;have I:=J w.heap.size [] ay.fresh (λ_=>rfl);simp only[jG,jB] at I;by_cases a0:len<=lo\/w.heap.size=r
       ·rw[if_pos a0] at I;exact av _ ay (Ei6 r) I
       ·rw[if_neg a0] at I;exact av _ C.heap (Ext.refl _ _) I
  ·exact h.elim
end
section
variable {P:Program} {G:Nat->DVal} {N:Fr}
variable {o:Oper} {s:DS} {a:Act} {w:World} {K:DK} {Qx:Exit->Act->World->Prop}
theorem Hb8 (C:Sim G N s a w) (E:Cx N o.dst=true) {c:Call} {x:Operand} {t:TypeId} (hx:Bx N x=true) (he:o.op= .call c) (J:c.callee= .builtin .cap) (L:c.args.toList= [x]) (M:c.argTypes.toList= [t])
  (h:Ey9 o.dst (P.underlying t) (dev G s.env x) K s):PV P o s a w K:=by
 have y:=Bo C hx;have hm:c.args.map a.eval= #[a.eval x]:=by apply Array.ext';simp [L]
 have D:=It (a:=a) he J;rw[hm] at D;have I:c.argTypes[0]? =some t:=by rw[<-Array.getElem?_toList,M];rfl
 generalize hu:P.underlying t=u at h;generalize dev G s.env x=dx at h y;unfold Ey9 at h;split at h
 ·simp only[Rel] at y;exact Yb C E (by rw[D];simp [builtin,Builtin.cap_,I,run_underlying hu,y,goInt]) h
 ·simp only[Rel] at y;obtain⟨_,cap,y,hle,_⟩:=y;exact Yb C E (by rw[D];simp [builtin,Builtin.cap_,I,run_underlying hu,y,goInt]) (h cap hle)
 ·simp only[Rel] at y;obtain⟨_,cap,y,h1,h2,_⟩:=y;exact Yb C E (by rw[D];simp [builtin,Builtin.cap_,I,run_underlying hu,y,goInt]) (h cap h2 h1)
 ·exact h.elim
theorem Bk2 {e t t' ty:TypeId} {i:TypeInfo} {z:Value} {k:IntKind} (y:P.underlying t=some (.slice e)) (C:P.underlying t'=some (.int k)) (hi:P.info? e=some i) (hz:i.zero=some z) (hp:0<i.size)
  {n:Int} (h0:0<n) (D:n*i.bytes<=35184372088832) (I:n<=35184372088832):
  ∃c,n.toNat<=c/\(Builtin.append_ #[t,t'] ty #[.slice none 0 0,.int .i64 n]).run P w=
   .ok (.slice (some ⟨w.heap.size,0,none⟩) n.toNat c) { w.alloc (.cells (#[]++(Builtin.zeroCells z.cells n.toNat++Builtin.zeroCells z.cells (c-n.toNat))) e) with drawn:=w.drawn+1 }:=by
 obtain⟨m,rfl⟩: ∃m:Nat,n=m:=⟨n.toNat,by omega⟩;simp only[jD];have hw:IntKind.wrap .i64 (m:Int)=m:=IntWalk.i64_in m ⟨by omega,by omega⟩;have J:m*i.bytes<=35184372088832:=by
  have:((m*i.bytes:Nat):Int)<=35184372088832:=by rw[Int.natCast_mul];exact D
  omega
 refine⟨(Question.appendCap m 0 e).cut (w.tape w.drawn (.appendCap m 0 e)),by simp [Question.cut], ?_⟩;have E: ¬(Builtin.nextslicecap m 0*i.bytes>281474976710656):=by
  have:=growslice_fits (need:=m) (old:=0) (bytes:=i.bytes) (by omega) (by omega);omega
 have h1: ¬((m:Int)<0):=by omega
 have h2: ¬(281474976710656<(m:Int)*(i.bytes:Int)):=by omega
 have h3: ¬(9223372036854775807<(m:Int)):=by omega
 have h4:m≠0:=by omega
 have h5: ¬(m*i.size=0):=by
  intro e;rcases Nat.mul_eq_zero.1 e with e|e<;>omega
 have hf:=Aa1 (P:=P) (w:=w) i.size (w.drawn+1);simp only[World.drew_eq] at hf;simp [hf,Builtin.append_,run_underlying y,run_underlying C,sizeOf,typeInfo,zeroValue,hi,hz,asInt,asIntOf,hw,h1,h2,h3,h4,h5,E,Question.forced,newRow];rfl
theorem Ei7 (C:Sim G N s a w) (M:Cx N o.dst=true) {c:Call} {x y:Operand} (hx:Bx N x=true) (Y:Bx N y=true) (he:o.op= .call c) (Z:c.callee= .builtin .append) (aa:c.args.toList= [x,y]) {t t':TypeId} (ab:c.argTypes.toList= [t,t'])
  (D:Pu (P.underlying t')=true) (h:Ar4 P (dev G s.env x) (dev G s.env y) o.dst (P.underlying t) K s):o.wp P a w (Il G N K s w) Qx:=by
 have E:=Bo C hx;have I:=Bo C Y;have hm:c.args.map a.eval= #[a.eval x,a.eval y]:=by apply Array.ext';simp [aa]
 have ac:c.argTypes= #[t,t']:=by apply Array.ext';simp [ab]
 have O:execOp a.eval o=(do pure (.value (←Builtin.append_ #[t,t'] o.type #[a.eval x,a.eval y]))):=by
  rw[It he Z,hm,ac];rfl
 generalize S:P.underlying t=ut at h;unfold Ar4 at h;split at h<;>try exact h.elim
 rename_i e
 obtain⟨k,hu⟩: ∃k,P.underlying t'=some (.int k):=by
  cases hq:P.underlying t' with
  |none=>rw[hq] at D;cases D
  |some d=>cases d<;>first|exact⟨_,rfl⟩|(rw[hq] at D;cases D)
 generalize dev G s.env x=dx at h E;generalize dev G s.env y=dy at h I;generalize ad:Bj P e=zo at h;unfold Bo0 at h;split at h<;>try exact h.elim
 obtain⟨h0,hp,ae,af⟩:=h
 rename_i n zd
 obtain⟨i,z,hi,ag,rfl⟩:=Od ad;have ah:P.bytesOf e=i.bytes:=by simp [Program.bytesOf,hi]
 have hcs:P.cellsOf e=i.size:=by simp [Program.cellsOf,hi]
 simp only[Rel] at E I;by_cases hn:n=0
 ·have J:=ae hn;subst hn;refine Kl C M (x:= .slice none 0 0) ?_ (by simp [Rel]) J;rw[O,E,I];have hw:IntKind.wrap .i64 0=0:=by rfl
  simp [Builtin.append_,run_underlying S,run_underlying hu,sizeOf,typeInfo,hi,asInt,asIntOf,hw]
 ·obtain⟨U,hle,L,J⟩:=af hn;rw[ah] at U;rw[hcs] at hp L J;have V:Ar w s.heap (Fk z).cells z.cells.toList:=Me (Hg w s.heap z);have W:z.cells.size=i.size:=by rw[<-L,V.length];simp
  obtain⟨X,aj,ai⟩:=Bk2 (w:=w) (ty:=o.type) S hu hi ag hp (n:=n) (by omega) U hle;have hr:=Ai0 V n.toNat (n.toNat*z.cells.size) (by rw[L,W]);refine Ar8 C M (sz:=i.size) (lo:=n.toNat) (cap:=X) (n:=w.drawn+1) (len:=n.toNat) (e:=e) (c:= #[]++(Builtin.zeroCells z.cells n.toNat++Builtin.zeroCells z.cells (X-n.toNat))) (by omega) (by omega) ?_ ?_ hr ?_ J
  ·simp only[Array.size_append,size_zeroCells,W,List.size_toArray,jB,Nat.zero_add];rw[<-Nat.add_mul];exact Nat.mul_le_mul_right _ (by omega)
  ·rw[O,E,I];simp [ai]
  ·simp only[Array.toList_append,jG];exact Am8 _ _
theorem Fw7 (y:Sim G N s a w) (J:Cx N o.dst=true) {c:Call} {x:Operand} {t:TypeId} (hx:Bx N x=true) (he:o.op= .call c) (U:c.callee= .builtin .clear) (V:c.args.toList= [x]) (W:c.argTypes.toList= [t])
  (h:Bo1 P o.dst (P.underlying t) (dev G s.env x) K s):o.wp P a w (Il G N K s w) Qx:=by
 have C:=Bo y hx;have hm:c.args.map a.eval= #[a.eval x]:=by apply Array.ext';simp [V]
 have D:=It (a:=a) he U;rw[hm] at D;have L:c.argTypes[0]? =some t:=by rw[<-Array.getElem?_toList,W];rfl
 generalize hu:P.underlying t=u at h;generalize dev G s.env x=dx at h C;unfold Bo1 at h;split at h<;>try exact h.elim
 rename_i e
 generalize X:Bj P e=zo at h;unfold Cl4 at h;split at h<;>try exact h.elim
 ·simp only[Rel] at C;refine Kl y J (x:= .tuple #[]) ?_ (by simp [Rel,Ar]) h;rw[D];simp [builtin,Builtin.clear_,L,run_underlying hu,C]
 ·rename_i z sz r off n lo
  obtain⟨rfl,ae,h⟩:=h;obtain⟨i,v,hi,Y,rfl⟩:=Od X;have hcs:P.cellsOf e=i.size:=by simp [Program.cellsOf,hi]
  simp only[Rel] at C;obtain⟨o',cap,hp,hlo,af,Z,ag⟩:=C;cases hh:s.heap r with
  |none=>rw[hh] at h;exact h.elim
  |some ob=>
   cases ob with
   |loop=>rw[hh] at h;exact h.elim
   |iter=>rw[hh] at h;exact h.elim
   |map=>rw[hh] at h;exact h.elim
   |cells cs e'=>
    rw[hh] at h;obtain⟨E,M,hle,I⟩:=h;rw[hcs] at E hle;have O:Ar w s.heap (Fk v).cells v.cells.toList:=Me (Hg w s.heap v);(have aa:v.cells.size=i.size:=by rw[<-E,O.length];simp);by_cases hn:n=0
    ·subst hn;(have hsp:Di cs off (By 0 (Fk v).cells)=cs:=by simp [Di,By]);rw[hsp] at I;have ab:upd s.heap r (some (.cells cs e'))=s.heap:=by
      funext j;simp only[upd];split
      ·rename_i hj;rw[hj,hh]
      ·rfl
     rw[ab] at I;refine Kl y J (x:= .tuple #[]) ?_ (by simp [Rel,Ar]) I;rw[D];simp [builtin,Builtin.clear_,L,run_underlying hu,hp]
    ·have:o'=off:=Z.resolve_left (by omega);subst this;have hr:=Ai0 O n (n*v.cells.size) (by rw[E,aa]);have ac:(By n (Fk v).cells).all (·.one)=true:=by
      rw[List.all_eq_true] at M⊢
      intro d S;simp only[By,List.mem_flatten,List.mem_replicate] at S;obtain⟨l,⟨_,rfl⟩,hm⟩:=S;exact M d hm
     obtain⟨w',hst,hH,hE⟩:=Az4 (P:=P) y.heap hh hr ac (off:=o') (by rw[Qr,E];exact hle);refine Is y J (x:= .tuple #[]) ?_ hE hH (by simp [Rel,Ar]) I;rw[D];obtain⟨n',rfl⟩: ∃n',n=n'+1:=⟨n-1,by omega⟩;have ad:Sem.run P (storeCells ⟨r,o',none⟩ (Builtin.zeroCells v.cells (n'+1)).toList 0) w= .ok () w':=hst;simp [builtin,Builtin.clear_,L,run_underlying hu,hp,zeroValue,typeInfo,hi,Y,ad]
end
section
def Oz:Obj->Bool
 | .loop _=>true
 | .deferred _=>true
 | .map _ _=>true
 | .stringIter _ _=>true
 |_=>false
theorem As3 {w:World} {l:Nat} {o o':Obj} (hl:w.heap[l]? =some o) (h:Oz o=true) (h':Oz o'=true) (b:Nat):Pn (w.putObj l o').heap[b]? =Pn w.heap[b]? :=by
 have y:l<w.heap.size:=(Array.getElem?_eq_some_iff.1 hl).1;by_cases e:b=l
 ·subst e;rw[World.putObj_heap_same y,hl];cases o<;>first|cases h;done|(cases o'<;>first|rfl|cases h';done)
 ·rw[World.putObj_heap_other e]
theorem Yd {w:World} {l:Nat} {o o':Obj} (hl:w.heap[l]? =some o) (h:Oz o=true) (h':Oz o'=true) (H:Ab):Lasts H w H (w.putObj l o'):=by
 refine⟨λb i x hb hc=>⟨hb, ?_⟩,by simp [World.putObj],λb hb=>As3 hl h h' b⟩;by_cases e:b=l
 ·subst e;unfold World.cell? at hc;rw[hl] at hc;cases o<;>first|cases h;done|simp at hc
 ·unfold World.cell? at hc⊢
  simp only[World.putObj_heap_other e];exact hc
theorem Ce5 {w:World} {l:Nat} {o o':Obj} (hl:w.heap[l]? =some o) (h:Oz o=true) (h':Oz o'=true) (a:Addr):(w.putObj l o').frozen? a=w.frozen? a:=by
 have y:l<w.heap.size:=(Array.getElem?_eq_some_iff.1 hl).1;unfold World.frozen?;by_cases e:a.block=l
 ·rw[e,World.putObj_heap_same y,hl];cases o<;>first|cases h;done|(cases o'<;>first|rfl|cases h';done)
 ·rw[World.putObj_heap_other e]
theorem Dl4 {w:World} {l:Nat} {o o':Obj} {H:Ab} (hl:w.heap[l]? =some o) (h:Oz o=true) (h':Oz o'=true) (y:Bg w H) (C:H l=none):Bg (w.putObj l o') H:=by
 intro r ob ho;have hr:r≠l:=λe=>by rw[e,C] at ho;cases ho
 rw[World.putObj_heap_other hr];exact(y r ob ho).lasts (Yd hl h h' H)
theorem Va {P:Program} {w:World} {r:Nat} {o:Obj} (h:w.heap[r]? =some o) (hb:Oz o=true):(getObj r).run P w= .ok o w:=by
 simp only[getObj,Sem.run,h];cases o<;>first|rfl|cases hb
theorem Of {P:Program} {w:World} {r:Nat} {o:Obj} (o':Obj) (h:w.heap[r]? =some o) (hb:Oz o=true):(setObj r o').run P w= .ok () (w.putObj r o'):=by
 simp only[setObj,Sem.run,h,World.putObj];cases o<;>first|rfl|cases hb
theorem Ac8 {w:World} {H:Ab} {r:Nat} {o o':Obj} {ob:DObj} (C:Bg w H) (hr:H r≠none) (y:w.heap[r]? =some o) (h:Oz o=true) (h':Oz o'=true)
  (D: ∀w' H',Lasts H w H' w'->Am4 w' H' ob (some o')):Bg (w.putObj r o') (upd H r (some ob))/\Ext H w (upd H r (some ob)) (w.putObj r o'):=by
 have E:r<w.heap.size:=(Array.getElem?_eq_some_iff.1 y).1;have hl:Lasts H w (upd H r (some ob)) (w.putObj r o'):=by
  have h1:=Yd y h h' H;refine⟨λb i x hb hc=>⟨?_,(h1.cell b i x hb hc).2⟩,h1.size,h1.keep⟩;have:b≠r:=λe=>hr (e▸hb);simp [upd,this,hb]
 refine⟨λb x hx=> ?_,by rfl,by rfl,by rfl,by simp,λb hb hn=> ?_,λb hb=> ?_,λb hb=>As3 y h h' b,λa _ _=>Ce5 y h h' a⟩
 ·by_cases e:b=r
  ·subst e;simp only[upd,if_pos] at hx;cases hx;rw[World.putObj_heap_same E];exact D _ _ hl
  ·simp only[upd,if_neg e] at hx;rw[World.putObj_heap_other e];exact(C b x hx).lasts hl
 ·rw[World.putObj_heap_other (λe=>hr (by rw[<-e];exact hn))]
 ·by_cases e:b=r
  ·exact .inl (e▸hr)
  ·simp only[upd,if_neg e] at hb;exact .inl hb
theorem Cw6 {w:World} {H:Ab} {o:Obj} {ob:DObj} (C:Bg w H) (h:Oz o=true)
  (D: ∀w' H',Lasts H w H' w'->Am4 w' H' ob (some o)):Bg (w.alloc o) (upd H w.heap.size (some ob))/\Ext H w (upd H w.heap.size (some ob)) (w.alloc o):=by
 have y: ∀b,b<w.heap.size->(w.alloc o).heap[b]? =w.heap[b]? :=λb hb=>by
  show(w.heap.push o)[b]? =_;rw[Array.getElem?_push,if_neg (by omega)]
 have hE:Ext H w (upd H w.heap.size (some ob)) (w.alloc o):=by
  refine⟨rfl,rfl,rfl,by simp,λb hb _=>y b hb,λb hb=> ?_,λb hb=>by rw[y b hb],λa _ _=> ?_⟩
  ·by_cases E:b=w.heap.size
   ·exact .inr (by omega)
   ·simp only[upd,if_neg E] at hb;exact .inl hb
  ·unfold World.frozen?;have hh:(w.alloc o).heap[a.block]? =if a.block=w.heap.size then some o else w.heap[a.block]? :=by
    show(w.heap.push o)[a.block]? =_;rw[Array.getElem?_push]
   rw[hh];by_cases e:a.block=w.heap.size
   ·rw[if_pos e,e,Array.getElem?_eq_none (Nat.le_refl _)];cases o<;>first|cases h;done|rfl
   ·rw[if_neg e]
 refine⟨λr x hx=> ?_,hE⟩;by_cases e:r=w.heap.size
 ·subst e;simp only[upd,if_pos] at hx;cases hx;have:(w.alloc o).heap[w.heap.size]? =some o:=by
   show(w.heap.push o)[w.heap.size]? =_;simp
  rw[this];exact D _ _ hE.lasts
 ·simp only[upd,if_neg e] at hx;rw[y r (C.lt (by simp [hx]))];exact(C r x hx).lasts hE.lasts
end
section
variable {P:Program} {G:Nat->DVal} {N:Fr}
variable {o:Oper} {s:DS} {a:Act} {w:World} {K:DK} {Qx:Exit->Act->World->Prop}
theorem Az8 {H:Ab}: ∀ {C:List DVal} {vs:List Value} {l:List UInt8},Ar w H C vs->Ab8 C=some l-> ∃ns:List Int,vs=ns.map (Value.int .u8)/\l=ns.map λn=>UInt8.ofNat n.toNat
 | [],vs,l,hr,hl=>by
  simp only[Ar] at hr;subst hr;simp only[Ab8,Option.some.injEq] at hl;subst hl;exact⟨[],rfl,rfl⟩
 |d::C,vs,l,hr,hl=>by
  simp only[Ar] at hr;obtain⟨y,ys,rfl,h1,h2⟩:=hr;unfold Ab8 at hl;split at hl<;>try (cases hl;done)
  ·rename_i e;cases e
  ·rename_i n ds' e
   obtain⟨rfl,rfl⟩:=List.cons.inj e;obtain⟨l',h3,rfl⟩:=Option.map_eq_some_iff.1 hl;obtain⟨ns,rfl,rfl⟩:=Az8 h2 h3;simp only[Rel] at h1;subst h1;exact⟨n::ns,rfl,rfl⟩
theorem Ce6: ∀(y:List Int) (s:ByteArray),(y.foldl (λr n=>r.push (UInt8.ofNat n.toNat)) s).data.toList=s.data.toList++y.map λn=>UInt8.ofNat n.toNat
 | [],s=>by simp
 |n::y,s=>by rw[List.foldl_cons,Ce6 y];simp [ByteArray.push]
theorem Bp0 (y:List Int):y.foldl (λr n=>r.push (UInt8.ofNat n.toNat)) ByteArray.empty=⟨⟨y.map λn=>UInt8.ofNat n.toNat⟩⟩:=by
 have:=Ce6 y ByteArray.empty;cases h:y.foldl (λr n=>r.push (UInt8.ofNat n.toNat)) ByteArray.empty with
 |mk d=>
  rw[h] at this;congr 1;apply Array.ext';simpa using this
theorem Fw8 (I:Sim G N s a w) (J:Cx N o.dst=true) {D t:TypeId} {x:Operand} (hx:Bx N x=true) (he:o.op= .convert D t x)
  (h:Ab9 P o.dst (P.underlying D) (P.underlying t) (dev G s.env x) K s):PV P o s a w K:=by
 have r:=Bo I hx;by_cases hc: ∃e,P.underlying D=some (.slice e)/\P.underlying t=some .string
 ·obtain⟨e,hs,ht⟩:=hc;rw[hs,ht] at h;obtain⟨hu,h⟩:=h;generalize dev G s.env x=dx at h r;cases hb:(Am5 s.heap dx).bind Ab8 with
  |none=>rw[hb] at h;exact h.elim
  |some l=>
   rw[hb] at h;obtain⟨ds,h1,h2⟩:=Option.bind_eq_some_iff.1 hb;refine pvI I J (x:= .string ⟨⟨l⟩⟩) ?_ (by simp [Rel]) h;have go: ∀(y:Option Addr) (n c:Nat),a.eval x= .slice y n c->(Conv.bytesToString (.slice y n c)).run P w= .ok (.string ⟨⟨l⟩⟩) w->(execOp a.eval o).run P w= .ok (.value (.string ⟨⟨l⟩⟩)) w:=by
    intro y n c e1 C;simp [execOp,he,e1,run_convert_bytes_string w D t e y n c hs hu ht,C]
   unfold Am5 at h1;split at h1<;>try (cases h1;done)
   ·cases h1;simp only[Ab8,Option.some.injEq] at h2;subst h2;simp only[Rel] at r;exact go none 0 0 r (by simp [Conv.bytesToString];rfl)
   ·rename_i cs n
    split at h1<;>cases h1
    rename_i hle
    simp only[Rel] at r;obtain⟨y,cap,e1,_,hc⟩:=r;refine go y n cap e1 ?_;rcases hc with rfl|⟨b,o',xs,rfl,hc,hr⟩
    ·(have hn:n=0:=by simpa using hle);subst hn;simp only[List.take_nil,Ab8,Option.some.injEq] at h2;subst h2;cases y with
     |none=>simp [Conv.bytesToString];rfl
     |some y=>exact run_bytesToString w y 0 cap [] (by simp [loadCells,loadCellsFrom])
    ·obtain⟨E,C,rfl⟩:=Az8 (hr.take n) h2;have L:=hr.length;(have hl:(E.map (Value.int .u8)).length=n:=by rw[<-C];simp;omega);have:=Ge (P:=P) (w:=w) (Mp.take (n:=n) hc.holds);rw[C,hl] at this;rw[run_bytesToString w _ n cap E this,Bp0]
   ·rename_i sz r' off n lo
    unfold Ea2 at h1;split at h1<;>try (cases h1;done)
    rename_i cs e' hh
    split at h1<;>cases h1
    rename_i hle
    simp only[Rel] at r;obtain⟨o',cap,e1,_,U,M,_⟩:=r;refine go _ n cap e1 ?_;obtain⟨xs,hr,O⟩:=I.heap.holds hh;by_cases S:cap=0
    ·(have hn:n=0:=by omega);subst hn;simp only[jR,Ab8,Option.some.injEq] at h2;subst h2;exact run_bytesToString w _ 0 cap [] (by simp [loadCells,loadCellsFrom])
    ·have:o'=off:=M.resolve_left S;subst this;obtain⟨E,C,rfl⟩:=Az8 ((hr.drop o').take n) h2;have L:=hr.length;(have hl:(E.map (Value.int .u8)).length=n:=by rw[<-C];simp;omega);(have h3:Mp w r' o' (xs.drop o'):=by simpa using O.drop (n:=o'));have:=Ge (P:=P) (w:=w) (Mp.take (n:=n) h3);rw[C,hl] at this;rw[run_bytesToString w _ n cap E this,Bp0]
 ·refine Ei3 I J hx he ?_;revert h;generalize hs:P.underlying D=us at hc;generalize ht:P.underlying t=ut at hc;intro h;unfold Ab9 at h;split at h
  ·exact absurd ⟨_,rfl,rfl⟩ hc
  ·exact h
theorem Fw9 (y:Sim G N s a w) (C:Cx N o.dst=true) {t:TypeId} {x:Operand} (hx:Bx N x=true) (he:o.op= .range t x)
  (h:Cl2 o.dst (P.underlying t) (dev G s.env x) K s):o.wp P a w (Il G N K s w) Qx:=by
 have r:=Bo y hx;generalize dev G s.env x=dx at h r;generalize hu:P.underlying t=u at h;unfold Cl2 at h;split at h<;>try exact h.elim
 rename_i l
 simp only[Rel] at r;obtain⟨k1,D⟩:=Cw6 (o:= .stringIter ⟨⟨l⟩⟩ 0) (ob:= .iter l 0) y.heap rfl (λw' H' _=>rfl);refine Is y C (x:= .pointer (some ⟨w.heap.size,0,none⟩)) ?_ D k1 (by simp [Rel]) (h _ y.heap.fresh);simp [execOp,he,r,run_range_string w t _ hu,World.iter]
theorem Gq1 (y:Sim G N s a w) (C:Cx N o.dst=true) {b:Bool} {x:Operand} (hx:Bx N x=true) (he:o.op= .next x b)
  (h:Ea3 o.dst b (dev G s.env x) K s):o.wp P a w (Il G N K s w) Qx:=by
 have r:=Bo y hx;generalize dev G s.env x=dx at h r;unfold Ea3 at h;split at h<;>try exact h.elim
 rename_i r0
 simp only[Rel] at r;generalize hh:s.heap r0=ob at h;unfold Dk5 at h;split at h<;>try exact h.elim
 rename_i l pos
 have ho:w.heap[r0]? =some (.stringIter ⟨⟨l⟩⟩ pos):=y.heap _ _ hh;have hg:=Va (P:=P) ho rfl;have D:(ByteArray.mk ⟨l⟩).size=l.length:=rfl;by_cases hp:pos<l.length
 ·obtain⟨k1,E⟩:=Ac8 (o':= .stringIter ⟨⟨l⟩⟩ (pos+(Tf l pos).2)) (ob:= .iter l (pos+(Tf l pos).2)) y.heap (by rw[hh];simp) ho rfl rfl (λw' H' _=>rfl);refine Is y C (x:= .tuple #[.bool true,.int .i64 pos,.int .i32 (Tf l pos).1]) ?_ E k1 (by simp [Rel,Ar]) (h.1 hp);have I:=Of (P:=P) (.stringIter ⟨⟨l⟩⟩ (pos+(Tf l pos).2)) ho rfl;simp only[execOp,he,r,Instr.next,Sem.run_bind,hg,Result.andThen_ok,D,if_pos hp];show Result.andThen (Result.andThen ((setObj r0 (.stringIter ⟨⟨l⟩⟩ (pos+(Tf l pos).2))).run P w) _) _=_;rw[I];simp [goInt,Tf]
 ·refine Kl y C (x:= .tuple #[.bool false]) ?_ (by simp [Rel,Ar]) (h.2 hp);simp [execOp,he,r,Instr.next,hg,D,hp]
theorem Ei8 (C:Sim G N s a w) (E:Cx N o.dst=true) {t:TypeId} {x:Option Operand} (hx:(match x with|some x=>Bx N x|none=>true)=true) (he:o.op= .makeMap t x)
  (h:Ac3 o.dst (P.underlying t) (Rm G s.env x) K s):o.wp P a w (Il G N K s w) Qx:=by
 obtain⟨k1,I⟩:=Cw6 (o:= .map #[] 0) (ob:= .map []) C.heap rfl (λw' H' _=>⟨#[],0,rfl,rfl⟩);have J:=C.heap.fresh;generalize hu:P.underlying t=u at h;rcases Bo9 C hx with⟨rfl,e⟩|⟨y,rfl,e,r⟩
 ·rw[e] at h;unfold Ac3 at h;split at h<;>try exact h.elim
  ·refine Is C E (x:= .map (some w.heap.size)) ?_ I k1 (by simp [Rel]) (h _ J);simp [execOp,he,Instr.makeMap]
  ·rename_i D;cases D
 ·rw[e] at h;cases hdv:dev G s.env y<;>rw[hdv] at h r<;>(unfold Ac3 at h;split at h<;>try exact h.elim);all_goals try (rename_i D;cases D;done)
  all_goals
   simp only[Rel] at r;refine Is C E (x:= .map (some w.heap.size)) ?_ I k1 (by simp [Rel]) (h _ J);simp [execOp,he,Instr.makeMap,run_underlying hu,r,asInt,asIntOf]
theorem Ab7.len {w:World} {H:Ab}: ∀ {es:List (DVal×DVal)} {ms:List MapEntry},Ab7 w H es ms->es.length=ms.length
 | [],_,h=>by rw[show _=_ from h];rfl
 |p::es,ms,h=>by
  obtain⟨m,y,rfl,_,_,h3⟩:=h;simp [Ab7.len h3]
theorem Ab7.get {w:World} {H:Ab}: ∀ {es:List (DVal×DVal)} {ms:List MapEntry},Ab7 w H es ms-> ∀ {i:Nat} {p:DVal×DVal},es[i]? =some p-> ∃m,ms[i]? =some m/\Rel w H p.1 m.key/\Rel w H p.2 m.val
 | [],_,_,i,p,hp=>by simp at hp
 |q::es,ms,h,i,p,hp=>by
  obtain⟨m,D,rfl,h1,h2,h3⟩:=h;cases i with
  |zero=>simp at hp;subst hp;exact⟨m,rfl,h1,h2⟩
  |succ i=>simp at hp;obtain⟨y,e1,C⟩:=Ab7.get h3 hp;exact⟨y,by simpa using e1,C⟩
theorem Ab7.app {w:World} {H:Ab}: ∀ {es fs:List (DVal×DVal)} {ms y:List MapEntry},Ab7 w H es ms->Ab7 w H fs y->Ab7 w H (es++fs) (ms++y)
 | [],_,_,_,h,k=>by rw[show _=_ from h];exact k
 |p::es,fs,ms,y,h,k=>by
  obtain⟨m,C,rfl,h1,h2,h3⟩:=h;exact⟨m,C++y,rfl,h1,h2,Ab7.app h3 k⟩
theorem Ab7.erase {w:World} {H:Ab}: ∀ {es:List (DVal×DVal)} {ms:List MapEntry},Ab7 w H es ms-> ∀(i:Nat),Ab7 w H (es.eraseIdx i) (ms.eraseIdx i)
 | [],_,h,i=>by rw[show _=_ from h];exact rfl
 |q::es,ms,h,0=>by
  obtain⟨y,C,rfl,h1,h2,h3⟩:=h;exact h3
 |q::es,ms,h,i+1=>by
  obtain⟨y,C,rfl,h1,h2,h3⟩:=h;exact⟨y,_,rfl,h1,h2,Ab7.erase h3 i⟩
theorem Ez8 {w:World} {H:Ab} {d:TypeDesc} {k k':DVal} {x y:Value} (hk:Uw (some d) k=true) (h:Rel w H k x) (h':Rel w H k' y) {b:Bool} (hb:Ab0 k k'=some b):Instr.sameNow d x y=some b:=by
 cases k<;>first|(cases d<;>(simp [Uw] at hk;done))|skip
 case int kk n=>
  cases d<;>simp [Uw] at hk;subst hk;cases k'<;>simp only[Ab0] at hb<;>try (cases hb;done)
  rename_i D m
  split at hb
  ·rename_i e;subst e
   cases hb;simp only[Rel] at h h';subst h;subst h';simp only[Instr.sameNow,if_true];rfl
  ·cases hb
 case str l=>
  cases d<;>simp [Uw] at hk;cases k'<;>simp only[Ab0] at hb<;>try (cases hb;done)
  cases hb;simp only[Rel] at h h';subst h;subst h';simp only[Instr.sameNow]
  rename_i s1
  have e1:((⟨⟨l⟩⟩:ByteArray)==⟨⟨s1⟩⟩)=((⟨l⟩:Array UInt8)==⟨s1⟩):=rfl;rw[e1];congr 1;rw[Bool.eq_iff_iff];simp
 case bool l=>
  cases d<;>simp [Uw] at hk;cases k'<;>simp only[Ab0] at hb<;>try (cases hb;done)
  cases hb;simp only[Rel] at h h';subst h;subst h';simp only[Instr.sameNow]
  rename_i C;cases l<;>cases C<;>rfl
theorem Cw7 {w:World} {H:Ab} {d:TypeDesc} {k:DVal} {x:Value} (hk:Uw (some d) k=true) (h:Rel w H k x): ∀ {es:List (DVal×DVal)} {ms:List MapEntry},Ab7 w H es ms-> ∀(i:Nat) {r:Option Nat},Mz k es i=some r->
  Instr.findNow d x ms i=some (r.bind λj=>(ms[j-i]?).map λm=>(j,m.val))/\ ∀j,r=some j->i<=j
 | [],ms,hm,i,r,hf=>by
  rw[show ms= [] from hm];simp only[Mz] at hf;cases hf;exact⟨rfl,λj hj=>by cases hj⟩
 |p::es,ms,hm,i,r,hf=>by
  obtain⟨m,D,rfl,h1,h2,h3⟩:=hm;simp only[Mz] at hf;cases hb:Ab0 k p.1 with
  |none=>rw[hb] at hf;cases hf
  |some b=>
   rw[hb] at hf;have hs:=Ez8 hk h h1 hb;cases b with
   |true=>
    simp only[Ac1] at hf;cases hf;simp only[Instr.findNow,hs];exact⟨by simp,λj hj=>by cases hj;exact Nat.le_refl _⟩
   |false=>
    simp only[Ac1] at hf;obtain⟨C,y⟩:=Cw7 hk h h3 (i+1) hf;simp only[Instr.findNow,hs,C];refine⟨?_,λj hj=>by have:=y j hj;omega⟩;cases r with
    |none=>rfl
    |some j=>
     have:=y j rfl;simp only[Option.bind_some];rw[show j-i=(j-(i+1))+1 by omega];simp
theorem Cw8 {w:World} {H:Ab} {y:TypeId} {k:DVal} {x:Value} (hk:Uw (P.underlying y) k=true) (h:Rel w H k x) {es:List (DVal×DVal)} {ms:List MapEntry} (hm:Ab7 w H es ms) {r:Option Nat} (hf:Mz k es 0=some r):
  (Instr.findKey y x ms).run P w= .ok (r.bind λj=>(ms[j]?).map λm=>(j,m.val)) w:=by
 cases hu:P.underlying y with
 |none=>rw[hu] at hk;cases hk
 |some d=>
  rw[hu] at hk;obtain⟨C,_⟩:=Cw7 hk h hm 0 hf;simp only[Nat.sub_zero] at C;simp [Instr.findKey,run_underlying hu,C]
theorem Cm1 {w:World} {H:Ab} {y:TypeId} {k:DVal} {x:Value} {b:Bool} (hk:Uw (P.underlying y) k=true) (h:Rel w H k x) (n:Nat):(Instr.checkKey b (n+1) y x).run P w= .ok () w:=by
 cases hu:P.underlying y with
 |none=>rw[hu] at hk;cases hk
 |some d=>
  rw[hu] at hk;unfold Uw at hk;split at hk<;>first|(cases hk;done)|(rename_i e;cases e;simp only[Rel] at h;subst h;simp [Instr.checkKey,run_underlying hu])
theorem Dl5 {t:Option TypeDesc} (h:Ce1 P t=true): ∃e ie,t=some (.array 2 e)/\P.underlying e=some .bool/\P.info? e=some ie/\P.cellsOf e=1:=by
 unfold Ce1 at h;split at h
 ·rename_i e
  simp only[jF,beq_iff_eq] at h;obtain⟨⟨h1,h2⟩,h3⟩:=h;obtain⟨ie,hie⟩:=Option.isSome_iff_exists.1 h2;refine⟨e,ie,rfl, ?_,hie,h3⟩;unfold Ea6 at h1;split at h1
  ·rename_i e1;exact e1
  ·cases h1
 ·cases h
theorem Ce7 {t:Option TypeDesc} {k:DVal} (h:Ac2 P t k=true):Uw t k=true\/ ∃a b,k= .agg [.bool a,.bool b]/\Ce1 P t=true:=by
 unfold Ac2 at h;split at h
 ·exact .inr ⟨_,_,rfl,h⟩
 ·exact .inl h
theorem Gq2 {t e:TypeId} {y:TypeInfo} {a b c d:Bool} (h1:P.underlying t=some (.array 2 e)) (h2:P.underlying e=some .bool) (h3:P.info? e=some y) (C:P.cellsOf e=1):
  Ay7 P 2 t [.bool a,.bool b] [.bool c,.bool d]=some (decide (a=c)&&decide (b=d)):=by
 have hag:Dz P e=some false:=by simp [Dz,h2]
 have hr:List.range 2= [0,1]:=rfl;simp only[Ay7,h1,Ak8,h3,Option.isSome_some,if_true,hr,Cv0,h2,hag,C,Jj,Cv1,List.drop,List.take,Nat.mul_one];cases a<;>cases b<;>cases c<;>cases d<;>rfl
theorem Eb4 {a b:Bool} {k':DVal} {r:Bool} (h:Ab0 (.agg [.bool a,.bool b]) k'=some r): ∃c d,k'= .agg [.bool c,.bool d]/\r=(decide (a=c)&&decide (b=d)):=by
 unfold Ab0 at h;split at h;all_goals first|(cases h;done)|skip
 all_goals first|(rename_i y;cases y;done)|skip
 rename_i y
 cases y;cases h;exact⟨_,_,rfl,rfl⟩
theorem Cm2 {w:World} {H:Ab} {t:TypeId} {a b:Bool} {k':DVal} {x y:Value} {r:Bool} (hk:Ce1 P (P.underlying t)=true) (h:Rel w H (.agg [.bool a,.bool b]) x) (h':Rel w H k' y) (hb:Ab0 (.agg [.bool a,.bool b]) k'=some r):
  (Op.equal t x y).run P w= .ok r w:=by
 obtain⟨e,E,h1,h2,h3,h4⟩:=Dl5 hk;have hag:Dz P t=some true:=by simp [Dz,h1]
 obtain⟨c,d,rfl,rfl⟩:=Eb4 hb;have g: ∃xs,x= .agg xs/\Ar w H [.bool a,.bool b] xs.toList:=h;have C: ∃xs,y= .agg xs/\Ar w H [.bool c,.bool d] xs.toList:=h';obtain⟨xs,rfl,hx⟩:=g;obtain⟨ys,rfl,D⟩:=C;exact Pv (P:=P) (w:=w) (H:=H) 2 Op.maxDepth (by decide) t _ _ _ _ true _ hag hx D (λ_=>⟨_,rfl⟩) (λ_=>⟨_,rfl⟩) (Gq2 h1 h2 h3 h4)
theorem Bg2 {w:World} {H:Ab} {t:TypeId} {a b:Bool} {x:Value} (hk:Ce1 P (P.underlying t)=true) (h:Rel w H (.agg [.bool a,.bool b]) x): ∀ {es:List (DVal×DVal)} {ms:List MapEntry},Ab7 w H es ms-> ∀(i:Nat) {r:Option Nat},Mz (.agg [.bool a,.bool b]) es i=some r->
  (Instr.findAsking t x ms i).run P w= .ok (r.bind λj=>(ms[j-i]?).map λm=>(j,m.val)) w/\ ∀j,r=some j->i<=j
 | [],ms,hm,i,r,hf=>by
  rw[show ms= [] from hm];simp only[Mz] at hf;cases hf;exact⟨by simp [Instr.findAsking],λj hj=>by cases hj⟩
 |p::es,ms,hm,i,r,hf=>by
  obtain⟨m,D,rfl,h1,h2,h3⟩:=hm;simp only[Mz] at hf;cases hb:Ab0 (.agg [.bool a,.bool b]) p.1 with
  |none=>rw[hb] at hf;cases hf
  |some b'=>
   rw[hb] at hf;have hs:=Cm2 hk h h1 hb;cases b' with
   |true=>
    simp only[Ac1] at hf;cases hf;refine⟨by simp [Instr.findAsking,hs],λj hj=>by cases hj;exact Nat.le_refl _⟩
   |false=>
    simp only[Ac1] at hf;obtain⟨C,y⟩:=Bg2 hk h h3 (i+1) hf;refine⟨?_,λj hj=>by have:=y j hj;omega⟩;simp only[Instr.findAsking,Sem.run_bind,hs,Result.andThen_ok,Bool.false_eq_true,if_false,C];cases r with
    |none=>rfl
    |some j=>
     have:=y j rfl;simp only[Option.bind_some];rw[show j-i=(j-(i+1))+1 by omega];simp
theorem Se {w:World} {H:Ab} {y:TypeId} {k:DVal} {x:Value} (hk:Ac2 P (P.underlying y) k=true) (h:Rel w H k x) {es:List (DVal×DVal)} {ms:List MapEntry} (hm:Ab7 w H es ms) {r:Option Nat} (hf:Mz k es 0=some r):
  (Instr.findKey y x ms).run P w= .ok (r.bind λj=>(ms[j]?).map λm=>(j,m.val)) w:=by
 rcases Ce7 hk with hk|⟨a,b,rfl,hk⟩
 ·exact Cw8 hk h hm hf
 ·obtain⟨C,_⟩:=Bg2 hk h hm 0 hf;simp only[Nat.sub_zero] at C;obtain⟨e,D,h1,h2,h3,h4⟩:=Dl5 hk;cases ms with
  |nil=>
   have:es= []:=by cases es with
    |nil=>rfl
    |cons p es=>obtain⟨m,E,e,_⟩:=hm;cases e
   subst this;simp only[Mz] at hf;cases hf;simp [Instr.findKey,run_underlying h1,Instr.findNow]
  |cons m ms=>
   (have hn:Instr.findNow (.array 2 e) x (m::ms) 0=none:=by simp [Instr.findNow,Instr.sameNow]);simp [Instr.findKey,run_underlying h1,hn,C]
theorem Qm {w:World} {H:Ab} {C:TypeId} {k:DVal} {x:Value} {b:Bool} (hk:Ac2 P (P.underlying C) k=true) (h:Rel w H k x):(Instr.checkKey b (9999+1) C x).run P w= .ok () w:=by
 rcases Ce7 hk with hk|⟨c,d,rfl,hk⟩
 ·exact Cm1 hk h 9999
 ·obtain⟨e,L,h1,h2,h3,h4⟩:=Dl5 hk;simp only[Rel,Ar] at h;obtain⟨xs,rfl,y,ys,hx,rfl,z,M,rfl,rfl,rfl⟩:=h;have hag:Dz P e=some false:=by simp [Dz,h2]
  have E:xs= #[.bool c,.bool d]:=by apply Array.ext';simpa using hx
  subst E;have I:(part e #[Value.bool c,.bool d] 0).run P w= .ok (.bool c) w:=by simp [part,Oc hag]
  have hp1:(part e #[Value.bool c,.bool d] 1).run P w= .ok (.bool d) w:=by simp [part,Oc hag]
  have D:=De (P:=P) (w:=w) (t:=e) (by rw[h3];rfl);rw[h4] at D;have J: ∀n,(Instr.checkKey b (n+1+1) C (.agg #[.bool c,.bool d])).run P w= .ok () w:=λn=>by
   simp [Instr.checkKey,run_underlying h1,run_underlying h2,D,Std.Legacy.Range.forIn_eq_forIn_range',Std.Legacy.Range.size,List.range',I,hp1]
  exact J 9998
theorem Ez9 (C:Sim G N s a w) (L:Cx N o.dst=true) {t:TypeId} {x k:Operand} {ok:Bool} (hx:Bx N x=true) (hk:Bx N k=true) (he:o.op= .lookup t x k ok)
  (h:Bl5 P ok o.dst (P.underlying t) (dev G s.env x) (dev G s.env k) K s):o.wp P a w (Il G N K s w) Qx:=by
 have D:=Bo C hx;have E:=Bo C hk;generalize hu:P.underlying t=u at h;generalize dev G s.env x=dx at h D;generalize dev G s.env k=dk at h E;unfold Bl5 at h;split at h<;>try exact h.elim
 ·rename_i U e r
  obtain⟨I,h⟩:=h;simp only[Rel] at D;cases hh:s.heap r with
  |none=>rw[hh] at h;exact h.elim
  |some ob=>
   cases ob with
   |loop=>rw[hh] at h;exact h.elim
   |iter=>rw[hh] at h;exact h.elim
   |cells=>rw[hh] at h;exact h.elim
   |map es=>
    rw[hh] at h;simp only[Dk8] at h;obtain⟨ms,Y,ho,hm⟩:=C.heap r _ hh;cases hf:Mz dk es 0 with
    |none=>rw[hf] at h;cases hz:Bj P e<;>rw[hz] at h<;>exact h.elim
    |some V=>
     rw[hf] at h;have y:=Se (P:=P) (w:=w) I E hm hf;have J:=λb=>Qm (P:=P) (w:=w) (b:=b) I E;have O:=Va (P:=P) ho rfl;cases V with
     |some i=>
      have h': ∃p,es[i]? =some p/\Dk7 ok o.dst p.2 true K s:=by
       cases hz:Bj P e<;>rw[hz] at h<;>exact h
      obtain⟨p,hp,W⟩:=h';obtain⟨m,hmi,Z,S⟩:=hm.get hp;(have aa:ms[i]? =some m:=by rw[<-Array.getElem?_toList];exact hmi);simp only[Option.bind_some,hmi,Option.map_some] at y;refine Kl C L (x:=if ok then .tuple #[m.val,.bool true] else m.val) ?_ ?_ W
      ·cases ok<;>simp [execOp,he,D,Instr.lookup,run_underlying hu,O,J,y]
      ·cases ok
       ·exact S
       ·simp only[if_true,Rel,Ar];exact⟨_,rfl,_,_,rfl,S,_,_,rfl,rfl,rfl⟩
     |none=>
      simp only[Option.bind_none] at y;cases hz:Bj P e with
      |none=>rw[hz] at h;exact h.elim
      |some z=>
       rw[hz] at h;obtain⟨X,v,hie,M,rfl⟩:=Od hz;refine Kl C L (x:=if ok then .tuple #[v,.bool false] else v) ?_ ?_ h
       ·cases ok<;>simp [execOp,he,D,Instr.lookup,run_underlying hu,O,J,y,zeroValue,typeInfo,hie,M]
       ·cases ok
        ·exact Hg w s.heap v
        ·simp only[if_true,Rel,Ar];exact⟨_,rfl,_,_,rfl,Hg w s.heap v,_,_,rfl,rfl,rfl⟩
 ·rename_i U e
  obtain⟨I,h⟩:=h;simp only[Rel] at D;have y:=Se (P:=P) (w:=w) (es:= []) (ms:= []) I E rfl (r:=none) rfl;have J:=λb=>Qm (P:=P) (w:=w) (b:=b) I E;simp only[Option.bind_none] at y;cases hz:Bj P e with
  |none=>rw[hz] at h;exact h.elim
  |some z=>
   rw[hz] at h;obtain⟨X,v,hie,M,rfl⟩:=Od hz;refine Kl C L (x:=if ok then .tuple #[v,.bool false] else v) ?_ ?_ h
   ·cases ok<;>simp [execOp,he,D,Instr.lookup,run_underlying hu,J,y,zeroValue,typeInfo,hie,M]
   ·cases ok
    ·exact Hg w s.heap v
    ·simp only[if_true,Rel,Ar];exact⟨_,rfl,_,_,rfl,Hg w s.heap v,_,_,rfl,rfl,rfl⟩
theorem Fa0 (y:Sim G N s a w) (M:Cx N o.dst=true) {c:Call} {x k:Operand} {t:TypeId} {ts:List TypeId} (hx:Bx N x=true) (hk:Bx N k=true) (he:o.op= .call c) (Y:c.callee= .builtin .delete) (Z:c.args.toList= [x,k]) (aa:c.argTypes.toList=t::ts)
  (h:Ar7 P o.dst (P.underlying t) (dev G s.env x) (dev G s.env k) K s):o.wp P a w (Il G N K s w) Qx:=by
 have E:=Bo y hx;have O:=Bo y hk;have ab:c.args.map a.eval= #[a.eval x,a.eval k]:=by apply Array.ext';simp [Z]
 have L:=It (a:=a) he Y;rw[ab] at L;have S:c.argTypes[0]? =some t:=by rw[<-Array.getElem?_toList,aa];rfl
 generalize hu:P.underlying t=u at h;generalize dev G s.env x=dx at h E;generalize dev G s.env k=dk at h O;unfold Ar7 at h;split at h<;>try exact h.elim
 rename_i kt e r
 obtain⟨X,h⟩:=h;simp only[Rel] at E;cases hh:s.heap r with
 |none=>rw[hh] at h;exact h.elim
 |some ob=>
  cases ob with
  |loop=>rw[hh] at h;exact h.elim
  |iter=>rw[hh] at h;exact h.elim
  |cells=>rw[hh] at h;exact h.elim
  |map es=>
   rw[hh] at h;simp only[Bo5] at h;obtain⟨ms,C,ho,hm⟩:=y.heap r _ hh;cases hf:Mz dk es 0 with
   |none=>rw[hf] at h;exact h.elim
   |some fi=>
    rw[hf] at h;simp only[Bo4] at h;have D:=Se (P:=P) (w:=w) X O hm hf;have U:=λb=>Qm (P:=P) (w:=w) (b:=b) X O;have V:=Va (P:=P) ho rfl;(have W:s.heap r≠none:=by rw[hh];simp);cases fi with
    |none=>
     simp only[Option.bind_none] at D;obtain⟨k1,I⟩:=Ac8 (o':= .map ms C) (ob:= .map es) y.heap W ho rfl rfl (λw' H' hl=>⟨ms,C,rfl,hm.lasts hl⟩);have J:=Of (P:=P) (.map ms C) ho rfl;refine Is y M (x:= .tuple #[]) ?_ I k1 (by simp [Rel,Ar]) h;rw[L];simp [builtin,Builtin.delete_,S,run_underlying hu,E,V,U,D,J]
    |some i=>
     cases hmi:ms.toList[i]? with
     |none=>
      (have hle:ms.toList.length<=i:=by rwa [List.getElem?_eq_none_iff] at hmi);have ac:es.eraseIdx i=es:=List.eraseIdx_of_length_le (by rw[hm.len];exact hle);simp only[Option.bind_some,hmi,Option.map_none] at D;simp only[Cv5,ac] at h;obtain⟨k1,I⟩:=Ac8 (o':= .map ms C) (ob:= .map es) y.heap W ho rfl rfl (λw' H' hl=>⟨ms,C,rfl,hm.lasts hl⟩);have J:=Of (P:=P) (.map ms C) ho rfl;refine Is y M (x:= .tuple #[]) ?_ I k1 (by simp [Rel,Ar]) h;rw[L];simp [builtin,Builtin.delete_,S,run_underlying hu,E,V,U,D,J]
     |some m=>
      simp only[Option.bind_some,hmi,Option.map_some] at D;obtain⟨k1,I⟩:=Ac8 (o':= .map (ms.eraseIdxIfInBounds i) C) (ob:= .map (es.eraseIdx i)) y.heap W ho rfl rfl (λw' H' hl=>⟨_,C,rfl,by
       rw[Array.toList_eraseIdxIfInBounds];exact(hm.lasts hl).erase i⟩)
      have J:=Of (P:=P) (.map (ms.eraseIdxIfInBounds i) C) ho rfl;refine Is y M (x:= .tuple #[]) ?_ I k1 (by simp [Rel,Ar]) h;rw[L];simp [builtin,Builtin.delete_,S,run_underlying hu,E,V,U,D,J]
theorem Ab7.modify {w:World} {H:Ab} {f:MapEntry->MapEntry}: ∀ {es:List (DVal×DVal)} {ms:List MapEntry},Ab7 w H es ms-> ∀(i:Nat) {p:DVal×DVal},(∀m,Rel w H p.1 (f m).key/\Rel w H p.2 (f m).val)->Ab7 w H (es.set i p) (ms.modify i f)
 | [],_,h,i,p,_=>by rw[show _=_ from h];cases i<;>exact rfl
 |q::es,ms,h,0,p,k=>by
  obtain⟨y,C,rfl,h1,h2,h3⟩:=h;exact⟨f y,C,rfl,(k y).1,(k y).2,h3⟩
 |q::es,ms,h,i+1,p,k=>by
  obtain⟨y,C,rfl,h1,h2,h3⟩:=h;exact⟨y,_,rfl,h1,h2,Ab7.modify h3 i k⟩
theorem Bp1 {k:DVal}: ∀ {es:List (DVal×DVal)} {n i:Nat},Mz k es n=some (some i)-> ∃p,n<=i/\es[i-n]? =some p/\Ab0 k p.1=some true
 | [],n,i,h=>by simp [Mz] at h
 |q::es,n,i,h=>by
  simp only[Mz] at h;cases hb:Ab0 k q.1 with
  |none=>rw[hb] at h;cases h
  |some b=>
   rw[hb] at h;cases b with
   |true=>simp only[Ac1] at h;cases h;exact⟨q,Nat.le_refl _,by simp,hb⟩
   |false=>
    simp only[Ac1] at h;obtain⟨p,h1,h2,h3⟩:=Bp1 h;refine⟨p,by omega, ?_,h3⟩;rw[show i-n=(i-(n+1))+1 by omega];simpa using h2
theorem Ei9 {w:World} {H:Ab} {k k':DVal} {x D:Value} (h:Rel w H k x) (h':Rel w H k' D) (hb:Ab0 k k'=some true) (n:Nat):Instr.sameBits (n+1) D x=true:=by
 cases k<;>(try (simp [Ab0] at hb;done))<;>cases k'<;>simp only[Ab0] at hb<;>(try (cases hb;done))
 ·simp only[Rel] at h h';subst h;subst h';simp at hb;subst hb;cases n<;>simp [Instr.sameBits]
 ·split at hb<;>simp at hb
  rename_i e;subst e;subst hb
  simp only[Rel] at h h';subst h;subst h';cases n<;>simp [Instr.sameBits]
 ·simp only[Rel] at h h';subst h;subst h';simp at hb;subst hb;have e1: ∀l:List UInt8,((⟨⟨l⟩⟩:ByteArray)==⟨⟨l⟩⟩)=true:=λl=>by
   show((⟨l⟩:Array UInt8)==⟨l⟩)=true;simp
  cases n<;>simp [Instr.sameBits,e1]
 ·rename_i E I
  have hb:Ab0 (.agg E) (.agg I)=some true:=hb;obtain⟨a,b,e1⟩: ∃a b,E= [.bool a,.bool b]:=by
   unfold Ab0 at hb;split at hb;(all_goals first|(cases hb;done)|skip);all_goals first|(rename_i J _;cases J;done)|skip
   rename_i h1 h2
   cases h1;exact⟨_,_,rfl⟩
  subst e1;obtain⟨c,d,L,y⟩:=Eb4 hb;cases L;have y:=y.symm;simp only[jF,decide_eq_true_eq] at y;obtain⟨rfl,rfl⟩:=y;have g: ∃xs,x= .agg xs/\Ar w H [.bool a,.bool b] xs.toList:=h;have M: ∃xs,D= .agg xs/\Ar w H [.bool a,.bool b] xs.toList:=h';obtain⟨xs,rfl,hx⟩:=g;obtain⟨ys,rfl,C⟩:=M;simp only[Ar,Rel] at hx C;obtain⟨_,_,hx,rfl,_,_,rfl,rfl,rfl⟩:=hx;obtain⟨_,_,C,rfl,_,_,rfl,rfl,rfl⟩:=C;have O:xs= #[.bool a,.bool b]:=by apply Array.ext';simpa using hx
  have hys:ys= #[.bool a,.bool b]:=by apply Array.ext';simpa using C
  subst O;subst hys;cases n<;>simp [Instr.sameBits]
theorem Cw9 (C:Sim G N s a w) {t:TypeId} {x k y:Operand} (hx:Bx N x=true) (hk:Bx N k=true) (X:Bx N y=true) (he:o.op= .mapUpdate t x k y\/o.op= .insert t x k y)
  (h:Ah7 P o.dst (P.underlying t) (dev G s.env x) (dev G s.env k) (dev G s.env y) K s):o.wp P a w (Il G N K s w) Qx:=by
 have I:=Bo C hx;have D:=Bo C hk;have L:=Bo C X;generalize hu:P.underlying t=u at h;generalize dev G s.env x=dx at h I;generalize dev G s.env k=dk at h D;generalize dev G s.env y=dy at h L;unfold Ah7 at h;split at h<;>try exact h.elim
 rename_i kt e r
 obtain⟨hdst,S,h⟩:=h;simp only[Rel] at I;cases hh:s.heap r with
 |none=>rw[hh] at h;exact h.elim
 |some ob=>
  cases ob with
  |loop=>rw[hh] at h;exact h.elim
  |iter=>rw[hh] at h;exact h.elim
  |cells=>rw[hh] at h;exact h.elim
  |map es=>
   rw[hh] at h;obtain⟨ag,h⟩:=h;obtain⟨ms,E,ho,hm⟩:=C.heap r _ hh;cases hf:Mz dk es 0 with
   |none=>rw[hf] at h;exact h.elim
   |some Y=>
    rw[hf] at h;simp only[Ar6] at h;have J:=Se (P:=P) (w:=w) S D hm hf;have U:=λb=>Qm (P:=P) (w:=w) (b:=b) S D;have V:=Va (P:=P) ho rfl;(have Z:s.heap r≠none:=by rw[hh];simp);have fin: ∀ {o':Obj} {M:List (DVal×DVal)},Oz o'=true->(∀w' H',Lasts s.heap w H' w'->Am4 w' H' (.map M) (some o'))->(execOp a.eval o).run P w= .ok .skip (w.putObj r o')->K ⟨s.env,upd s.heap r (some (.map M))⟩->o.wp P a w (Il G N K s w) Qx:=by
     intro o' M aa ab ac hK;obtain⟨k1,W⟩:=Ac8 C.heap Z ho rfl aa ab;unfold Oper.wp;rw[ac];show Il G N K s w (a.put o.dst undef) _;rw[hdst];exact⟨_,hK,C.ext W k1,W⟩
    cases Y with
    |none=>
     simp only[Option.bind_none] at J;have O:=Of (P:=P) (.map (ms.push { key:=a.eval k,val:=a.eval y,born:=E }) (E+1)) ho rfl;refine fin (o':= .map (ms.push { key:=a.eval k,val:=a.eval y,born:=E }) (E+1)) rfl (λw' H' hl=>⟨_,_,rfl, ?_⟩) ?_ h
     ·rw[Array.toList_push];exact(hm.lasts hl).app (fs:= [(dk,dy)]) ⟨_,[],rfl,Rel.lasts hl _ _ D,Rel.lasts hl _ _ L,rfl⟩
     ·rcases he with he|he<;>simp [execOp,he,I,Instr.mapUpdate,run_underlying hu,V,U,J,O]
    |some i=>
     obtain⟨p,_,hp,ad⟩:=Bp1 hf;rw[Nat.sub_zero] at hp;obtain⟨m,hmi,r1,r2⟩:=hm.get hp;(have ae:ms[i]? =some m:=by rw[<-Array.getElem?_toList];exact hmi);simp only[Option.bind_some,hmi,Option.map_some] at J;have af:=Ei9 D r1 ad 9999;have O:=Of (P:=P) (.map (ms.modify i λe=> { e with key:=a.eval k,val:=a.eval y }) E) ho rfl;refine fin (o':= .map (ms.modify i λe=> { e with key:=a.eval k,val:=a.eval y }) E) rfl (λw' H' hl=>⟨_,_,rfl, ?_⟩) ?_ h
     ·rw[Array.toList_modify];exact(hm.lasts hl).modify i (λm=>⟨Rel.lasts hl _ _ D,Rel.lasts hl _ _ L⟩)
     ·rcases he with he|he<;>simp [execOp,he,I,Instr.mapUpdate,run_underlying hu,V,U,J,ae,Instr.keyThatStays,af,O]
end
section
variable {P:Program} {G:Nat->DVal} {N:Fr}
variable {o:Oper} {s s0:DS} {a:Act} {w w0:World} {K:DK} {Q:DExit->DS->Prop}
theorem Ad.mono {f:FuncId} {args:List DVal} {H:Ab} {R y:DEnd->Ab->Prop} (h:Ad P G f args H R) (hr: ∀e H',R e H'->y e H'):Ad P G f args H y:=
 ⟨h.1,λvs w hv C hG=>(h.2 vs w hv C hG).mono λe w' ⟨e',H',r,k⟩=>⟨e',H',hr _ _ r,k⟩⟩
theorem Bl1.mono {l:Nat} {args:List DVal} {H:Ab} {R y:DEnd->Ab->Prop} (h:Bl1 P G l args H R) (hr: ∀e H',R e H'->y e H'):Bl1 P G l args H y:=
 λF n C vs w hv D hG=>by
  obtain⟨fn,tmps,E,I,h1,h2⟩:=h F n C vs w hv D hG;exact⟨fn,tmps,E,I,h1,h2.mono λe w' ⟨e',H',r,k⟩=>⟨e',H',hr _ _ r,k⟩⟩
theorem Gq3 (y:Sim G N s a w) (L:Ext s0.heap w0 s.heap w) (M:Cx N o.dst=true) {c:Call} {f:Operand} (hf:Bx N f=true) (hx:c.args.toList.all (Bx N)=true) (he:o.op= .call c) (O:c.callee= .value f)
  (D: ∀l,dev G s.env f≠ .func (.yield l) [] []) (h:Bo6 P G (Hq G s.env c.args.toList) o.dst Q (dev G s.env f) K s):o.wp P a w (Il G N K s w) (Rw G N Q s0 w0):=by
 have C:=Bo y hf;have E:=Tk y hx;generalize dev G s.env f=df at h C D;generalize Hq G s.env c.args.toList=ds at h E;unfold Bo6 at h;split at h<;>try first|exact h.elim|exact(D _ rfl).elim
 rename_i k first captured
 simp only[Rel] at C;obtain⟨xs,ys,S,h1,h2⟩:=C;obtain⟨U,V⟩:=h;have W:Ar w s.heap (first++ds++captured) (xs.toList++c.args.toList.map a.eval++ys.toList):=(h1.append E).append h2;have X:(xs++c.args.map a.eval++ys)=(xs.toList++c.args.toList.map a.eval++ys.toList).toArray:=by apply Array.ext';simp
 have Y:(execOp a.eval o).run P w= .ok (.enter k (xs++c.args.map a.eval++ys)) w:=by
  simp only[execOp,he,resolve,O,S,Deferred.ofValue,Sem.run_bind,Sem.run_pure,Result.andThen_ok,invoke,U]
 unfold Oper.wp;rw[Y,X];refine(V _ _ W y.heap y.glob).mono λe w' ⟨e',H',I,Z,J,hE⟩=> ?_;cases Z with
 |ret d v hv=>exact⟨_,I,(y.ext hE J).put M hv,hE⟩
 |panic d v hv=>exact⟨_,_,I,.panic _ _ hv,y.ext hE J,L.trans hE⟩
theorem Pw (h:Kx N o=true):Cx N o.dst=true:=by
 unfold Kx at h;rw[jF] at h;unfold Cx;exact h.1
theorem Bp2 {α:Type} (p:α->Bool) (xs:Array α):xs.all p=xs.toList.all p:=by
 rw[<-Array.all_toList]
theorem Cx0 {x:DVal} {v:Value} (C:Sim G N s a w) (D:Ext s0.heap w0 s.heap w) (E:(execOp a.eval o).run P w=((Instr.panic v).run P w).andThen λv w'=> .ok (.value v) w') (hv:Rel w s.heap x v) (h:Am6 Q s x) {next:Act->World->Prop}:o.wp P a w next (Rw G N Q s0 w0):=by
 unfold Am6 at h;split at h<;>try exact h.elim
 have I:=hv;simp only[Rel] at hv;obtain⟨y,rfl,J⟩:=hv;unfold Oper.wp;rw[E];simp only[Instr.panic,goPanic,Sem.run_halt,Result.andThen_halt];exact⟨_,s,h,.panic _ _ I,C,D⟩
theorem Ej0 (U: ∀c f l,o.op= .call c->c.callee= .value f->dev G s.env f≠ .func (.yield l) [] []) (L:Kx N o=true) (C:Sim G N s a w) (O:Ext s0.heap w0 s.heap w) (h:dop P G o.dst K Q s o.op):o.wp P a w (Il G N K s w) (Rw G N Q s0 w0):=by
 have hd:=Pw L;unfold Kx at L;rw[jF] at L;have D:=L.2;rw[Bp2] at D;cases hq:o.op<;>rw[hq] at h D<;>simp only[Op.operands,Call.operands,List.all_cons,List.all_nil,Bool.and_true,jF] at D<;>try (exact h.elim)
 case move x=>exact(Gp5 C hd D hq h).wp C hd
 case assign x=>exact(Ez2 C hd D hq h).wp C hd
 case pick c x y=>exact(Gp6 C hd D.1 D.2.1 D.2.2 hq h).wp C hd
 case alloc e=>exact Fw1 C hd hq h
 case box e x=>exact Hb6 C hd D hq h
 case build t ps=>exact Fw3 C hd (by simpa [Function.comp_def] using D) hq h
 case buildSlice t n ps=>exact Cl8 C hd (by simpa [Function.comp_def] using D) hq h
 case load t x=>exact(Gp7 C hd D hq h).wp C hd
 case store t x y=>exact Fw2 C D.1 D.2 hq h
 case nilCheck x=>exact(Dk9 C hd D hq h).wp C hd
 case binOp op t x y t'=>exact(Gq0 C hd D.1 D.2 hq h).wp C hd
 case unOp op t x=>exact(Gp8 C hd D hq h).wp C hd
 case convert src t x=>exact(Fw8 C hd D hq h).wp C hd
 case range t x=>exact Fw9 C hd D hq h
 case next x b=>exact Gq1 C hd D hq h
 case makeInterface t x=>exact(Cv8 C hd D hq h).wp C hd
 case makeFunc fn fs cs=>
  simp only[Array.toList_append,List.all_append,jF] at D;exact(Dl0 C hd D.1 D.2 hq h).wp C hd
 case makeMap t x=>
  have I: ∀(z:Option Operand),z.toArray.toList.all (Bx N)=true->(match z with|some x=>Bx N x|none=>true)=true:=by
   intro z hz;cases z with
   |none=>rfl
   |some z=>simpa using hz
  exact Ei8 C hd (I _ D) hq h
 case lookup t x k ok=>exact Ez9 C hd D.1 D.2 hq h
 case mapUpdate t m k x=>exact Cw9 C D.1 D.2.1 D.2.2 (.inl hq) h
 case insert t m k x=>exact Cw9 C D.1 D.2.1 D.2.2 (.inr hq) h
 case makeSlice t l c=>exact Cw2 C hd D.1 D.2 hq h
 case slice t x lo hi mx=>
  simp only[Array.toList_append,List.all_append,jF,List.all_cons,List.all_nil,Bool.and_true] at D;have I: ∀(z:Option Operand),z.toArray.toList.all (Bx N)=true->(match z with|some x=>Bx N x|none=>true)=true:=by
   intro z hz;cases z with
   |none=>rfl
   |some z=>simpa using hz
  exact(Fw6 C hd D.1.1.1 (I _ D.1.1.2) (I _ D.1.2) (I _ D.2) hq h).wp C hd
 case fieldAddr t x f=>exact(Cw0 C hd D hq h).wp C hd
 case field t x f=>exact(Fw4 C hd D hq h).wp C hd
 case indexAddr t x i=>exact(Cw1 C hd D.1 D.2 hq h).wp C hd
 case index t x i=>exact(Fw5 C hd D.1 D.2 hq h).wp C hd
 case typeAssert x t u ok=>exact(Cl9 C hd D hq h).wp C hd
 case extract x i=>exact(Ei2 C hd D hq h).wp C hd
 case panic x=>
  exact Cx0 C O (v:=a.eval x) (by simp [execOp,hq]) (Bo C D) h
 case call c=>
  simp only[dop] at h;simp only[Array.toList_append,List.all_append,jF] at D;obtain⟨S,E⟩:=D;cases hc:c.callee with
  |invoke r m=>rw[hc] at h;exact h.elim
  |value f=>
   rw[hc] at h S;simp only[Xz] at h;exact Gq3 C O hd (by simpa using S) E hq hc (λl=>U c f l hq hc) h
  |builtin b=>
   rw[hc] at h;simp only[Xz] at h;cases b<;>(try (cases hdv:Hq G s.env c.args.toList<;>rw[hdv] at h<;>exact h.elim))
   case len=>
    cases hdv:Hq G s.env c.args.toList with
    |nil=>rw[hdv] at h;exact h.elim
    |cons d ds=>cases ds with
     |cons J ds=>rw[hdv] at h;exact h.elim
     |nil=>
      obtain⟨x,hx,rfl⟩:=As2 hdv;rw[hdv] at h;rw[hx] at E;simp only[Na] at h;cases hts:c.argTypes.toList with
      |nil=>rw[hts] at h;exact h.elim
      |cons t ts=>cases ts with
       |nil=>rw[hts] at h;exact(Hb7 C hd (by simpa using E) hq hc hx hts h).wp C hd
       |cons t' M=>rw[hts] at h;exact h.elim
   case cap=>
    cases hdv:Hq G s.env c.args.toList with
    |nil=>rw[hdv] at h;exact h.elim
    |cons d ds=>cases ds with
     |cons J ds=>rw[hdv] at h;exact h.elim
     |nil=>
      obtain⟨x,hx,rfl⟩:=As2 hdv;rw[hdv] at h;rw[hx] at E;simp only[Na] at h;cases hts:c.argTypes.toList with
      |nil=>rw[hts] at h;exact h.elim
      |cons t ts=>cases ts with
       |nil=>rw[hts] at h;exact(Hb8 C hd (by simpa using E) hq hc hx hts h).wp C hd
       |cons t' M=>rw[hts] at h;exact h.elim
   case clear=>
    cases hdv:Hq G s.env c.args.toList with
    |nil=>rw[hdv] at h;exact h.elim
    |cons d ds=>cases ds with
     |cons J ds=>rw[hdv] at h;exact h.elim
     |nil=>
      obtain⟨x,hx,rfl⟩:=As2 hdv;rw[hdv] at h;rw[hx] at E;simp only[Na] at h;cases hts:c.argTypes.toList with
      |nil=>rw[hts] at h;exact h.elim
      |cons t ts=>cases ts with
       |nil=>rw[hts] at h;exact Fw7 C hd (by simpa using E) hq hc hx hts h
       |cons t' M=>rw[hts] at h;exact h.elim
   case delete=>
    cases hdv:Hq G s.env c.args.toList with
    |nil=>rw[hdv] at h;exact h.elim
    |cons d ds=>cases ds with
     |nil=>rw[hdv] at h;exact h.elim
     |cons J ds=>cases ds with
      |cons V ds=>rw[hdv] at h;exact h.elim
      |nil=>
       obtain⟨x,y,hx,rfl,rfl⟩:=Cw4 hdv;rw[hdv] at h;rw[hx] at E;simp only[List.all_cons,List.all_nil,Bool.and_true,jF] at E;simp only[Na] at h;cases hts:c.argTypes.toList with
       |nil=>rw[hts] at h;exact h.elim
       |cons t ts=>rw[hts] at h;exact Fa0 C hd E.1 E.2 hq hc hx hts h
   case append=>
    cases hdv:Hq G s.env c.args.toList with
    |nil=>rw[hdv] at h;exact h.elim
    |cons d ds=>cases ds with
     |nil=>rw[hdv] at h;exact h.elim
     |cons J ds=>cases ds with
      |cons V ds=>rw[hdv] at h;exact h.elim
      |nil=>
       obtain⟨x,y,hx,rfl,rfl⟩:=Cw4 hdv;rw[hdv] at h;rw[hx] at E;simp only[List.all_cons,List.all_nil,Bool.and_true,jF] at E;simp only[Na] at h;cases hts:c.argTypes.toList with
       |nil=>rw[hts] at h;exact h.elim
       |cons t ts=>cases ts with
        |nil=>rw[hts] at h;exact h.elim
        |cons t' M=>cases M with
         |nil=>
          rw[hts] at h;simp only[Az2] at h;cases hit:Pu (P.underlying t') with
          |true=>rw[hit] at h;exact Ei7 C hd E.1 E.2 hq hc hx hts hit h
          |false=>rw[hit] at h;exact Ez7 C hd E.1 E.2 hq hc hx hts h
         |cons W X=>rw[hts] at h;exact h.elim
   case min=>exact(Cw5 (isMax:=false) C hd E hq hc h).wp C hd
   case max=>exact(Cw5 (isMax:=true) C hd E hq hc h).wp C hd
   case panic=>
    cases hdv:Hq G s.env c.args.toList with
    |nil=>rw[hdv] at h;exact h.elim
    |cons d ds=>cases ds with
     |cons J ds=>rw[hdv] at h;exact h.elim
     |nil=>
      obtain⟨x,hx,rfl⟩:=As2 hdv;rw[hdv] at h;rw[hx] at E;(have hm:c.args.map a.eval= #[a.eval x]:=by apply Array.ext';simp [hx]);refine Cx0 C O (v:=a.eval x) ?_ (Bo C (by simpa using E)) h;rw[It hq hc,hm];simp [builtin]
theorem As4: ∀(all:List Oper) (j:Nat),Ux all j=(all[j]?).bind (·.dst)
 | [],j=>by simp [Ux]
 |o::r,0=>by simp [Ux]
 |o::r,j+1=>by simp [Ux,As4 r j]
theorem Cx1 {dst:Option Nat} {K:DK} {Q:DExit->DS->Prop} {s:DS} {op:Op} (h:dop P G dst K Q s op) (c:Call):op≠ .defer c:=by
 intro e;subst e;exact h
theorem Fx0 {F:Fence} {n:Nat} (C:FOk F) (y:Sim G N s a w) (M:Ext s0.heap w0 s.heap w) (O:Cx N o.dst=true) {c:Call} {f:Operand} {l:Nat} (hf:Bx N f=true) (hx:c.args.toList.all (Bx N)=true) (he:o.op= .call c) (S:c.callee= .value f)
  (U:dev G s.env f= .func (.yield l) [] []) (h:Bl1 P G l (Hq G s.env c.args.toList) s.heap (Xy o.dst K Q s.env)):o.wpIn F n P a w (Il G N K s w) (Rw G N Q s0 w0):=by
 have D:=Bo y hf;have E:=Tk y hx;rw[U] at D;generalize Hq G s.env c.args.toList=ds at h E;simp only[Rel,Ar] at D;obtain⟨xs,ys,V,h1,h2⟩:=D;have W:xs= #[]:=by cases xs;simp at h1;subst h1;rfl
 subst W;obtain⟨fn,tmps,X,Y,I,Z⟩:=h F (n-1) C _ w E y.heap y.glob;have aa:(execOp a.eval o).run P w= .ok (.round l fn tmps X Y) w:=by
  have:(c.args.toList.map a.eval).toArray=c.args.map a.eval:=by apply Array.ext';simp
  rw[this] at I;simp only[execOp,he,resolve,S,V,Deferred.ofValue,Sem.run_bind,Sem.run_pure,Result.andThen_ok,invoke];simpa using I
 refine⟨λf _=>C.fn f, ?_⟩;rw[Oper.semAt_eq _ _ _ (by intro c' e;rw[he] at e;cases e),aa,Oper.uponIn_round];refine⟨(by rw[C.depth];intro hh;cases hh),Z.mono λe w' ⟨e',H',J,ab,L,hE⟩=> ?_⟩;cases ab with
 |ret d v hv=>exact⟨_,J,(y.ext hE L).put O hv,hE⟩
 |panic d v hv=>exact⟨_,_,J,.panic _ _ hv,y.ext hE L,M.trans hE⟩
theorem Vb {F:Fence} {n:Nat} (D:FOk F) (y:Kx N o=true) (E:Sim G N s a w) (I:Ext s0.heap w0 s.heap w) (h:dop P G o.dst K Q s o.op):o.wpIn F n P a w (Il G N K s w) (Rw G N Q s0 w0):=by
 by_cases J: ∃c f l,o.op= .call c/\c.callee= .value f/\dev G s.env f= .func (.yield l) [] []
 ·obtain⟨c,f,l,h1,h2,h3⟩:=J;have hd:=Pw y;unfold Kx at y;rw[jF] at y;have C:=y.2;rw[Bp2] at C;rw[h1] at h C;simp only[Op.operands,Call.operands,Array.toList_append,List.all_append,jF] at C;obtain⟨L,M⟩:=C;rw[h2] at L;simp only[dop,h2,Xz,h3,Bo6] at h;exact Fx0 D E I hd (by simpa using L) M h1 h2 h3 h
 ·exact D.oper (Cx1 h) (Ej0 (λc f l h1 h2 h3=>J ⟨c,f,l,h1,h2,h3⟩) y E I h)
theorem Am9 {F:Fence} {n:Nat} (C:FOk F) (all:List Oper) (I:all.all (Kx N)=true): ∀(rest:List Oper),rest.all (Kx N)=true-> ∀(s:DS) (a:Act) (w:World),Sim G N s a w->Ext s0.heap w0 s.heap w->Sc P G all Q rest s->
  wpListIn F n P all.toArray (Rw G N Q s0 w0) rest a w
 | [],_,s,a,w,hS,hE,h=>⟨.normal,s,h,.normal,hS,hE⟩
 |o::rest,hr,s,a,w,hS,hE,h=>by
  simp only[List.all_cons,jF] at hr;have next: ∀(o:Oper) s a w,Sim G N s a w->Ext s0.heap w0 s.heap w->Kx N o=true->dop P G o.dst (Sc P G all Q rest) Q s o.op->o.wpIn F n P a w (wpListIn F n P all.toArray (Rw G N Q s0 w0) rest) (Rw G N Q s0 w0):=by
   intro o s a w hS hE hok hd;exact Oper.wpIn_mono (λa' w' ⟨s',V,W,X⟩=>Am9 C all I rest hr.2 s' a' w' W (hE.trans X) V) (Vb C hok hS hE hd)
  have skip:Br o.dst Fg (Sc P G all Q rest) s->wpListIn F n P all.toArray (Rw G N Q s0 w0) rest (a.put o.dst undef) w:=λhp=>
   Am9 C all I rest hr.2 _ _ _ (hS.put (Pw hr.1) (Ya w s.heap)) hE hp
  unfold wpListIn;simp only[Sc] at h;cases hg:o.guard with
  |none=>
   rw[hg] at h;rw[if_pos (by simp [Region.wanted,hg])];exact(next o s a w hS hE hr.1 h)
  |some Y=>
   obtain⟨j,b⟩:=Y;rw[hg] at h;simp only at h;cases hj:Ux all j with
   |none=>rw[hj] at h;exact h.elim
   |some g=>
    rw[hj] at h;simp only at h;(have J:(all[j]?).bind (·.dst)=some g:=by rw[<-As4];exact hj);obtain⟨L,M,O⟩:=Option.bind_eq_some_iff.1 J;have Z:L∈all:=List.mem_of_getElem? M;have aa:g<N:=by
     have:=List.all_eq_true.1 I L Z;have:=Pw this;rw[O] at this;simpa [Cx] using this
    have y:=hS.tmps g aa;by_cases S:s.env g= .tuple []
    ·rw[S] at h y;simp only[Rel,Ar] at y;obtain⟨xs,U,ab⟩:=y;have D:yielded all.toArray a.tmps j=none:=by
      have h2: ∀z,a.tmps[g]? =some z->z= .tuple xs:=λz hz=>by
       rw[Array.getD_eq_getD_getElem?,hz] at U;simpa using U
      unfold yielded;simp only[List.getElem?_toArray,J,Option.bind_some];cases hz:a.tmps[g]? with
      |none=>rfl
      |some z=>rw[h2 z hz]
     rw[if_neg (by simp [Region.wanted,hg,D])];exact⟨λf _=>C.fn f,skip h⟩
    split at h<;>(try exact h.elim)<;>(try (rename_i hv;exact absurd hv S))
    rename_i v hv
    rw[hv] at y;simp only[Rel] at y;have D:yielded all.toArray a.tmps j=some v:=by
     have h1:a.tmps[g]? =some (.bool v):=by
      rw[Array.getD_eq_getD_getElem?] at y;cases hq:a.tmps[g]? with
      |none=>
       have:=hS.size;rw[Array.getElem?_eq_none_iff] at hq;omega
      |some z=>rw[hq] at y;simpa using y
     simp [yielded,M,O,h1]
    by_cases E:v=b
    ·rw[if_pos (by simp [Region.wanted,hg,D,E])];exact(next o s a w hS hE hr.1 (h.1 E))
    ·rw[if_neg (by simp [Region.wanted,hg,D,E])];exact⟨λf _=>C.fn f,skip (h.2 E)⟩
end
section
variable {P:Program} {G:Nat->DVal} {N:Nat} {all:List Oper} {Q:DExit->DS->Prop} {s:DS} {rest:List Oper}
theorem Fa1:Sc P G all Q [] s=Q .normal s:=rfl
theorem Ej1 {dst:Option Nat} {op:Op} {t:TypeId} {p:String} {a:Array Edge}:Sc P G all Q (⟨dst,op,t,p,a,none⟩::rest) s=dop P G dst (Sc P G all Q rest) Q s op:=rfl
theorem Ej2 (dst:Option Nat) (op:Op) (b:Bool) (g:DVal):Az3 P G all Q dst op rest s b g=(match g with
  | .bool v=>(v=b->dop P G dst (Sc P G all Q rest) Q s op)/\(v≠b->Br dst Fg (Sc P G all Q rest) s)
  | .tuple []=>Br dst Fg (Sc P G all Q rest) s
  |_=>False):=by
 cases g with
 |bool v=>cases b<;>cases v<;>simp [Az3]
 |tuple l=>cases l<;>cases b<;>rfl
 |_=>cases b<;>rfl
theorem Dl6 {dst:Option Nat} {op:Op} {t:TypeId} {p:String} {a:Array Edge} {j:Nat} {b:Bool}:
  Sc P G all Q (⟨dst,op,t,p,a,some (j,b)⟩::rest) s=Cl5 P G all Q dst op rest s b (Ux all j):=by
 rw[Sc];cases h:Ux all j with
 |none=>simp [Cl5,h]
 |some g=>
  simp only[Cl5,h,Ej2];rfl
theorem Kd {dst:Option Nat} {op:Op} {b v:Bool} (y:v=true->Az3 P G all Q dst op rest s b (.bool true)) (hf:v=false->Az3 P G all Q dst op rest s b (.bool false)):
  Az3 P G all Q dst op rest s b (.bool v):=by
 cases v
 ·exact hf rfl
 ·exact y rfl
theorem Iu {X Y:DK} {v:Bool} (y:v=true->Cv6 X Y s (.bool true)) (hf:v=false->Cv6 X Y s (.bool false)):Cv6 X Y s (.bool v):=by
 cases v
 ·exact hf rfl
 ·exact y rfl
theorem Fa2:dwp P G N .skip Q s=Q .normal s:=rfl
theorem Ej3 {l:Nat}:dwp P G N (.label l) Q s=Q .normal s:=rfl
theorem Dl7 {id:Nat} {y:List Oper}:dwp P G N (.region id y.toArray false) Q s=Sc P G y Q y s:=rfl
theorem Fx1 {a b:Code}:dwp P G N (.seq a b) Q s=dwp P G N a (Bg0 (dwp P G N b Q) Q) s:=rfl
theorem Fa3 {c:Operand} {a b:Code}:dwp P G N (.cond c a b) Q s=Cv6 (dwp P G N a Q) (dwp P G N b Q) s (dev G s.env c):=rfl
theorem Ej4 {id:Nat} {c:Code}:dwp P G N (.block id c) Q s=dwp P G N c (Cl7 id Q) s:=rfl
theorem Fa4 {c:Code}:dwp P G N (.loop c) Q s=Ea9 G (dwp P G N c) Q s:=rfl
theorem Ej5 {c:Code}:dwp P G N (.scope c) Q s=dwp P G N c (Ea8 Q) s:=rfl
theorem Fa5 {id:Nat}:dwp P G N (.exit id) Q s=Q (.exit id) s:=rfl
theorem Fx2:dwp P G N .ret Q s=Q .ret s:=rfl
theorem Aa {α:Type} (f:Nat->α) (i:Nat) (v:α):upd f i v i=v:=by simp [upd]
theorem Ej6 {α:Type} (f:Nat->α) (i j:Nat) (v:α):upd f i v j=if j=i then v else f j:=rfl
theorem Fa6 (n:Nat) (z:DVal):By n [z]=List.replicate n z:=by
 unfold By
 induction n with
 |zero=>rfl
 |succ n ih=>simp [List.replicate_succ,ih]
end
section
variable {P:Program} {s:DS}
theorem Dl8 (e:TypeId):Gp2 (some (.slice e))=true:=rfl
theorem Fx3 {t:TypeId} {c:Bool} {op:BinOp} {dst:Option Nat} {cs:List DVal} {n:Nat} {y:DVal} {K:DK}:Bf7 P t c op dst true (.vslice cs n) y K s=(Gp2 (P.underlying t)=true/\Gl5 cs op dst K s):=rfl
theorem Ej7 {t:TypeId} {c:Bool} {op:BinOp} {dst:Option Nat} {y:DVal} {K:DK}:Bf7 P t c op dst true .nilSlice y K s=Rl P t c op dst .nilSlice y K s:=rfl
theorem Fx4 {t:TypeId} {c:Bool} {op:BinOp} {dst:Option Nat} {z r o n l:Nat} {y:DVal} {K:DK}:Bf7 P t c op dst true (.oslice z r o n l) y K s=Rl P t c op dst (.oslice z r o n l) y K s:=rfl
theorem Dl9 (t:Nat):Jk (.tmp t)=false:=rfl
theorem Cb4 (t:Nat):Jk (.global t)=false:=rfl
theorem Cx2 (t:Nat):Jk (.func t)=false:=rfl
theorem Dm0 (k:IntKind) (n:Int):Jk (.const (.int k n))=false:=rfl
theorem Cx3 (b:Bool):Jk (.const (.bool b))=false:=rfl
theorem Dm1 (b:ByteArray):Jk (.const (.string b))=false:=rfl
theorem Dm2 (b:Option Addr):Jk (.const (.pointer b))=false:=rfl
theorem Dm3 (b:Option Nat):Jk (.const (.map b))=false:=rfl
theorem Ej8:Jk (.const .nilFunc)=false:=rfl
theorem Ej9:Jk (.const .nilIface)=false:=rfl
theorem Dm4 (a:Array Value):Jk (.const (.agg a))=false:=rfl
theorem Dm5:Jk (.const (.slice none 0 0))=true:=rfl
end
attribute [go_sem] Dl8 Uy Fx3 Ej7 Fx4 Dl9 Cb4 Cx2 Dm0 Cx3 Dm1 Dm2 Dm3 Ej8 Ej9 Dm4 Dm5
theorem An0 {P:Program} {t:TypeId} {c:Bool} {op:BinOp} {dst:Option Nat} {K:DK} {s:DS} {a:Bool} {b:Bool}:Rl P t c op dst (.bool a) (.bool b) K s=Te dst (Uo op) (Aa9 c (P.underlying t) (.bool a) (.bool b)) K s:=rfl
theorem An1 {P:Program} {t:TypeId} {c:Bool} {op:BinOp} {dst:Option Nat} {K:DK} {s:DS}:Rl P t c op dst (.nilPtr) (.nilPtr) K s=Te dst (Uo op) (Aa9 c (P.underlying t) (.nilPtr) (.nilPtr)) K s:=rfl
theorem Ac9 {P:Program} {t:TypeId} {c:Bool} {op:BinOp} {dst:Option Nat} {K:DK} {s:DS} {r:Nat} {o:Nat}:Rl P t c op dst (.nilPtr) (.optr r o) K s=Te dst (Uo op) (Aa9 c (P.underlying t) (.nilPtr) (.optr r o)) K s:=rfl
theorem Ab1 {P:Program} {t:TypeId} {c:Bool} {op:BinOp} {dst:Option Nat} {K:DK} {s:DS} {o:Nat} {cs:List DVal}:Rl P t c op dst (.nilPtr) (.vptr cs o) K s=Te dst (Uo op) (Aa9 c (P.underlying t) (.nilPtr) (.vptr cs o)) K s:=rfl
theorem Ad0 {P:Program} {t:TypeId} {c:Bool} {op:BinOp} {dst:Option Nat} {K:DK} {s:DS} {r:Nat} {o:Nat}:Rl P t c op dst (.optr r o) (.nilPtr) K s=Te dst (Uo op) (Aa9 c (P.underlying t) (.optr r o) (.nilPtr)) K s:=rfl
theorem Ab2 {P:Program} {t:TypeId} {c:Bool} {op:BinOp} {dst:Option Nat} {K:DK} {s:DS} {o:Nat} {cs:List DVal}:Rl P t c op dst (.vptr cs o) (.nilPtr) K s=Te dst (Uo op) (Aa9 c (P.underlying t) (.vptr cs o) (.nilPtr)) K s:=rfl
theorem Wm {P:Program} {t:TypeId} {c:Bool} {op:BinOp} {dst:Option Nat} {K:DK} {s:DS} {i:TypeId} {v:DVal}:Rl P t c op dst (.nilIface) (.iface i v) K s=Te dst (Uo op) (Aa9 c (P.underlying t) (.nilIface) (.iface i v)) K s:=rfl
theorem Wn {P:Program} {t:TypeId} {c:Bool} {op:BinOp} {dst:Option Nat} {K:DK} {s:DS} {i:TypeId} {v:DVal}:Rl P t c op dst (.iface i v) (.nilIface) K s=Te dst (Uo op) (Aa9 c (P.underlying t) (.iface i v) (.nilIface)) K s:=rfl
theorem Ye {P:Program} {t:TypeId} {c:Bool} {op:BinOp} {dst:Option Nat} {K:DK} {s:DS}:Rl P t c op dst (.nilIface) (.nilIface) K s=Te dst (Uo op) (Aa9 c (P.underlying t) (.nilIface) (.nilIface)) K s:=rfl
theorem Ad1 {P:Program} {t:TypeId} {c:Bool} {op:BinOp} {dst:Option Nat} {K:DK} {s:DS}:Rl P t c op dst (.nilFunc) (.nilFunc) K s=Te dst (Uo op) (Aa9 c (P.underlying t) (.nilFunc) (.nilFunc)) K s:=rfl
theorem Wo {P:Program} {t:TypeId} {c:Bool} {op:BinOp} {dst:Option Nat} {K:DK} {s:DS} {f:Fn} {x:List DVal} {y:List DVal}:Rl P t c op dst (.func f x y) (.nilFunc) K s=Te dst (Uo op) (Aa9 c (P.underlying t) (.func f x y) (.nilFunc)) K s:=rfl
theorem Wp {P:Program} {t:TypeId} {c:Bool} {op:BinOp} {dst:Option Nat} {K:DK} {s:DS} {f:Fn} {x:List DVal} {y:List DVal}:Rl P t c op dst (.nilFunc) (.func f x y) K s=Te dst (Uo op) (Aa9 c (P.underlying t) (.nilFunc) (.func f x y)) K s:=rfl
theorem Yf {P:Program} {t:TypeId} {c:Bool} {op:BinOp} {dst:Option Nat} {K:DK} {s:DS}:Rl P t c op dst (.nilSlice) (.nilSlice) K s=Te dst (Uo op) (Aa9 c (P.underlying t) (.nilSlice) (.nilSlice)) K s:=rfl
theorem Px {P:Program} {t:TypeId} {c:Bool} {op:BinOp} {dst:Option Nat} {K:DK} {s:DS} {r:Nat} {o:Nat} {n:Nat} {l:Nat} {z:Nat}:Rl P t c op dst (.oslice z r o n l) (.nilSlice) K s=Te dst (Uo op) (Aa9 c (P.underlying t) (.oslice z r o n l) (.nilSlice)) K s:=rfl
theorem Py {P:Program} {t:TypeId} {c:Bool} {op:BinOp} {dst:Option Nat} {K:DK} {s:DS} {r:Nat} {o:Nat} {n:Nat} {l:Nat} {z:Nat}:Rl P t c op dst (.nilSlice) (.oslice z r o n l) K s=Te dst (Uo op) (Aa9 c (P.underlying t) (.nilSlice) (.oslice z r o n l)) K s:=rfl
theorem Dm6 {P:Program} {dst:Option Nat} {K:DK} {s:DS} {k y C:IntKind} {n:Int}:Ab9 P dst (some (.int k)) (some (.int y)) (.int C n) K s=Br dst (.int y (y.wrap n)) K s:=rfl
theorem Dm7 {P:Program} {dst:Option Nat} {K:DK} {s:DS} {l:List UInt8}:Ab9 P dst (some .string) (some .string) (.str l) K s=Br dst (.str l) K s:=rfl
theorem Ek0 (t:Nat):Ij (.tmp t)=false:=rfl
theorem Ek1 (t:Nat):Ij (.global t)=false:=rfl
theorem Ek2 (t:Nat):Ij (.func t)=false:=rfl
theorem Fx5 (P:Program) (n:Nat) (t:TypeId) (xs ys:List DVal):Ay7 P (n+1) t xs ys=Ak8 P (Ay7 P n) t xs ys (P.underlying t):=rfl
theorem Ek3 (v:Value):(DVal.raw v).cells= [.raw v]:=rfl
theorem Dm8 (b:Bool):(DVal.bool b).cells= [.bool b]:=rfl
theorem Fa7 (b:Bool):(DVal.bool b).one=true:=rfl
theorem Ek4 (k:IntKind) (n:Int):(DVal.int k n).cells= [.int k n]:=rfl
theorem Fx6 (k:IntKind) (n:Int):(DVal.int k n).one=true:=rfl
theorem Ek5 (s:List UInt8):(DVal.str s).cells= [.str s]:=rfl
theorem Fx7 (s:List UInt8):(DVal.str s).one=true:=rfl
theorem Cm3:(DVal.nilPtr).cells= [.nilPtr]:=rfl
theorem Dm9:(DVal.nilPtr).one=true:=rfl
theorem Dn0 (c:List DVal) (o:Nat):(DVal.vptr c o).cells= [.vptr c o]:=rfl
theorem Fa8 (c:List DVal) (o:Nat):(DVal.vptr c o).one=true:=rfl
theorem Dn1 (r o:Nat):(DVal.optr r o).cells= [.optr r o]:=rfl
theorem Fa9 (r o:Nat):(DVal.optr r o).one=true:=rfl
theorem Bp3:(DVal.nilSlice).cells= [.nilSlice]:=rfl
theorem Cm4:(DVal.nilSlice).one=true:=rfl
theorem Cm5 (c:List DVal) (n:Nat):(DVal.vslice c n).cells= [.vslice c n]:=rfl
theorem Dn2 (c:List DVal) (n:Nat):(DVal.vslice c n).one=true:=rfl
theorem Cm6 (z r o n l:Nat):(DVal.oslice z r o n l).cells= [.oslice z r o n l]:=rfl
theorem Dn3 (z r o n l:Nat):(DVal.oslice z r o n l).one=true:=rfl
theorem Cm7:(DVal.nilMap).cells= [.nilMap]:=rfl
theorem Dn4:(DVal.nilMap).one=true:=rfl
theorem Dn5 (r:Nat):(DVal.omap r).cells= [.omap r]:=rfl
theorem Fb0 (r:Nat):(DVal.omap r).one=true:=rfl
theorem Dn6 (f:Fn) (a c:List DVal):(DVal.func f a c).cells= [.func f a c]:=rfl
theorem Fb1 (f:Fn) (a c:List DVal):(DVal.func f a c).one=true:=rfl
theorem Cb5:(DVal.nilFunc).cells= [.nilFunc]:=rfl
theorem Cx4:(DVal.nilFunc).one=true:=rfl
theorem Cx5 (t:TypeId) (v:DVal):(DVal.iface t v).cells= [.iface t v]:=rfl
theorem Ek6 (t:TypeId) (v:DVal):(DVal.iface t v).one=true:=rfl
theorem Bp4:(DVal.nilIface).cells= [.nilIface]:=rfl
theorem Cm8:(DVal.nilIface).one=true:=rfl
theorem Cx6 (v:List DVal):(DVal.tuple v).cells= [.tuple v]:=rfl
theorem Ek7 (v:List DVal):(DVal.tuple v).one=false:=rfl
theorem Ek8 (c:List DVal):(DVal.agg c).cells=c:=rfl
theorem Fx8 (c:List DVal):(DVal.agg c).one=false:=rfl
theorem Ek9:Hf .add=false:=rfl
theorem El0:Hf .sub=false:=rfl
theorem El1:Hf .mul=false:=rfl
theorem El2:Hf .quo=false:=rfl
theorem El3:Hf .rem=false:=rfl
theorem El4:Hf .and=false:=rfl
theorem Fb2:Hf .or=false:=rfl
theorem El5:Hf .xor=false:=rfl
theorem Cm9:Hf .andNot=false:=rfl
theorem El6:Hf .eql=false:=rfl
theorem El7:Hf .neq=false:=rfl
theorem El8:Hf .lss=false:=rfl
theorem El9:Hf .leq=false:=rfl
theorem Em0:Hf .gtr=false:=rfl
theorem Em1:Hf .geq=false:=rfl
theorem Em2:Hf .shl=true:=rfl
theorem Em3:Hf .shr=true:=rfl
theorem Cb6:Fl (some (.bool))=true:=rfl
theorem Cx7:Pu (some (.bool))=false:=rfl
theorem Cn0 (k:IntKind):Fl (some (.int k))=true:=rfl
theorem Bk3:Fl (some (.string))=true:=rfl
theorem Cb7:Pu (some (.string))=false:=rfl
theorem Cb8:Az1 (some (.string))=true:=rfl
theorem Az9 (e:TypeId):Fl (some (.pointer e))=true:=rfl
theorem Bp5 (e:TypeId):Pu (some (.pointer e))=false:=rfl
theorem Bp6 (e:TypeId):Fl (some (.slice e))=true:=rfl
theorem Cn1 (e:TypeId):Pu (some (.slice e))=false:=rfl
theorem Cn2 (e:TypeId):Az1 (some (.slice e))=true:=rfl
theorem Bp7 (n:Nat) (e:TypeId):Fl (some (.array n e))=true:=rfl
theorem Cn3 (n:Nat) (e:TypeId):Pu (some (.array n e))=false:=rfl
theorem Cn4 (k e:TypeId):Fl (some (.map k e))=true:=rfl
theorem Dn7 (k e:TypeId):Pu (some (.map k e))=false:=rfl
theorem Bk4 (f:Array Field):Fl (some (.struct f))=true:=rfl
theorem Cb9 (f:Array Field):Pu (some (.struct f))=false:=rfl
theorem Cc0 (p r:Array TypeId) (v:Bool):Fl (some (.func p r v))=true:=rfl
theorem Cx8 (p r:Array TypeId) (v:Bool):Pu (some (.func p r v))=false:=rfl
theorem Bp8 (e:Array TypeId):Fl (some (.tuple e))=true:=rfl
theorem Cn5 (e:Array TypeId):Pu (some (.tuple e))=false:=rfl
theorem An2 (m:Array (String×TypeId)):Fl (some (.interface m))=false:=rfl
theorem Dn8 (b:Bool):Fk (.bool b)= .bool b:=rfl
theorem Em4 (k:IntKind) (n:Int):Fk (.int k n)= .int k n:=rfl
theorem Cn6 (l:List UInt8):Fk (.string (ByteArray.mk l.toArray))= .str l:=rfl
theorem Cn7:Fk (.pointer none)= .nilPtr:=rfl
theorem Bp9:Fk (.slice none 0 0)= .nilSlice:=rfl
theorem Cn8:Fk (.map none)= .nilMap:=rfl
theorem Cc1:Fk (.nilFunc)= .nilFunc:=rfl
theorem Bq0:Fk (.nilIface)= .nilIface:=rfl
theorem Em5 (l:List Value):Fk (.agg l.toArray)= .agg (Jd l):=rfl
theorem Cx9 (l:List Value):Fk (.tuple l.toArray)= .tuple (Jd l):=rfl
theorem Dn9 (f:Fn) (a c:List Value):Fk (.func f a.toArray c.toArray)= .func f (Jd a) (Jd c):=rfl
attribute [go_sem] Fa1 Ej1 Dl6 Fa2 Ej3 Dl7 Fx1 Fa3 Ej4 Fa4 Ej5 Fa5 Fx2 Aa Ej6 Fa6 List.toList_toArray jI jG List.getElem?_cons_zero List.getElem?_cons_succ List.getElem?_nil true_and and_true eq_self dop.eq_1 dop.eq_2 dop.eq_3 dop.eq_4 dop.eq_5 dop.eq_6 dop.eq_7 dop.eq_8 dop.eq_9 dop.eq_10 dop.eq_11 dop.eq_12 dop.eq_13 dop.eq_14 dop.eq_15 dop.eq_16 dop.eq_17 dop.eq_18 dop.eq_19 dop.eq_20 dop.eq_21 dop.eq_22 dop.eq_23 dop.eq_24 dop.eq_25 dop.eq_26 dop.eq_27 dop.eq_28 dop.eq_29 dop.eq_30 dop.eq_31 Ab8.eq_1 Ab8.eq_2 Hb5.eq_1 Hb5.eq_2 Ea2.eq_1 Am5.eq_1 Am5.eq_2 Am5.eq_3 Gp3.eq_1 Ab9.eq_1 Cl2.eq_1 Dk5.eq_1 Ea3.eq_1 Br.eq_1 Wl.eq_1 Wl.eq_2 dev.eq_1 dev.eq_2 dev.eq_3 dev.eq_4 Hq.eq_1 Hq.eq_2 Rm.eq_1 Rm.eq_2 Mr.eq_1 Mr.eq_2 Hv.eq_1 Hv.eq_2 Cu9.eq_1 Ey8.eq_1 Ey8.eq_2 Ck8.eq_1 Ck8.eq_2 Zy.eq_1 Zy.eq_2 Dk3.eq_1 Bn5.eq_1 Dk4.eq_1 Dk4.eq_2 Aq9.eq_1 Aq9.eq_2 Uv.eq_1 Bn6.eq_1 Bn6.eq_2 Bn6.eq_3 Ck9.eq_1 Cd9.eq_1 Cd9.eq_2 Dz7.eq_1 Cl0.eq_1 Ah6.eq_1 Ah6.eq_2 Ah6.eq_3 Ah6.eq_4 Ah6.eq_5 Aa9.eq_1 Aa9.eq_2 Aa9.eq_3 Aa9.eq_4 Aa9.eq_5 Aa9.eq_6 Aa9.eq_7 Aa9.eq_8 Aa9.eq_9 Aa9.eq_10 Aa9.eq_11 Aa9.eq_12 Aa9.eq_13 Aa9.eq_14 Aa9.eq_15 Gp1.eq_1 Gp1.eq_2 Jj.eq_1 Jj.eq_2 Jj.eq_3 Dz8.eq_1 Dz8.eq_2 Cv0.eq_1 Cv0.eq_2 Cv1.eq_1 Dz9.eq_1 Ea0.eq_1 Gl4.eq_1 Gl4.eq_2 Ak8.eq_1 Ak8.eq_2 Ak8.eq_3 Ak8.eq_4 Ak8.eq_5 Te.eq_1 Te.eq_2 Uo.eq_1 Uo.eq_2 Ij.eq_1 Bl2.eq_1 Bl2.eq_2 Bl2.eq_3 Bl2.eq_4 Bl2.eq_5 Bl2.eq_6 Bl2.eq_7 Bl2.eq_8 Bl2.eq_9 Bl2.eq_10 Bl2.eq_11 Bl2.eq_12 Bl2.eq_13 Bl2.eq_14 Bl2.eq_15 Cl1.eq_1 Cl1.eq_2 Ar0.eq_1 Ar0.eq_2 Ar0.eq_3 Ar0.eq_4 Ar0.eq_5 Ar0.eq_6 Ar0.eq_7 Ea1.eq_1 Ea1.eq_2 Rl.eq_1 Rl.eq_2 Rl.eq_3 dUn.eq_1 dUn.eq_2 dUn.eq_3 Ar1.eq_1 Ar1.eq_2 Xv.eq_1 Xv.eq_2 Bf8.eq_1 Bf8.eq_2 Xw.eq_1 dLo.eq_1 dLo.eq_2 dHi.eq_1 dHi.eq_2 Ay8.eq_1 Ar2.eq_1 Xx.eq_1 Cl3.eq_1 Gl6.eq_1 Ay9.eq_1 Ay9.eq_2 Ay9.eq_3 Ay9.eq_4 Ay9.eq_5 Ay9.eq_6 Ay9.eq_7 Bl3.eq_1 Bl3.eq_2 Bf9.eq_1 Bf9.eq_2 Tg.eq_1 Cv2.eq_1 Cv2.eq_2 Cv2.eq_3 Ea4.eq_1 Ea4.eq_2 Bn7.eq_1 Th.eq_1 Th.eq_2 Th.eq_3 Bn8.eq_1 Bn8.eq_2 Ar3.eq_1 Bn9.eq_1 Bn9.eq_2 Az0.eq_1 Az0.eq_2 Az0.eq_3 Az0.eq_4 Qq.eq_1 Qq.eq_2 dLen.eq_1 dLen.eq_2 dLen.eq_3 dLen.eq_4 dLen.eq_5 Dk6.eq_1 Ce0.eq_1 Ac0.eq_1 Ac0.eq_2 Ac0.eq_3 Ac0.eq_4 Pt.eq_1 Pt.eq_2 Cv3.eq_1 Cv3.eq_2 Bl4.eq_1 Az2.eq_1 Ey9.eq_1 Ey9.eq_2 Ey9.eq_3 Ez0.eq_1 Bo0.eq_1 Ea5.eq_1 Cl4.eq_1 Cl4.eq_2 Bo1.eq_1 Cv4.eq_1 Pu.eq_1 Ar4.eq_1 Ar5.eq_1 Ar5.eq_2 Ab0.eq_1 Ab0.eq_2 Ab0.eq_3 Ab0.eq_4 Ac1.eq_1 Ac1.eq_2 Ac1.eq_3 Mz.eq_1 Mz.eq_2 Uw.eq_1 Uw.eq_2 Uw.eq_3 Ea6.eq_1 Ce1.eq_1 Ac2.eq_1 Ea7.eq_1 Ea7.eq_2 Ar6.eq_1 Bo2.eq_1 Ah7.eq_1 Dk7.eq_1 Bo3.eq_1 Bo3.eq_2 Dk8.eq_1 Bl5.eq_1 Bl5.eq_2 Cv5.eq_1 Cv5.eq_2 Bo4.eq_1 Bo5.eq_1 Ar7.eq_1 Ce2.eq_1 Ac3.eq_1 Ac3.eq_2 dMM.eq_1 Ac4.eq_1 Ac4.eq_2 Ac4.eq_3 Ah8.eq_1 Ah8.eq_2 Xy.eq_1 Xy.eq_2 Bo6.eq_1 Bo6.eq_2 Am6.eq_1 Na.eq_1 Na.eq_2 Na.eq_3 Na.eq_4 Na.eq_5 Na.eq_6 Na.eq_7 Na.eq_8 Xz.eq_1 Xz.eq_2 Xz.eq_3 Ux.eq_1 Ux.eq_2 Ux.eq_3 Az3.eq_1 Az3.eq_2 Az3.eq_3 Az3.eq_4 Az3.eq_5 Az3.eq_6 Cl5.eq_1 Cl5.eq_2 Bg0.eq_1 Bg0.eq_2 Bg0.eq_3 Bg0.eq_4 Bg0.eq_5 Cl6.eq_1 Cl6.eq_2 Cl7.eq_1 Cl7.eq_2 Cl7.eq_3 Cl7.eq_4 Cl7.eq_5 Ea8.eq_1 Ea8.eq_2 Ea8.eq_3 Ea8.eq_4 Ea8.eq_5 Cv6.eq_1 Cv6.eq_2 Fg.eq_1 Jd.eq_1 Jd.eq_2 An0 An1 Ac9 Ab1 Ad0 Ab2 Wm Wn Ye Ad1 Wo Wp Yf Px Py Dm6 Dm7 Ek0 Ek1 Ek2 Fx5 Ek3 Dm8 Fa7 Ek4 Fx6 Ek5 Fx7 Cm3 Dm9 Dn0 Fa8 Dn1 Fa9 Bp3 Cm4 Cm5 Dn2 Cm6 Dn3 Cm7 Dn4 Dn5 Fb0 Dn6 Fb1 Cb5 Cx4 Cx5 Ek6 Bp4 Cm8 Cx6 Ek7 Ek8 Fx8 Ek9 El0 El1 El2 El3 El4 Fb2 El5 Cm9 El6 El7 El8 El9 Em0 Em1 Em2 Em3 Cb6 Cx7 Cn0 Bk3 Cb7 Cb8 Az9 Bp5 Bp6 Cn1 Cn2 Bp7 Cn3 Cn4 Dn7 Bk4 Cb9 Cc0 Cx8 Bp8 Cn5 An2 Dn8 Em4 Cn6 Cn7 Bp9 Cn8 Cc1 Bq0 Em5 Cx9 Dn9
section
variable {P:Program} {G:Nat->DVal} {N:Fr}
variable {s s0:DS} {a:Act} {w w0:World} {Q:DExit->DS->Prop}
theorem Rn.refl (s:DS):Rn G s s:=λw y hG=>⟨y,λb h=>h,hG,λi x h=>h⟩
theorem Rn.sim {C:DS} (h:Rn G s C) (y:Sim G N s a w):Sim G N C a w/\Ext s.heap w C.heap w:=by
 obtain⟨h1,h2,h3,h4⟩:=h w y.heap y.glob;exact⟨⟨y.size,y.defers.less h2,λi hi=>h4 i _ (y.tmps i hi),h1,h3,y.base⟩,⟨rfl,rfl,rfl,Nat.le_refl _,λ_ _ _=>rfl,λb hb=> .inl (h2 b hb),λ_ _=>rfl,λ_ _ _=>rfl⟩⟩
theorem Do0 {e:Exit} {y:Act} {w' w1:World} {s1:DS} (h:Rw G N Q s1 w1 e y w') (C:Ext s0.heap w0 s1.heap w1):Rw G N Q s0 w0 e y w':=by
 obtain⟨e',s',hq,hx,hS,D⟩:=h;exact⟨e',s',hq,hx,hS,C.trans D⟩
theorem Do1 {F:Fence} {n:Nat} {c:Code} {ι:Type} (I:ι->DS->Prop) (μ:ι->Nat) (i:ι) (O:Sim G N s a w) (S:I i s) (U:Ext s0.heap w0 s.heap w)
  (V: ∀i s a w,Sim G N s a w->I i s->c.wpIn F n P (Rw G N (Bg0 (λs1=> ∃j s2,Rn G s1 s2/\I j s2/\μ j<μ i) Q) s w) a w):(Code.loop c).wpIn F n P (Rw G N Q s0 w0) a w:=by
 intro b k cs W hb hr;have key: ∀n i s a w,μ i=n->I i s->Sim G N s a w->Ext s0.heap w0 s.heap w->
   ∃e a' w',Rw G N Q s0 w0 e a' w'/\ArrivesIn (Machine.fenced P F) P (lone (b.atR a (.code c:: .inLoop c::k)) cs w) b k cs e a' w':=by
  intro n
  induction n using Nat.strongRecOn with
  |_ n ih=>
   intro i s a w hn S O U;obtain⟨e,C,D,hq,y⟩:=V i s a w O S b (.inLoop c::k) cs W hb hr;obtain⟨e',M,E,X,J,Y⟩:=hq;have L:=U.trans Y;cases X with
   |normal=>
    obtain⟨j,Z,hg,aa,ab⟩:=E;obtain⟨ac,ad⟩:=hg.sim J;obtain⟨e₂,a₂,w₂,ae,af⟩:=ih (μ j) (hn▸ab) j Z C D rfl aa ac (L.trans ad);exact⟨e₂,a₂,w₂,ae,.of_steps (StepsIn.trans y (.one (fenced_calm hb hr rfl) stepR_inLoop)) af⟩
   |exit id=>exact⟨_,C,D,⟨_,M,E,.exit id,J,L⟩,.pass (x:= .inLoop c) rfl (λ_ _=> .inl (by simp)) y⟩
   |goto l=>exact⟨_,C,D,⟨_,M,E,.goto l,J,L⟩,.pass (x:= .inLoop c) rfl (λ_ _=> .inl (by simp)) y⟩
   |ret=>exact⟨_,C,D,⟨_,M,E,.ret,J,L⟩,.pass (x:= .inLoop c) rfl (λ_ _=> .inl (by simp)) y⟩
   |panic d v hv=>exact⟨_,C,D,⟨_,M,E,.panic d v hv,J,L⟩,.pass (x:= .inLoop c) rfl (λ_ _=> .inl (by simp)) y⟩
 obtain⟨e,a',w',hq,y⟩:=key _ i s a w rfl S O U;exact⟨e,a',w',hq,.of_steps (.one (fenced_calm hb hr rfl) stepR_loop) y⟩
theorem Ak4 {F:Fence} {n:Nat} {c:Code} {I J:Exit->Act->World->Prop} (h:c.wpIn F n P I a w) (L: ∀e a w,I e a w->(∀l,e≠ .goto l)/\J e a w):(Code.scope c).wpIn F n P J a w:=by
 intro b k cs M hb hr;have h0:(lone (b.atR a (.code (.scope c)::k)) cs w).fenced P F:=fenced_calm hb hr rfl;have s0:step P (lone (b.atR a (.code (.scope c)::k)) cs w)= .next (lone (b.atR a (.code c:: .inScope c::k)) cs w):=step_lone_go (by simp [stepG,stepG.exec,Frame.atR])
 have s1: ∀(a:Act) (w:World),step P (lone (b.atR a (.inScope c::k)) cs w)= .next (lone (b.atR a k) cs w):=λa w=>step_lone_go (by simp [stepG,stepG.exec,Frame.atR])
 obtain⟨e,C,D,O,y⟩:=h b (.inScope c::k) cs M hb hr;obtain⟨hg,E⟩:=L _ _ _ O;cases e with
 |normal=>exact⟨.normal,C,D,E,.head h0 s0 (StepsIn.trans y (.one (fenced_calm hb hr rfl) (s1 _ _)))⟩
 |exit id=>
  have hx:exitTo id (.inScope c::k)=exitTo id k:=by simp [exitTo]
  exact⟨.exit id,C,D,E,λk' hk=> .head h0 s0 (y.1 k' (by rw[hx];exact hk)),
   λS hk=>let ⟨k₁,h1,h2⟩:=y.2 S (by rw[hx];exact hk);⟨k₁,h1,.head h0 s0 h2⟩⟩
 |goto l=>exact absurd rfl (hg l)
 |ret=>exact⟨_,C,D,E,.of_steps (.one h0 s0) y⟩
 |panic ch=>exact⟨_,C,D,E,.of_steps (.one h0 s0) y⟩
 |outgrown=>exact⟨_,C,D,E,.of_steps (.one h0 s0) y⟩
def Ab3:Code->Bool
 | .seq a b=>Ab3 a&&Ab3 b
 | .cond _ a b=>Ab3 a&&Ab3 b
 | .block _ c=>Ab3 c
 | .loop c=>Ab3 c
 | .scope c=>Ab3 c
 | .rangeFunc _ _ _ _=>false
 |_=>true
theorem Hr {N:Nat} {F:Fence} {n:Nat} {B:Base} (E:FOk F): ∀(c:Code),In N c=true->(F=Fence.wide/\B.still=false\/Ab3 c=true)-> ∀(Q:DExit->DS->Prop) (s:DS),dwp P G N c Q s->
  ∀(a:Act) (w:World),Sim G ⟨N,B⟩ s a w->c.wpIn F n P (λe a' w'=> ∃e' s',Q e' s'/\RelX w' s'.heap e' e/\Sim G ⟨N,B⟩ s' a' w'/\Ext s.heap w s'.heap w') a w
 | .skip,_,_,Q,s,h=>λa w hS=>wpIn_skip ⟨.normal,s,h,.normal,hS,Ext.refl _ _⟩
 | .label l,_,_,Q,s,h=>λa w hS=>wpIn_label ⟨.normal,s,h,.normal,hS,Ext.refl _ _⟩
 | .region id ops false,hok,_,Q,s,h=>λa w hS=>by
  have O:ops.toList.all (Kx N)=true:=by
   have:ops.all (Kx N)=true:=hok;rw[Bp2] at this;exact this
  have h1:=Am9 (n:=n) E (P:=P) (G:=G) (N:=⟨N,B⟩) (s0:=s) (w0:=w) (Q:=Q) ops.toList O ops.toList O s a w hS (Ext.refl _ _) h;have:ops=ops.toList.toArray:=by simp
  rw[this];exact wpIn_region_lit h1
 | .region id ops true,_,_,Q,s,h=>λa w hS=>h F n B E a w hS
 | .seq x y,hok,hfl,Q,s,h=>λa w hS=>by
  simp only[In,jF] at hok;simp only[Ab3,jF] at hfl;refine wpIn_seq (wpIn_mono (Hr E x hok.1 (hfl.imp id (·.1)) _ s h a w hS) ?_);rintro e a' w' ⟨e',s',C,J,D,hE⟩;cases J with
  |normal=>exact wpIn_mono (Hr E y hok.2 (hfl.imp id (·.2)) Q s' C a' w' D) λe a w he=>Do0 he hE
  |exit id=>exact⟨_,s',C,.exit id,D,hE⟩
  |goto l=>exact⟨_,s',C,.goto l,D,hE⟩
  |ret=>exact⟨_,s',C,.ret,D,hE⟩
  |panic d v hv=>exact⟨_,s',C,.panic d v hv,D,hE⟩
 | .cond c x y,hok,hfl,Q,s,h=>λa w hS=>by
  simp only[In,jF] at hok;simp only[Ab3,jF] at hfl;have r:=Bo hS hok.1.1;simp only[dwp] at h;cases hv:dev G s.env c<;>rw[hv] at h r<;>try exact h.elim
  rename_i b
  simp only[Rel] at r;cases b
  ·exact wpIn_cond_false r (Hr E y hok.2 (hfl.imp id (·.2)) Q s h a w hS)
  ·exact wpIn_cond_true r (Hr E x hok.1.2 (hfl.imp id (·.1)) Q s h a w hS)
 | .block id c,hok,hfl,Q,s,h=>λa w hS=>by
  simp only[In] at hok;simp only[Ab3] at hfl;refine wpIn_block (wpIn_mono (Hr E c hok hfl _ s h a w hS) ?_);rintro e a' w' ⟨e',s',C,J,D,hE⟩;cases J with
  |normal=>exact⟨_,s',C,.normal,D,hE⟩
  |exit L=>
   simp only[Exit.inBlock];simp only[Cl7] at C;by_cases M:L=id
   ·rw[if_pos M];simp only[M,decide_true,Cl6] at C;exact⟨_,s',C,.normal,D,hE⟩
   ·rw[if_neg M];simp only[M,decide_false,Cl6] at C;exact⟨_,s',C,.exit L,D,hE⟩
  |goto l=>exact⟨_,s',C,.goto l,D,hE⟩
  |ret=>exact⟨_,s',C,.ret,D,hE⟩
  |panic d v hv=>exact⟨_,s',C,.panic d v hv,D,hE⟩
 | .loop c,hok,hfl,Q,s,h=>λa w hS=>by
  simp only[In] at hok;simp only[Ab3] at hfl;obtain⟨ι,I,μ,⟨i,s',hg,S⟩,U⟩:=h;obtain⟨D,V⟩:=hg.sim hS;exact Do1 I μ i D S V λW s1 X w1 Y Z=>Hr E c hok hfl _ s1 (U W s1 Z) X w1 Y
 | .rangeFunc _ _ _ _,_,hfl,_,_,h=>λa w hS=>by
  rcases hfl with⟨rfl,hst⟩|hfl
  ·exact h n B hst a w hS
  ·cases hfl
 | .exit id,_,_,Q,s,h=>λa w hS=>wpIn_exit ⟨.exit id,s,h,.exit id,hS,Ext.refl _ _⟩
 | .scope c,hok,hfl,Q,s,h=>λa w hS=>by
  simp only[In] at hok;simp only[Ab3] at hfl;refine Ak4 (Hr E c hok hfl _ s h a w hS) ?_;rintro e a' w' ⟨e',s',C,J,D,hE⟩;cases J with
  |normal=>exact⟨by simp,_,s',C,.normal,D,hE⟩
  |exit L=>exact⟨by simp,_,s',C,.exit L,D,hE⟩
  |goto l=>exact C.elim
  |ret=>exact⟨by simp,_,s',C,.ret,D,hE⟩
  |panic d v hv=>exact⟨by simp,_,s',C,.panic d v hv,D,hE⟩
 | .goto l,_,_,Q,s,h=>λa w hS=>wpIn_goto ⟨.goto l,s,h,.goto l,hS,Ext.refl _ _⟩
 | .ret,_,_,Q,s,h=>λa w hS=>wpIn_ret ⟨.ret,s,h,.ret,hS,Ext.refl _ _⟩
 | .refuse _,_,_,_,_,h=>h.elim
theorem Do2 {N:Nat} (c:Code) (y:In N c=true) (Q:DExit->DS->Prop) (s:DS) (h:dwp P G N c Q s):Hb4 P G N c Q s:=
 λ_ _ hst a w hS=>Hr (.inl rfl) c y (.inl ⟨rfl,hst⟩) Q s h a w hS
def Do3 (size:Nat) (cs:List DVal) (off:Nat):Option Bool->Option DVal
 |some true=>if off+size<=cs.length then some (.agg ((cs.drop off).take size)) else none
 |some false=>cs[off]?
 |none=>none
def As5 (size:Nat) (ag:Option Bool) (off:Nat):Option DObj->Option DVal
 |some (.cells cs _)=>Do3 size cs off ag
 |_=>none
def Fb3 (size:Nat) (ag:Option Bool) (H:Ab):DVal->Option DVal
 | .optr r off=>As5 size ag off (H r)
 |_=>none
def Cy0 (P:Program) (s:DS):ResultVar->Option DVal
 | .tmp t=>some (s.env t)
 | .cell x t=>Fb3 (P.cellsOf t) (Dz P t) s.heap (s.env x)
def Gl9:Option DVal->Option (List DVal)->Option (List DVal)
 |some d,some ds=>some (d::ds)
 |_,_=>none
def Qs (P:Program) (s:DS):List ResultVar->Option (List DVal)
 | []=>some []
 |r::rs=>Gl9 (Cy0 P s r) (Qs P s rs)
def Ms:Option (List DVal)->Option DVal
 |some [d]=>some d
 |some ds=>some (.tuple ds)
 |none=>none
def Dj (R:DEnd->Ab->Prop) (v:DVal) (H:Ab):Prop:=
 ∃v' H',(∀w,Bg w H->Bg w H'/\(∀b,H' b≠none->H b≠none)/\ ∀x,Rel w H v x->Rel w H' v' x)/\R (.ret v') H'
def Tl (R:DEnd->Ab->Prop) (v:DVal) (H:Ab):Prop:=
 ∃v' H',(∀w,Bg w H->Bg w H'/\(∀b,H' b≠none->H b≠none)/\ ∀x,Rel w H v x->Rel w H' v' x)/\R (.panic v') H'
def Ce8 (R:DEnd->Ab->Prop) (H:Ab):Option DVal->Prop
 |some v=>Dj R v H
 |none=>False
def Eb5 (P:Program) (rs:List ResultVar) (R:DEnd->Ab->Prop):DExit->DS->Prop
 | .normal,s=>Ce8 R s.heap (Ms (Qs P s rs))
 | .ret,s=>Ce8 R s.heap (Ms (Qs P s rs))
 | .panic v,s=>Tl R v s.heap
 |_,_=>False
def Rx:List DVal->Nat->(Nat->DVal)
 | [],_=>λ_=>Fg
 |x::xs,k=>upd (Rx xs (k+1)) k x
def Bq1 (N:Nat):ResultVar->Bool
 | .tmp t=>decide (t<N)
 | .cell x _=>decide (x<N)
theorem Dj.refl {R:DEnd->Ab->Prop} {v:DVal} {H:Ab} (h:R (.ret v) H):Dj R v H:=⟨v,H,λw y=>⟨y,λb hb=>hb,λx hx=>hx⟩,h⟩
theorem Tl.refl {R:DEnd->Ab->Prop} {v:DVal} {H:Ab} (h:R (.panic v) H):Tl R v H:=⟨v,H,λw y=>⟨y,λb hb=>hb,λx hx=>hx⟩,h⟩
theorem Fb4 (y:Sim G N s a w) {r:ResultVar} (hr:Bq1 N r=true) {d:DVal} (h:Cy0 P s r=some d):
  ∃x,((match r with
  | .tmp t=>pure (a.tmps.getD t undef)
  | .cell x t=>do loadVar t (←asAddr (a.tmps.getD x undef))):Sem Value).run P w= .ok x w/\Rel w s.heap d x:=by
 cases r with
 |tmp t=>
  simp only[Cy0] at h;cases h;exact⟨_,rfl,y.tmps t (by simpa [Bq1] using hr)⟩
 |cell x t=>
  simp only[Cy0] at h;have C:=y.tmps x (by simpa [Bq1] using hr);cases hv:s.env x<;>rw[hv] at h C<;>simp only[Fb3] at h<;>try (cases h;done)
  rename_i r0 off
  simp only[Rel] at C;cases hh:s.heap r0 with
  |none=>rw[hh] at h;cases h
  |some ob=>
   cases ob with
   |loop=>rw[hh] at h;simp only[As5] at h;cases h
   |iter=>rw[hh] at h;simp only[As5] at h;cases h
   |map=>rw[hh] at h;simp only[As5] at h;cases h
   |cells cs e=>
    rw[hh] at h;simp only[As5] at h;obtain⟨xs,hl,D⟩:=y.heap.holds hh;have L:=hl.length;have M: ∀z,(do loadVar t (←asAddr z):Sem Value)=(do let ad<-asAddr z;loadVar t ad):=λz=>rfl;simp only[C,asAddr];cases hag:Dz P t with
    |none=>rw[hag] at h;cases h
    |some E=>
     rw[hag] at h;cases E with
     |true=>
      simp only[Do3] at h;split at h<;>try (cases h;done)
      rename_i hle
      cases h;have hx:Mp w r0 off ((xs.drop off).take (P.cellsOf t)):=by
       have:=(D.drop (n:=off)).take (n:=P.cellsOf t);simpa using this
      have I:((xs.drop off).take (P.cellsOf t)).length=P.cellsOf t:=by
       simp;omega
      refine⟨_,by simp [Zz hag hx I];rfl, ?_⟩;simp only[Rel];exact⟨_,rfl,(hl.drop off).take _⟩
     |false=>
      simp only[Do3] at h;obtain⟨x,hx,J⟩:=hl.get h;have:=D off x hx;rw[Nat.zero_add] at this;exact⟨x,by simp [Aa0 hag this],J⟩
theorem Cy1 (D:Sim G N s a w): ∀ {y:List ResultVar},y.all (Bq1 N)=true-> ∀ {C:List DVal},Qs P s y=some C->
  ∃xs,(y.mapM (λr=>(match r with
  | .tmp t=>pure (a.tmps.getD t undef)
  | .cell x t=>do loadVar t (←asAddr (a.tmps.getD x undef)):Sem Value))).run P w= .ok xs w/\Ar w s.heap C xs
 | [],_,C,h=>by
  simp only[Qs] at h;cases h;exact⟨[],by simp,by simp [Ar]⟩
 |r::y,hok,C,h=>by
  simp only[List.all_cons,jF] at hok;simp only[Qs] at h;cases h1:Cy0 P s r with
  |none=>rw[h1] at h;cases h
  |some d=>
   cases h2:Qs P s y with
   |none=>rw[h1,h2] at h;cases h
   |some ds'=>
    rw[h1,h2] at h;simp only[Gl9] at h;cases h;obtain⟨x,hx,hr⟩:=Fb4 (P:=P) D hok.1 h1;obtain⟨xs,E,I⟩:=Cy1 D hok.2 h2;refine⟨x::xs, ?_,by simp only[Ar];exact⟨x,xs,rfl,hr,I⟩⟩;simp only[List.mapM_cons,Sem.run_bind,hx,E,Result.andThen_ok,Sem.run_pure]
theorem Bg3 (D:Sim G N s a w) {fn:Func} (E:fn.results.toList.all (Bq1 N)=true) {d:DVal} (h:Ms (Qs P s fn.results.toList)=some d):
  ∃x,(results fn a.tmps).run P w= .ok x w/\Rel w s.heap d x:=by
 cases h2:Qs P s fn.results.toList with
 |none=>rw[h2] at h;cases h
 |some ds=>
  rw[h2] at h;obtain⟨xs,I,C⟩:=Cy1 (P:=P) D E h2;have J:(results fn a.tmps).run P w= .ok (if h:xs.toArray.size=1 then xs.toArray[0] else .tuple xs.toArray) w:=by
   unfold results;rw[Array.mapM_eq_mapM_toList];simp only[Sem.run_bind,Sem.run_map];have:(fn.results.toList.mapM (λr=>(match r with
    | .tmp t=>pure (a.tmps.getD t undef)
    | .cell x t=>do loadVar t (←asAddr (a.tmps.getD x undef)):Sem Value))).run P w= .ok xs w:=I
   first
    |rw[this]
    |(show((Sem.run P (fn.results.toList.mapM (λr=>(match r with
    | .tmp t=>pure (a.tmps.getD t undef)
    | .cell x t=>do loadVar t (←asAddr (a.tmps.getD x undef)):Sem Value))) w).andThen _).andThen _=_;rw[this])
   rfl
  have hl:=C.length;refine⟨_,J, ?_⟩;cases ds with
  |nil=>
   simp only[Ms] at h;cases h;simp only[Ar] at C;subst C;simp only[Rel];exact⟨#[],rfl,by simp [Ar]⟩
  |cons M ds=>
   cases ds with
   |nil=>
    simp only[Ms] at h;cases h;simp only[Ar] at C;obtain⟨y,ys,rfl,L,rfl⟩:=C;simpa using L
   |cons O ds=>
    simp only[Ms] at h;cases h;(have:xs.toArray.size≠1:=by simp at hl⊢;omega);rw[dif_neg this];simp only[Rel];exact⟨_,rfl,C⟩
theorem Ba0: ∀(args:List DVal) (k i:Nat),Rx args k (k+i)=args.getD i Fg
 | [],k,i=>rfl
 |x::xs,k,0=>by simp [Rx,upd]
 |x::xs,k,i+1=>by
  simp only[Rx,upd];rw[if_neg (by omega)];have:=Ba0 xs (k+1) i;rw[show k+(i+1)=k+1+i by omega,this];simp
def Gq4 (fn:Func) (n:Nat):Bool:=
 decide (n<=fn.ntmps)&&(match fn.body with|some c=>In fn.ntmps c|none=>false)&&fn.results.toList.all (Bq1 fn.ntmps)
theorem Em6 {w:World} {D:Nat} (y:w.heap[D]? =some (.deferred (some []))) (H:Ab):Lasts H w H (w.putObj D (.deferred none)):=Yd y rfl rfl H
theorem Fx9 {w:World} {D:Nat} {H:Ab} (y:w.heap[D]? =some (.deferred (some []))) (C:Bg w H) (E:H D=none):Bg (w.putObj D (.deferred none)) H:=Dl4 y rfl rfl C E
theorem Fy0 {w w0:World} {D:Nat} {H H0:Ab} (C:w.heap[D]? =some (.deferred (some []))) (E:w0.heap.size<=D) (y:Ext H0 w0 H w):Ext H0 w0 H (w.putObj D (.deferred none)):=by
 refine⟨y.os,y.tape,y.output,by simpa [World.putObj] using y.size,λb hb hn=> ?_,y.own,λb hb=> ?_,λa ha hn=> ?_⟩
 ·rw[World.putObj_heap_other (by omega)];exact y.block b hb hn
 ·rw[World.putObj_heap_other (by omega)];exact y.keep b hb
 ·rw[<-y.fz a ha hn];exact Ce5 C rfl rfl a
theorem Sim.leaveT {F:Fence} {n:Nat} {H0:Ab} {w0:World} {fn:Func} {tmps:Array Value} {R:Ending->World->Prop} {u:FrameMode} {T:List Deferred} (O:u≠ .run) (J:N.base=⟨w0.heap.size,T,false⟩) {a:Act}:
  ∀(y:List Nat) (w:World),y.Nodup->(∀D∈y,(N.base.b<=D/\N.base.still=false)/\w.heap[D]? =some (.deferred (some []))/\s.heap D=none)->
   Sim G N s { tmps:=a.tmps,defers:=y.map (λD=>({ target:= .collected D,args:= #[] }:Deferred))++T } w->Ext H0 w0 s.heap w->
   (∀w',Sim G N s { tmps:=a.tmps,defers:=T } w'->Ext H0 w0 s.heap w'->Lasts s.heap w s.heap w'->LeavesInM F n P fn tmps R T u w')->
   LeavesInM F n P fn tmps R (y.map (λD=>({ target:= .collected D,args:= #[] }:Deferred))++T) u w
 | [],w,_,_,hS,hE,h=>h w hS hE (Ext.refl _ _).lasts
 |D::y,w,h2,h3,hS,hE,h=>by
  have Y:N.base.b=w0.heap.size:=by rw[J]
  have S:N.base.late=T:=by rw[J]
  obtain⟨Z,E,U⟩:=h3 D (by simp);have hl:=Em6 E s.heap;have L:=List.nodup_cons.1 h2;have h4: ∀C∈y,(N.base.b<=C/\N.base.still=false)/\(w.putObj D (.deferred none)).heap[C]? =some (.deferred (some []))/\s.heap C=none:=λC I=>⟨(h3 C (by simp [I])).1,by
   have V:C≠D:=λe=>L.1 (by rw[<-e];exact I);rw[World.putObj_heap_other V];exact(h3 C (by simp [I])).2.1,(h3 C (by simp [I])).2.2⟩
  refine⟨O,.inl ⟨D,_,rfl,run_takeDeferred E,Sim.leaveT O J y _ L.2 h4 ?_ (Fy0 E (by omega) hE) λw' W X M=>h w' W X ?_⟩⟩
  ·exact⟨hS.size,⟨y,by rw[S],L.2,h4⟩,
    λi hi=>Rel.lasts hl _ _ (hS.tmps i hi),Fx9 E hS.heap U,hS.glob.lasts hl,by simpa [World.putObj] using hS.base⟩
  ·exact⟨λb i x hb hc=>M.cell b i x hb (hl.cell b i x hb hc).2,Nat.le_trans hl.size M.size,λb hb=>by rw[M.keep b (Nat.lt_of_lt_of_le hb hl.size),hl.keep b hb]⟩
theorem Sim.leaveL {F:Fence} {n:Nat} {H0:Ab} {w0:World} {fn:Func} {tmps:Array Value} {R:Ending->World->Prop} {u:FrameMode} {T:List Deferred} (E:u≠ .run) (y:N.base=⟨w0.heap.size,T,false⟩) {a:Act}
  (C:List Deferred) (w:World) (D:Sim G N s { tmps:=a.tmps,defers:=C } w) (I:Ext H0 w0 s.heap w)
  (h: ∀w',Sim G N s { tmps:=a.tmps,defers:=T } w'->Ext H0 w0 s.heap w'->Lasts s.heap w s.heap w'->LeavesInM F n P fn tmps R T u w'):LeavesInM F n P fn tmps R C u w:=by
 obtain⟨J,h1,h2,h3⟩:=D.defers;have L:N.base.late=T:=by rw[y]
 rw[L] at h1;dsimp only at h1;subst h1;exact Sim.leaveT E y J w h2 h3 D I h
theorem Sim.leave {F:Fence} {n:Nat} {H0:Ab} {w0:World} {fn:Func} {tmps:Array Value} {R:Ending->World->Prop} {u:FrameMode} (C:u≠ .run) (D:N.base=⟨w0.heap.size,[],false⟩) {a:Act}:
  ∀(y:List Deferred) (w:World),Sim G N s { tmps:=a.tmps,defers:=y } w->Ext H0 w0 s.heap w->
   (∀w',Sim G N s { tmps:=a.tmps,defers:= [] } w'->Ext H0 w0 s.heap w'->Lasts s.heap w s.heap w'->LeavesIn F n P fn tmps R [] u w')->LeavesInM F n P fn tmps R y u w:=
 λy w hS hE h=>Sim.leaveL (T:= []) C D y w hS hE h
theorem Cn9 {f:FuncId} {fn:Func} {c:Code} {args:List DVal} {H:Ab} {R:DEnd->Ab->Prop} (hf:P.funcs[f]? =some fn)
  (U: ∀vs w,(callFunc f vs).run P w= .ok (.enter f vs) w) (hb:fn.body=some c) (hk:Gq4 fn args.length=true)
  (h:dwp P G fn.ntmps c (Eb5 P fn.results.toList R) ⟨Rx args 0,H⟩):Ad P G f args H R:=by
 unfold Gq4 at hk;rw[hb] at hk;simp only[jF,decide_eq_true_eq] at hk;obtain⟨⟨hA,hok⟩,hres⟩:=hk;refine⟨U,λvs w hv V hG=> ?_⟩;have hl:=hv.length;refine(callsIn_wide (n:=0)).1 (callsIn_of_wp_marks hf hb trivial ?_);have hS:Sim G ⟨fn.ntmps,⟨w.heap.size,[],false⟩⟩ ⟨Rx args 0,H⟩ { tmps:=vs.toArray++Array.replicate (fn.ntmps-vs.toArray.size) undef,defers:= [] } w:=by
  refine⟨by simp;omega,Dfs.nil _ _ _,λi hi=> ?_,V,hG,Nat.le_refl _⟩;have h0:=Ba0 args 0 i;rw[Nat.zero_add] at h0;show Rel w H (Rx args 0 i) _;rw[h0];by_cases M:i<args.length
  ·(have h1:args[i]? =some (args.getD i Fg):=by simp [List.getD,List.getElem?_eq_getElem M]);obtain⟨x,hx,hr⟩:=hv.get h1;have:(vs.toArray++Array.replicate (fn.ntmps-vs.toArray.size) undef).getD i undef=x:=by
    (have W:i<vs.length:=by omega);rw[Array.getD_eq_getD_getElem?,Array.getElem?_append_left (by simpa using W)];simp [hx]
   rw[this];exact hr
  ·(have h1:args.getD i Fg=Fg:=by simp [List.getD,List.getElem?_eq_none (Nat.le_of_not_lt M)]);have:(vs.toArray++Array.replicate (fn.ntmps-vs.toArray.size) undef).getD i undef=undef:=by
    rw[Array.getD_eq_getD_getElem?,Array.getElem?_append_right (by simp;omega)];simp only[Array.getElem?_replicate];split<;>rfl
   rw[h1,this];exact Ya w H
 refine wpIn_mono (Do2 c hok _ _ h 0 ⟨w.heap.size,[],false⟩ rfl _ w hS) ?_;rintro e a' w1 ⟨e',s',y,X,O,S⟩;have fin: ∀(v:DVal),Ms (Qs P s' fn.results.toList)=some v->Dj R v s'.heap->
   LeavesInM Fence.wide 0 P fn a'.tmps (λe w'=> ∃e' H',R e' H'/\RelE w' H' e' e/\Bg w' H'/\Ext H w H' w') a'.defers .returning w1:=by
  intro v hv Y;refine Sim.leave (a:=a') (by simp) rfl a'.defers w1 O S λw' C D _=> ?_;obtain⟨x,hx,hr⟩:=Bg3 (P:=P) C hres hv;obtain⟨v',H',hg,E⟩:=Y;obtain⟨I,J,L⟩:=hg w' C.heap;exact⟨x,hx,.ret v',H',E,.ret v' x (L x hr),I,D.trans ⟨rfl,rfl,rfl,Nat.le_refl _,λ_ _ _=>rfl,λb hb=> .inl (J b hb),λ_ _=>rfl,λ_ _ _=>rfl⟩⟩
 cases X with
 |normal=>
  simp only[Eb5] at y;cases hd:Ms (Qs P s' fn.results.toList) with
  |none=>rw[hd] at y;exact y.elim
  |some v=>rw[hd] at y;exact fin v hd y
 |ret=>
  simp only[Eb5] at y;cases hd:Ms (Qs P s' fn.results.toList) with
  |none=>rw[hd] at y;exact y.elim
  |some v=>rw[hd] at y;exact fin v hd y
 |exit id=>exact y.elim
 |goto l=>exact y.elim
 |panic d v hv=>
  obtain⟨v',H',hg,E⟩:=y;refine Sim.leave (a:=a') (by simp) rfl a'.defers w1 O S λw' C D hl=> ?_;obtain⟨I,J,L⟩:=hg w' C.heap;exact⟨.panic v',H',E,.panic v' v (L v (Rel.lasts hl _ _ hv)),I,D.trans ⟨rfl,rfl,rfl,Nat.le_refl _,λ_ _ _=>rfl,λb hb=> .inl (J b hb),λ_ _=>rfl,λ_ _ _=>rfl⟩⟩
end
attribute [go_sem] Do3.eq_1 Do3.eq_2 As5.eq_1 Fb3.eq_1 Cy0.eq_1 Cy0.eq_2 Gl9.eq_1 Qs.eq_1 Qs.eq_2 Ms.eq_1 Ce8.eq_1 Eb5.eq_1 Eb5.eq_2 Eb5.eq_3 Rx.eq_1 Rx.eq_2
theorem Do4 (x y:DVal) (C:List DVal):Ms (some (x::y::C))=some (.tuple (x::y::C)):=rfl
theorem Do5:Ms (some [])=some (.tuple []):=rfl
attribute [go_sem] Do4 Do5
theorem dci {P:Program} {G:Nat->DVal} {f:FuncId} {fn:Func} {c:Code} {args:List DVal} {H:Ab} {R:DEnd->Ab->Prop} (hf:P.funcs[f]? =some fn) (y: ∀vs w,(callFunc f vs).run P w= .ok (.enter f vs) w) (h:dwp P G fn.ntmps c (Eb5 P fn.results.toList R) ⟨Rx args 0,H⟩) (hb:fn.body=some c:=by rfl) (hk:Gq4 fn args.length=true:=by kernel_rfl):Ad P G f args H R:=Cn9 hf y hb hk h
theorem Em7 {n:Int} (h1: -9223372036854775808<=n) (h2:n<=9223372036854775807):IntKind.wrap .i64 n=n:=IntWalk.i64_in n ⟨h1,h2⟩
abbrev dI (n:Int):DVal:= .int .i64 n
theorem Ea9.run {G:Nat->DVal} {y:(DExit->DS->Prop)->DK} {Q:DExit->DS->Prop} {s:DS} {ι:Type} (I:ι->(Nat->DVal)->Ab->Prop) (μ:ι->Nat) (i:ι) (h0:I i s.env s.heap)
  (hr: ∀i env heap,I i env heap->y (Bg0 (λs1=> ∃j s2,Rn G s1 s2/\I j s2.env s2.heap/\μ j<μ i) Q) ⟨env,heap⟩):Ea9 G y Q s:=
 ⟨ι,λi s=>I i s.env s.heap,μ,⟨i,s,Rn.refl s,h0⟩,λi s h=>hr i s.env s.heap h⟩
theorem Gm0 {G:Nat->DVal} {ι:Type} {I:ι->(Nat->DVal)->Ab->Prop} {μ:ι->Nat} {s:DS} {m:Nat} (j:ι) (h:I j s.env s.heap) (hm:μ j<m): ∃j s2,Rn G s s2/\I j s2.env s2.heap/\μ j<m:=⟨j,s,Rn.refl s,h,hm⟩
theorem Cy2 {α:Type} (f:α->DVal) (l:List α) (i:Nat) (h:i<l.length):(l.map f)[i]? =some (f l[i]):=by simp [h]
theorem Gq5 {a b:Prop} (h:a):(a/\b)=b:=by simp [h]
theorem Fb5 {p:Prop} [Decidable p] (h:p):decide p=true:=by simp [h]
theorem Em8 {p:Prop} [Decidable p] (h: ¬p):decide p=false:=by simp [h]
theorem Ah {α:Type} (f:Nat->α) (i j:Nat) (v:α) (h:j≠i):upd f i v j=f j:=by simp [upd,h]
end Go.Dl
