/- The data level and the contracts of the functions that are reached (part 11). -/
import Derived.Test.YtddbdpcgikmiaaaGreatDoorPij
set_option linter.unusedSimpArgs false
set_option linter.unusedVariables false
set_option linter.unusedSectionVars false
set_option maxHeartbeats 400000000
-- A6
namespace Go.Dl
open Go
set_option maxRecDepth 10000
theorem Uj {α β:Type} {st:α->β} {f:α->Bool} (hf: ∀x y,st x=st y->f x=f y): ∀ {l m:List α},l.map st=m.map st->l.all f=m.all f
 | [],[],_=>rfl
 | [],_::_,h=>by cases h
 |_::_,[],h=>by cases h
 |x::l,y::m,h=>by
  rw[jN,jN,List.cons.injEq] at h;rw[List.all_cons,List.all_cons,hf _ _ h.1,Uj hf h.2]
theorem Ax1 {α β:Type} {st:α->β} {f:α->Nat} (hf: ∀x y,st x=st y->f x=f y): ∀ {l m:List α},l.map st=m.map st->(l.map f).sum=(m.map f).sum
 | [],[],_=>rfl
 | [],_::_,h=>by cases h
 |_::_,[],h=>by cases h
 |x::l,y::m,h=>by
  rw[jN,jN,List.cons.injEq] at h;rw[jN,jN,List.sum_cons,List.sum_cons,hf _ _ h.1,Ax1 hf h.2]
theorem By8 {α β:Type} {st:α->β} {l m:List α} (h:l.map st=m.map st):l.length=m.length:=by
 have:=congrArg List.length h
 rwa [jK,jK] at this
theorem Uk {α β:Type} {st:α->β} {f:α->α->Bool} (hf: ∀x y,st x=st y->f x y=true): ∀ {l m:List α},l.map st=m.map st->Ni f l m=true
 | [],[],_=>rfl
 | [],_::_,h=>by cases h
 |_::_,[],h=>by cases h
 |x::l,y::m,h=>by
  rw[jN,jN,List.cons.injEq] at h;rw[Ni,hf _ _ h.1,Uk hf h.2];rfl
theorem Ew4 {x y:Ex} (h:stE x=stE y):x.kind=y.kind:=by rw[<-Jo x,h,Jo]
theorem Cs0 {x y:Ind} (h:stI x=stI y):stE x.name=stE y.name/\stE x.lo=stE y.lo/\stE x.hi=stE y.hi/\stE x.value=stE y.value:=by
 simpa only[stI,Ind.mk.injEq] using h
theorem Cs1 {x y:Dis} (h:stD x=stD y):stE x.name=stE y.name/\stE x.lo=stE y.lo/\stE x.hi=stE y.hi:=by
 simpa only[stD,Dis.mk.injEq] using h
theorem Cs2 {x y:Par} (h:stP x=stP y):x.names=y.names/\x.mode=y.mode/\stE x.type=stE y.type/\stE x.e=stE y.e:=by
 simpa only[stP,Par.mk.injEq,and_true] using h
theorem Cs3 {x y:Asp} (h:Ab6 x=Ab6 y):x.name=y.name/\stE x.e=stE y.e:=by
 simpa only[Ab6,Asp.mk.injEq] using h
theorem Cs4 {x y:Cmp} (h:Ny x=Ny y):x.names=y.names/\stI x.sub=stI y.sub/\stE x.e=stE y.e:=by
 simpa only[Ny,Cmp.mk.injEq,and_true] using h
theorem Bm6 {x y:Arm} (h:Wg x=Wg y):x.c.map stC=y.c.map stC/\x.comps.map Ny=y.comps.map Ny:=by
 simpa only[Wg,Arm.mk.injEq] using h
theorem Eg3 {x y:Typ} (h:Nl x=Nl y):x.kind=y.kind/\x.names=y.names/\stE x.lo=stE y.lo/\stE x.hi=stE y.hi/\stI x.sub=stI y.sub/\stD x.disc=stD y.disc/\x.comps.map Ny=y.comps.map Ny/\x.var=y.var/\x.arms.map Wg=y.arms.map Wg/\x.limited=y.limited:=by
 simpa only[Nl,Typ.mk.injEq] using h
theorem Ag7 {x y:Ind} (h:stI x=stI y):Co x=Co y:=by
 obtain⟨h1,h2,h3,h4⟩:=Cs0 h;rw[Co,Co,Aw8 h1,Mb h2,Mb h3,Mb h4,Jp h2,Jp h3,Jp h4]
theorem Bj6 {x y:Dis} (h:stD x=stD y):Dt x=Dt y:=by
 obtain⟨h1,h2,h3⟩:=Cs1 h;rw[Dt,Dt,Aw8 h1,Mb h1,Mb h2,Mb h3,Jp h1,Jp h2,Jp h3,Ew4 h1]
theorem By9 {x y:Ex} (h:stE x=stE y):Gk x=Gk y:=by rw[Gk,Gk,Mb h,Jp h]
theorem Dw7 (x y:Par) (h:stP x=stP y):Fp x=Fp y:=by
 obtain⟨h1,h2,h3,h4⟩:=Cs2 h;rw[Fp,Fp,h1,h2,Aw8 h3,By9 h4,Mb h4]
theorem Cs5 {l m:List Par} (h:l.map stP=m.map stP):Es l=Es m:=by
 rw[Es,Es,Uj Dw7 h,Pr,Pr,Ax1 (λx y e=>by rw[(Cs2 e).1]) h]
theorem Dw8 (x y:Asp) (h:Ab6 x=Ab6 y):Nh x=Nh y:=by
 rw[Nh,Nh,(Cs3 h).1,Jp (Cs3 h).2]
theorem Cs6 {l m:List Asp} (h:l.map Ab6=m.map Ab6):Gv l=Gv m:=by
 rw[Gv,Gv,Uj Dw8 h,By8 h]
theorem Ap9 (x y:Cmp) (h:Ny x=Ny y):En x=En y:=by
 obtain⟨h1,h2,h3⟩:=Cs4 h;rw[En,En,h1,Ag7 h2,By9 h3]
theorem Aq0 {l m:List Cmp} (h:l.map Ny=m.map Ny):Cr l=Cr m:=by
 rw[Cr,Cr,Ax1 (λx y e=>by rw[(Cs4 e).1]) h]
theorem Cs7 {l m:List Cmp} (h:l.map Ny=m.map Ny):Gn l=Gn m:=by
 rw[Gn,Gn,Uj Ap9 h,Aq0 h]
theorem Dw9 {l m:List Ch} (h:l.map stC=m.map stC):Ia l=Ia m:=by rw[<-Ax0 l,h,Ax0]
theorem Dx0 (x y:Arm) (h:Wg x=Wg y):Eu x=Eu y:=by
 rw[Eu,Eu,Uj Ap9 (Bm6 h).2,Dw9 (Bm6 h).1]
theorem Dh0 {x y:Typ} (h:Nl x=Nl y):Dn x=Dn y:=by
 obtain⟨h1,h2,h3,h4,h5,h6,h7,h8,h9,h10⟩:=Eg3 h;obtain⟨C,D,E,I⟩:=Cs0 h5;obtain⟨J,L,M⟩:=Cs1 h6;rw[Dn,Dn,Gs,Gs,Vq,Vq,Ub,Ub,Xh,Xh,Rg,Rg,Rh,Rh,h1,h2,h8,h10,Mb h3,Mb h4,Jp h3,Jp h4,Ag7 h5,Bj6 h6,Mb C,Mb D,Mb E,Mb I,Mb J,Mb L,Mb M,
  Uj Ap9 h7,Uj Dx0 h9,By8 h7,By8 h9,Aq0 h7,Lu,Lu,Ax1 (λx y e=>Aq0 (Bm6 e).2) h9]
theorem Aq1 (x y:Ind) (h:stI x=stI y):Ki x y=true:=by
 obtain⟨h1,h2,h3,h4⟩:=Cs0 h;rw[Ki,Jr h1,Jr h2,Jr h3,Jr h4];rfl
theorem Bz0 (x y:Dis) (h:stD x=stD y):Nr x y=true:=by
 obtain⟨h1,h2,h3⟩:=Cs1 h;rw[Nr,Jr h1,Jr h2,Jr h3];rfl
theorem Dx1 (x y:Par) (h:stP x=stP y):Ml x y=true:=by
 obtain⟨h1,h2,h3,h4⟩:=Cs2 h;rw[Ml,Jr h3,Jr h4,decide_eq_true h1,decide_eq_true h2];rfl
theorem Dx2 (x y:Asp) (h:Ab6 x=Ab6 y):Qn x y=true:=by
 obtain⟨h1,h2⟩:=Cs3 h;rw[Qn,Jr h2,decide_eq_true h1];rfl
theorem Aq2 (x y:Cmp) (h:Ny x=Ny y):Kj x y=true:=by
 obtain⟨h1,h2,h3⟩:=Cs4 h;rw[Kj,Jr h3,Aq1 _ _ h2,decide_eq_true h1];rfl
theorem Dx3 (x y:Arm) (h:Wg x=Wg y):Qo x y=true:=by
 obtain⟨h1,h2⟩:=Bm6 h;rw[Qo,Uk Aq2 h2,(Bc5 _ _).2 (by rw[Ae7,Ae7,h1])];rfl
theorem Dx4 (x y:Typ) (h:Nl x=Nl y):Aj3 x y=true:=by
 obtain⟨h1,h2,h3,h4,h5,h6,h7,h8,h9,h10⟩:=Eg3 h;rw[Aj3,decide_eq_true h1,decide_eq_true h2,Jr h3,Jr h4,Aq1 _ _ h5,Bz0 _ _ h6,Uk Aq2 h7,decide_eq_true h8,decide_eq_true h10,Uk Dx3 h9];rfl
theorem Kr (s:List UInt8) {ts:List Tok} (h:zT ts):zT (Ag s::ts):=Dg rfl h
theorem Gy9 (s:List UInt8) {ts:List Tok} (h:zT ts):zT (Eg s::ts):=Dg rfl h
theorem Eg4 (e:Ex) (y:Int):zT (Ap e y):=Cq8 (Bw5 e)
theorem Aj5 (a b:Ex):zT (Dh a b):=Bl (Eg4 a 2) (Kr _ (Eg4 b 2))
theorem Bz1 (s:Ind):zT (Ie s):=Bl (Bw5 _) (Io (Io Fi (Kr _ (Aj5 _ _))) (Kr _ (Bl (Bw5 _) (Kr _ Fi))))
theorem Fs9 (d:Dis):zT (Nj d):=Io (Bw5 _) (Io (Aj5 _ _) (Bl (Bw5 _) (Kr _ (Aj5 _ _))))
theorem Bm7 {β:Type} (s:List UInt8) (g:β->List Tok) (l:List β) (h: ∀x∈l,zT (g x)):zT (Dw s (l.map g)):=Bw4 s λt ht=>by
 obtain⟨x,hx,rfl⟩:=List.mem_map.1 ht;exact h x hx
theorem Eg5 {β:Type} (g:β->List Tok) (l:List β) (h: ∀x∈l,zT (g x)):zT (l.flatMap g):=λt ht=>by
 obtain⟨x,hx,y⟩:=List.mem_flatMap.1 ht;exact h x hx t y
theorem Bz2 (l:List (List UInt8)):zT (Cq l):=Bm7 _ (λs=> [Eg s]) l λs _=>Gy9 s Fi
theorem Ft0 (e:Ex):zT (Ph e):=Io Fi (Kr _ (Bw5 e))
theorem Gj6 (m:Int):zT (Xi m):=Io (Kr _ Fi) (Io (Kr _ (Kr _ Fi)) Fi)
theorem Gz0 (p:Par):zT (Pj p):=Bl (Bz2 _) (Kr _ (Bl (Gj6 _) (Bl (Bw5 _) (Ft0 _))))
theorem Gz1 (a:Asp):zT (Af3 a):=Gy9 _ (Kr _ (Bw5 _))
theorem Gz2 (c:Cmp):zT (Uc c):=Bl (Bz2 _) (Kr _ (Bl (Bz1 _) (Bl (Ft0 _) (Kr _ Fi))))
theorem Cs8 (l:List Cmp):zT (Fs l):=Io (Kr _ (Kr _ Fi)) (Eg5 _ _ λc _=>Gz2 c)
theorem Gz3 (a:Arm):zT (So a):=Kr _ (Bl (Bm7 _ Da _ λc _=>Hf6 c) (Kr _ (Cs8 _)))
theorem Gj7 (v:List UInt8) (l:List Arm):zT (Ow v l):=Io Fi (Kr _ (Gy9 _ (Kr _ (Bl (Eg5 _ _ λa _=>Gz3 a) (Kr _ (Kr _ (Kr _ Fi)))))))
theorem Gz4 (t:Typ):zT (Bl0 t):=Kr _ (Bl (Io Fi (Cs8 _)) (Bl (Gj7 _ _) (Kr _ (Kr _ Fi))))
theorem Gz5 (t:Typ):zT (Mn t):=
 Io (Kr _ (Bl (Bz2 _) (Kr _ Fi))) (Io (Kr _ (Aj5 _ _)) (Io (Kr _ (Bz1 _)) (Io (Kr _ (Kr _ (Bl (Fs9 _) (Kr _ (Kr _ (Bz1 _)))))) (Io (Kr _ (Bz1 _))
  (Io (Bl (Io (Kr _ Fi) Fi) (Kr _ Fi)) (Io (Kr _ (Kr _ Fi)) (Gz4 t)))))))
theorem Xp {ts:List Tok} (h:zT ts):Pre ts 0 ts:=⟨Nat.zero_le _,by rw[Gw9 h,jJ];exact List.prefix_rfl⟩
theorem Ft1 {ts:List Tok}:tk ts (0+ts.length)=At5:=Bt2 (by omega)
theorem Aj6 {ts:List Tok} (W:List (List UInt8)):nof W (tk ts (0+ts.length)):=by rw[Ft1];exact Hf0 W
theorem Eg6 {ts:List Tok} {s:List UInt8}:isW ts (0+ts.length) [s]=false:=Ag4 (Aj6 [s]) (by simp)
theorem Be7 {α γ:Type} {st:α->γ} {r:Re α} {c:α} {k:Nat} {fine:α->Bool} {D:α->α->Bool} {z:α} (h:Gvs st r (st c) (0+k)) (hf: ∀x y,st x=st y->fine x=fine y) (hs: ∀x y,st x=st y->D x y=true) (hm:fine c=true):
  ∃y,Ii r fine z=(y,(k:Int),0)/\D y c=true/\D c y=true/\st y=st c:=by
 obtain⟨y,rfl,C⟩:=h;exact⟨y,by rw[Ii,if_pos (by rw[hf _ _ C];exact hm),Nat.zero_add],hs _ _ C,hs _ _ C.symm,C⟩
theorem Dh1 {s:Ind} (hm:Co s=true): ∃y,Zj (Ie s)=(y,((Ie s).length:Int),0)/\Ki y s=true/\Ki s y=true/\stI y=stI s:=
 Be7 (Xo hm (Xp (Bz1 s)) (Aj6 _)) (λ_ _=>Ag7) Aq1 hm
theorem Dh2 {s:Dis} (hm:Dt s=true): ∃y,Rt (Nj s)=(y,((Nj s).length:Int),0)/\Nr y s=true/\Nr s y=true/\stD y=stD s:=
 Be7 (Cj0 hm (Xp (Fs9 s)) (Aj6 _)) (λ_ _=>Bj6) Bz0 hm
theorem Cs9 {l:List Par} (hm:Es l=true) (h0:l≠ []): ∃y,Zk (Lx l)=(y,((Lx l).length:Int),0)/\Ni Ml y l=true/\Ni Ml l y=true/\y.map stP=l.map stP:=by
 have C:=hm;rw[Es,jF,List.all_eq_true] at C;exact Be7 (st:=List.map stP) (Be6 (one:=Bk9 _) (g:=Pj) (st:=stP) (stb:=stP) Hd wF (λt e=>e▸(by decide+kernel)) l h0 (λb hb j hj hn=>Ev8 (C.1 b hb) hj hn) (Xp (Bm7 _ _ _ λp _=>Gz0 p)) (Aj6 _) Eg6) (λ_ _=>Cs5) (λ_ _=>Uk Dx1) hm
theorem Cd4 {l:List Asp} (hm:Gv l=true) (h0:l≠ []): ∃y,Dg2 (Mq l)=(y,((Mq l).length:Int),0)/\Ni Qn y l=true/\Ni Qn l y=true/\y.map Ab6=l.map Ab6:=by
 have C:=hm;rw[Gv,jF,List.all_eq_true] at C;exact Be7 (st:=List.map Ab6) (Be6 (one:=Bx7 _) (g:=Af3) (st:=Ab6) (stb:=Ab6) Dm wF (λt e=>e▸(by decide+kernel)) l h0 (λb hb j hj hn=>Ev9 (C.1 b hb) hj hn) (Xp (Bm7 _ _ _ λp _=>Gz1 p)) (Aj6 _) Eg6) (λ_ _=>Cs6) (λ_ _=>Uk Dx2) hm
theorem Cd5 {l:List Cmp} (hm:Gn l=true): ∃y,Dg3 (Fs l)=(y,((Fs l).length:Int),0)/\Ni Kj y l=true/\Ni Kj l y=true/\y.map Ny=l.map Ny:=by
 have C:=hm;rw[Gn,jF] at C;exact Be7 (st:=List.map Ny) (Ap8 C.1 (Xp (Cs8 _)) (by rw[Ft1];decide)) (λ_ _=>Cs7) (λ_ _=>Uk Aq2) hm
theorem Dh3 {t:Typ} (hm:Dn t=true): ∃y,My (Mn t)=(y,((Mn t).length:Int),0)/\Aj3 y t=true/\Aj3 t y=true/\Nl y=Nl t:=
 Be7 (Ew3 hm (Xp (Gz5 t)) (Aj6 _)) (λ_ _=>Dh0) Dx4 hm
def Ev {α:Type} (R:α->Nat->Prop) (r:Re α):Prop:= ∀x k',r= .ok x k'->R x k'
theorem Ev.then {α β:Type} {R:α->Nat->Prop} {S:β->Nat->Prop} {r:Re α} {f:α->Nat->Re β} (h:Ev R r) (g: ∀x n,R x n->Ev S (f x n)):Ev S (r.then f):=λy k' e=>by
 cases r with
 |ok x k=>exact g x k (h x k rfl) y k' e
 |fail k=>cases e
 |long=>cases e
theorem Ev.ok {α:Type} {R:α->Nat->Prop} {x:α} {k:Nat} (h:R x k):Ev R (.ok x k):=λy k' e=>by cases e;exact h
theorem Ev.fail {α:Type} {R:α->Nat->Prop} {k:Nat}:Ev R (.fail k):=λy k' e=>by cases e
theorem Ev.must {α:Type} {R:α->Nat->Prop} {l:List Tok} {s:List UInt8} {k:Nat} {f:Nat->Re α} (h:Ev R (f (k+1))):Ev R (Eh l s k f):=by
 rw[Eh];split
 ·exact h
 ·exact .fail
theorem Ev.less {α:Type} {R S:α->Nat->Prop} {r:Re α} (h:Ev R r) (g: ∀x k,R x k->S x k):Ev S r:=λx k e=>g x k (h x k e)
section
variable {l:List Tok} {k:Nat}
theorem Dh4 {α:Type} {R:α->Nat->Prop} {y:α×Int×Int} (h: ∀x n,y=(x,n,0)->R x (k+n.toNat)):Ev R (Bx5 k y):=λx k' e=>by
 rw[Bx5] at e;split at e
 ·rename_i c
  cases e;exact h _ _ (by rw[<-c])
 ·split at e<;>cases e
theorem Cj2 {α:Type} {one:Nat->Re α} {more:Nat->Option Nat} {Inv:List α->Nat->Prop} (h: ∀xs k j,Inv xs k->more k=some j->Ev (λx k'=>Inv (xs++ [x]) k') (one j)): ∀(n:Nat) (xs:List α) (k:Nat),Inv xs k->Ev Inv (Ui one more n xs k)
 | 0,_,_,_=>λy k' e=>by cases e
 |n+1,xs,k,hk=>by
  rw[Ui];cases hm:more k with
  |none=>exact .ok hk
  |some j=>exact(h xs k j hk hm).then λx i hx=>Cj2 h n (xs++ [x]) i hx
end
section
variable {l:List Tok} {k:Nat}
theorem Vt (y:Bv l) (k:Nat):Bv (l.drop k):=λj=>by rw[Aw7];exact y (k+j)
theorem Ku {α:Type} {a:Nat} {r:Re α} (h:Kq l a r):Ev (λ_ k'=>a<=k'/\k'<=l.length) r:=λx k' e=>by rw[e] at h;exact h
theorem Kv {α:Type} {R S:α->Nat->Prop} {r:Re α} (h:Ev R r) (g:Ev S r):Ev (λx k=>R x k/\S x k) r:=λx k e=>⟨h x k e,g x k e⟩
theorem Ft2 (D:Bv l) (hl:l.length<=8000000) (C:Nat) (E:C<=6):Ev (λx _=>Cp 16777216 x) (exR l C k):=by
 rw[exR];refine Dh4 (R:=λx _=>Cp 16777216 x) λx n e=> ?_;have hf:=Dd8 (l:=l.drop k) (Vt D k) C;have ha:=Cp9 (l:=l.drop k) C;rw[Gj,if_neg (by omega),jD] at e;cases hr:We (l.drop k) C with
 |bot=>exact absurd hr (Bc4 _)
 |fail j=>rw[hr] at e;cases e
 |ok y j=>
  rw[hr] at e ha;dsimp only at e;have h1:=hf y j hr;have h2:=ha.2;rw[List.length_drop] at h2;split at e
  ·cases e;have:=h1.1;exact⟨by omega,h1.2⟩
  ·cases e
theorem Ax2 (y:Bv l) (hl:l.length<=8000000):Ev (λx _=>Cp 16777216 x) (exR l 2 k):=Ft2 y hl 2 (by omega)
theorem Ct0 (y:Bv l) (hl:l.length<=8000000):Ev (λx _=>Cp 16777216 x) (exR l 0 k):=Ft2 y hl 0 (by omega)
theorem Gz6 (C:Bv l) (hl:l.length<=8000000):Ev (λx _=>Bd8 16777216 x) (chR l k):=by
 rw[chR];refine Dh4 (R:=λx _=>Bd8 16777216 x) λx n e=> ?_;have hf:=Ch4 (l:=l.drop k) (Vt C k);have ha:=Ef9 (l:=l.drop k);rw[Ji] at e;cases hr:Bc3 (l.drop k) with
 |bot=>exact absurd hr Au5
 |fail j=>rw[hr] at e;cases e
 |ok y j=>
  rw[hr] at e ha;dsimp only at e;have h1:=hf y j hr;have h2:=ha.2;rw[List.length_drop] at h2;split at e
  ·cases e;have:=h1.1;exact⟨by omega,h1.2⟩
  ·cases e
theorem Ag8 (y:Bv l):Ev (λs _=>s.length<=9223372036854775807) (Ov l k):=by
 rw[Ov];split
 ·exact .ok (y k)
 ·exact .fail
theorem Ax3 {α:Type} {f:α->Prop} {one:Nat->Re α} {more:Nat->Option Nat} (ha: ∀k,k<=l.length->Kq l (k+1) (one k)) (hm: ∀k j,k<=l.length->more k=some j->k<=j/\j<=l.length) (h1: ∀k,k<=l.length->Ev (λx _=>f x) (one k)) (hk:k<=l.length) (hl:l.length<=8000000):
  Ev (λys _=>ys.length<=16777216/\ ∀x∈ys,f x) (Be2 l one more k):=by
 have key:Ev (λys k'=>ys.length<=k'/\k'<=l.length/\ ∀x∈ys,f x) (Be2 l one more k):=
  (Kv (h1 k hk) (Ku (ha k hk))).then λx i ⟨hx,M,D⟩=>Cj2 (Inv:=λys k'=>ys.length<=k'/\k'<=l.length/\ ∀x∈ys,f x) (λxs k1 j ⟨O,E,I⟩ hj=>by
   obtain⟨S,C⟩:=hm k1 j E hj;exact(Kv (h1 j C) (Ku (ha j C))).less λy k' ⟨J,U,L⟩=>⟨by rw[jC,jQ];omega,L,λz hz=>by
    rcases List.mem_append.1 hz with h|h
    ·exact I z h
    ·rw[List.mem_singleton.1 h];exact J⟩) _ [x] i ⟨by rw[jQ];omega,D,λz hz=>by rw[List.mem_singleton.1 hz];exact hx⟩
 exact key.less λys k' ⟨a,b,c⟩=>⟨by omega,c⟩
theorem Be8 (y:Bv l) (hl:l.length<=8000000) (hk:k<=l.length):Ev (λns _=>Aa4 16777216 ns) (Zi l k):=
 Ax3 (λ_ h=>Kq.name h) Sn (λk _=>Ag8 y) hk hl
theorem Cg:Cp 16777216 ex0:=⟨by decide,by simp [ex0,okE,okL,Mu]⟩
theorem Tc:Sa 16777216 Ak6:=⟨Cg,Cg,Cg,Cg⟩
theorem Ox:Ud 16777216 Ak7:=⟨Cg,Cg,Cg⟩
theorem Cj3 (C:Bv l) (line:Int): ∀(n:Nat) (x:Ex) (k:Nat),k<=l.length->Ej x<=k/\okE x->Ev (λy k'=>Ej y<=k'/\k'<=l.length/\okE y) (markL l line n x k)
 | 0,_,_,_,_=>λy k' e=>by cases e
 |n+1,x,k,hk,hx=>by
  rw[markL];split
  ·exact(Kv (Ag8 C) (Ku (Kq.name (Fu ‹_› hk)))).then λs i ⟨hs,E,D⟩=>Cj3 C line n _ i D ⟨by simp only[Ej,He,El];omega,by simp only[okE,okL,Mu];exact⟨hs,⟨hx.2,trivial⟩,trivial⟩⟩
  ·exact .ok ⟨hx.1,hk,hx.2⟩
theorem Dh5 (C:Bv l) (hl:l.length<=8000000) (hk:k<=l.length):Ev (λx _=>Cp 16777216 x) (Ag1 l k):=
 (Kv (Ag8 C) (Ku (Kq.name hk))).then λs i ⟨hs,E,D⟩=>(Cj3 C _ _ _ i D ⟨by simp only[Ej,He,El];omega,by simp only[okE,okL,Mu];exact⟨hs,trivial,trivial⟩⟩).less λy k' ⟨a,b,c⟩=>⟨by omega,c⟩
theorem Aq3 (y:Bv l) (hl:l.length<=8000000):Ev (λx _=>Cp 16777216 x.1/\Cp 16777216 x.2) (Sl l k):=
 (Ax2 y hl).then λa i ha=> .must ((Ax2 y hl).then λb i hb=> .ok ⟨ha,hb⟩)
theorem Zp (y:Bv l) (hl:l.length<=8000000) (hk:k<=l.length):Ev (λx _=>Sa 16777216 x) (Xm l k):=
 (Dh5 y hl hk).then λm i hm=>by
  split
  ·exact(Aq3 y hl).then λb i hb=> .ok ⟨hm,hb.1,hb.2,Cg⟩
  split
  ·exact(Ct0 y hl).then λv i hv=> .must (.ok ⟨hm,Cg,Cg,hv⟩)
  ·exact .ok ⟨hm,Cg,Cg,Cg⟩
theorem Bm8 (C:Bv l) (hl:l.length<=8000000):Ev (λx _=>Ud 16777216 x) (Be3 l k):=
 (Ax2 C hl).then λx i hx=>by
  split
  ·exact(Ax2 C hl).then λy i D=> .ok ⟨Cg,hx,D⟩
  split
  ·exact(Aq3 C hl).then λb i hb=> .ok ⟨hx,hb.1,hb.2⟩
  split
  ·exact .fail
  ·exact .ok ⟨hx,Cg,Cg⟩
theorem Cj4 (y:Bv l) (hl:l.length<=8000000):Ev (λx _=>Cp 16777216 x) (Rs l k):=by
 rw[Rs];split
 ·exact Ct0 y hl
 ·exact .ok Cg
theorem Mc {α:Type} {R:α->Nat->Prop} {s:List UInt8} {f:Nat->Re α} (hk:k<=l.length) (h:k+1<=l.length->Ev R (f (k+1))):Ev R (Eh l s k f):=by
 rw[Eh];split
 ·exact h (Fu ‹_› hk)
 ·exact .fail
theorem Gj8 (y:Bv l) (hl:l.length<=8000000) (hk:k<=l.length):Ev (λx _=>Nk 16777216 x) (Bk9 l k):=
 (Kv (Be8 y hl hk) (Ku (Kq.names hk))).then λn i ⟨hn,E,C⟩=>Mc C λD=>(Dh5 y hl (Dg6 D).2).then λt j ht=>(Cj4 y hl).then λe j he=> .ok ⟨hn,ht,he⟩
theorem Bz3 (y:Bv l) (hl:l.length<=8000000) (hk:k<=l.length):Ev (λx _=>Ei Nk 16777216 x) (Bx6 l k):=
 Ax3 (λ_ h=>Kq.par h) Sn (λk hk=>Gj8 y hl hk) hk hl
theorem Gj9 (y:Bv l) (hl:l.length<=8000000):Ev (λx _=>Ue 16777216 x) (Bx7 l k):=
 (Ag8 y).then λn i hn=> .must ((Ct0 y hl).then λe i he=> .ok ⟨hn,he⟩)
theorem Dh6 (y:Bv l) (hl:l.length<=8000000) (hk:k<=l.length):Ev (λx _=>Ei Ue 16777216 x) (Ci8 l k):=
 Ax3 (λ_ h=>Kq.asp h) Sn (λk hk=>Gj9 y hl) hk hl
theorem Gk0 (y:Bv l) (hl:l.length<=8000000) (hk:k<=l.length):Ev (λx _=>Ka 16777216 x) (Cd2 l k):=
 (Kv (Be8 y hl hk) (Ku (Kq.names hk))).then λn i ⟨hn,E,C⟩=>Mc C λD=>(Zp y hl D).then λs i hs=>(Cj4 y hl).then λe i he=> .must (.ok ⟨hn,hs,he⟩)
theorem Ax4 (y:Bv l) (hl:l.length<=8000000) (hk:k<=l.length):Ev (λx _=>Ei Ka 16777216 x) (Sb l k):=by
 rw[Sb];split
 ·exact .must (.ok ⟨by simp,λx h=>by cases h⟩)
 ·exact Ax3 (λ_ h=>Kq.cmp h) Bm5 (λk hk=>Gk0 y hl hk) hk hl
theorem Gk1 (y:Bv l) (hl:l.length<=8000000) (hk:k<=l.length):Ev (λx _=>Aa5 16777216 x) (Cd3 l k):=
 Mc hk λh1=>(Kv (Gz6 y hl) (Ku (Kq.ch h1))).then λc i ⟨hc,D,C⟩=>Mc C λh2=>(Ax4 y hl h2).then λm i hm=> .ok ⟨hc,hm⟩
theorem Ft3 (y:Bv l) (hl:l.length<=8000000) (hk:k<=l.length):Ev (λx _=>Ei Aa5 16777216 x) (Bx8 l k):=
 Ax3 (λ_ h=>Kq.arm h) Cr5 (λk hk=>Gk1 y hl hk) hk hl
theorem Gc {α:Type} {f:Nat->α->Prop}:Ei f 16777216 []:=⟨by simp,λx h=>by cases h⟩
theorem Kb:Aa4 16777216 []:=⟨by simp,λx h=>by cases h⟩
theorem Gk2 (y:Bv l) (hl:l.length<=8000000) (hk:k<=l.length):Ev (λx _=>Lb 16777216 x) (Dw1 l k):=by
 have h1:Ev (λx k'=>Ei Ka 16777216 x/\k<=k'/\k'<=l.length) (if(tk l k).kind=1\/isW l k [Gg]=true then Sb l k else .ok [] k):=by
  split
  ·exact(Kv (Ax4 y hl hk) (Ku (Kq.cmps hk))).less λx k' ⟨a,b,c⟩=>⟨a,by omega,c⟩
  ·exact .ok ⟨Gc,Nat.le_refl _,hk⟩
 refine h1.then λc i ⟨hc,I,C⟩=> ?_
 have h2:Ev (λ(x:List UInt8×List Arm) (_:Nat)=>x.1.length<=9223372036854775807/\Ei Aa5 16777216 x.2) (if isW l i [Lv] then(Ov l (i+1)).then λv i=>Eh l wIs i λi=>(Bx8 l i).then λa i=>Eh l Ri i λi=>Eh l Lv i λi=>Eh l Hd i λi=> .ok (v,a) i else .ok ([],[]) i):=by
  split
  ·exact(Kv (Ag8 y) (Ku (Kq.name (Fu ‹_› C)))).then λv j ⟨hv,J,D⟩=>Mc D λE=>(Ft3 y hl E).then λa j ha=> .must (.must (.must (.ok ⟨hv,ha⟩)))
  ·exact .ok ⟨by simp,Gc⟩
 exact h2.then λL C hv=> .must (.must (.ok ⟨Kb,Cg,Cg,Tc,Ox,hc,⟨hv.1,by simp,by simp⟩,hv.2⟩))
theorem Ct1 (y:Bv l) (hl:l.length<=8000000) (hk:k<=l.length):Ev (λx _=>Lb 16777216 x) (Xn l k):=by
 rw[Xn];split
 ·exact(Be8 y hl (Fu ‹_› hk)).then λn i hn=> .must (.ok ⟨hn,Cg,Cg,Tc,Ox,Gc,⟨by simp [Lh],by simp [],by simp []⟩,Gc⟩)
 split
 ·exact(Aq3 y hl).then λb i hb=> .ok ⟨Kb,hb.1,hb.2,Tc,Ox,Gc,⟨by simp [Lh],by simp [],by simp []⟩,Gc⟩
 split
 ·exact Mc (Fu ‹_› hk) λh1=>(Kv (Bm8 y hl) (Ku (Kq.dis h1))).then λd i ⟨hd,I,C⟩=>Mc C λD=>Mc D λE=>(Zp y hl E).then λs i hs=> .ok ⟨Kb,Cg,Cg,hs,hd,Gc,⟨by simp [Lh],by simp [],by simp []⟩,Gc⟩
 split
 ·exact Gk2 y hl (Fu ‹_› hk)
 split
 ·exact(Zp y hl (Fu ‹_› hk)).then λs i hs=> .ok ⟨Kb,Cg,Cg,hs,Ox,Gc,⟨by simp [Lh],by simp [],by simp []⟩,Gc⟩
 split
 ·exact(Zp y hl (Fu ‹_› hk)).then λs i hs=> .ok ⟨Kb,Cg,Cg,hs,Ox,Gc,⟨by simp [Lh],by simp [],by simp []⟩,Gc⟩
 split
 ·exact .ok ⟨Kb,Cg,Cg,Tc,Ox,Gc,⟨by simp [Lh],by simp [],by simp []⟩,Gc⟩
 split
 ·exact .must (.ok ⟨Kb,Cg,Cg,Tc,Ox,Gc,⟨by simp [Lh],by simp [],by simp []⟩,Gc⟩)
 split
 ·exact .must (.ok ⟨Kb,Cg,Cg,Tc,Ox,Gc,⟨by simp [Lh],by simp [],by simp []⟩,Gc⟩)
 ·exact .fail
end
end Go.Dl
-- Hm
namespace Go.Dl
open Go Go.Proofs
set_option maxRecDepth 100000
section
variable {G:Nat->DVal} {r:Nat} {l:List Tok}
theorem Ct2 {y K:Ab} {C kk:Nat} {cs:List DVal} {x:Ex} {env:Nat->DVal} (D:K C=some (.cells cs 27)) (hr:K r=some (srO l kk)) (E: ∀b,b≠C->b≠r->y b≠none->K b=y b) (M:C≠r) (J:y C=none) (L:y r≠none)
  (hs: ∀T:Ab,(∀b,K b=none->T b=none)->(∀b,y b=none->b≠C->T b=none)->Km K cs T (dEx x)):Rn G ⟨env,K⟩ ⟨env,upd (upd y r (some (srO l kk))) C (some (.cells (dEx x) 27))⟩:=by
 refine Rn.cell D (λb o hb=> ?_) (hs _ (λb hb=> ?_) λb hb n=> ?_)
 ·simp only[upd] at hb;by_cases c:b=r
  ·subst c;rw[if_pos rfl] at hb;rw[hr];exact hb
  ·rw[if_neg c] at hb;rw[E b (λe=>by subst e;rw[J] at hb;cases hb) c (by rw[hb];simp)];exact hb
 ·have I:b≠C:=λe=>by subst e;rw[D] at hb;cases hb
  have c:b≠r:=λe=>by subst e;rw[hr] at hb;cases hb
  simp only[upd];rw[if_neg I,if_neg c];cases hbb:y b with
  |none=>rfl
  |some o=>rw[E b I c (by rw[hbb];simp),hbb] at hb;cases hb
 ·have c:b≠r:=λe=>by subst e;exact L hb
  simp only[upd];rw[if_neg n,if_neg c];exact hb
theorem Bz4 (hG:GX G) (hT:Bv l) (ak:l.length<=8000000):SrF Tryz.prog G l r 218 [] (λk=>(Ag1 l k).mp dE):=by
 have hl:l.length<=12800000:=by omega
 intro B k hr hk;dsimp only;refine dci Tryz.func218 Tryz.call218 ?_;simp only[go_sem];intro E J;have n2:r≠E:=Ac J hr;have L:=n2.symm;simp only[go_sem];refine Ad.monoR (Ma G _ (Ae hr n2) (by omega) (by omega)) ?_;simp only[go_sem,Cu];obtain⟨li,ac⟩: ∃li,li=(tk l k).line:=⟨_,rfl⟩;rw[<-ac];refine ReC (Qh G hl _ k (Ae hr n2) hk) (Kq.name hk) ?_ ?_ ?_
 ·intro s k1 hs h1 h2;simp only[go_sem];intro S ag;obtain⟨C,U,ad⟩:=Aq.1 ag;obtain⟨al,ah,V⟩:=Aq.1 ad;simp only[go_sem];have hR:(Ag1 l k)=markL l li (l.length+1) (.mk 3 0 0 s [] [] li 0 0) k1:=by rw[Ag1,hs,<-ac];rfl
  rw[hR];obtain⟨W,ae⟩: ∃W,W=Ex.mk 3 0 0 s [] [] li 0 0:=⟨_,rfl⟩;rw[<-ae];have b4:upd B E (some (.cells zY 27)) S=none:=ad;have br:upd B E (some (.cells zY 27)) r≠none:=by rw[Ah _ _ _ _ n2,hr];simp
  obtain⟨I,hI⟩: ∃I:Nat×Ex×Nat->(Nat->DVal)->Ab->Prop,∀s env heap,I s env heap↔(env 0= .optr r 0/\env 2= .optr E 0/\env 3=dI li/\env 4= .optr S 0/\s.2.2<=l.length/\l.length<s.1+s.2.2/\markL l li s.1 s.2.1 s.2.2=markL l li (l.length+1) W k1/\heap=upd (upd (upd B E (some (.cells zY 27))) r (some (srO l s.2.2))) S (some (.cells (dEx s.2.1) 27))):=⟨_,λ_ _ _=>Iff.rfl⟩;refine Ea9.runG I (λs=>s.1) (l.length+1,W,k1) ⟨_,upd (upd (upd B E (some (.cells zY 27))) r (some (srO l k1))) S (some (.cells (dEx W) 27))⟩ (Ct2 (Aa _ _ _) (Ae (Aa _ _ _) U) (λb X c _=>by simp only[upd];rw[if_neg X,if_neg c]) C b4 br λT hd _=> ?_) ((hI _ _ _).2 ?_) ?_
  ·rw[ae];exact Km.exD hd (.exs0D hd) (.as0D hd)
  ·simp(disch:=omega)only[go_sem]
  ·rintro⟨n,x,k2⟩ env heap hi;obtain⟨e0,e2,e3,M,af,hn,y,rfl⟩:=(hI _ _ _).1 hi;dsimp only at af hn y;obtain⟨m,rfl⟩: ∃m,n=m+1:=⟨n-1,by omega⟩;rw[markL] at y;simp only[go_sem,e0];refine SrM (Ta hG _ _ (Ae (Aa _ _ _) U) (by omega) (by omega)) (Ae (Aa _ _ _) U) af ?_ ?_
   ·intro hw aa;rw[show isW l k2 [Ju]=true from hw,if_pos rfl] at y;simp only[go_sem];refine An (.take 0 (.take 2 (.take 4 (.alt (.go 3 [0] (.go 1 [] (.take 5 (.go 6 [] .done)))) (.go 1 [] (.go 3 [0] (.take 5 (.go 6 [] .done)))))))) ?_;simp only[go_sem,e0,e3,M,C,Af];have adv:=Kq.name aa;refine And.intro ?_ ?_
    ·refine ReC (Qh G hl _ (k2+1) (Aa _ _ _) aa) adv ?_ ?_ ?_
     ·intro s1 O D ai aj;simp only[go_sem,M,C,Af];intro q hq;obtain⟨a1,a2,hq⟩:=Aq.1 hq;obtain⟨Y,a4,hq⟩:=Aq.1 hq;obtain⟨-,-,hq⟩:=Aq.1 hq;have Z:upd B E (some (.cells zY 27)) q=none:=hq;obtain⟨a5,a6,ab⟩:=Aq.1 hq;simp only[go_sem,M,C,Af,a4];refine⟨(m,.mk 4 0 0 s1 [x] [] li 0 0,O),⟨_,upd (upd (upd B E (some (.cells zY 27))) r (some (srO l O))) S (some (.cells (dEx (.mk 4 0 0 s1 [x] [] li 0 0)) 27))⟩,Ct2 (l:=l) (kk:=O) (Aa _ _ _) (by simp [upd,U,a2]) (λb X c hb=> ?_) C b4 br (λT hd hT=>Km.exD hd ?_ (.as0D hd)),(hI _ _ _).2 ?_,by dsimp only;omega⟩
      ·(have:b≠q:=λe=>by subst e;exact hb Z);simp [upd,X,c,this]
      ·show Ln _ _ _ (.vslice ([x].flatMap dEx) 1);rw[List.flatMap_singleton];exact Ln.cellsD (e:=27) (hT q Z Y) (by simp [upd,Y]) (by rw[Af]) (Km.keepD hd _)
      ·rw[D] at y;simp only[go_sem,e0,e2,e3,M];(repeat' apply And.intro)<;>(try first|rfl|assumption|omega)
     ·intro i j D;rw[D] at y;simp only[go_sem];rw[<-y];exact SRt.finP (((((SRt.refl hr).own J L _).set _).own V C _).set j) ⟨rfl,j,rfl⟩
     ·intro j D;rw[D] at y;simp only[go_sem];rw[<-y];exact SRt.finP (((((SRt.refl hr).own J L _).set _).own V C _).set j) ⟨rfl,j,rfl⟩
    ·intro q hq;obtain⟨a1,a2,hq⟩:=Aq.1 hq;obtain⟨Y,a4,hq⟩:=Aq.1 hq;obtain⟨-,-,hq⟩:=Aq.1 hq;have Z:upd B E (some (.cells zY 27)) q=none:=hq;obtain⟨a5,a6,ab⟩:=Aq.1 hq;simp only[go_sem];refine ReC (Qh G hl _ (k2+1) (Ae (Aa _ _ _) a2) aa) adv ?_ ?_ ?_
     ·intro s1 O D ai aj;simp only[go_sem,M,C,Af,a4];refine⟨(m,.mk 4 0 0 s1 [x] [] li 0 0,O),⟨_,upd (upd (upd B E (some (.cells zY 27))) r (some (srO l O))) S (some (.cells (dEx (.mk 4 0 0 s1 [x] [] li 0 0)) 27))⟩,Ct2 (l:=l) (kk:=O) (Aa _ _ _) (by simp [upd,U]) (λb X c hb=> ?_) C b4 br (λT hd hT=>Km.exD hd ?_ (.as0D hd)),(hI _ _ _).2 ?_,by dsimp only;omega⟩
      ·(have:b≠q:=λe=>by subst e;exact hb Z);simp [upd,X,c,this]
      ·show Ln _ _ _ (.vslice ([x].flatMap dEx) 1);rw[List.flatMap_singleton];exact Ln.cellsD (e:=27) (hT q Z Y) (by simp [upd,a1,Y]) (by rw[Af]) (Km.keepD hd _)
      ·rw[D] at y;simp only[go_sem,e0,e2,e3,M];(repeat' apply And.intro)<;>(try first|rfl|assumption|omega)
     ·intro i j D;rw[D] at y;simp only[go_sem];rw[<-y];exact SRt.finP ((((((SRt.refl hr).own J L _).set _).own V C _).set _).own ab a1 _ |>.set j) ⟨rfl,j,rfl⟩
     ·intro j D;rw[D] at y;simp only[go_sem];rw[<-y];exact SRt.finP ((((((SRt.refl hr).own J L _).set _).own V C _).set _).own ab a1 _ |>.set j) ⟨rfl,j,rfl⟩
   ·intro hw;rw[show isW l k2 [Ju]=false from hw,if_neg (by simp)] at y;simp only[go_sem,e2,M,L,ah,Af];rw[<-y];apply SRt.fin (H0:=B) (r:=r) (l:=l)
    ·apply SRt.own (hx:=J) (hr:=L);apply SRt.own (hx:=V) (hr:=C);apply SRt.set;apply SRt.own (hx:=J) (hr:=L);exact SRt.refl hr
    ·exact⟨rfl,rfl⟩
 ·intro i j hs;simp only[go_sem];exact SRt.finP (((SRt.refl hr).own J L _).set j) (by rw[Ag1,hs];exact⟨rfl,j,rfl⟩)
 ·intro j hs;simp only[go_sem];exact SRt.finP (((SRt.refl hr).own J L _).set j) (by rw[Ag1,hs];exact⟨rfl,j,rfl⟩)
end
section
variable {P:Program} {G:Nat->DVal} {f:FuncId} {args:List DVal} {H H0:Ab} {R:DEnd->Ab->Prop} {r k a:Nat} {l:List Tok}
def Zq:List DVal->List (List UInt8)
 | .str s::cs=>s::Zq cs
 |_=> []
def Cj5 (l:List Tok):List (List UInt8)->Nat->(Nat->Prop)->(Nat->Prop)->Prop
 | [],k,yes,_=>yes k
 |s::ws,k,yes,no=>(isW l k [s]=true->k+1<=l.length->Cj5 l ws (k+1) yes no)/\(isW l k [s]=false->no k)
theorem Ft4 (hG:GX G) (hl:l.length<=12800000) (cs:List DVal) (y:(Zq cs).map .str=cs) {H:Ab} {q n m:Nat} (C:H q=none) (hr:H r=some (srO l k)) (hk:k<=l.length) (D:n=cs.length/\m=cs.length/\cs.length<=1000):
  Ad Tryz.prog G 199 [.optr r 0,.oslice 1 q 0 n m] (upd H q (some (.cells cs 9))) (SrR r l H (Wf l (Zq cs) k)):=by
 have h:=congrArg List.length y;rw[jK] at h;obtain⟨rfl,rfl,h3⟩:=D;rw[<-h];exact Gy5 hG hl (Zq cs) cs y H C hr hk (by omega)
theorem SrN {c:Prop} [Decidable c] (h:Ad P G f args H (Am (.bool (decide c)) H)) (y:c->R (.ret (.bool true)) H) (no: ¬c->R (.ret (.bool false)) H):Ad P G f args H R:=h.mono λe H' hx=>by
 obtain⟨rfl,rfl⟩:=hx;by_cases hc:c
 ·rw[decide_eq_true hc];exact y hc
 ·rw[decide_eq_false hc];exact no hc
theorem SrI {c:Bool} (h:Ad P G f args H (Am (.bool c) H)) (y:c=true->R (.ret (.bool true)) H) (no:c=false->R (.ret (.bool false)) H):Ad P G f args H R:=h.mono λe H' hx=>by
 obtain⟨rfl,rfl⟩:=hx;cases c
 ·exact no rfl
 ·exact y rfl
theorem SrU {ws:List (List UInt8)} (h:Ad P G f args H0 (SrR r l H (Wf l ws k))) (hk:k<=l.length)
  (g:Cj5 l ws k (λk'=>R (.ret (.tuple [])) (upd H r (some (srO l k')))) (λi=> ∀j,R (.panic (Ru i 40)) (upd H r (some (srO l j))))):Ad P G f args H0 R:=h.mono λe H' hx=>by
 clear h
 induction ws generalizing k with
 |nil=>obtain⟨rfl,rfl⟩:=hx;exact g
 |cons s ws ih=>
  rw[Wf] at hx;cases c:isW l k [s]
  ·rw[c,if_neg (by simp)] at hx;obtain⟨rfl,j,rfl⟩:=hx;exact g.2 c j
  ·rw[c,if_pos rfl] at hx;exact ih (Fu c hk) (g.1 c (Fu c hk)) hx
theorem ReS {α:Type} {X:Nat->Re α} {D:α->DVal} {y:List DVal} (h:SrF P G l r f y (λk=>(X k).mp D)) (adv:k<=l.length->Kq l a (X k))
  (ok: ∀v j,X k= .ok v j->a<=j->j<=l.length->R (.ret (D v)) (upd H r (some (srO l j))))
  (fail: ∀i j,X k= .fail i->R (.panic (Ru i 40)) (upd H r (some (srO l j))))
  (long: ∀j,X k= .long->R (.panic (Ru 0 3)) (upd H r (some (srO l j)))) (C:H r=some (srO l k):=by repeat' first|assumption|exact Aa _ _ _|refine Ae ?_ ?_) (hk:k<=l.length:=by omega):Ad P G f (.optr r 0::y) H R:=ReC (h H k C hk) (adv hk) ok fail long
theorem Hg2 {s:List UInt8} (hG:GX G) (hl:l.length<=12800000)
  (C:isW l k [s]=true->k+1<=l.length->R (.ret (.bool true)) (upd H r (some (srO l (k+1)))))
  (no:isW l k [s]=false->R (.ret (.bool false)) H) (y:H r=some (srO l k):=by repeat' first|assumption|exact Aa _ _ _|refine Ae ?_ ?_) (hk:k<=l.length:=by omega):Ad Tryz.prog G 201 [.optr r 0,.str s] H R:=SrM (Ta hG _ _ y (by omega) (by omega)) y hk C no
theorem Hg3 (hG:GX G) (hl:l.length<=12800000) {cs:List DVal} {q n m:Nat} (y:(Zq cs).map .str=cs) (C:H q=none)
  (g:Cj5 l (Zq cs) k (λk'=>R (.ret (.tuple [])) (upd H r (some (srO l k')))) (λi=> ∀j,R (.panic (Ru i 40)) (upd H r (some (srO l j))))) (D:H r=some (srO l k):=by repeat' first|assumption|exact Aa _ _ _|refine Ae ?_ ?_) (hk:k<=l.length:=by omega) (E:n=cs.length/\m=cs.length/\cs.length<=1000:=by simp):
  Ad Tryz.prog G 199 [.optr r 0,.oslice 1 q 0 n m] (upd H q (some (.cells cs 9))) R:=SrU (Ft4 hG hl cs y C D hk E) hk g
theorem Aq4 {A B:Prop} (a:A) (f:A->B):A/\B:=⟨a,f a⟩
end
section
variable {G:Nat->DVal} {r:Nat} {l:List Tok}
theorem Hg4 (hG:GX G) (y:Nat) (J:y<=6) (m:List Tok) (hm:m.length<=12800000) (D:Bv m) (K:Ab) (q:Nat) (C:K q=some (.cells [dI y] 3)):
  Ad Tryz.prog G 282 ([]++ [Be m]++ [.optr q 0]) K (Am (Bu4 (Gj m y)) K):=by
 refine dci Tryz.func282 Tryz.call282 ?_;simp(disch:=omega)only[go_sem,jG,jI];intro p hp;dsimp only at hp;have n:=Ac hp C;have E:=n.symm;simp(disch:=omega)only[go_sem,C,n,E];refine Ad.monoR (Dt5 (l:=m) hG _ y hm D) ?_;have I:=Af (Gj m y).1;simp(disch:=omega)only[go_sem,Bu4,dE,I];exact Dj.sub ((Sub.refl K).new hp _) (.refl ⟨rfl,rfl⟩)
theorem Bz5 (hG:GX G) (I:Bv l) (hl:l.length<=12800000) (y:Nat) (C:y<=6):SrF Tryz.prog G l r 222 [dI y] (λk=>(exR l y k).mp dE):=by
 intro B k hr hk;dsimp only;obtain⟨n,h1,h2,h3,-⟩:=Dg4 (l:=l.drop k) y C;rw[List.length_drop] at h2;have e:Gj (l.drop k) y=((Gj (l.drop k) y).1,(n:Int),(Gj (l.drop k) y).2.2):=by rw[<-h1]
 have J:=Vt I k;have adv:=Kq.ex y C hk;have L:k+n<=l.length:=by omega
 refine dci Tryz.func222 Tryz.call222 ?_;simp(disch:=omega)only[go_sem]
 ((with_reducible show Dd _ _ _ _ _);intro q hq;dsimp only at hq;have M:=hq;have hz:=(show Ag2 B _ from(by repeat (first|exact Ag2.refl _|refine Ag2.upd ?_ _ _))) _ hq;have E:=Ac hz hr;have O:=E.symm;(try have S:=Ac hz hq0);(try have U:=(Ac hz hq0).symm);(try simp only[Aq] at hq);(repeat (have V:=hq.1;have hq:=hq.2)))
 simp(disch:=omega)only[go_sem, *]
 ((with_reducible show Dd _ _ _ _ _);intro q hq;dsimp only at hq;have M:=hq;have hz:=(show Ag2 B _ from(by repeat (first|exact Ag2.refl _|refine Ag2.upd ?_ _ _))) _ hq;have E:=Ac hz hr;have O:=E.symm;(try have S:=Ac hz hq0);(try have U:=(Ac hz hq0).symm);(try simp only[Aq] at hq);(repeat (have V:=hq.1;have hq:=hq.2)))
 simp(disch:=omega)only[go_sem, *];refine ReC (r:=r) (l:=l) (x:=exR l y k) (D:=dE) ?_ adv ?_ ?_ ?_
 ·rw[exR,e];refine Gy6 hl _ _ _ _ _ k (by repeat' first|assumption|exact Aa _ _ _|refine Ae ?_ ?_) hk n L λK W=> ?_;rw[<-e];exact Hg4 hG y C _ (by rw[List.length_drop];omega) J K _ (W _ _ (by repeat' first|assumption|exact Aa _ _ _|refine Ae ?_ ?_))
 all_goals clear e adv
 all_goals intros
 repeat' first
  |simp(disch:=omega)only[go_sem, *,dE,Af]
  |(show SRt _ _ _ _ _;first|with_reducible assumption|apply SRt.at|(apply SRt.refl;assumption)|apply SRt.set|(apply SRt.own<;>first|assumption|skip))
  |((with_reducible show Dj _ _ _);apply SRt.fin (H0:=B) (r:=r) (l:=l))
  |((with_reducible show Tl _ _ _);apply SRt.finP (H0:=B) (r:=r) (l:=l))
  |((first|refine SrR.ofK ?_|refine SrR.ofF ?_|refine SrR.ofL ?_);simp [Re.mp,dE, *];done)
  |fail
theorem Dh7 (hG:GX G) (y:Bv l) (hl:l.length<=12800000):SrF Tryz.prog G l r 222 [dI 2] (λk=>(exR l 2 k).mp dE):=Bz5 hG y hl 2 (by omega)
theorem Dh8 (hG:GX G) (y:Bv l) (hl:l.length<=12800000):SrF Tryz.prog G l r 222 [dI 0] (λk=>(exR l 0 k).mp dE):=Bz5 hG y hl 0 (by omega)
theorem Kq.ex2 {k:Nat} (hk:k<=l.length):Kq l (k+1) (exR l 2 k):=Kq.ex 2 (by omega) hk
theorem Kq.ex0 {k:Nat} (hk:k<=l.length):Kq l (k+1) (exR l 0 k):=Kq.ex 0 (by omega) hk
theorem Ul (x:Ex):(dEx x).map nz=dEx x:=by rw[Pc];rfl
theorem Zr (x:Ex) {i:Nat} (h:9<=i):(dEx x).take i=dEx x:=List.take_of_length_le (by rw[Af];exact h)
theorem Aj7 (x:Ex) {i:Nat} (h:9<=i):(dEx x).drop i= []:=List.drop_of_length_le (by rw[Af];exact h)
theorem Ax5 (x:Ind) {i:Nat} (h:36<=i):(Db x).take i=Db x:=List.take_of_length_le (by rw[Au];exact h)
theorem Dh9 (x:Ind) {i:Nat} (h:36<=i):(Db x).drop i= []:=List.drop_of_length_le (by rw[Au];exact h)
theorem Ax6 (x:Dis) {i:Nat} (h:27<=i):(Du x).take i=Du x:=List.take_of_length_le (by rw[Bd];exact h)
theorem Di0 (x:Dis) {i:Nat} (h:27<=i):(Du x).drop i= []:=List.drop_of_length_le (by rw[Bd];exact h)
theorem Vu:dEx ex0= (zX 0 0 0 [] (.vslice [] 0) (.vslice [] 0) 0):=by rw[ex0,Ys];rfl
theorem Be9 (x:Ind):(Db x).map nz=Db x:=by simp [Db,Ul]
theorem Bf0 (x:Dis):(Du x).map nz=Du x:=by simp [Du,Ul]
theorem Wh (G:Nat->DVal) (H:Ab) (s:List UInt8):Ad Tryz.prog G 121 [.optr r 0,.str s] H (λe H'=> ∃q1 q2,H q1=none/\upd H q1 (some (.cells [.optr r 0] 140)) q2=none/\e= .ret (.func (.func 220) [] [.optr q1 0,.optr q2 0])/\H'=upd (upd H q1 (some (.cells [.optr r 0] 140))) q2 (some (.cells [.str s] 9))):=by
 refine dci Tryz.func121 Tryz.call121 ?_;simp(disch:=omega)only[go_sem];intro q1 h1;dsimp only at h1;simp(disch:=omega)only[go_sem];intro q2 h2;dsimp only at h2;simp(disch:=omega)only[go_sem];exact Dj.refl ⟨q1,q2,h1,h2,rfl,rfl⟩
theorem Um (hG:GX G) (hl:l.length<=12800000) (B:Ab) (s:List UInt8) (y C k:Nat) (E:y≠r) (I:C≠r) (J:B y=some (.cells [.optr r 0] 140)) (L:B C=some (.cells [.str s] 9)) (H:Ab) (D:SRt r l k B H) (hk:k<=l.length):
  Ad Tryz.prog G 220 ([]++ []++ [.optr y 0,.optr C 0]) H (SrQ r l H (.bool (byW l s k).isSome) ((byW l s k).getD k)):=by
 have M:H y=some (.cells [.optr r 0] 140):=D _ _ (Ae J E);have O:H C=some (.cells [.str s] 9):=D _ _ (Ae L I);refine dci Tryz.func220 Tryz.call220 ?_;simp(disch:=omega)only[go_sem,jG,M,O];refine(Ta hG H s D.get (by omega) (by omega)).mono ?_;rintro _ H1 ⟨rfl,rfl⟩;simp(disch:=omega)only[go_sem];refine Dj.refl ⟨?_, ?_⟩
 ·rw[byW];cases isW l k [s]<;>rfl
 ·rw[byW];cases isW l k [s]<;>rfl
theorem Ax7 (hG:GX G) (hl:l.length<=12800000):SrF Tryz.prog G l r 217 [] (λk=>(Zi l k).mp dW):=by
 intro B k hr hk;dsimp only;refine dci Tryz.func217 Tryz.call217 ?_;simp(disch:=omega)only[go_sem];refine(Wh G B [44]).mono ?_;rintro _ K ⟨I,q2,J,L,rfl,rfl⟩;obtain⟨S,M,O⟩:=Aq.1 L;have y:=Ac J hr;have C:=Ac O hr;simp(disch:=omega)only[go_sem];refine ReC (r:=r) (l:=l) (x:=Zi l k) (D:=dW) (a:=k+1) ?_ (Kq.names hk) ?_ ?_ ?_
 ·exact(Fr9 hl).1 _ 230 220 [.optr r 0] [] [] [.optr I 0,.optr q2 0] (Ov l) (byW l Dm)
   (λH k E hk=>Qh G hl H k E.get hk) (λH k E hk=>Um hG hl _ Dm I q2 k y.symm C.symm (Ae (Aa _ _ _) M) (Aa _ _ _) H E hk) (λ_ h=>Kq.name h) Sn k (Ae (Ae hr y) C) hk
 all_goals intros
 repeat' first
  |simp(disch:=omega)only[go_sem]
  |assumption
  |(show SRt _ _ _ _ _;first|with_reducible assumption|apply SRt.at|(apply SRt.refl;assumption)|apply SRt.set|(apply SRt.own<;>first|assumption|skip))
  |((with_reducible show Dj _ _ _);apply SRt.fin (H0:=B) (r:=r) (l:=l))
  |((with_reducible show Tl _ _ _);apply SRt.finP (H0:=B) (r:=r) (l:=l))
  |((first|refine SrR.ofK ?_|refine SrR.ofF ?_|refine SrR.ofL ?_);simp [Re.mp, *];done)
  |exact y.symm
  |exact C.symm
  |fail
theorem Gz7 (hG:GX G) (y:Bv l) (hl:l.length<=12800000):SrF Tryz.prog G l r 303 [.func (.func 304) [] []] (λk=>(chR l k).mp dCl):=by
 intro B k hr hk;dsimp only;obtain⟨n,h1,h2,h3,-⟩:=Ci9 (l:=l.drop k);rw[List.length_drop] at h2;obtain⟨x,e,hx⟩: ∃x e,Ji (l.drop k)=(x,(n:Int),e):=⟨_,_,by rw[<-h1]⟩;have C:=Vt y k;have E:(0:Int)<=(k:Int):=by omega
 have I:(k:Int)<=(l.length:Int):=by omega
 have J:IntKind.i64.wrap ((k:Int)+(n:Int))=((k+n:Nat):Int):=by rw[IntKind.wrap_i64];omega
 have L:((l.drop k).flatMap Cu).take ((l.length-k)*4)=(l.drop k).flatMap Cu:=List.take_of_length_le (by rw[Ak Az,List.length_drop];exact Nat.le_refl _);have hc:=λK=>Cq0 (l:=l.drop k) hG K (by rw[List.length_drop];omega) C;rw[hx] at hc;simp only[Be,List.length_drop] at hc;rw[chR,hx];refine dci Tryz.func303 Tryz.call303 ?_;simp(disch:=omega)only[go_sem, *];refine An (.take 0 (.take 1 (.take 2 (.take 3 (.take 4 (.take 5 (.take 6 (.take 7 (.take 8 (.take 9 (.go 10 [] (.take 11 (.take 12 (.take 13 (.take 14 (.take 15 (.take 16 (.take 17 .done)))))))))))))))))) ?_
 repeat' first
  |(refine Ad.monoR (hc _) ?_)
  |with_reducible refine And.intro ?_ ?_
  |((with_reducible show Dd _ _ _ _ _);intro q hq;dsimp only at hq;have M:=hq;have hz:=(show Ag2 B _ from(by repeat (first|exact Ag2.refl _|refine Ag2.upd ?_ _ _))) _ hq;have D:=Ac hz hr;have O:=D.symm;(try have S:=Ac hz hq0);(try have U:=(Ac hz hq0).symm);(try simp only[Aq] at hq);(repeat (have V:=hq.1;have hq:=hq.2)))
  |simp(disch:=omega)only[go_sem, *,Be,De0,dCl,jD,Bx9,List.length_drop]
  |(with_reducible refine Iu ?_ ?_<;>intro hb<;>try simp only[decide_eq_true_eq,decide_eq_false_iff_not,Bool.not_eq_true',Bool.not_eq_false'] at hb)
  |(show SRt _ _ _ _ _;first|with_reducible assumption|apply SRt.at|(apply SRt.refl;assumption)|apply SRt.set|(apply SRt.own<;>first|assumption|skip))
  |((with_reducible show Dj _ _ _);apply SRt.fin (H0:=B) (r:=r) (l:=l))
  |((with_reducible show Tl _ _ _);apply SRt.finP (H0:=B) (r:=r) (l:=l))
  |((first|refine SrR.ofK ?_|refine SrR.ofF ?_|refine SrR.ofL ?_);simp [Re.mp,Re.then,Bx5,dCl, *];done)
  |fail
theorem Ft5 {x:Ex} {k k':Nat} (y:Bv l) (hl:l.length<=8000000) (h:exR l 2 k= .ok x k'):Cp 16777216 x:=Ax2 y hl x k' h
def Eg7 (l:List Tok) (k:Nat):Re Typ:=(Zi l k).then λn i=>Eh l Bs i λi=> .ok { Lh with kind:=1,names:=n } i
def Bm9 (l:List Tok) (k:Nat):Re Typ:=(Sl l k).then λb i=> .ok { Lh with kind:=2,lo:=b.1,hi:=b.2 } i
def Ct3 (l:List Tok) (k:Nat):Re Typ:=Eh l Bc k λi=>(Be3 l i).then λd i=>Eh l Bs i λi=>Eh l wOf i λi=>(Xm l i).then λs i=> .ok { Lh with kind:=4,disc:=d,sub:=s } i
theorem Hj6 (G:Nat->DVal) (hl:l.length<=12800000) (H:Ab) (k:Nat) (hr:H r=some (srO l k)) (hk:k<=l.length):Ad Tryz.prog G 237 [.optr r 0] H (SrQ r l H (.bool (byN l k).isSome) ((byN l k).getD k)):=
 (Sm G H hr (by omega) (by omega)).mono λe H' ⟨h1,h2⟩=>by
  subst h1;subst h2;rw[byN];by_cases c:(tk l k).kind=1
  ·rw[if_pos c,decide_eq_true c];exact⟨rfl,(Ef hr).symm⟩
  ·rw[if_neg c,decide_eq_false c];exact⟨rfl,(Ef hr).symm⟩
theorem Dx5 (hG:GX G) (hl:l.length<=12800000) (B:Ab) (y k:Nat) (D:y≠r) (E:B y=some (.cells [.optr r 0] 140)) (H:Ab) (C:SRt r l k B H) (hk:k<=l.length):
  Ad Tryz.prog G 271 ([]++ []++ [.optr y 0]) H (SrQ r l H (.bool (byI l Pg k).isSome) ((byI l Pg k).getD k)):=by
 have I:H y=some (.cells [.optr r 0] 140):=C _ _ (Ae E D);refine dci Tryz.func271 Tryz.call271 ?_;simp(disch:=omega)only[go_sem,jG,I];refine(Aw6 hG H Pg C.get (by omega) (by omega)).mono ?_;rintro _ H1 ⟨rfl,rfl⟩;simp(disch:=omega)only[go_sem];refine Dj.refl ⟨?_, ?_⟩
 ·rw[byI];cases isW l k [Pg]<;>rfl
 ·rw[byI];cases isW l k [Pg]<;>exact(Ef C.get).symm
theorem Lc (hG:GX G) (I:Bv l) (M:l.length<=8000000):
 SrF Tryz.prog G l r 223 [] (λk=>(Sl l k).mp (λb=> .tuple [dE b.1,dE b.2]))/\
 SrF Tryz.prog G l r 219 [] (λk=>(Rs l k).mp dE)/\
 SrF Tryz.prog G l r 143 [] (λk=>(Bx7 l k).mp (λa=> .agg (Ip a)))/\
 SrF Tryz.prog G l r 132 [] (λk=>(Xm l k).mp (λa=> .agg (Db a)))/\
 SrF Tryz.prog G l r 192 [] (λk=>(Bm9 l k).mp (λa=> .agg (Cf a)))/\
 SrF Tryz.prog G l r 191 [] (λk=>(Eg7 l k).mp (λa=> .agg (Cf a)))/\
 SrF Tryz.prog G l r 130 [] (λk=>(Be3 l k).mp (λa=> .agg (Du a)))/\
 SrF Tryz.prog G l r 193 [] (λk=>(Ct3 l k).mp (λa=> .agg (Cf a)))/\
 SrF Tryz.prog G l r 236 [] (λk=>(Cd2 l k).mp (λa=> .agg (Ih a)))/\
 SrF Tryz.prog G l r 150 [] (λk=>(Sb l k).mp Ci)/\
 SrF Tryz.prog G l r 270 [] (λk=>(Cd3 l k).mp (λa=> .agg (Kk a)))/\
 (∀(B:Ab) (k y:Nat) (C:B y=some (.cells [.optr r 0] 140)) (E:y≠r) (hr:B r=some (srO l k)) (hk:k<=l.length),Ad Tryz.prog G 195 [.optr y 0] B (SrR r l B (Re.mp (λa=> .agg (Cf a)) ((Xm l k).then λs i=> .ok { Lh with kind:=3,sub:=s } i))))/\
 (∀(B:Ab) (k y:Nat) (C:B y=some (.cells [.optr r 0] 140)) (E:y≠r) (hr:B r=some (srO l k)) (hk:k<=l.length),Ad Tryz.prog G 196 [.optr y 0] B (SrR r l B (Re.mp (λa=> .agg (Cf a)) ((Xm l k).then λs i=> .ok { Lh with kind:=6,sub:=s } i))))/\
 (∀(B:Ab) (k y:Nat) (C:B y=some (.cells [.optr r 0] 140)) (E:y≠r) (hr:B r=some (srO l k)) (hk:k<=l.length),Ad Tryz.prog G 198 [.optr y 0] B (SrR r l B (Re.mp (λa=> .agg (Cf a)) (Eh l Gb k λi=> .ok { Lh with kind:=7,limited:=true } i))))/\
 (∀(B:Ab) (k y:Nat) (C:B y=some (.cells [.optr r 0] 140)) (E:y≠r) (hr:B r=some (srO l k)) (hk:k<=l.length),Ad Tryz.prog G 200 [.optr y 0] B (SrR r l B (Re.mp (λa=> .agg (Cf a)) (Eh l Cs k λi=> .ok { Lh with kind:=5 } i))))/\
 (∀(B:Ab) (k y:Nat) (C:B y=some (.cells [.optr r 0] 140)) (E:y≠r) (hr:B r=some (srO l k)) (hk:k<=l.length),Ad Tryz.prog G 197 [] B (SrR r l B (Re.mp (λa=> .agg (Cf a)) (.ok { Lh with kind:=7 } k)))):=by
 have hl:l.length<=12800000:=by omega
 refine Aq4 ?_ λO=>Aq4 ?_ λS=>Aq4 ?_ λad=>Aq4 ?_ λU=>Aq4 ?_ λae=>Aq4 ?_ λaf=>Aq4 ?_ λV=>Aq4 ?_ λag=>Aq4 ?_ λW=>Aq4 ?_ λX=>Aq4 ?_ λah=>Aq4 ?_ λ_=>Aq4 ?_ λ_=>Aq4 ?_ λ_=>Aq4 ?_ λ_=> ?_;all_goals first|intro B k y C E hr hk;have ai:=E.symm|intro B k hr hk;dsimp only
 case' refine_1=>rw[Sl];refine dci Tryz.func223 Tryz.call223 ?_;have Y:=0
 case' refine_2=>rw[Rs];refine dci Tryz.func219 Tryz.call219 ?_
 case' refine_3=>rw[Bx7];refine dci Tryz.func143 Tryz.call143 ?_
 case' refine_4=>rw[Xm];refine dci Tryz.func132 Tryz.call132 ?_
 case' refine_5=>rw[Bm9];refine dci Tryz.func192 Tryz.call192 ?_
 case' refine_6=>rw[Eg7];refine dci Tryz.func191 Tryz.call191 ?_
 case' refine_7=>rw[Be3];refine dci Tryz.func130 Tryz.call130 ?_;have Z:=0
 case' refine_8=>rw[Ct3];refine dci Tryz.func193 Tryz.call193 ?_
 case' refine_9=>rw[Cd2];refine dci Tryz.func236 Tryz.call236 ?_
 case' refine_10=>rw[Sb];refine dci Tryz.func150 Tryz.call150 ?_
 case' refine_11=>rw[Cd3];refine dci Tryz.func270 Tryz.call270 ?_
 case' refine_12=>refine dci Tryz.func195 Tryz.call195 ?_
 case' refine_13=>refine dci Tryz.func196 Tryz.call196 ?_
 case' refine_14=>refine dci Tryz.func198 Tryz.call198 ?_
 case' refine_15=>refine dci Tryz.func200 Tryz.call200 ?_
 case' refine_16=>refine dci Tryz.func197 Tryz.call197 ?_
 all_goals simp(disch:=omega)only[go_sem]
 all_goals
 repeat' first
  |with_reducible refine And.intro ?_ ?_
  |((with_reducible show Dd _ _ _ _ _);intro q hq;dsimp only at hq;have aa:=hq;have hz:=(show Ag2 B _ from(by repeat (first|exact Ag2.refl _|refine Ag2.upd ?_ _ _))) _ hq;have J:=Ac hz hr;have ab:=J.symm;(try have nb:=Ac hz C);(try have aj:=(Ac hz C).symm);(try simp only[Aq] at hq);(repeat (have ac:=hq.1;have hq:=hq.2)))
  |((with_reducible refine λ(q:Nat) (hq:_=none)=> ?_);have aa:=hq;(try simp only[Be4] at hq);(repeat (have ac:=hq.1;have hq:=hq.2));have hz:=hq;have J:=Ac hz hr;have ab:=J.symm)
  |with_reducible refine Hg2 hG hl ?_ ?_<;>intros
  |(with_reducible refine ReS (Dh8 hG I hl) Kq.ex0 ?_ ?_ ?_<;>intros)
  |(with_reducible refine ReS (Dh7 hG I hl) Kq.ex2 ?_ ?_ ?_<;>intros)
  |(with_reducible refine ReS (Qh G hl) Kq.name ?_ ?_ ?_<;>intros)
  |(with_reducible refine ReS (Ax7 hG hl) Kq.names ?_ ?_ ?_<;>intros)
  |(with_reducible refine ReS (Bz4 hG I M) Kq.mark ?_ ?_ ?_<;>intros)
  |(with_reducible refine ReS (Gz7 hG I hl) Kq.ch ?_ ?_ ?_<;>intros)
  |(with_reducible refine ReS O Kq.bounds ?_ ?_ ?_<;>intros)
  |(with_reducible refine ReS S Kq.given ?_ ?_ ?_<;>intros)
  |(with_reducible refine ReS U Kq.ind ?_ ?_ ?_<;>intros)
  |(with_reducible refine ReS V Kq.dis ?_ ?_ ?_<;>intros)
  |(with_reducible refine ReS X Kq.cmps ?_ ?_ ?_<;>intros)
  |(with_reducible refine SrI (Aw6 hG _ _ (by repeat' first|assumption|exact Aa _ _ _|refine Ae ?_ ?_) (by omega) (by omega)) ?_ ?_<;>intros)
  |(with_reducible refine SrN (Sm G _ (by repeat' first|assumption|exact Aa _ _ _|refine Ae ?_ ?_) (by omega) (by omega)) ?_ ?_<;>intros)
  |simp(disch:=omega)only[go_sem, *,dE,Cu,dW,dCl,Ci,Ep,Zq,Cj5,Di,List.take_append,List.drop_append,Zr,Aj7,Ax5,Dh9,Ax6,Di0,jC,Af,Au,Bd,Cd,Xj,Af5,List.all_append,List.all_cons,List.all_nil,jO,jH,jG,jA,jB,jE,jM,jJ,jR,jL,List.take_nil,jI]
  |refine Hg3 hG hl (by rfl) (by assumption) ?_
  |(with_reducible refine Ad.monoR (Ma G _ (by repeat' first|assumption|exact Aa _ _ _|refine Ae ?_ ?_) (by omega) (by omega)) ?_)
  |(with_reducible refine Ad.monoR (Qe hG _ _ (Ft5 I M (by assumption))) ?_)
  |(with_reducible refine(Zl G _ (by repeat' first|assumption|exact Aa _ _ _|refine Ae ?_ ?_)).mono ?_;rintro _ _ ⟨rfl,rfl⟩)
  |(have:=Y;with_reducible refine An (.take 0 (.take 1 (.go 2 [0] (.go 3 [] (.go 4 [] .done))))) ?_)
  |(have:=Z;with_reducible refine An (.take 0 (.take 1 (.go 2 [0] (.take 3 (.go 4 [] .done))))) ?_)
  |(with_reducible refine Iu ?_ ?_<;>intro hb<;>try simp only[decide_eq_true_eq,decide_eq_false_iff_not,Bool.not_eq_true',Bool.not_eq_false'] at hb)
  |(with_reducible refine Kd ?_ ?_<;>intro hb<;>try simp only[decide_eq_true_eq,decide_eq_false_iff_not,Bool.not_eq_true',Bool.not_eq_false'] at hb)
  |(show SRt _ _ _ _ _;first|with_reducible assumption|apply SRt.at|(apply SRt.refl;assumption)|apply SRt.set|(apply SRt.own<;>first|assumption|skip))
  |((with_reducible show Dj _ .nilSlice _);refine Dj.le DLe.nil ?_)
  |((with_reducible show Dj _ (.agg _) _);apply SRt.finZ (H0:=B) (r:=r) (l:=l))
  |((with_reducible show Dj _ _ _);apply SRt.fin (H0:=B) (r:=r) (l:=l))
  |((with_reducible show Tl _ _ _);apply SRt.finP (H0:=B) (r:=r) (l:=l))
  |(intro _)
  |((with_reducible show Ad _ _ _ _ _ _);refine ReC (r:=r) (l:=l) (x:=Be2 l (Cd2 l) (byN l) k) (D:=Ci) (a:=k+1) ((Fr9 hl).2.2.2.1 _ 236 237 [.optr r 0] [] [.optr r 0] [] (Cd2 l) (byN l) (λH k L hk=>W H k L.get hk) (λH k L hk=>Hj6 G hl H k L.get hk) (λ_ h=>Kq.cmp h) Bm5 k (by repeat' first|assumption|exact Aa _ _ _|refine Ae ?_ ?_) hk) (Kq.sev (λ_ h=>Kq.cmp h) Bm5 hk) ?_ ?_ ?_<;>intros)
  |((first|refine SrR.ofK ?_|refine SrR.ofF ?_|refine SrR.ofL ?_);simp [Re.mp,Re.then,Eh,dE,Di,nz,Ul,Be9,Bf0,Vu,Af,Au,Bd,Et,Ew,Bc,Bs,Dm,Rq,Pf,Hd,wIn,Aw0,Lv,wIs,Pg,Ri,Cs,Aw1,Lw,wOf,Mm,Gb,Kp,Gg,Bp,Ju,Cf,Lh,Ak6,Ak7,Db,Du,Ci,Ep,dW,Ip,Ih,Kk,dCl, *];done)
  |fail
theorem Di1 (hG:GX G) (y:Bv l) (C:l.length<=8000000):SrF Tryz.prog G l r 219 [] (λk=>(Rs l k).mp dE):=(Lc (r:=r) hG y C).2.1
theorem Ct4 (hG:GX G) (y:Bv l) (C:l.length<=8000000):SrF Tryz.prog G l r 143 [] (λk=>(Bx7 l k).mp (λa=> .agg (Ip a))):=(Lc (r:=r) hG y C).2.2.1
theorem Di2 (hG:GX G) (y:Bv l) (C:l.length<=8000000):SrF Tryz.prog G l r 132 [] (λk=>(Xm l k).mp (λa=> .agg (Db a))):=(Lc (r:=r) hG y C).2.2.2.1
theorem Ct5 (hG:GX G) (y:Bv l) (C:l.length<=8000000):SrF Tryz.prog G l r 192 [] (λk=>(Bm9 l k).mp (λa=> .agg (Cf a))):=(Lc (r:=r) hG y C).2.2.2.2.1
theorem Dx6 (hG:GX G) (y:Bv l) (C:l.length<=8000000):SrF Tryz.prog G l r 191 [] (λk=>(Eg7 l k).mp (λa=> .agg (Cf a))):=(Lc (r:=r) hG y C).2.2.2.2.2.1
theorem Di3 (hG:GX G) (y:Bv l) (C:l.length<=8000000):SrF Tryz.prog G l r 130 [] (λk=>(Be3 l k).mp (λa=> .agg (Du a))):=(Lc (r:=r) hG y C).2.2.2.2.2.2.1
theorem Di4 (hG:GX G) (y:Bv l) (C:l.length<=8000000):SrF Tryz.prog G l r 193 [] (λk=>(Ct3 l k).mp (λa=> .agg (Cf a))):=(Lc (r:=r) hG y C).2.2.2.2.2.2.2.1
theorem Bj7 (hG:GX G) (y:Bv l) (C:l.length<=8000000):SrF Tryz.prog G l r 150 [] (λk=>(Sb l k).mp Ci):=(Lc (r:=r) hG y C).2.2.2.2.2.2.2.2.2.1
theorem Ew5 (hG:GX G) (y:Bv l) (C:l.length<=8000000):SrF Tryz.prog G l r 270 [] (λk=>(Cd3 l k).mp (λa=> .agg (Kk a))):=(Lc (r:=r) hG y C).2.2.2.2.2.2.2.2.2.2.1
theorem Ct6 (hG:GX G) (E:Bv l) (I:l.length<=8000000):SrF Tryz.prog G l r 194 [] (λk=>(Dw1 l k).mp (λa=> .agg (Cf a))):=by
 have hl:l.length<=12800000:=by omega
 intro B k hr hk;dsimp only;rw[Dw1];refine dci Tryz.func194 Tryz.call194 ?_;simp(disch:=omega)only[go_sem]
 repeat' first
  |with_reducible refine And.intro ?_ ?_
  |((with_reducible show Dd _ _ _ _ _);intro q hq;dsimp only at hq;have J:=hq;have hz:=(show Ag2 B _ from(by repeat (first|exact Ag2.refl _|refine Ag2.upd ?_ _ _))) _ hq;have y:=Ac hz hr;have L:=y.symm;(try have O:=Ac hz hq0);(try have S:=(Ac hz hq0).symm);(try simp only[Aq] at hq);(repeat (have M:=hq.1;have hq:=hq.2)))
  |((with_reducible refine λ(q:Nat) (hq:_=none)=> ?_);have J:=hq;(try simp only[Be4] at hq);(repeat (have M:=hq.1;have hq:=hq.2));have hz:=hq;have y:=Ac hz hr;have L:=y.symm)
  |with_reducible refine Hg2 hG hl ?_ ?_<;>intros
  |(with_reducible refine ReS (Qh G hl) Kq.name ?_ ?_ ?_<;>intros)
  |(with_reducible refine ReS (Bj7 hG E I) Kq.cmps ?_ ?_ ?_<;>intros)
  |(with_reducible refine SrI (Aw6 hG _ _ (by repeat' first|assumption|exact Aa _ _ _|refine Ae ?_ ?_) (by omega) (by omega)) ?_ ?_<;>intros)
  |(with_reducible refine SrN (Sm G _ (by repeat' first|assumption|exact Aa _ _ _|refine Ae ?_ ?_) (by omega) (by omega)) ?_ ?_<;>intros)
  |simp(disch:=omega)only[go_sem, *,dE,Cu,dW,dCl,Ci,Ep,Zq,Cj5,Di,List.take_append,List.drop_append,Zr,Aj7,Ax5,Dh9,Ax6,Di0,jC,Af,Au,Bd,Cd,Xj,Af5,List.all_append,List.all_cons,List.all_nil,jO,jH,jG,jA,jB,jE,jM,jJ,jR,jL,List.take_nil,jI]
  |refine Hg3 hG hl (by rfl) (by assumption) ?_
  |(with_reducible refine Ad.monoR (Ma G _ (by repeat' first|assumption|exact Aa _ _ _|refine Ae ?_ ?_) (by omega) (by omega)) ?_)
  |(with_reducible refine Iu ?_ ?_<;>intro hb<;>try simp only[decide_eq_true_eq,decide_eq_false_iff_not,Bool.not_eq_true',Bool.not_eq_false'] at hb)
  |(with_reducible refine Kd ?_ ?_<;>intro hb<;>try simp only[decide_eq_true_eq,decide_eq_false_iff_not,Bool.not_eq_true',Bool.not_eq_false'] at hb)
  |(show SRt _ _ _ _ _;first|with_reducible assumption|apply SRt.at|(apply SRt.refl;assumption)|apply SRt.set|(apply SRt.own<;>first|assumption|skip))
  |((with_reducible show Dj _ .nilSlice _);refine Dj.le DLe.nil ?_)
  |((with_reducible show Dj _ (.agg _) _);apply SRt.finZ (H0:=B) (r:=r) (l:=l))
  |((with_reducible show Dj _ _ _);apply SRt.fin (H0:=B) (r:=r) (l:=l))
  |((with_reducible show Tl _ _ _);apply SRt.finP (H0:=B) (r:=r) (l:=l))
  |(intro _)
  |((with_reducible show Ad _ _ _ _ _ _);refine ReC (r:=r) (l:=l) (x:=Bx8 l _) (D:=Ep) ((Fr9 hl).2.2.2.2 _ 270 271 [.optr r 0] [] [] [.optr _ 0] (Cd3 l) (byI l Pg) (λH k C hk=>Ew5 hG E I H k C.get hk) (λH k C hk=>Dx5 hG hl _ _ k (by assumption) (by simp [upd, *];done) H C hk) (λ_ h=>Kq.arm h) Cr5 _ (by repeat' first|assumption|exact Aa _ _ _|refine Ae ?_ ?_) (by omega)) (Kq.arms (by omega)) ?_ ?_ ?_<;>intros)
  |((first|refine SrR.ofK ?_|refine SrR.ofF ?_|refine SrR.ofL ?_);simp [Re.mp,Re.then,Eh,dE,Di,nz,Ul,Be9,Bf0,Vu,Af,Au,Bd,Et,Ew,Bc,Bs,Dm,Rq,Pf,Hd,wIn,Aw0,Lv,wIs,Pg,Ri,Cs,Aw1,Lw,wOf,Mm,Gb,Kp,Gg,Bp,Ju,Cf,Lh,Ak6,Ak7,Db,Du,Ci,Ep,dW,Ip,Ih,Kk,dCl, *];done)
  |fail
end
def Gz8 (l:List Tok):List (List UInt8×(Nat->Re Typ))->Nat->Re Typ
 | [],k=> .fail k
 |(w,f)::as',k=>if isW l k [w] then f (k+1) else Gz8 l as' k
def Go3 (l:List Tok):List (List UInt8×(Nat->Re Typ)):=
 [(Bc,Eg7 l),(Ew,Bm9 l),(Lw,Ct3 l),(Cs,Dw1 l),(Aw1,λk=>(Xm l k).then λs i=> .ok { Lh with kind:=3,sub:=s } i),(Mm,λk=>(Xm l k).then λs i=> .ok { Lh with kind:=6,sub:=s } i),
  (Gb,λk=> .ok { Lh with kind:=7 } k),(Kp,λk=>Eh l Gb k λi=> .ok { Lh with kind:=7,limited:=true } i),(Gg,λk=>Eh l Cs k λi=> .ok { Lh with kind:=5 } i)]
theorem Ew6 (l:List Tok) (k:Nat):Xn l k=Gz8 l (Go3 l) k:=rfl
theorem Xq (x:Typ):(Cf x).take 87=Cf x:=List.take_of_length_le (by rw[Fq];exact Nat.le_refl _)
theorem Gz9 (t:Typ):(Cf t).map nz=Cf t:=by simp [Cf,Ul,Be9,Bf0,nz,dW,Ci,Ep]
section
variable {P:Program} {G:Nat->DVal} {f:FuncId} {args:List DVal} {H:Ab} {R:DEnd->Ab->Prop} {r:Nat} {l:List Tok}
theorem Ct7 {α:Type} {x:Re α} {D:α->DVal} (h:Ad P G f args H (SrR r l H (x.mp D)))
  (ok: ∀v k,x= .ok v k->R (.ret (D v)) (upd H r (some (srO l k))))
  (fail: ∀k j,x= .fail k->R (.panic (Ru k 40)) (upd H r (some (srO l j))))
  (long: ∀j,x= .long->R (.panic (Ru 0 3)) (upd H r (some (srO l j)))):Ad P G f args H R:=h.mono λe H' hx=>by
 cases x with
 |ok v k=>obtain⟨rfl,rfl⟩:=hx;exact ok v k rfl
 |fail k=>obtain⟨rfl,j,rfl⟩:=hx;exact fail k j rfl
 |long=>obtain⟨rfl,j,rfl⟩:=hx;exact long j rfl
end
section
variable {G:Nat->DVal} {r:Nat} {l:List Tok}
theorem Cd6 (hG:GX G) (U:Bv l) (V:l.length<=8000000):SrF Tryz.prog G l r 91 [] (λk=>(Xn l k).mp λa=> .agg (Cf a)):=by
 intro B k hr hk;dsimp only;refine dci Tryz.func91 Tryz.call91 ?_;simp(disch:=omega)only[go_sem];intro q0 hq0;have n0:=Ac hq0 hr;have D:=n0.symm;simp(disch:=omega)only[go_sem];intro q2 ah;obtain⟨a1,a2,af⟩:=Aq.1 ah;have n2:=Ac af hr;have m2:=n2.symm;simp(maxSteps:=4000000) (disch:=omega)only[go_sem,a2];have z9:By 9 [DVal.str [],DVal.nilFunc]= [.str [],.nilFunc,.str [],.nilFunc,.str [],.nilFunc,.str [],.nilFunc,.str [],.nilFunc,.str [],.nilFunc,.str [],.nilFunc,.str [],.nilFunc,.str [],.nilFunc]:=rfl;simp(disch:=omega)only[go_sem,z9,jA,jB,jE,jJ];intro qs aa;obtain⟨b1,b2,aa⟩:=Aq.1 aa;obtain⟨b3,b4,aa⟩:=Aq.1 aa;have ns:=(Ac aa hr).symm;simp(disch:=omega)only[go_sem];obtain⟨I,E⟩: ∃I:Nat->(Nat->DVal)->Ab->Prop,∀i env heap,I i env heap↔(env 1= .optr q0 0/\env 2= .optr q2 0/\env 26= .oslice 2 qs 0 9 9/\env 27=dI 9/\env 28=dI i/\i<=9/\Xn l k=Gz8 l ((Go3 l).drop i) k/\heap q0=some (.cells [.optr r 0] 140)/\(∃Z:List DVal,Z.length=87/\heap q2=some (.cells Z 62))/\heap qs=some (.cells ([.str Bc,.func (.func 191) [.optr r 0] [],.str Ew,.func (.func 192) [.optr r 0] [],.str Lw,.func (.func 193) [.optr r 0] [],.str Cs,.func (.func 194) [.optr r 0] [],.str Aw1,.func (.func 195) [] [.optr q0 0],.str Mm,.func (.func 196) [] [.optr q0 0],.str Gb,.func (.func 197) [] [],.str Kp,.func (.func 198) [] [.optr q0 0],.str Gg,.func (.func 200) [] [.optr q0 0]]) 251)/\SRt r l k B heap):=⟨_,λ_ _ _=>Iff.rfl⟩;refine Ea9.run I (λi=>9-i) 0 ((E _ _ _).2 ⟨by simp [upd],by simp [upd],by simp [upd],by simp [upd],by simp [upd],by omega,Ew6 l k,Ae (Ae (Aa _ _ _) a2) b4,⟨_, ?_,Ae (Aa _ _ _) b2⟩,Aa _ _ _,(((SRt.refl hr).own hq0 D _).own af m2 _).own aa ns _⟩) ?_
 ·rfl
 ·intro i env heap hi;obtain⟨e1,e2,ai,ag,ac,ak,ad,y,⟨Z,W,J⟩,L,C⟩:=(E _ _ _).1 hi;have gr:=C.get;have aj:Z.drop 87= []:=List.drop_of_length_le (by omega);by_cases al:i<9
  ·rcases(by omega:i=0\/i=1\/i=2\/i=3\/i=4\/i=5\/i=6\/i=7\/i=8) with rfl|rfl|rfl|rfl|rfl|rfl|rfl|rfl|rfl;all_goals
    simp(disch:=omega)only[go_sem,ai,ag,ac,L,jA,jB,jE,jJ];intro q4 ab;have n40:=Ac ab y;have O:=Ac ab J;have X:=Ac ab L;have ae:=Ac ab gr;have S:=ae.symm;have Y:=C.lo ab;simp(disch:=omega)only[go_sem,e1,y,n40,jH];refine SrM (Ta hG _ _ (Ae gr ae) (by omega) (by omega)) (Ae gr ae) hk ?_ ?_
    ·intro hw am;have M:=ad.trans (if_pos hw);rw[M];simp(disch:=omega)only[go_sem,S,jH];first
     |refine Ct7 (Dx6 hG U V _ _ (Aa _ _ _) (by omega)) ?_ ?_ ?_
     |refine Ct7 (Ct5 hG U V _ _ (Aa _ _ _) (by omega)) ?_ ?_ ?_
     |refine Ct7 (Di4 hG U V _ _ (Aa _ _ _) (by omega)) ?_ ?_ ?_
     |refine Ct7 (Ct6 hG U V _ _ (Aa _ _ _) (by omega)) ?_ ?_ ?_
     |refine Ct7 ((Lc hG U V).2.2.2.2.2.2.2.2.2.2.2.1 _ _ _ (Ae (Ae y n40) D) D (Aa _ _ _) (by omega)) ?_ ?_ ?_
     |refine Ct7 ((Lc hG U V).2.2.2.2.2.2.2.2.2.2.2.2.1 _ _ _ (Ae (Ae y n40) D) D (Aa _ _ _) (by omega)) ?_ ?_ ?_
     |refine Ct7 ((Lc hG U V).2.2.2.2.2.2.2.2.2.2.2.2.2.1 _ _ _ (Ae (Ae y n40) D) D (Aa _ _ _) (by omega)) ?_ ?_ ?_
     |refine Ct7 ((Lc hG U V).2.2.2.2.2.2.2.2.2.2.2.2.2.2.1 _ _ _ (Ae (Ae y n40) D) D (Aa _ _ _) (by omega)) ?_ ?_ ?_
     |refine Ct7 ((Lc hG U V).2.2.2.2.2.2.2.2.2.2.2.2.2.2.2 _ _ _ (Ae (Ae y n40) D) D (Aa _ _ _) (by omega)) ?_ ?_ ?_
     all_goals intros
     repeat' first
      |simp(disch:=omega)only[go_sem,e2,J,O,m2,Fq,Gz9,aj,jH,Xq]
      |(show SRt _ _ _ _ _;first|with_reducible assumption|apply SRt.at|(apply SRt.refl;assumption)|apply SRt.set|(apply SRt.own<;>first|assumption|skip))
      |assumption
      |((with_reducible show Dj _ (.agg _) _);apply SRt.finZ (H0:=B) (r:=r) (l:=l))
      |((with_reducible show Tl _ _ _);apply SRt.finP (H0:=B) (r:=r) (l:=l))
      |((first|refine SrR.ofK ?_|refine SrR.ofF ?_|refine SrR.ofL ?_);simp [Re.mp, *];done)
      |(rename_i hx;cases hx;done)
      |(rename_i hx;cases hx;refine SrR.ofK ?_;simp [Re.mp];done)
      |fail
    ·intro hw;have M:=ad.trans (if_neg (by rw[hw];simp));simp(disch:=omega)only[go_sem,ac];first
     |refine⟨1,_,Rn.refl _,(E _ _ _).2 ⟨by simp [upd, *];done,by simp [upd, *];done,by simp [upd, *];done,by simp [upd, *];done,by simp [upd, *];done,by omega,M,Ae y n40,⟨Z,W,Ae J O⟩,Ae L X,C.own Y S _⟩,by omega⟩
     |refine⟨2,_,Rn.refl _,(E _ _ _).2 ⟨by simp [upd, *];done,by simp [upd, *];done,by simp [upd, *];done,by simp [upd, *];done,by simp [upd, *];done,by omega,M,Ae y n40,⟨Z,W,Ae J O⟩,Ae L X,C.own Y S _⟩,by omega⟩
     |refine⟨3,_,Rn.refl _,(E _ _ _).2 ⟨by simp [upd, *];done,by simp [upd, *];done,by simp [upd, *];done,by simp [upd, *];done,by simp [upd, *];done,by omega,M,Ae y n40,⟨Z,W,Ae J O⟩,Ae L X,C.own Y S _⟩,by omega⟩
     |refine⟨4,_,Rn.refl _,(E _ _ _).2 ⟨by simp [upd, *];done,by simp [upd, *];done,by simp [upd, *];done,by simp [upd, *];done,by simp [upd, *];done,by omega,M,Ae y n40,⟨Z,W,Ae J O⟩,Ae L X,C.own Y S _⟩,by omega⟩
     |refine⟨5,_,Rn.refl _,(E _ _ _).2 ⟨by simp [upd, *];done,by simp [upd, *];done,by simp [upd, *];done,by simp [upd, *];done,by simp [upd, *];done,by omega,M,Ae y n40,⟨Z,W,Ae J O⟩,Ae L X,C.own Y S _⟩,by omega⟩
     |refine⟨6,_,Rn.refl _,(E _ _ _).2 ⟨by simp [upd, *];done,by simp [upd, *];done,by simp [upd, *];done,by simp [upd, *];done,by simp [upd, *];done,by omega,M,Ae y n40,⟨Z,W,Ae J O⟩,Ae L X,C.own Y S _⟩,by omega⟩
     |refine⟨7,_,Rn.refl _,(E _ _ _).2 ⟨by simp [upd, *];done,by simp [upd, *];done,by simp [upd, *];done,by simp [upd, *];done,by simp [upd, *];done,by omega,M,Ae y n40,⟨Z,W,Ae J O⟩,Ae L X,C.own Y S _⟩,by omega⟩
     |refine⟨8,_,Rn.refl _,(E _ _ _).2 ⟨by simp [upd, *];done,by simp [upd, *];done,by simp [upd, *];done,by simp [upd, *];done,by simp [upd, *];done,by omega,M,Ae y n40,⟨Z,W,Ae J O⟩,Ae L X,C.own Y S _⟩,by omega⟩
     |refine⟨9,_,Rn.refl _,(E _ _ _).2 ⟨by simp [upd, *];done,by simp [upd, *];done,by simp [upd, *];done,by simp [upd, *];done,by simp [upd, *];done,by omega,M,Ae y n40,⟨Z,W,Ae J O⟩,Ae L X,C.own Y S _⟩,by omega⟩
  ·(obtain rfl:i=9:=by omega);simp(disch:=omega)only[go_sem,e1,ag,ac,y];refine(Zl G heap gr).mono ?_;rintro _ H1 ⟨rfl,rfl⟩;simp(disch:=omega)only[go_sem];rw[ad];exact SRt.finP C ⟨rfl,k,rfl⟩
end
section
variable {G:Nat->DVal} {r:Nat} {l:List Tok}
theorem Ft6 {P:Program} {G:Nat->DVal} {N:Nat} {Q:DExit->DS->Prop} {id:Nat} {y:Array Oper} {s:DS} (C:DExit->DS->Prop) (h:dwp P G N (.region id y true) C s) (k: ∀e s',C e s'->Q e s'):dwp P G N (.region id y true) Q s:=by
 simp only[dwp] at h⊢
 intro F n B D a w hS;exact wpIn_mono (h F n B D a w hS) λe a w ⟨e',s',q,r⟩=>⟨e',s',k _ _ q,r⟩
def Go4 (a b:Bool):Int:=if b then(if a then 3 else 2) else 1
def Gk3 (es:List (DVal×DVal)):Prop:= ∀a b:Bool,∃i p,Mz (.agg [.bool a,.bool b]) es 0=some (some i)/\es[i]? =some p/\p.2= .int .u8 (Go4 a b)
def Hj7 (B:Ab) (r:Nat) (l:List Tok) (k q2 q3:Nat) (li:Int) (ns:List (List UInt8)) (e:DExit) (s:DS):Prop:=
 e= .normal/\s.env 0= .optr r 0/\s.env 2= .optr q2 0/\s.env 3= .optr q3 0/\ ∃m es,Gk3 es/\s.env 4= .omap m/\ ∃K:Ab,K m=none/\SRt r l k B K/\(∃Z:List DVal,Z.length=21/\K q2=some (.cells Z 136))/\
  K q3=some (.cells [.vslice (ns.map .str) ns.length,.int .u8 0,.int .u8 0,.int .u8 0,.int .i64 0,.str [],.nilSlice,.nilSlice,.int .i64 0,.int .i64 0,.int .i64 0,.int .u8 0,.int .u8 0,.int .i64 0,.str [],.nilSlice,.nilSlice,.int .i64 0,.int .i64 0,.int .i64 0,dI li] 136)/\s.heap=upd K m (some (.map es))
theorem Di5 (hG:GX G) (L:Bv l) (M:l.length<=8000000):SrF Tryz.prog G l r 120 [] (λk=>(Bk9 l k).mp λa=> .agg (Gw a)):=by
 have hl:l.length<=12800000:=by omega
 intro B k hr hk;dsimp only;refine dci Tryz.func120 Tryz.call120 ?_;simp(disch:=omega)only[go_sem];intro q2 C;dsimp only at C;have O:=Ac C hr;have D:=O.symm;simp(disch:=omega)only[go_sem]
 (with_reducible refine Ad.monoR (Ma G _ (by first|assumption|exact Aa _ _ _|exact Ae (Aa _ _ _) (by assumption)|exact Ae (Ae (Aa _ _ _) (by assumption)) (by assumption)|exact Ae (Ae (Ae (Aa _ _ _) (by assumption)) (by assumption)) (by assumption)|exact Ae (Ae (Ae (Ae (Aa _ _ _) (by assumption)) (by assumption)) (by assumption)) (by assumption)|exact Ae (by assumption) (by assumption)|exact Ae (Ae (by assumption) (by assumption)) (by assumption)|exact Ae (Ae (Ae (by assumption) (by assumption)) (by assumption)) (by assumption)|exact Ae (Ae (Ae (Ae (by assumption) (by assumption)) (by assumption)) (by assumption)) (by assumption)) (by omega) (by omega)) ?_)
 simp(disch:=omega)only[go_sem,Cu];refine ReC (Ax7 hG hl _ _ (Ae hr O) hk) (Kq.names hk) ?_ ?_ ?_
 ·intro X k1 Y ah S;simp(disch:=omega)only[go_sem,dW];intro q3 y;dsimp only at y;obtain⟨I,m3,y⟩:=Aq.1 y;obtain⟨ai,aa,y⟩:=Aq.1 y;simp(disch:=omega)only[go_sem];intro q4 U;dsimp only at U;simp(disch:=omega)only[go_sem];refine SrU (Ft4 hG hl _ (by rfl) U (Ae (Aa _ _ _) m3) S (by simp)) S ?_;simp(disch:=omega)only[go_sem,Cj5,Zq];refine⟨λhw aj=> ?_,λhw j=> ?_⟩
  ·(try simp(disch:=omega)only[go_sem])
   refine Ft6 (Hj7 B r l (k1+1) q2 q3 (tk l k).line X) ?_ ?_
   ·refine An (.take 1 (.take 3 (.take 5 (.take 7 (.go 0 [] (.alt (.go 4 [] (.alt (.go 6 [] (.alt (.go 8 [] (.go 2 [] (.take 9 (.take 10 .done)))) (.go 2 [] (.go 8 [] (.take 9 (.take 10 .done)))))) (.alt (.go 8 [] (.alt (.go 6 [] (.go 2 [] (.take 9 (.take 10 .done)))) (.go 2 [] (.go 6 [] (.take 9 (.take 10 .done)))))) (.go 2 [] (.alt (.go 8 [] (.go 6 [] (.take 9 (.take 10 .done)))) (.go 6 [] (.go 8 [] (.take 9 (.take 10 .done))))))))) (.alt (.go 6 [] (.alt (.go 4 [] (.alt (.go 8 [] (.go 2 [] (.take 9 (.take 10 .done)))) (.go 2 [] (.go 8 [] (.take 9 (.take 10 .done)))))) (.alt (.go 8 [] (.alt (.go 4 [] (.go 2 [] (.take 9 (.take 10 .done)))) (.go 2 [] (.go 4 [] (.take 9 (.take 10 .done)))))) (.go 2 [] (.alt (.go 8 [] (.go 4 [] (.take 9 (.take 10 .done)))) (.go 4 [] (.go 8 [] (.take 9 (.take 10 .done))))))))) (.alt (.go 8 [] (.alt (.go 4 [] (.alt (.go 6 [] (.go 2 [] (.take 9 (.take 10 .done)))) (.go 2 [] (.go 6 [] (.take 9 (.take 10 .done)))))) (.alt (.go 6 [] (.alt (.go 4 [] (.go 2 [] (.take 9 (.take 10 .done)))) (.go 2 [] (.go 4 [] (.take 9 (.take 10 .done)))))) (.go 2 [] (.alt (.go 6 [] (.go 4 [] (.take 9 (.take 10 .done)))) (.go 4 [] (.go 6 [] (.take 9 (.take 10 .done))))))))) (.go 2 [] (.alt (.go 6 [] (.alt (.go 8 [] (.go 4 [] (.take 9 (.take 10 .done)))) (.go 4 [] (.go 8 [] (.take 9 (.take 10 .done)))))) (.alt (.go 8 [] (.alt (.go 6 [] (.go 4 [] (.take 9 (.take 10 .done)))) (.go 4 [] (.go 6 [] (.take 9 (.take 10 .done)))))) (.go 4 [] (.alt (.go 8 [] (.go 6 [] (.take 9 (.take 10 .done)))) (.go 6 [] (.go 8 [] (.take 9 (.take 10 .done))))))))))))))))) ?_;simp(disch:=omega)only[go_sem];intro m hm;dsimp only at hm;have E:=λo1 o2=>((((SRt.refl hr).own C D o1).set k1).own y I o2).set (k1+1)
    repeat' first
     |with_reducible refine And.intro ?_ ?_
     |exact⟨rfl,by simp [upd],by simp [upd],by simp [upd],m,_,(λa b=>by cases a<;>cases b<;>exact⟨_,_,rfl,rfl,rfl⟩),by simp [upd],_,hm,E _ _,⟨_,rfl,Ae (Ae (Ae (Aa _ _ _) D) aa) D⟩,Ae (Aa _ _ _) I,rfl⟩
     |simp(disch:=omega)only[go_sem,Ab0,Mz,Ac1,Ea7,jT,jS]
     |fail
   ·rintro _ ⟨env,K0⟩ ⟨rfl,V,x2,x3,m,es,ho,x4,K,hm,E,⟨Z,hZ,g2⟩,g3,W⟩;dsimp only at V x2 x3 x4 W;subst W;have gr:=E.get;have ab:=Ac hm g2;have ac:=Ac hm g3;have ad:=Ac hm gr;have ak:=ab.symm;have al:=ac.symm;have am:=ad.symm;have ao:=E.lo hm;have ap:Z.drop 21= []:=List.drop_of_length_le (by omega);obtain⟨i1,p1,aq,ar,au⟩:=ho true true;obtain⟨i2,p2,av,aw,ax⟩:=ho true false;obtain⟨i3,p3,ay,a0,a1⟩:=ho false true;obtain⟨i4,p4,a2,a3,a4⟩:=ho false false;simp(disch:=omega)only[go_sem,V]
    repeat' first
     |(with_reducible refine SrM (Ta hG _ _ (by first|assumption|exact Aa _ _ _|exact Ae (Aa _ _ _) (by assumption)|exact Ae (Ae (Aa _ _ _) (by assumption)) (by assumption)|exact Ae (Ae (Ae (Aa _ _ _) (by assumption)) (by assumption)) (by assumption)|exact Ae (Ae (Ae (Ae (Aa _ _ _) (by assumption)) (by assumption)) (by assumption)) (by assumption)|exact Ae (by assumption) (by assumption)|exact Ae (Ae (by assumption) (by assumption)) (by assumption)|exact Ae (Ae (Ae (by assumption) (by assumption)) (by assumption)) (by assumption)|exact Ae (Ae (Ae (Ae (by assumption) (by assumption)) (by assumption)) (by assumption)) (by assumption)) (by omega) (by omega)) (by first|assumption|exact Aa _ _ _|exact Ae (Aa _ _ _) (by assumption)|exact Ae (Ae (Aa _ _ _) (by assumption)) (by assumption)|exact Ae (Ae (Ae (Aa _ _ _) (by assumption)) (by assumption)) (by assumption)|exact Ae (Ae (Ae (Ae (Aa _ _ _) (by assumption)) (by assumption)) (by assumption)) (by assumption)|exact Ae (by assumption) (by assumption)|exact Ae (Ae (by assumption) (by assumption)) (by assumption)|exact Ae (Ae (Ae (by assumption) (by assumption)) (by assumption)) (by assumption)|exact Ae (Ae (Ae (Ae (by assumption) (by assumption)) (by assumption)) (by assumption)) (by assumption)) (by omega) ?_ ?_<;>intros)
     |(with_reducible refine ReC (Bz4 hG L M _ _ (by first|assumption|exact Aa _ _ _|exact Ae (Aa _ _ _) (by assumption)|exact Ae (Ae (Aa _ _ _) (by assumption)) (by assumption)|exact Ae (Ae (Ae (Aa _ _ _) (by assumption)) (by assumption)) (by assumption)|exact Ae (Ae (Ae (Ae (Aa _ _ _) (by assumption)) (by assumption)) (by assumption)) (by assumption)|exact Ae (by assumption) (by assumption)|exact Ae (Ae (by assumption) (by assumption)) (by assumption)|exact Ae (Ae (Ae (by assumption) (by assumption)) (by assumption)) (by assumption)|exact Ae (Ae (Ae (Ae (by assumption) (by assumption)) (by assumption)) (by assumption)) (by assumption)) (by omega)) (Kq.mark (by omega)) ?_ ?_ ?_<;>intros)
     |(with_reducible refine ReC (Di1 hG L M _ _ (by first|assumption|exact Aa _ _ _|exact Ae (Aa _ _ _) (by assumption)|exact Ae (Ae (Aa _ _ _) (by assumption)) (by assumption)|exact Ae (Ae (Ae (Aa _ _ _) (by assumption)) (by assumption)) (by assumption)|exact Ae (Ae (Ae (Ae (Aa _ _ _) (by assumption)) (by assumption)) (by assumption)) (by assumption)|exact Ae (by assumption) (by assumption)|exact Ae (Ae (by assumption) (by assumption)) (by assumption)|exact Ae (Ae (Ae (by assumption) (by assumption)) (by assumption)) (by assumption)|exact Ae (Ae (Ae (Ae (by assumption) (by assumption)) (by assumption)) (by assumption)) (by assumption)) (by omega)) (Kq.given (by omega)) ?_ ?_ ?_<;>intros)
     |with_reducible refine And.intro ?_ ?_
     |((with_reducible show Dd _ _ _ _ _);intro q hq;dsimp only at hq;have ae:=hq;have hz:=(show Ag2 B _ from(by repeat (first|exact Ag2.refl _|refine Ag2.upd ?_ _ _))) _ hq;have J:=Ac hz hr;have af:=J.symm;(try have nb:=Ac hz hq0);(try have a5:=(Ac hz hq0).symm);(try simp only[Aq] at hq);(repeat (have ag:=hq.1;have hq:=hq.2)))
     |((with_reducible refine λ(q:Nat) (hq:_=none)=> ?_);have ae:=hq;(try simp only[Be4] at hq);(repeat (have ag:=hq.1;have hq:=hq.2));have hz:=hq;have J:=Ac hz hr;have af:=J.symm)
     |simp(disch:=omega)only[go_sem, *,dE,Di,List.take_append,List.drop_append,Zr,Aj7,jC,Af,Cd,List.all_append,List.all_cons,List.all_nil,jO,jH,jG,jA,jB,jE,jM,jJ,jR,jL,List.take_nil,jI,Go4,exists_eq_left',Option.some.injEq]
     |(with_reducible refine Iu ?_ ?_<;>intro hb<;>try simp only[decide_eq_true_eq,decide_eq_false_iff_not,Bool.not_eq_true',Bool.not_eq_false'] at hb)
     |(with_reducible refine Kd ?_ ?_<;>intro hb<;>try simp only[decide_eq_true_eq,decide_eq_false_iff_not,Bool.not_eq_true',Bool.not_eq_false'] at hb)
     |(show SRt _ _ _ _ _;first|with_reducible assumption|apply SRt.at|(apply SRt.refl;assumption)|apply SRt.set|(apply SRt.own<;>first|assumption|skip))
     |((with_reducible show Dj _ .nilSlice _);refine Dj.le DLe.nil ?_)
     |((with_reducible show Dj _ (.agg _) _);apply SRt.finZ (H0:=B) (r:=r) (l:=l))
     |((with_reducible show Dj _ _ _);apply SRt.fin (H0:=B) (r:=r) (l:=l))
     |((with_reducible show Tl _ _ _);apply SRt.finP (H0:=B) (r:=r) (l:=l))
     |(intro _)
     |((first|refine SrR.ofK ?_|refine SrR.ofF ?_|refine SrR.ofL ?_);simp [Re.mp,Re.then,Eh,nz,Ul,Rq,wIn,Aw0,Bk9,Al7,Gw,dW, *];done)
     |fail
  ·(try simp(disch:=omega)only[go_sem])
   exact SRt.finP (((((SRt.refl hr).own C D _).set k1).own y I _).set j) (by rw[Bk9,Y];refine SrR.ofF ?_;simp [Re.then,Eh,Re.mp,Rq,hw])
 ·intro i j h;simp(disch:=omega)only[go_sem];exact SRt.finP (((SRt.refl hr).own C D _).set j) (by rw[Bk9,h];exact⟨rfl,j,rfl⟩)
 ·intro j h;simp(disch:=omega)only[go_sem];exact SRt.finP (((SRt.refl hr).own C D _).set j) (by rw[Bk9,h];exact⟨rfl,j,rfl⟩)
end
section
variable {G:Nat->DVal} {r:Nat} {l:List Tok}
theorem Dx7 (hG:GX G) (J:Bv l) (L:l.length<=8000000):SrF Tryz.prog G l r 118 [] (λk=>(Bx6 l k).mp Gh):=by
 have hl:l.length<=12800000:=by omega
 intro B k hr hk;dsimp only;refine dci Tryz.func118 Tryz.call118 ?_;simp(disch:=omega)only[go_sem];refine(Wh G B [59]).mono ?_;rintro _ K ⟨C,q2,M,O,rfl,rfl⟩;obtain⟨X,S,U⟩:=Aq.1 O;have E:=Ac M hr;have I:=Ac U hr;have V:=E.symm;have W:=I.symm;simp(disch:=omega)only[go_sem];refine ReC (r:=r) (l:=l) (x:=Bx6 l k) (D:=Gh) (a:=k+1) ?_ (Kq.pars hk) ?_ ?_ ?_
 ·exact(Fr9 hl).2.1 _ 120 220 [.optr r 0] [] [] [.optr C 0,.optr q2 0] (Bk9 l) (byW l Hd)
   (λH k y hk=>Di5 hG J L H k y.get hk) (λH k y hk=>Um hG hl _ Hd C q2 k V W (Ae (Aa _ _ _) S) (Aa _ _ _) H y hk) (λ_ h=>Kq.par h) Sn k (Ae (Ae hr E) I) hk
 all_goals intros
 repeat' first
  |simp(disch:=omega)only[go_sem]
  |assumption
  |(show SRt _ _ _ _ _;first|with_reducible assumption|apply SRt.at|(apply SRt.refl;assumption)|apply SRt.set|(apply SRt.own<;>first|assumption|skip))
  |((with_reducible show Dj _ _ _);apply SRt.fin (H0:=B) (r:=r) (l:=l))
  |((with_reducible show Tl _ _ _);apply SRt.finP (H0:=B) (r:=r) (l:=l))
  |((first|refine SrR.ofK ?_|refine SrR.ofF ?_|refine SrR.ofL ?_);simp [Re.mp, *];done)
  |fail
theorem Dx8 (hG:GX G) (J:Bv l) (L:l.length<=8000000):SrF Tryz.prog G l r 141 [] (λk=>(Ci8 l k).mp Ib):=by
 have hl:l.length<=12800000:=by omega
 intro B k hr hk;dsimp only;refine dci Tryz.func141 Tryz.call141 ?_;simp(disch:=omega)only[go_sem];refine(Wh G B [44]).mono ?_;rintro _ K ⟨C,q2,M,O,rfl,rfl⟩;obtain⟨X,S,U⟩:=Aq.1 O;have E:=Ac M hr;have I:=Ac U hr;have V:=E.symm;have W:=I.symm;simp(disch:=omega)only[go_sem];refine ReC (r:=r) (l:=l) (x:=Ci8 l k) (D:=Ib) (a:=k+1) ?_ (Kq.asps hk) ?_ ?_ ?_
 ·exact(Fr9 hl).2.2.1 _ 143 220 [.optr r 0] [] [] [.optr C 0,.optr q2 0] (Bx7 l) (byW l Dm)
   (λH k y hk=>Ct4 hG J L H k y.get hk) (λH k y hk=>Um hG hl _ Dm C q2 k V W (Ae (Aa _ _ _) S) (Aa _ _ _) H y hk) (λ_ h=>Kq.asp h) Sn k (Ae (Ae hr E) I) hk
 all_goals intros
 repeat' first
  |simp(disch:=omega)only[go_sem]
  |assumption
  |(show SRt _ _ _ _ _;first|with_reducible assumption|apply SRt.at|(apply SRt.refl;assumption)|apply SRt.set|(apply SRt.own<;>first|assumption|skip))
  |((with_reducible show Dj _ _ _);apply SRt.fin (H0:=B) (r:=r) (l:=l))
  |((with_reducible show Tl _ _ _);apply SRt.finP (H0:=B) (r:=r) (l:=l))
  |((first|refine SrR.ofK ?_|refine SrR.ofF ?_|refine SrR.ofL ?_);simp [Re.mp, *];done)
  |fail
end
section
variable {G:Nat->DVal} {l:List Tok}
def nz2:DVal->DVal
 | .agg cs=> .agg (cs.map nz)
 |v=>nz v
theorem Ha0 (v:DVal):DLe v (nz2 v):=by
 cases v<;>first|exact Go0 _|exact λw H x hx=>(by
  simp only[nz2,Rel] at hx⊢
  obtain⟨xs,rfl,hx⟩:=hx;exact⟨xs,rfl,Cr6 w H _ _ hx⟩)
theorem Ct8 (w:World) (H:Ab): ∀(cs:List DVal) (xs:List Value),Ar w H cs xs->Ar w H (cs.map nz2) xs
 | [],_,h=>h
 |c::cs,xs,h=>by
  simp only[jN,Ar] at h⊢
  obtain⟨y,ys,rfl,h1,h2⟩:=h;exact⟨y,ys,rfl,Ha0 c w H y h1,Ct8 w H cs ys h2⟩
theorem Dj.nzT {R:DEnd->Ab->Prop} {cs:List DVal} {H H':Ab} (h:Sub H H') (y:R (.ret (.tuple (cs.map nz2))) H):Dj R (.tuple cs) H':=
 Dj.sub h (Dj.le (λw H x hx=>by
  simp only[Rel] at hx⊢
  obtain⟨xs,rfl,hx⟩:=hx;exact⟨xs,rfl,Ct8 w H _ _ hx⟩) (.refl y))
def Gf {α:Type} (D:α->DVal) (x:α×Int×Int):DVal:= .tuple [D x.1,dI x.2.1,dI x.2.2]
theorem Ew7 (H:Ab) (hl:l.length<=12800000) (g gf:FuncId) (aa:Re (List Par)) (fine:List Par->Bool) (hf: ∀r H,H r=some (srO l 0)->Ad Tryz.prog G g [.optr r 0] H (SrR r l H (aa.mp Gh))) (ah: ∀x k,aa= .ok x k-> ∀H,Ad Tryz.prog G gf [Gh x] H (Am (.bool (fine x)) H)):
  Ad Tryz.prog G 117 [Be l,.func (.func g) [] [],.func (.func gf) [] []] H (Am (Gf Gh (Ii aa fine [])) H):=by
 refine Jx Tryz.func117 Tryz.func215 Tryz.call117 Tryz.call215 rfl rfl (by kernel_rfl) (by kernel_rfl) rfl ?_;simp(disch:=omega)only[go_sem];intro X Y;simp(disch:=omega)only[go_sem];intro S U;have Z:X≠S:=Ac U (Aa _ _ _);have aj:=Z.symm;have ai:(Be l).cells= [Be l]:=rfl;simp(disch:=omega)only[go_sem,ai,jA,jB,jE,jJ,jI,jG];intro r7 C;dsimp only at C;have J:X≠r7:=Ac C (Aj (Aa _ _ _) Z);have L:S≠r7:=Ac C (Aa _ _ _);have ak:H S=none:=((Sub.refl H).new Y _).lo U;have ac:H r7=none:=(((Sub.refl H).new Y _).new U _).lo C;have al:=J.symm;have am:=L.symm;simp(disch:=omega)only[go_sem];refine(hf r7 _ (Aa _ _ _)).mono ?_;intro e D hq;cases hres:aa with
 |ok x k=>
  rw[hres] at hq;obtain⟨rfl,y⟩:=hq;have V:D X=some (.cells [dI 0] 3):=by rw[y,Ah _ _ _ _ J,Ah _ _ _ _ J,Ah _ _ _ _ Z];exact Aa _ _ _
  have W:D S=some (.cells [dI 0] 36):=by rw[y,Ah _ _ _ _ L,Ah _ _ _ _ L];exact Aa _ _ _
  have I:D r7=some (.cells [Be l,dI k] 246):=by rw[y];exact Aa _ _ _
  have E:Sub H D:=by rw[y];exact(((((Sub.refl H).new Y _).new U _).new C _).up ac _)
  have ab:=ah x k hres D;cases hfi:fine x with
  |true=>
   rw[hfi] at ab;rw[Ii,hfi,if_pos rfl];clear y C hres
   repeat' first
    |with_reducible refine And.intro ?_ ?_
    |(with_reducible refine Ad.monoR ab ?_)
    |((with_reducible show Dd _ _ _ _ _);intro q hq;dsimp only at hq;have hz:=(show Sub H _ from(by repeat (first|exact E|refine Sub.up ?_ (by assumption) _))).lo hq;(try simp only[Aq] at hq);(repeat (have ad:=hq.1;have hq:=hq.2));have M:=Ac hq V;have O:=Ac hq W;have ae:=M.symm;have af:=O.symm;(try have q7:=Ac hq I);(try have ag:=(Ac hq I).symm))
    |simp(disch:=omega)only[go_sem, *]
    |refine An pL4 ?_
    |((with_reducible show Dj _ _ _);refine Dj.nzT (H:=H) (by repeat (first|exact E|refine Sub.up ?_ (by assumption) _)) ⟨?_,rfl⟩;simp [Gf,nz2,nz,Gh];done)
    |fail
  |false=>
   rw[hfi] at ab;rw[Ii,hfi,if_neg (by simp)];clear y C hres
   repeat' first
    |with_reducible refine And.intro ?_ ?_
    |(with_reducible refine Ad.monoR ab ?_)
    |((with_reducible show Dd _ _ _ _ _);intro q hq;dsimp only at hq;have hz:=(show Sub H _ from(by repeat (first|exact E|refine Sub.up ?_ (by assumption) _))).lo hq;(try simp only[Aq] at hq);(repeat (have ad:=hq.1;have hq:=hq.2));have M:=Ac hq V;have O:=Ac hq W;have ae:=M.symm;have af:=O.symm;(try have q7:=Ac hq I);(try have ag:=(Ac hq I).symm))
    |simp(disch:=omega)only[go_sem, *]
    |refine An pL4 ?_
    |((with_reducible show Dj _ _ _);refine Dj.nzT (H:=H) (by repeat (first|exact E|refine Sub.up ?_ (by assumption) _)) ⟨?_,rfl⟩;simp [Gf,nz2,nz,Gh];done)
    |fail
 |fail k=>
  rw[hres] at hq;obtain⟨rfl,j,y⟩:=hq;have V:D X=some (.cells [dI 0] 3):=by rw[y,Ah _ _ _ _ J,Ah _ _ _ _ J,Ah _ _ _ _ Z];exact Aa _ _ _
  have W:D S=some (.cells [dI 0] 36):=by rw[y,Ah _ _ _ _ L,Ah _ _ _ _ L];exact Aa _ _ _
  have E:Sub H D:=by rw[y];exact(((((Sub.refl H).new Y _).new U _).new C _).up ac _)
  rw[Ii];clear y C hres
  repeat' first
   |with_reducible refine And.intro ?_ ?_
    |((with_reducible show Dd _ _ _ _ _);intro q hq;dsimp only at hq;have hz:=(show Sub H _ from(by repeat (first|exact E|refine Sub.up ?_ (by assumption) _))).lo hq;(try simp only[Aq] at hq);(repeat (have ad:=hq.1;have hq:=hq.2));have M:=Ac hq V;have O:=Ac hq W;have ae:=M.symm;have af:=O.symm;(try have q7:=Ac hq I);(try have ag:=(Ac hq I).symm))
   |simp(disch:=omega)only[go_sem, *,Ru]
   |refine An pL1 ?_
   |((with_reducible show Dj _ _ _);refine Dj.nzT (H:=H) (by repeat (first|exact E|refine Sub.up ?_ (by assumption) _)) ⟨?_,rfl⟩;simp [Gf,nz2,nz,Gh];done)
   |fail
 |long=>
  rw[hres] at hq;obtain⟨rfl,j,y⟩:=hq;have V:D X=some (.cells [dI 0] 3):=by rw[y,Ah _ _ _ _ J,Ah _ _ _ _ J,Ah _ _ _ _ Z];exact Aa _ _ _
  have W:D S=some (.cells [dI 0] 36):=by rw[y,Ah _ _ _ _ L,Ah _ _ _ _ L];exact Aa _ _ _
  have E:=y.symm▸(((((Sub.refl H).new Y _).new U _).new C _).up ac _);rw[Ii];clear y C hres
  repeat' first
   |with_reducible refine And.intro ?_ ?_
   |((with_reducible show Dd _ _ _ _ _);intro q hq;dsimp only at hq;have hz:=(show Sub H _ from(by repeat (first|exact E|refine Sub.up ?_ (by assumption) _))).lo hq;(try simp only[Aq] at hq);(repeat (have ad:=hq.1;have hq:=hq.2));have M:=Ac hq V;have O:=Ac hq W;have ae:=M.symm;have af:=O.symm;(try have q7:=Ac hq I);(try have ag:=(Ac hq I).symm))
   |simp(disch:=omega)only[go_sem, *,Ru]
   |refine An pL1 ?_
   |((with_reducible show Dj _ _ _);refine Dj.nzT (H:=H) (by repeat (first|exact E|refine Sub.up ?_ (by assumption) _)) ⟨?_,rfl⟩;simp [Gf,nz2,nz,Gh];done)
   |fail
theorem Ew8 (H:Ab) (hl:l.length<=12800000) (g gf:FuncId) (aa:Re (List Asp)) (fine:List Asp->Bool) (hf: ∀r H,H r=some (srO l 0)->Ad Tryz.prog G g [.optr r 0] H (SrR r l H (aa.mp Ib))) (ah: ∀x k,aa= .ok x k-> ∀H,Ad Tryz.prog G gf [Ib x] H (Am (.bool (fine x)) H)):
  Ad Tryz.prog G 140 [Be l,.func (.func g) [] [],.func (.func gf) [] []] H (Am (Gf Ib (Ii aa fine [])) H):=by
 refine Jx Tryz.func140 Tryz.func229 Tryz.call140 Tryz.call229 rfl rfl (by kernel_rfl) (by kernel_rfl) rfl ?_;simp(disch:=omega)only[go_sem];intro X Y;simp(disch:=omega)only[go_sem];intro S U;have Z:X≠S:=Ac U (Aa _ _ _);have aj:=Z.symm;have ai:(Be l).cells= [Be l]:=rfl;simp(disch:=omega)only[go_sem,ai,jA,jB,jE,jJ,jI,jG];intro r7 C;dsimp only at C;have J:X≠r7:=Ac C (Aj (Aa _ _ _) Z);have L:S≠r7:=Ac C (Aa _ _ _);have ak:H S=none:=((Sub.refl H).new Y _).lo U;have ac:H r7=none:=(((Sub.refl H).new Y _).new U _).lo C;have al:=J.symm;have am:=L.symm;simp(disch:=omega)only[go_sem];refine(hf r7 _ (Aa _ _ _)).mono ?_;intro e D hq;cases hres:aa with
 |ok x k=>
  rw[hres] at hq;obtain⟨rfl,y⟩:=hq;have V:D X=some (.cells [dI 0] 3):=by rw[y,Ah _ _ _ _ J,Ah _ _ _ _ J,Ah _ _ _ _ Z];exact Aa _ _ _
  have W:D S=some (.cells [dI 0] 36):=by rw[y,Ah _ _ _ _ L,Ah _ _ _ _ L];exact Aa _ _ _
  have I:D r7=some (.cells [Be l,dI k] 246):=by rw[y];exact Aa _ _ _
  have E:Sub H D:=by rw[y];exact(((((Sub.refl H).new Y _).new U _).new C _).up ac _)
  have ab:=ah x k hres D;cases hfi:fine x with
  |true=>
   rw[hfi] at ab;rw[Ii,hfi,if_pos rfl];clear y C hres
   repeat' first
    |with_reducible refine And.intro ?_ ?_
    |(with_reducible refine Ad.monoR ab ?_)
    |((with_reducible show Dd _ _ _ _ _);intro q hq;dsimp only at hq;have hz:=(show Sub H _ from(by repeat (first|exact E|refine Sub.up ?_ (by assumption) _))).lo hq;(try simp only[Aq] at hq);(repeat (have ad:=hq.1;have hq:=hq.2));have M:=Ac hq V;have O:=Ac hq W;have ae:=M.symm;have af:=O.symm;(try have q7:=Ac hq I);(try have ag:=(Ac hq I).symm))
    |simp(disch:=omega)only[go_sem, *]
    |refine An pL4 ?_
    |((with_reducible show Dj _ _ _);refine Dj.nzT (H:=H) (by repeat (first|exact E|refine Sub.up ?_ (by assumption) _)) ⟨?_,rfl⟩;simp [Gf,nz2,nz,Ib];done)
    |fail
  |false=>
   rw[hfi] at ab;rw[Ii,hfi,if_neg (by simp)];clear y C hres
   repeat' first
    |with_reducible refine And.intro ?_ ?_
    |(with_reducible refine Ad.monoR ab ?_)
    |((with_reducible show Dd _ _ _ _ _);intro q hq;dsimp only at hq;have hz:=(show Sub H _ from(by repeat (first|exact E|refine Sub.up ?_ (by assumption) _))).lo hq;(try simp only[Aq] at hq);(repeat (have ad:=hq.1;have hq:=hq.2));have M:=Ac hq V;have O:=Ac hq W;have ae:=M.symm;have af:=O.symm;(try have q7:=Ac hq I);(try have ag:=(Ac hq I).symm))
    |simp(disch:=omega)only[go_sem, *]
    |refine An pL4 ?_
    |((with_reducible show Dj _ _ _);refine Dj.nzT (H:=H) (by repeat (first|exact E|refine Sub.up ?_ (by assumption) _)) ⟨?_,rfl⟩;simp [Gf,nz2,nz,Ib];done)
    |fail
 |fail k=>
  rw[hres] at hq;obtain⟨rfl,j,y⟩:=hq;have V:D X=some (.cells [dI 0] 3):=by rw[y,Ah _ _ _ _ J,Ah _ _ _ _ J,Ah _ _ _ _ Z];exact Aa _ _ _
  have W:D S=some (.cells [dI 0] 36):=by rw[y,Ah _ _ _ _ L,Ah _ _ _ _ L];exact Aa _ _ _
  have E:Sub H D:=by rw[y];exact(((((Sub.refl H).new Y _).new U _).new C _).up ac _)
  rw[Ii];clear y C hres
  repeat' first
   |with_reducible refine And.intro ?_ ?_
    |((with_reducible show Dd _ _ _ _ _);intro q hq;dsimp only at hq;have hz:=(show Sub H _ from(by repeat (first|exact E|refine Sub.up ?_ (by assumption) _))).lo hq;(try simp only[Aq] at hq);(repeat (have ad:=hq.1;have hq:=hq.2));have M:=Ac hq V;have O:=Ac hq W;have ae:=M.symm;have af:=O.symm;(try have q7:=Ac hq I);(try have ag:=(Ac hq I).symm))
   |simp(disch:=omega)only[go_sem, *,Ru]
   |refine An pL1 ?_
   |((with_reducible show Dj _ _ _);refine Dj.nzT (H:=H) (by repeat (first|exact E|refine Sub.up ?_ (by assumption) _)) ⟨?_,rfl⟩;simp [Gf,nz2,nz,Ib];done)
   |fail
 |long=>
  rw[hres] at hq;obtain⟨rfl,j,y⟩:=hq;have V:D X=some (.cells [dI 0] 3):=by rw[y,Ah _ _ _ _ J,Ah _ _ _ _ J,Ah _ _ _ _ Z];exact Aa _ _ _
  have W:D S=some (.cells [dI 0] 36):=by rw[y,Ah _ _ _ _ L,Ah _ _ _ _ L];exact Aa _ _ _
  have E:=y.symm▸(((((Sub.refl H).new Y _).new U _).new C _).up ac _);rw[Ii];clear y C hres
  repeat' first
   |with_reducible refine And.intro ?_ ?_
   |((with_reducible show Dd _ _ _ _ _);intro q hq;dsimp only at hq;have hz:=(show Sub H _ from(by repeat (first|exact E|refine Sub.up ?_ (by assumption) _))).lo hq;(try simp only[Aq] at hq);(repeat (have ad:=hq.1;have hq:=hq.2));have M:=Ac hq V;have O:=Ac hq W;have ae:=M.symm;have af:=O.symm;(try have q7:=Ac hq I);(try have ag:=(Ac hq I).symm))
   |simp(disch:=omega)only[go_sem, *,Ru]
   |refine An pL1 ?_
   |((with_reducible show Dj _ _ _);refine Dj.nzT (H:=H) (by repeat (first|exact E|refine Sub.up ?_ (by assumption) _)) ⟨?_,rfl⟩;simp [Gf,nz2,nz,Ib];done)
   |fail
theorem Ew9 (H:Ab) (hl:l.length<=12800000) (g gf:FuncId) (aa:Re (List Cmp)) (fine:List Cmp->Bool) (hf: ∀r H,H r=some (srO l 0)->Ad Tryz.prog G g [.optr r 0] H (SrR r l H (aa.mp Ci))) (ah: ∀x k,aa= .ok x k-> ∀H,Ad Tryz.prog G gf [Ci x] H (Am (.bool (fine x)) H)):
  Ad Tryz.prog G 149 [Be l,.func (.func g) [] [],.func (.func gf) [] []] H (Am (Gf Ci (Ii aa fine [])) H):=by
 refine Jx Tryz.func149 Tryz.func234 Tryz.call149 Tryz.call234 rfl rfl (by kernel_rfl) (by kernel_rfl) rfl ?_;simp(disch:=omega)only[go_sem];intro X Y;simp(disch:=omega)only[go_sem];intro S U;have Z:X≠S:=Ac U (Aa _ _ _);have aj:=Z.symm;have ai:(Be l).cells= [Be l]:=rfl;simp(disch:=omega)only[go_sem,ai,jA,jB,jE,jJ,jI,jG];intro r7 C;dsimp only at C;have J:X≠r7:=Ac C (Aj (Aa _ _ _) Z);have L:S≠r7:=Ac C (Aa _ _ _);have ak:H S=none:=((Sub.refl H).new Y _).lo U;have ac:H r7=none:=(((Sub.refl H).new Y _).new U _).lo C;have al:=J.symm;have am:=L.symm;simp(disch:=omega)only[go_sem];refine(hf r7 _ (Aa _ _ _)).mono ?_;intro e D hq;cases hres:aa with
 |ok x k=>
  rw[hres] at hq;obtain⟨rfl,y⟩:=hq;have V:D X=some (.cells [dI 0] 3):=by rw[y,Ah _ _ _ _ J,Ah _ _ _ _ J,Ah _ _ _ _ Z];exact Aa _ _ _
  have W:D S=some (.cells [dI 0] 36):=by rw[y,Ah _ _ _ _ L,Ah _ _ _ _ L];exact Aa _ _ _
  have I:D r7=some (.cells [Be l,dI k] 246):=by rw[y];exact Aa _ _ _
  have E:Sub H D:=by rw[y];exact(((((Sub.refl H).new Y _).new U _).new C _).up ac _)
  have ab:=ah x k hres D;cases hfi:fine x with
  |true=>
   rw[hfi] at ab;rw[Ii,hfi,if_pos rfl];clear y C hres
   repeat' first
    |with_reducible refine And.intro ?_ ?_
    |(with_reducible refine Ad.monoR ab ?_)
    |((with_reducible show Dd _ _ _ _ _);intro q hq;dsimp only at hq;have hz:=(show Sub H _ from(by repeat (first|exact E|refine Sub.up ?_ (by assumption) _))).lo hq;(try simp only[Aq] at hq);(repeat (have ad:=hq.1;have hq:=hq.2));have M:=Ac hq V;have O:=Ac hq W;have ae:=M.symm;have af:=O.symm;(try have q7:=Ac hq I);(try have ag:=(Ac hq I).symm))
    |simp(disch:=omega)only[go_sem, *]
    |refine An pL4 ?_
    |((with_reducible show Dj _ _ _);refine Dj.nzT (H:=H) (by repeat (first|exact E|refine Sub.up ?_ (by assumption) _)) ⟨?_,rfl⟩;simp [Gf,nz2,nz,Ci];done)
    |fail
  |false=>
   rw[hfi] at ab;rw[Ii,hfi,if_neg (by simp)];clear y C hres
   repeat' first
    |with_reducible refine And.intro ?_ ?_
    |(with_reducible refine Ad.monoR ab ?_)
    |((with_reducible show Dd _ _ _ _ _);intro q hq;dsimp only at hq;have hz:=(show Sub H _ from(by repeat (first|exact E|refine Sub.up ?_ (by assumption) _))).lo hq;(try simp only[Aq] at hq);(repeat (have ad:=hq.1;have hq:=hq.2));have M:=Ac hq V;have O:=Ac hq W;have ae:=M.symm;have af:=O.symm;(try have q7:=Ac hq I);(try have ag:=(Ac hq I).symm))
    |simp(disch:=omega)only[go_sem, *]
    |refine An pL4 ?_
    |((with_reducible show Dj _ _ _);refine Dj.nzT (H:=H) (by repeat (first|exact E|refine Sub.up ?_ (by assumption) _)) ⟨?_,rfl⟩;simp [Gf,nz2,nz,Ci];done)
    |fail
 |fail k=>
  rw[hres] at hq;obtain⟨rfl,j,y⟩:=hq;have V:D X=some (.cells [dI 0] 3):=by rw[y,Ah _ _ _ _ J,Ah _ _ _ _ J,Ah _ _ _ _ Z];exact Aa _ _ _
  have W:D S=some (.cells [dI 0] 36):=by rw[y,Ah _ _ _ _ L,Ah _ _ _ _ L];exact Aa _ _ _
  have E:Sub H D:=by rw[y];exact(((((Sub.refl H).new Y _).new U _).new C _).up ac _)
  rw[Ii];clear y C hres
  repeat' first
   |with_reducible refine And.intro ?_ ?_
    |((with_reducible show Dd _ _ _ _ _);intro q hq;dsimp only at hq;have hz:=(show Sub H _ from(by repeat (first|exact E|refine Sub.up ?_ (by assumption) _))).lo hq;(try simp only[Aq] at hq);(repeat (have ad:=hq.1;have hq:=hq.2));have M:=Ac hq V;have O:=Ac hq W;have ae:=M.symm;have af:=O.symm;(try have q7:=Ac hq I);(try have ag:=(Ac hq I).symm))
   |simp(disch:=omega)only[go_sem, *,Ru]
   |refine An pL1 ?_
   |((with_reducible show Dj _ _ _);refine Dj.nzT (H:=H) (by repeat (first|exact E|refine Sub.up ?_ (by assumption) _)) ⟨?_,rfl⟩;simp [Gf,nz2,nz,Ci];done)
   |fail
 |long=>
  rw[hres] at hq;obtain⟨rfl,j,y⟩:=hq;have V:D X=some (.cells [dI 0] 3):=by rw[y,Ah _ _ _ _ J,Ah _ _ _ _ J,Ah _ _ _ _ Z];exact Aa _ _ _
  have W:D S=some (.cells [dI 0] 36):=by rw[y,Ah _ _ _ _ L,Ah _ _ _ _ L];exact Aa _ _ _
  have E:=y.symm▸(((((Sub.refl H).new Y _).new U _).new C _).up ac _);rw[Ii];clear y C hres
  repeat' first
   |with_reducible refine And.intro ?_ ?_
   |((with_reducible show Dd _ _ _ _ _);intro q hq;dsimp only at hq;have hz:=(show Sub H _ from(by repeat (first|exact E|refine Sub.up ?_ (by assumption) _))).lo hq;(try simp only[Aq] at hq);(repeat (have ad:=hq.1;have hq:=hq.2));have M:=Ac hq V;have O:=Ac hq W;have ae:=M.symm;have af:=O.symm;(try have q7:=Ac hq I);(try have ag:=(Ac hq I).symm))
   |simp(disch:=omega)only[go_sem, *,Ru]
   |refine An pL1 ?_
   |((with_reducible show Dj _ _ _);refine Dj.nzT (H:=H) (by repeat (first|exact E|refine Sub.up ?_ (by assumption) _)) ⟨?_,rfl⟩;simp [Gf,nz2,nz,Ci];done)
   |fail
theorem Aj8 (x:Ind):(Db x).take 36=Db x:=Ax5 x (Nat.le_refl _)
theorem Aj9 (x:Dis):(Du x).take 27=Du x:=Ax6 x (Nat.le_refl _)
theorem Ex0 (H:Ab) (hl:l.length<=12800000) (g gf:FuncId) (Y:Re Ind) (fine:Ind->Bool) (hf: ∀r H,H r=some (srO l 0)->Ad Tryz.prog G g [.optr r 0] H (SrR r l H (Y.mp (λa=> .agg (Db a))))) (am: ∀x k,Y= .ok x k-> ∀H,Ad Tryz.prog G gf [.agg (Db x)] H (Am (.bool (fine x)) H)):
  Ad Tryz.prog G 131 [Be l,.func (.func g) [] [],.func (.func gf) [] []] H (Am (Gf (λa=> .agg (Db a)) (Ii Y fine Ak6)) H):=by
 refine Jx Tryz.func131 Tryz.func224 Tryz.call131 Tryz.call224 rfl rfl (by kernel_rfl) (by kernel_rfl) rfl ?_;simp(disch:=omega)only[go_sem];intro r4 ac;simp(disch:=omega)only[go_sem];intro r5 Z;obtain⟨au,ad,av⟩:=Aq.1 Z;simp(disch:=omega)only[go_sem];intro r6 aa;obtain⟨aw,ae,ao⟩:=Aq.1 aa;obtain⟨ax,af,ay⟩:=Aq.1 ao;have ap:(Be l).cells= [Be l]:=rfl;simp(disch:=omega)only[go_sem,ap,jA,jB,jE,jJ,jI,jG];intro r7 D;obtain⟨a0,M,aq⟩:=Aq.1 D;obtain⟨a1,O,ar⟩:=Aq.1 aq;obtain⟨a2,S,ag⟩:=Aq.1 ar;simp(disch:=omega)only[go_sem];refine(hf r7 _ (Aa _ _ _)).mono ?_;intro e U hq;cases hres:Y with
 |ok x k=>
  rw[hres] at hq;obtain⟨rfl,y⟩:=hq;have V:=(congrFun y r4).trans (Aj (Aj (Aj (Aj (Aa _ _ _) ad) af) S) S);have W:U r5=some (.cells [dI 0] 3):=by rw[y,Ah _ _ _ _ O,Ah _ _ _ _ O,Ah _ _ _ _ ae];exact Aa _ _ _
  have X:U r6=some (.cells [dI 0] 36):=by rw[y,Ah _ _ _ _ M,Ah _ _ _ _ M];exact Aa _ _ _
  have C:=y.symm▸((((((Sub.refl H).new ac _).new Z _).new aa _).new D _).up ag _);have E:=y.symm▸Aa _ _ _;have ab:=am x k hres;cases hfi:fine x with
  |true=>
   rw[hfi] at ab;rw[Ii,hfi,if_pos rfl];clear y D hres
   repeat' first
    |with_reducible refine And.intro ?_ ?_
    |(with_reducible refine Ad.monoR (ab _) ?_)
    |((with_reducible show Dd _ _ _ _ _);intro q hq;dsimp only at hq;have hz:=(show Sub H _ from(by repeat (first|exact C|refine Sub.up ?_ (by assumption) _))).lo hq;(try simp only[Aq] at hq);(repeat (have ah:=hq.1;have hq:=hq.2));have I:=Ac hq V;have ai:=I.symm;have J:=Ac hq W;have L:=Ac hq X;have aj:=J.symm;have ak:=L.symm;(try have q7:=Ac hq E);(try have al:=(Ac hq E).symm))
    |simp(disch:=omega)only[go_sem, *,Au,Aj8,jH,jL]
    |refine An pL3 ?_
    |((with_reducible show Dj _ _ _);refine Dj.nzT (H:=H) (by repeat (first|exact C|refine Sub.up ?_ (by assumption) _)) ⟨?_,rfl⟩;simp [Gf,nz2,nz,Db,Ul];done)
    |fail
  |false=>
   rw[hfi] at ab;rw[Ii,hfi,if_neg (by simp)];clear y D hres
   repeat' first
    |with_reducible refine And.intro ?_ ?_
    |(with_reducible refine Ad.monoR (ab _) ?_)
    |((with_reducible show Dd _ _ _ _ _);intro q hq;dsimp only at hq;have hz:=(show Sub H _ from(by repeat (first|exact C|refine Sub.up ?_ (by assumption) _))).lo hq;(try simp only[Aq] at hq);(repeat (have ah:=hq.1;have hq:=hq.2));have I:=Ac hq V;have ai:=I.symm;have J:=Ac hq W;have L:=Ac hq X;have aj:=J.symm;have ak:=L.symm;(try have q7:=Ac hq E);(try have al:=(Ac hq E).symm))
    |simp(disch:=omega)only[go_sem, *,Au,Aj8,jH,jL]
    |refine An pL3 ?_
    |((with_reducible show Dj _ _ _);refine Dj.nzT (H:=H) (by repeat (first|exact C|refine Sub.up ?_ (by assumption) _)) ⟨?_,rfl⟩;simp [Gf,nz2,nz,Ak6,Db,Vu];done)
    |fail
 |fail k=>
  rw[hres] at hq;obtain⟨rfl,j,y⟩:=hq;have V:=(congrFun y r4).trans (Aj (Aj (Aj (Aj (Aa _ _ _) ad) af) S) S);have W:U r5=some (.cells [dI 0] 3):=by rw[y,Ah _ _ _ _ O,Ah _ _ _ _ O,Ah _ _ _ _ ae];exact Aa _ _ _
  have X:U r6=some (.cells [dI 0] 36):=by rw[y,Ah _ _ _ _ M,Ah _ _ _ _ M];exact Aa _ _ _
  have C:=y.symm▸((((((Sub.refl H).new ac _).new Z _).new aa _).new D _).up ag _);rw[Ii];clear y D hres
  repeat' first
   |with_reducible refine And.intro ?_ ?_
   |((with_reducible show Dd _ _ _ _ _);intro q hq;dsimp only at hq;have hz:=(show Sub H _ from(by repeat (first|exact C|refine Sub.up ?_ (by assumption) _))).lo hq;(try simp only[Aq] at hq);(repeat (have ah:=hq.1;have hq:=hq.2));have I:=Ac hq V;have ai:=I.symm;have J:=Ac hq W;have L:=Ac hq X;have aj:=J.symm;have ak:=L.symm;(try have q7:=Ac hq E);(try have al:=(Ac hq E).symm))
   |simp(disch:=omega)only[go_sem, *,Ru,jH,jL]
   |refine An pL1 ?_
   |((with_reducible show Dj _ _ _);refine Dj.nzT (H:=H) (by repeat (first|exact C|refine Sub.up ?_ (by assumption) _)) ⟨?_,rfl⟩;simp [Gf,nz2,nz,Ak6,Db,Vu];done)
   |fail
 |long=>
  rw[hres] at hq;obtain⟨rfl,j,y⟩:=hq;have V:=(congrFun y r4).trans (Aj (Aj (Aj (Aj (Aa _ _ _) ad) af) S) S);have W:U r5=some (.cells [dI 0] 3):=by rw[y,Ah _ _ _ _ O,Ah _ _ _ _ O,Ah _ _ _ _ ae];exact Aa _ _ _
  have X:U r6=some (.cells [dI 0] 36):=by rw[y,Ah _ _ _ _ M,Ah _ _ _ _ M];exact Aa _ _ _
  have C:=y.symm▸((((((Sub.refl H).new ac _).new Z _).new aa _).new D _).up ag _);rw[Ii];clear y D hres
  repeat' first
   |with_reducible refine And.intro ?_ ?_
   |((with_reducible show Dd _ _ _ _ _);intro q hq;dsimp only at hq;have hz:=(show Sub H _ from(by repeat (first|exact C|refine Sub.up ?_ (by assumption) _))).lo hq;(try simp only[Aq] at hq);(repeat (have ah:=hq.1;have hq:=hq.2));have I:=Ac hq V;have ai:=I.symm;have J:=Ac hq W;have L:=Ac hq X;have aj:=J.symm;have ak:=L.symm;(try have q7:=Ac hq E);(try have al:=(Ac hq E).symm))
   |simp(disch:=omega)only[go_sem, *,Ru,jH,jL]
   |refine An pL1 ?_
   |((with_reducible show Dj _ _ _);refine Dj.nzT (H:=H) (by repeat (first|exact C|refine Sub.up ?_ (by assumption) _)) ⟨?_,rfl⟩;simp [Gf,nz2,nz,Ak6,Db,Vu];done)
   |fail
theorem Ex1 (H:Ab) (hl:l.length<=12800000) (g gf:FuncId) (Y:Re Dis) (fine:Dis->Bool) (hf: ∀r H,H r=some (srO l 0)->Ad Tryz.prog G g [.optr r 0] H (SrR r l H (Y.mp (λa=> .agg (Du a))))) (am: ∀x k,Y= .ok x k-> ∀H,Ad Tryz.prog G gf [.agg (Du x)] H (Am (.bool (fine x)) H)):
  Ad Tryz.prog G 129 [Be l,.func (.func g) [] [],.func (.func gf) [] []] H (Am (Gf (λa=> .agg (Du a)) (Ii Y fine Ak7)) H):=by
 refine Jx Tryz.func129 Tryz.func221 Tryz.call129 Tryz.call221 rfl rfl (by kernel_rfl) (by kernel_rfl) rfl ?_;simp(disch:=omega)only[go_sem];intro r4 ac;simp(disch:=omega)only[go_sem];intro r5 Z;obtain⟨au,ad,av⟩:=Aq.1 Z;simp(disch:=omega)only[go_sem];intro r6 aa;obtain⟨aw,ae,ao⟩:=Aq.1 aa;obtain⟨ax,af,ay⟩:=Aq.1 ao;have ap:(Be l).cells= [Be l]:=rfl;simp(disch:=omega)only[go_sem,ap,jA,jB,jE,jJ,jI,jG];intro r7 D;obtain⟨a0,M,aq⟩:=Aq.1 D;obtain⟨a1,O,ar⟩:=Aq.1 aq;obtain⟨a2,S,ag⟩:=Aq.1 ar;simp(disch:=omega)only[go_sem];refine(hf r7 _ (Aa _ _ _)).mono ?_;intro e U hq;cases hres:Y with
 |ok x k=>
  rw[hres] at hq;obtain⟨rfl,y⟩:=hq;have V:=(congrFun y r4).trans (Aj (Aj (Aj (Aj (Aa _ _ _) ad) af) S) S);have W:U r5=some (.cells [dI 0] 3):=by rw[y,Ah _ _ _ _ O,Ah _ _ _ _ O,Ah _ _ _ _ ae];exact Aa _ _ _
  have X:U r6=some (.cells [dI 0] 36):=by rw[y,Ah _ _ _ _ M,Ah _ _ _ _ M];exact Aa _ _ _
  have C:=y.symm▸((((((Sub.refl H).new ac _).new Z _).new aa _).new D _).up ag _);have E:=y.symm▸Aa _ _ _;have ab:=am x k hres;cases hfi:fine x with
  |true=>
   rw[hfi] at ab;rw[Ii,hfi,if_pos rfl];clear y D hres
   repeat' first
    |with_reducible refine And.intro ?_ ?_
    |(with_reducible refine Ad.monoR (ab _) ?_)
    |((with_reducible show Dd _ _ _ _ _);intro q hq;dsimp only at hq;have hz:=(show Sub H _ from(by repeat (first|exact C|refine Sub.up ?_ (by assumption) _))).lo hq;(try simp only[Aq] at hq);(repeat (have ah:=hq.1;have hq:=hq.2));have I:=Ac hq V;have ai:=I.symm;have J:=Ac hq W;have L:=Ac hq X;have aj:=J.symm;have ak:=L.symm;(try have q7:=Ac hq E);(try have al:=(Ac hq E).symm))
    |simp(disch:=omega)only[go_sem, *,Bd,Aj9,jH,jL]
    |refine An pL3 ?_
    |((with_reducible show Dj _ _ _);refine Dj.nzT (H:=H) (by repeat (first|exact C|refine Sub.up ?_ (by assumption) _)) ⟨?_,rfl⟩;simp [Gf,nz2,nz,Du,Ul];done)
    |fail
  |false=>
   rw[hfi] at ab;rw[Ii,hfi,if_neg (by simp)];clear y D hres
   repeat' first
    |with_reducible refine And.intro ?_ ?_
    |(with_reducible refine Ad.monoR (ab _) ?_)
    |((with_reducible show Dd _ _ _ _ _);intro q hq;dsimp only at hq;have hz:=(show Sub H _ from(by repeat (first|exact C|refine Sub.up ?_ (by assumption) _))).lo hq;(try simp only[Aq] at hq);(repeat (have ah:=hq.1;have hq:=hq.2));have I:=Ac hq V;have ai:=I.symm;have J:=Ac hq W;have L:=Ac hq X;have aj:=J.symm;have ak:=L.symm;(try have q7:=Ac hq E);(try have al:=(Ac hq E).symm))
    |simp(disch:=omega)only[go_sem, *,Bd,Aj9,jH,jL]
    |refine An pL3 ?_
    |((with_reducible show Dj _ _ _);refine Dj.nzT (H:=H) (by repeat (first|exact C|refine Sub.up ?_ (by assumption) _)) ⟨?_,rfl⟩;simp [Gf,nz2,nz,Ak7,Du,Vu];done)
    |fail
 |fail k=>
  rw[hres] at hq;obtain⟨rfl,j,y⟩:=hq;have V:=(congrFun y r4).trans (Aj (Aj (Aj (Aj (Aa _ _ _) ad) af) S) S);have W:U r5=some (.cells [dI 0] 3):=by rw[y,Ah _ _ _ _ O,Ah _ _ _ _ O,Ah _ _ _ _ ae];exact Aa _ _ _
  have X:U r6=some (.cells [dI 0] 36):=by rw[y,Ah _ _ _ _ M,Ah _ _ _ _ M];exact Aa _ _ _
  have C:=y.symm▸((((((Sub.refl H).new ac _).new Z _).new aa _).new D _).up ag _);rw[Ii];clear y D hres
  repeat' first
   |with_reducible refine And.intro ?_ ?_
   |((with_reducible show Dd _ _ _ _ _);intro q hq;dsimp only at hq;have hz:=(show Sub H _ from(by repeat (first|exact C|refine Sub.up ?_ (by assumption) _))).lo hq;(try simp only[Aq] at hq);(repeat (have ah:=hq.1;have hq:=hq.2));have I:=Ac hq V;have ai:=I.symm;have J:=Ac hq W;have L:=Ac hq X;have aj:=J.symm;have ak:=L.symm;(try have q7:=Ac hq E);(try have al:=(Ac hq E).symm))
   |simp(disch:=omega)only[go_sem, *,Ru,jH,jL]
   |refine An pL1 ?_
   |((with_reducible show Dj _ _ _);refine Dj.nzT (H:=H) (by repeat (first|exact C|refine Sub.up ?_ (by assumption) _)) ⟨?_,rfl⟩;simp [Gf,nz2,nz,Ak7,Du,Vu];done)
   |fail
 |long=>
  rw[hres] at hq;obtain⟨rfl,j,y⟩:=hq;have V:=(congrFun y r4).trans (Aj (Aj (Aj (Aj (Aa _ _ _) ad) af) S) S);have W:U r5=some (.cells [dI 0] 3):=by rw[y,Ah _ _ _ _ O,Ah _ _ _ _ O,Ah _ _ _ _ ae];exact Aa _ _ _
  have X:U r6=some (.cells [dI 0] 36):=by rw[y,Ah _ _ _ _ M,Ah _ _ _ _ M];exact Aa _ _ _
  have C:=y.symm▸((((((Sub.refl H).new ac _).new Z _).new aa _).new D _).up ag _);rw[Ii];clear y D hres
  repeat' first
   |with_reducible refine And.intro ?_ ?_
   |((with_reducible show Dd _ _ _ _ _);intro q hq;dsimp only at hq;have hz:=(show Sub H _ from(by repeat (first|exact C|refine Sub.up ?_ (by assumption) _))).lo hq;(try simp only[Aq] at hq);(repeat (have ah:=hq.1;have hq:=hq.2));have I:=Ac hq V;have ai:=I.symm;have J:=Ac hq W;have L:=Ac hq X;have aj:=J.symm;have ak:=L.symm;(try have q7:=Ac hq E);(try have al:=(Ac hq E).symm))
   |simp(disch:=omega)only[go_sem, *,Ru,jH,jL]
   |refine An pL1 ?_
   |((with_reducible show Dj _ _ _);refine Dj.nzT (H:=H) (by repeat (first|exact C|refine Sub.up ?_ (by assumption) _)) ⟨?_,rfl⟩;simp [Gf,nz2,nz,Ak7,Du,Vu];done)
   |fail
theorem Ex2 (H:Ab) (hl:l.length<=12800000) (g gf:FuncId) (Y:Re Typ) (fine:Typ->Bool) (hf: ∀r H,H r=some (srO l 0)->Ad Tryz.prog G g [.optr r 0] H (SrR r l H (Y.mp (λa=> .agg (Cf a))))) (am: ∀x k,Y= .ok x k-> ∀H,Ad Tryz.prog G gf [.agg (Cf x)] H (Am (.bool (fine x)) H)):
  Ad Tryz.prog G 90 [Be l,.func (.func g) [] [],.func (.func gf) [] []] H (Am (Gf (λa=> .agg (Cf a)) (Ii Y fine Lh)) H):=by
 refine Jx Tryz.func90 Tryz.func190 Tryz.call90 Tryz.call190 rfl rfl (by kernel_rfl) (by kernel_rfl) rfl ?_;simp(disch:=omega)only[go_sem];intro r4 ac;simp(disch:=omega)only[go_sem];intro r5 Z;obtain⟨au,ad,av⟩:=Aq.1 Z;simp(disch:=omega)only[go_sem];intro r6 aa;obtain⟨aw,ae,ao⟩:=Aq.1 aa;obtain⟨ax,af,ay⟩:=Aq.1 ao;have ap:(Be l).cells= [Be l]:=rfl;simp(disch:=omega)only[go_sem,ap,jA,jB,jE,jJ,jI,jG];intro r7 D;obtain⟨a0,M,aq⟩:=Aq.1 D;obtain⟨a1,O,ar⟩:=Aq.1 aq;obtain⟨a2,S,ag⟩:=Aq.1 ar;simp(disch:=omega)only[go_sem];refine(hf r7 _ (Aa _ _ _)).mono ?_;intro e U hq;cases hres:Y with
 |ok x k=>
  rw[hres] at hq;obtain⟨rfl,y⟩:=hq;have V:=(congrFun y r4).trans (Aj (Aj (Aj (Aj (Aa _ _ _) ad) af) S) S);have W:U r5=some (.cells [dI 0] 3):=by rw[y,Ah _ _ _ _ O,Ah _ _ _ _ O,Ah _ _ _ _ ae];exact Aa _ _ _
  have X:U r6=some (.cells [dI 0] 36):=by rw[y,Ah _ _ _ _ M,Ah _ _ _ _ M];exact Aa _ _ _
  have C:=y.symm▸((((((Sub.refl H).new ac _).new Z _).new aa _).new D _).up ag _);have E:=y.symm▸Aa _ _ _;have ab:=am x k hres;cases hfi:fine x with
  |true=>
   rw[hfi] at ab;rw[Ii,hfi,if_pos rfl];clear y D hres
   repeat' first
    |with_reducible refine And.intro ?_ ?_
    |(with_reducible refine Ad.monoR (ab _) ?_)
    |((with_reducible show Dd _ _ _ _ _);intro q hq;dsimp only at hq;have hz:=(show Sub H _ from(by repeat (first|exact C|refine Sub.up ?_ (by assumption) _))).lo hq;(try simp only[Aq] at hq);(repeat (have ah:=hq.1;have hq:=hq.2));have I:=Ac hq V;have ai:=I.symm;have J:=Ac hq W;have L:=Ac hq X;have aj:=J.symm;have ak:=L.symm;(try have q7:=Ac hq E);(try have al:=(Ac hq E).symm))
    |simp(disch:=omega)only[go_sem, *,Fq,Xq,jH,jL]
    |refine An pL3 ?_
    |((with_reducible show Dj _ _ _);refine Dj.nzT (H:=H) (by repeat (first|exact C|refine Sub.up ?_ (by assumption) _)) ⟨?_,rfl⟩;simp [Gf,nz2,nz,Cf,Db,Du,dW,Ci,Ep,Ul];done)
    |fail
  |false=>
   rw[hfi] at ab;rw[Ii,hfi,if_neg (by simp)];clear y D hres
   repeat' first
    |with_reducible refine And.intro ?_ ?_
    |(with_reducible refine Ad.monoR (ab _) ?_)
    |((with_reducible show Dd _ _ _ _ _);intro q hq;dsimp only at hq;have hz:=(show Sub H _ from(by repeat (first|exact C|refine Sub.up ?_ (by assumption) _))).lo hq;(try simp only[Aq] at hq);(repeat (have ah:=hq.1;have hq:=hq.2));have I:=Ac hq V;have ai:=I.symm;have J:=Ac hq W;have L:=Ac hq X;have aj:=J.symm;have ak:=L.symm;(try have q7:=Ac hq E);(try have al:=(Ac hq E).symm))
    |simp(disch:=omega)only[go_sem, *,Fq,Xq,jH,jL]
    |refine An pL3 ?_
    |((with_reducible show Dj _ _ _);refine Dj.nzT (H:=H) (by repeat (first|exact C|refine Sub.up ?_ (by assumption) _)) ⟨?_,rfl⟩;simp [Gf,nz2,nz,Cf,Lh,Ak6,Ak7,Db,Du,Vu,dW,Ci,Ep];done)
    |fail
 |fail k=>
  rw[hres] at hq;obtain⟨rfl,j,y⟩:=hq;have V:=(congrFun y r4).trans (Aj (Aj (Aj (Aj (Aa _ _ _) ad) af) S) S);have W:U r5=some (.cells [dI 0] 3):=by rw[y,Ah _ _ _ _ O,Ah _ _ _ _ O,Ah _ _ _ _ ae];exact Aa _ _ _
  have X:U r6=some (.cells [dI 0] 36):=by rw[y,Ah _ _ _ _ M,Ah _ _ _ _ M];exact Aa _ _ _
  have C:=y.symm▸((((((Sub.refl H).new ac _).new Z _).new aa _).new D _).up ag _);rw[Ii];clear y D hres
  repeat' first
   |with_reducible refine And.intro ?_ ?_
   |((with_reducible show Dd _ _ _ _ _);intro q hq;dsimp only at hq;have hz:=(show Sub H _ from(by repeat (first|exact C|refine Sub.up ?_ (by assumption) _))).lo hq;(try simp only[Aq] at hq);(repeat (have ah:=hq.1;have hq:=hq.2));have I:=Ac hq V;have ai:=I.symm;have J:=Ac hq W;have L:=Ac hq X;have aj:=J.symm;have ak:=L.symm;(try have q7:=Ac hq E);(try have al:=(Ac hq E).symm))
   |simp(disch:=omega)only[go_sem, *,Ru,jH,jL]
   |refine An pL1 ?_
   |((with_reducible show Dj _ _ _);refine Dj.nzT (H:=H) (by repeat (first|exact C|refine Sub.up ?_ (by assumption) _)) ⟨?_,rfl⟩;simp [Gf,nz2,nz,Cf,Lh,Ak6,Ak7,Db,Du,Vu,dW,Ci,Ep];done)
   |fail
 |long=>
  rw[hres] at hq;obtain⟨rfl,j,y⟩:=hq;have V:=(congrFun y r4).trans (Aj (Aj (Aj (Aj (Aa _ _ _) ad) af) S) S);have W:U r5=some (.cells [dI 0] 3):=by rw[y,Ah _ _ _ _ O,Ah _ _ _ _ O,Ah _ _ _ _ ae];exact Aa _ _ _
  have X:U r6=some (.cells [dI 0] 36):=by rw[y,Ah _ _ _ _ M,Ah _ _ _ _ M];exact Aa _ _ _
  have C:=y.symm▸((((((Sub.refl H).new ac _).new Z _).new aa _).new D _).up ag _);rw[Ii];clear y D hres
  repeat' first
   |with_reducible refine And.intro ?_ ?_
   |((with_reducible show Dd _ _ _ _ _);intro q hq;dsimp only at hq;have hz:=(show Sub H _ from(by repeat (first|exact C|refine Sub.up ?_ (by assumption) _))).lo hq;(try simp only[Aq] at hq);(repeat (have ah:=hq.1;have hq:=hq.2));have I:=Ac hq V;have ai:=I.symm;have J:=Ac hq W;have L:=Ac hq X;have aj:=J.symm;have ak:=L.symm;(try have q7:=Ac hq E);(try have al:=(Ac hq E).symm))
   |simp(disch:=omega)only[go_sem, *,Ru,jH,jL]
   |refine An pL1 ?_
   |((with_reducible show Dj _ _ _);refine Dj.nzT (H:=H) (by repeat (first|exact C|refine Sub.up ?_ (by assumption) _)) ⟨?_,rfl⟩;simp [Gf,nz2,nz,Cf,Lh,Ak6,Ak7,Db,Du,Vu,dW,Ci,Ep];done)
   |fail
end
section
variable {G:Nat->DVal} {l:List Tok}
theorem Ag9 (hG:GX G) (H:Ab) (y:l.length<=8000000) (C:Bv l):Ad Tryz.prog G 35 [Be l] H (Am (Gf (λa=> .agg (Db a)) (Zj l)) H):=by
 have h:=λK=>Ex0 K (by omega) 132 104 (Xm l 0) Co (λr H hr=>Di2 hG C y H 0 hr (Nat.zero_le _)) (λx k hx H=>Ot hG H x (Zp C y (Nat.zero_le _) x k hx));refine dci Tryz.func35 Tryz.call35 ?_;simp only[go_sem];intro J I;simp only[go_sem];refine Ad.monoR (h _) ?_;have D:=Au (Zj l).1;have E:=Aj8 (Zj l).1;change (Db (Ii (Xm l 0) Co _).1).length=_ at D;change (Db (Ii (Xm l 0) Co _).1).take _=_ at E;simp only[go_sem,Gf,D,E,jH,jL];exact Dj.sub ((Sub.refl H).new I _) (.refl ⟨rfl,rfl⟩)
theorem Zs (hG:GX G) (H:Ab) (y:l.length<=8000000) (C:Bv l):Ad Tryz.prog G 30 [Be l] H (Am (Gf (λa=> .agg (Du a)) (Rt l)) H):=by
 have h:=λK=>Ex1 K (by omega) 130 32 (Be3 l 0) Dt (λr H hr=>Di3 hG C y H 0 hr (Nat.zero_le _)) (λx k hx H=>Af9 hG H x (Bm8 C y x k hx));refine dci Tryz.func30 Tryz.call30 ?_;simp only[go_sem];intro J I;simp only[go_sem];refine Ad.monoR (h _) ?_;have D:=Bd (Rt l).1;have E:=Aj9 (Rt l).1;change (Du (Ii (Be3 l 0) Dt _).1).length=_ at D;change (Du (Ii (Be3 l 0) Dt _).1).take _=_ at E;simp only[go_sem,Gf,D,E,jH,jL];exact Dj.sub ((Sub.refl H).new I _) (.refl ⟨rfl,rfl⟩)
theorem Aq5 (hG:GX G) (H:Ab) (y:l.length<=8000000) (C:Bv l):Ad Tryz.prog G 20 [Be l] H (Am (Gf (λa=> .agg (Cf a)) (My l)) H):=by
 have h:=λK=>Ex2 K (by omega) 91 24 (Xn l 0) Dn (λr H hr=>Cd6 hG C y H 0 hr (Nat.zero_le _)) (λx k hx H=>Bj1 hG H x (Ct1 C y (Nat.zero_le _) x k hx));refine dci Tryz.func20 Tryz.call20 ?_;simp only[go_sem];intro J I;simp only[go_sem];refine Ad.monoR (h _) ?_;have D:=Fq (My l).1;have E:=Xq (My l).1;change (Cf (Ii (Xn l 0) Dn _).1).length=_ at D;change (Cf (Ii (Xn l 0) Dn _).1).take _=_ at E;simp only[go_sem,Gf,D,E,jH,jL];exact Dj.sub ((Sub.refl H).new I _) (.refl ⟨rfl,rfl⟩)
theorem Sp (hG:GX G) (H:Ab) (y:l.length<=8000000) (C:Bv l):Ad Tryz.prog G 26 [Be l] H (Am (Gf Gh (Zk l)) H):=by
 have h:=λK=>Ew7 K (by omega) 118 28 (Bx6 l 0) Es (λr H hr=>Dx7 hG C y H 0 hr (Nat.zero_le _)) (λx k hx H=>Ug hG H x (Bz3 C y (Nat.zero_le _) x k hx));refine dci Tryz.func26 Tryz.call26 ?_;simp only[go_sem];refine Ad.monoR (h _) ?_;simp only[go_sem,Gf];exact Dj.refl ⟨rfl,rfl⟩
theorem Wi (hG:GX G) (H:Ab) (y:l.length<=8000000) (C:Bv l):Ad Tryz.prog G 41 [Be l] H (Am (Gf Ib (Dg2 l)) H):=by
 have h:=λK=>Ew8 K (by omega) 141 139 (Ci8 l 0) Gv (λr H hr=>Dx8 hG C y H 0 hr (Nat.zero_le _)) (λx k hx H=>Aa6 hG H x (Dh6 C y (Nat.zero_le _) x k hx));refine dci Tryz.func41 Tryz.call41 ?_;simp only[go_sem];refine Ad.monoR (h _) ?_;simp only[go_sem,Gf];exact Dj.refl ⟨rfl,rfl⟩
theorem Bj8 (hG:GX G) (H:Ab) (y:l.length<=8000000) (C:Bv l):Ad Tryz.prog G 45 [Be l] H (Am (Gf Ci (Dg3 l)) H):=by
 have h:=λK=>Ew9 K (by omega) 150 147 (Sb l 0) Gn (λr H hr=>Bj7 hG C y H 0 hr (Nat.zero_le _)) (λx k hx H=>Al6 hG H x (Ax4 C y (Nat.zero_le _) x k hx));refine dci Tryz.func45 Tryz.call45 ?_;simp only[go_sem];refine Ad.monoR (h _) ?_;simp only[go_sem,Gf];exact Dj.refl ⟨rfl,rfl⟩
end
end Go.Dl
