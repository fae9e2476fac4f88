/- The data level and the contracts of the functions that are reached (part 11). -/
import Derived.Test.YtddbdpcgikmiaaaGreatDoorPgj
set_option linter.unusedSimpArgs false
set_option linter.unusedVariables false
set_option linter.unusedSectionVars false
-- A6
namespace Go.Dl
open Go
set_option maxRecDepth 10000
theorem Ad6 {α β:Type} {st:α->β} {f:α->Bool} (hf: ∀x y,st x=st y->f x=f y): ∀ {l m:List α},l.map st=m.map st->l.all f=m.all f
 | [],[],_=>rfl
 | [],_::_,h=>by cases h
 | _::_,[],h=>by cases h
 | x::l,y::m,h=>by
  rw[jN,jN,List.cons.injEq] at h;rw[List.all_cons,List.all_cons,hf _ _ h.1,Ad6 hf h.2]
theorem At7 {α β:Type} {st:α->β} {f:α->Nat} (hf: ∀x y,st x=st y->f x=f y): ∀ {l m:List α},l.map st=m.map st->(l.map f).sum=(m.map f).sum
 | [],[],_=>rfl
 | [],_::_,h=>by cases h
 | _::_,[],h=>by cases h
 | x::l,y::m,h=>by
  rw[jN,jN,List.cons.injEq] at h;rw[jN,jN,List.sum_cons,List.sum_cons,hf _ _ h.1,At7 hf h.2]
theorem Cz6 {α β:Type} {st:α->β} {l m:List α} (h:l.map st=m.map st):l.length=m.length:=by
 have:=congrArg List.length h
 rwa [jK,jK] at this
theorem Ad7 {α β:Type} {st:α->β} {f:α->α->Bool} (hf: ∀x y,st x=st y->f x y=true): ∀ {l m:List α},l.map st=m.map st->Ru f l m=true
 | [],[],_=>rfl
 | [],_::_,h=>by cases h
 | _::_,[],h=>by cases h
 | x::l,y::m,h=>by
  rw[jN,jN,List.cons.injEq] at h;rw[Ru,hf _ _ h.1,Ad7 hf h.2];rfl
theorem En0 {x y:Ex} (h:stE x=stE y):x.kind=y.kind:=by rw[<-Km x,h,Km]
theorem Cl2 {x y:Ind} (h:stI x=stI y):stE x.name=stE y.name/\stE x.lo=stE y.lo/\stE x.hi=stE y.hi/\stE x.value=stE y.value:=by
 simpa only[stI,Ind.mk.injEq] using h
theorem Cl3 {x y:Dis} (h:stD x=stD y):stE x.name=stE y.name/\stE x.lo=stE y.lo/\stE x.hi=stE y.hi:=by
 simpa only[stD,Dis.mk.injEq] using h
theorem Cl4 {x y:Par} (h:stP x=stP y):x.names=y.names/\x.mode=y.mode/\stE x.type=stE y.type/\stE x.e=stE y.e:=by
 simpa only[stP,Par.mk.injEq,and_true] using h
theorem Cl5 {x y:Cmp} (h:Rw x=Rw y):x.names=y.names/\stI x.sub=stI y.sub/\stE x.e=stE y.e:=by
 simpa only[Rw,Cmp.mk.injEq,and_true] using h
theorem Bh4 {x y:Arm} (h:Wf x=Wf y):x.c.map stC=y.c.map stC/\x.comps.map Rw=y.comps.map Rw:=by
 simpa only[Wf,Arm.mk.injEq] using h
theorem Dw8 {x y:Typ} (h:Nz x=Nz y):x.kind=y.kind/\x.names=y.names/\stE x.lo=stE y.lo/\stE x.hi=stE y.hi/\stI x.sub=stI y.sub/\stD x.disc=stD y.disc/\x.comps.map Rw=y.comps.map Rw/\x.var=y.var/\x.arms.map Wf=y.arms.map Wf/\x.limited=y.limited:=by
 simpa only[Nz,Typ.mk.injEq] using h
theorem Be8 {x y:Ind} (h:stI x=stI y):En x=En y:=by
 obtain⟨h1,h2,h3,h4⟩:=Cl2 h;rw[En,En,At4 h1,Mr h2,Mr h3,Mr h4,Lh h2,Lh h3,Lh h4]
theorem Be9 {x y:Dis} (h:stD x=stD y):Fh x=Fh y:=by
 obtain⟨h1,h2,h3⟩:=Cl3 h;rw[Fh,Fh,At4 h1,Mr h1,Mr h2,Mr h3,Lh h1,Lh h2,Lh h3,En0 h1]
theorem Bu0 {x y:Ex} (h:stE x=stE y):Ic x=Ic y:=by rw[Ic,Ic,Mr h,Lh h]
theorem Do2 (x y:Par) (h:stP x=stP y):Kb x=Kb y:=by
 obtain⟨h1,h2,h3,h4⟩:=Cl4 h;rw[Kb,Kb,h1,h2,At4 h3,Bu0 h4,Mr h4]
theorem Cl6 {l m:List Par} (h:l.map stP=m.map stP):Jq l=Jq m:=by
 rw[Jq,Jq,Ad6 Do2 h,As6,As6,At7 (fun x y e=>by rw[(Cl4 e).1]) h]
theorem Bu1 (x y:Cmp) (h:Rw x=Rw y):Kc x=Kc y:=by
 obtain⟨h1,h2,h3⟩:=Cl5 h;rw[Kc,Kc,h1,Be8 h2,Bu0 h3]
theorem Bu2 {l m:List Cmp} (h:l.map Rw=m.map Rw):Hs l=Hs m:=by
 rw[Hs,Hs,At7 (fun x y e=>by rw[(Cl5 e).1]) h]
theorem Do3 {l m:List Ch} (h:l.map stC=m.map stC):Kq l=Kq m:=by rw[<-At6 l,h,At6]
theorem Do4 (x y:Arm) (h:Wf x=Wf y):Jr x=Jr y:=by
 rw[Jr,Jr,Ad6 Bu1 (Bh4 h).2,Do3 (Bh4 h).1]
theorem Cz7 {x y:Typ} (h:Nz x=Nz y):Du x=Du y:=by
 obtain⟨h1,h2,h3,h4,h5,h6,h7,h8,h9,h10⟩:=Dw8 h;obtain⟨C,D,E,I⟩:=Cl2 h5;obtain⟨J,L,M⟩:=Cl3 h6;rw[Du,Du,Lu,Lu,Xd,Xd,Vp,Vp,Ze,Ze,Zd,Zd,Xc,Xc,h1,h2,h8,h10,Mr h3,Mr h4,Lh h3,Lh h4,Be8 h5,Be9 h6,Mr C,Mr D,Mr E,Mr I,Mr J,Mr L,Mr M,
  Ad6 Bu1 h7,Ad6 Do4 h9,Cz6 h7,Cz6 h9,Bu2 h7,Ui,Ui,At7 (fun x y e=>Bu2 (Bh4 e).2) h9]
theorem Bu3 (x y:Ind) (h:stI x=stI y):My x y=true:=by
 obtain⟨h1,h2,h3,h4⟩:=Cl2 h;rw[My,Lj h1,Lj h2,Lj h3,Lj h4];rfl
theorem Bu4 (x y:Dis) (h:stD x=stD y):Mz x y=true:=by
 obtain⟨h1,h2,h3⟩:=Cl3 h;rw[Mz,Lj h1,Lj h2,Lj h3];rfl
theorem Do5 (x y:Par) (h:stP x=stP y):Lv x y=true:=by
 obtain⟨h1,h2,h3,h4⟩:=Cl4 h;rw[Lv,Lj h3,Lj h4,decide_eq_true h1,decide_eq_true h2];rfl
theorem Bu5 (x y:Cmp) (h:Rw x=Rw y):Na x y=true:=by
 obtain⟨h1,h2,h3⟩:=Cl5 h;rw[Na,Lj h3,Bu3 _ _ h2,decide_eq_true h1];rfl
theorem Do6 (x y:Arm) (h:Wf x=Wf y):Rk x y=true:=by
 obtain⟨h1,h2⟩:=Bh4 h;rw[Rk,Ad7 Bu5 h2,(Az4 _ _).2 (by rw[Ac3,Ac3,h1])];rfl
theorem Do7 (x y:Typ) (h:Nz x=Nz y):Yl x y=true:=by
 obtain⟨h1,h2,h3,h4,h5,h6,h7,h8,h9,h10⟩:=Dw8 h;rw[Yl,decide_eq_true h1,decide_eq_true h2,Lj h3,Lj h4,Bu3 _ _ h5,Bu4 _ _ h6,Ad7 Bu5 h7,decide_eq_true h8,decide_eq_true h10,Ad7 Do6 h9];rfl
theorem Lr (s:List UInt8) {ts:List Tok} (h:zT ts):zT (Ah s::ts):=Dn rfl h
theorem Gv4 (s:List UInt8) {ts:List Tok} (h:zT ts):zT (Dw s::ts):=Dn rfl h
theorem Dw9 (e:Ex) (C:Int):zT (Ar e C):=Ck0 (Bx7 e)
theorem Ag6 (a b:Ex):zT (Dj a b):=Bp (Dw9 a 2) (Lr _ (Dw9 b 2))
theorem Cl7 (s:Ind):zT (In s):=Bp (Bx7 _) (Iu (Iu Fg (Lr _ (Ag6 _ _))) (Lr _ (Bp (Bx7 _) (Lr _ Fg))))
theorem Fh8 (d:Dis):zT (Lp d):=Iu (Bx7 _) (Iu (Ag6 _ _) (Bp (Bx7 _) (Lr _ (Ag6 _ _))))
theorem Cl8 {β:Type} (s:List UInt8) (g:β->List Tok) (l:List β) (h: ∀x∈l,zT (g x)):zT (Dm s (l.map g)):=Br7 s fun t ht=>by
 obtain⟨x,hx,rfl⟩:=List.mem_map.1 ht;exact h x hx
theorem Dx0 {β:Type} (g:β->List Tok) (l:List β) (h: ∀x∈l,zT (g x)):zT (l.flatMap g):=fun t ht=>by
 obtain⟨x,hx,C⟩:=List.mem_flatMap.1 ht;exact h x hx t C
theorem Bu6 (l:List (List UInt8)):zT (Cw l):=Cl8 _ (fun s=> [Dw s]) l fun s _=>Gv4 s Fg
theorem Fh9 (e:Ex):zT (Ny e):=Iu Fg (Lr _ (Bx7 e))
theorem Fz4 (m:Int):zT (Qe m):=Iu (Lr _ Fg) (Iu (Lr _ (Lr _ Fg)) Fg)
theorem Go4 (p:Par):zT (Nf p):=Bp (Bu6 _) (Lr _ (Bp (Fz4 _) (Bp (Bx7 _) (Fh9 _))))
theorem Go5 (c:Cmp):zT (Uj c):=Bp (Bu6 _) (Lr _ (Bp (Cl7 _) (Bp (Fh9 _) (Lr _ Fg))))
theorem Dx1 (l:List Cmp):zT (Hf l):=Iu (Lr _ (Lr _ Fg)) (Dx0 _ _ fun c _=>Go5 c)
theorem Go6 (a:Arm):zT (Sv a):=Lr _ (Bp (Cl8 _ Cs _ fun c _=>Gu7 c) (Lr _ (Dx1 _)))
theorem Fz5 (v:List UInt8) (l:List Arm):zT (Pw v l):=Iu Fg (Lr _ (Gv4 _ (Lr _ (Bp (Dx0 _ _ fun a _=>Go6 a) (Lr _ (Lr _ (Lr _ Fg)))))))
theorem Go7 (t:Typ):zT (Bt6 t):=Lr _ (Bp (Iu Fg (Dx1 _)) (Bp (Fz5 _ _) (Lr _ (Lr _ Fg))))
theorem Go8 (t:Typ):zT (Jz t):=
 Iu (Lr _ (Bp (Bu6 _) (Lr _ Fg))) (Iu (Lr _ (Ag6 _ _)) (Iu (Lr _ (Cl7 _)) (Iu (Lr _ (Lr _ (Bp (Fh8 _) (Lr _ (Lr _ (Cl7 _)))))) (Iu (Lr _ (Cl7 _))
  (Iu (Bp (Iu (Lr _ Fg) Fg) (Lr _ Fg)) (Iu (Lr _ (Lr _ Fg)) (Go7 t)))))))
theorem Bu7 {ts:List Tok} (h:zT ts):Pre ts 0 ts:=⟨Nat.zero_le _,by rw[Gm6 h,jJ];exact List.prefix_rfl⟩
theorem Go9 {ts:List Tok}:tk ts (0+ts.length)=Ap9:=Bo1 (by omega)
theorem Bh5 {ts:List Tok} (W:List (List UInt8)):nof W (tk ts (0+ts.length)):=by rw[Go9];exact Gu1 W
theorem Fz6 {ts:List Tok} {s:List UInt8}:isW ts (0+ts.length) [s]=false:=Ad4 (Bh5 [s]) (by simp)
theorem Do8 {α γ:Type} {st:α->γ} {r:Re α} {c:α} {k:Nat} {fine:α->Bool} {same:α->α->Bool} {z:α} (h:Gvs st r (st c) (0+k)) (hf: ∀x y,st x=st y->fine x=fine y) (hs: ∀x y,st x=st y->same x y=true) (hm:fine c=true):
  ∃y,Lk r fine z=(y,(k:Int),0)/\same y c=true/\same c y=true/\st y=st c:=by
 obtain⟨y,rfl,C⟩:=h;exact⟨y,by rw[Lk,if_pos (by rw[hf _ _ C];exact hm),Nat.zero_add],hs _ _ C,hs _ _ C.symm,C⟩
theorem Cz8 {s:Dis} (hm:Fh s=true): ∃y,Pu (Lp s)=(y,((Lp s).length:Int),0)/\Mz y s=true/\Mz s y=true/\stD y=stD s:=
 Do8 (Cd4 hm (Bu7 (Fh8 s)) (Bh5 _)) (fun _ _=>Be9) Bu4 hm
theorem Cl9 {l:List Par} (hm:Jq l=true) (h0:l≠ []): ∃y,Ss (Mo l)=(y,((Mo l).length:Int),0)/\Ru Lv y l=true/\Ru Lv l y=true/\y.map stP=l.map stP:=by
 have C:=hm;rw[Jq,jF,List.all_eq_true] at C;exact Do8 (st:=List.map stP) (Cd3 (one:=Ba7 _) (g:=Nf) (st:=stP) (stb:=stP) Fy wF (fun t e=>e▸(by decide+kernel)) l h0 (fun b hb j hj hn=>Em5 (C.1 b hb) hj hn) (Bu7 (Cl8 _ _ _ fun p _=>Go4 p)) (Bh5 _) Fz6) (fun _ _=>Cl6) (fun _ _=>Ad7 Do5) hm
theorem Cz9 {t:Typ} (hm:Du t=true): ∃y,Lq (Jz t)=(y,((Jz t).length:Int),0)/\Yl y t=true/\Yl t y=true/\Nz y=Nz t:=
 Do8 (Em9 hm (Bu7 (Go8 t)) (Bh5 _)) (fun _ _=>Cz7) Do7 hm
def Cm {α:Type} (R:α->Nat->Prop) (r:Re α):Prop:= ∀x k',r= .ok x k'->R x k'
theorem Cm.then {α β:Type} {R:α->Nat->Prop} {S:β->Nat->Prop} {r:Re α} {f:α->Nat->Re β} (h:Cm R r) (g: ∀x n,R x n->Cm S (f x n)):Cm S (r.then f):=fun y k' e=>by
 cases r with
 | ok x k=>exact g x k (h x k rfl) y k' e
 | fail k=>cases e
 | long=>cases e
theorem Cm.ok {α:Type} {R:α->Nat->Prop} {x:α} {k:Nat} (h:R x k):Cm R (.ok x k):=fun y k' e=>by cases e;exact h
theorem Cm.fail {α:Type} {R:α->Nat->Prop} {k:Nat}:Cm R (.fail k):=fun y k' e=>by cases e
theorem Cm.must {α:Type} {R:α->Nat->Prop} {l:List Tok} {s:List UInt8} {k:Nat} {f:Nat->Re α} (h:Cm R (f (k+1))):Cm R (Dh l s k f):=by
 rw[Dh];split
 ·exact h
 ·exact .fail
theorem Cm.less {α:Type} {R S:α->Nat->Prop} {r:Re α} (h:Cm R r) (g: ∀x k,R x k->S x k):Cm S r:=fun x k e=>g x k (h x k e)
section
variable {l:List Tok} {k:Nat}
theorem Do9 (C:Nat) (D:C=0\/C=2) {x:Ex} {n:Int} (h:Fu l C=(x,n,0)):Ci x=true/\Ft x C<=n.toNat:=by
 have hp:=Fc8 (l:=l) (Dx l);rw[Fu,if_neg (by omega),jD] at h;have E:=Al1 (l:=l) C;cases hr:Ur l C with
 | bot=>exact absurd hr E
 | fail k=>rw[hr] at h;cases h
 | ok y k=>
  rw[hr] at h;dsimp only at h;by_cases c:Ci y=true
  ·rw[if_pos c] at h;cases h;refine⟨c, ?_⟩;rw[jD];rcases D with rfl | rfl
   ·have:=hp.expr 0 (Nat.zero_le _) x k hr;simpa using this
   ·have:=hp.simple 0 (Nat.zero_le _) x k hr;simpa using this
  ·rw[if_neg c] at h;cases h
theorem At8 {α:Type} {R:α->Nat->Prop} {y:α×Int×Int} (h: ∀x n,y=(x,n,0)->R x (k+n.toNat)):Cm R (Bs5 k y):=fun x k' e=>by
 rw[Bs5] at e;split at e
 ·rename_i c
  cases e;exact h _ _ (by rw[<-c])
 ·split at e<;>cases e
theorem Fi0 (C:Nat) (D:C=0\/C=2):Cm (fun x k'=>Ci x=true/\Ft x C+k<=k') (exR l C k):=by
 rw[exR];refine At8 fun x n e=> ?_;obtain⟨h1,h2⟩:=Do9 C D e;exact⟨h1,by omega⟩
theorem Gx1:Cm (fun x k'=>Ci x=true/\(Ar x 2).length+k<=k') (exR l 2 k):=Fi0 2 (.inr rfl)
theorem Gx2:Cm (fun x k'=>Ci x=true/\(Ai x).length+k<=k') (exR l 0 k):=(Fi0 0 (.inl rfl)).less fun x k' h=>⟨h.1,by rw[<-Ac1];exact h.2⟩
theorem Gz6:Cm (fun x k'=>(Dm Gg (x.map Cs)).length+k<=k') (chR l k):=by
 rw[chR];refine At8 fun x n e=> ?_;have hp:=Fc8 (l:=l.drop k) (Dx (l.drop k));have E:=Af7 (l:=l.drop k);rw[Jo] at e;cases hr:Al0 (l.drop k) with
 | bot=>exact absurd hr E
 | fail j=>rw[hr] at e;cases e
 | ok y j=>
  rw[hr] at e;dsimp only at e;by_cases c:Kq y=true
  ·rw[if_pos c] at e;cases e;have hq:Gh (fun b k'=>Ar0 b<=k'+1/\b≠ []) (Al0 (l.drop k)):=by
    have ha:=Fb9.choice (l:=l.drop k) 0 (Nat.zero_le _);exact Ap (Bi (hp.choice 0 (Nat.zero_le _)) (Bj ha)) fun z n ⟨h1,h2⟩ b k' e=>by
     obtain⟨D,C⟩:=hp.choicesL [z] n h2.2 b k' e;rw[Cb6] at D;exact⟨by omega,C (by simp)⟩
   obtain⟨D,C⟩:=hq _ _ hr;have I:=Cw7 x C Gg;rw[jD];omega
  ·rw[if_neg c] at e;cases e
theorem Gv5:Cm (fun s k'=>k'=k+1) (Lx l k):=by
 rw[Lx];split
 ·exact .ok rfl
 ·exact .fail
theorem Ag7 {α:Type} {one:Nat->Re α} {more:Nat->Option Nat} {Inv:List α->Nat->Prop} (h: ∀xs k j,Inv xs k->more k=some j->Cm (fun x k'=>Inv (xs++ [x]) k') (one j)): ∀(n:Nat) (xs:List α) (k:Nat),Inv xs k->Cm Inv (Uk one more n xs k)
 | 0,_,_,_=>fun y k' e=>by cases e
 | n+1,xs,k,hk=>by
  rw[Uk];cases hm:more k with
  | none=>exact .ok hk
  | some j=>exact(h xs k j hk hm).then fun x i hx=>Ag7 h n (xs++ [x]) i hx
theorem Da0 {α:Type} {one:Nat->Re α} {g:α->List Tok} (s:List UInt8) (h1: ∀k,Cm (fun x k'=>(g x).length+k<=k') (one k)):Cm (fun ys k'=>ys≠ []/\(Dm s (ys.map g)).length+k<=k') (Am3 l one (byW l s) k):=by
 have key:Cm (fun ys k'=>ys≠ []/\Yg (ys.map g)+k<=k'+1) (Am3 l one (byW l s) k):=
  (h1 k).then fun x i hx=>Ag7 (Inv:=fun ys k'=>ys≠ []/\Yg (ys.map g)+k<=k'+1) (fun xs k1 j hk hm=>by
   have hj:j=k1+1:=by
    rw[byW] at hm;split at hm
    ·cases hm;rfl
    ·cases hm
   subst hj;exact(h1 (k1+1)).less fun x k' hx=>⟨by simp,by
    rw[List.map_append,jN,jP,Af5];have:=hk.2;omega⟩) _ [x] i ⟨by simp,by rw[jN,jP];simp only[Yg,jN,jP,List.sum_cons,List.sum_nil];omega⟩
 exact key.less fun ys k' ⟨a,b⟩=>⟨a,by
  have:=Bp5 s (ys.map g) (by simpa using a);omega⟩
theorem Da1 {α:Type} {one:Nat->Re α} {more:Nat->Option Nat} {g:α->List Tok} (C: ∀k j,more k=some j->j=k) (h1: ∀k,Cm (fun x k'=>(g x).length+k<=k') (one k)):Cm (fun ys k'=>ys≠ []/\(ys.flatMap g).length+k<=k') (Am3 l one more k):=
 (h1 k).then fun x i hx=>Ag7 (Inv:=fun ys k'=>ys≠ []/\(ys.flatMap g).length+k<=k') (fun xs k1 j hk hm=>by
  have hj:=C _ _ hm;subst hj;exact(h1 j).less fun x k' hx=>⟨by simp,by
   rw[List.flatMap_append,jC,List.flatMap_singleton];have:=hk.2;omega⟩) _ [x] i ⟨by simp,by rw[List.flatMap_singleton];omega⟩
theorem Gq5:Cm (fun ns k'=>ns≠ []/\(Cw ns).length+k<=k') (Wc l k):=
 Da0 (g:=fun s=> [Dw s]) Ee fun k=>Gv5.less fun s k' h=>by simp;omega
theorem Cd7 (line:Int): ∀(n:Nat) (x:Ex) (k:Nat),Cm (fun y k'=>(Ai y).length+k<=(Ai x).length+k') (markL l line n x k)
 | 0,_,_=>fun y k' e=>by cases e
 | n+1,x,k=>by
  rw[markL];split
  ·refine Gv5.then fun s i hi=>(Cd7 line n (.mk 4 0 0 s [x] [] line 0 0) i).less fun y k' h=> ?_
   rw[show Ai (.mk 4 0 0 s [x] [] line 0 0)=Ai x++ [Ah Jj,Dw s] from Cb4 rfl] at h;simp at h;omega
  ·exact .ok (Nat.le_refl _)
theorem Gv6:Cm (fun y k'=>(Ai y).length+k<=k') (Zg l k):=
 Gv5.then fun s i hi=>(Cd7 _ _ _ i).less fun y k' h=>by
  rw[show Ai (.mk 3 0 0 s [] [] (tk l k).line 0 0)= [Dw s] from Bo9 rfl] at h;simp at h;omega
theorem Gq6:Cm (fun x k'=>Ci x.1=true/\Ci x.2=true/\(Dj x.1 x.2).length+k<=k') (Rl l k):=
 Gx1.then fun a i ha=> .must (Gx1.then fun b i hb=> .ok ⟨ha.1,hb.1,by have:=ha.2;have:=hb.2;rw[Bt5];dsimp only;omega⟩)
theorem Ys:noE ex0=true:=Gx0.2 rfl
theorem Gx3:Cm (fun x k'=>(In x).length+k<=k') (Wd l k):=
 Gv6.then fun m i hm=>by
  split
  ·exact Gq6.then fun b i hb=> .ok (by rw[In,Ys,if_pos rfl,Am5 hb.1,if_neg (by simp),jC,jA];have:=hb.2.2;dsimp only;omega)
  split
  ·exact Gx2.then fun v i hv=> .must (.ok (by rw[In,Am5 hv.1,if_neg (by simp)];simp only[jC,jA,jB];have:=hv.2;omega))
  ·exact .ok (by rw[In,Ys,if_pos rfl,if_pos rfl];simpa using hm)
theorem Fz7:Cm (fun x k'=>(Lp x).length+k<=k') (Am4 l k):=
 Gx1.then fun x i hx=>by
  have D:(Ai x).length<=(Ar x 2).length:=by rw[Ar,Ub];omega
  split
  ·exact Gx1.then fun y i C=> .ok (by rw[Lp,Am5 hx.1,if_neg (by simp),Ys,if_pos rfl,Bt5];have:=hx.2;have:=C.2;dsimp only;omega)
  split
  ·rename_i c
   rw[jF] at c;exact Gq6.then fun b i hb=> .ok (by rw[Lp,Am5 hb.1,if_neg (by simp),Am5 hx.1,if_neg (by simp),jC,jA];have:=hx.2;have:=hb.2.2;dsimp only;omega)
  split
  ·exact .fail
  ·exact .ok (by rw[Lp,Ys,if_pos rfl];have:=hx.2;dsimp only;omega)
theorem Gq7:Cm (fun x k'=>(Ny x).length+k<=k') (Pt l k):=by
 rw[Pt];split
 ·exact Gx2.less fun x k' h=>by rw[Ny,Am5 h.1,if_neg (by simp),jA];have:=h.2;omega
 ·exact .ok (by rw[Ny,Ys,if_pos rfl];simp)
theorem Fi1:(Qe (Xe l k).1).length+k<=(Xe l k).2:=by
 rw[Xe];split
 ·split
  ·simp [Qe];omega
  ·simp [Qe]
 ·split
  ·simp [Qe];omega
  ·simp [Qe]
theorem Fz8:Cm (fun x k'=>(Nf x).length+k<=k') (Ba7 l k):=
 Gq5.then fun n i hn=> .must (Gv6.then fun t j ht=>Gq7.then fun e j he=> .ok (by
  have:=Fi1 (l:=l) (k:=i+1);have:=hn.2;rw[Nf];simp only[jC,jA];omega))
theorem Fz9:Cm (fun x k'=>(Uj x).length+k<=k') (Bs6 l k):=
 Gq5.then fun n i hn=> .must (Gx3.then fun s i hs=>Gq7.then fun e i he=> .must (.ok (by
  have:=hn.2;rw[Uj];simp only[jC,jA,jB];omega)))
theorem Gv7:Cm (fun x k'=>(Hf x).length+k<=k') (Qj l k):=by
 rw[Qj];split
 ·exact .must (.ok (by rw[Hf];simp;omega))
 ·exact(Da1 (g:=Uj) (fun k j h=>by
   rw[byN] at h;split at h
   ·cases h;rfl
   ·cases h) fun k=>Fz9).less fun x k' h=>by
    rw[Hf,if_neg (by simpa using h.1)];exact h.2
theorem Ga0:Cm (fun x k'=>(Sv x).length+k<=k') (Bs7 l k):=
 .must (Gz6.then fun c i hc=> .must (Gv7.then fun m i hm=> .ok (by
  rw[Sv];simp only[jC,jA];omega)))
theorem Gv8:Cm (fun x k'=>(x.flatMap Sv).length+k<=k') (Ai3 l k):=
 (Da1 (g:=Sv) (fun k j h=>by
   rw[byI] at h;split at h
   ·cases h;rfl
   ·cases h) fun k=>Ga0).less fun x k' h=>h.2
theorem Gx4:Cm (fun x k'=>x.kind=5/\(Bt6 x).length+k<=k'+1/\2+k<=k') (Ck6 l k):=by
 have h1:Cm (fun x k'=>(if x.isEmpty then [] else Hf x).length+k<=k') (if(tk l k).kind=1\/isW l k [Fm]=true then Qj l k else .ok [] k):=by
  split
  ·exact Gv7.less fun x k' h=>by
    split
    ·rename_i c;rw[Hf,if_pos c] at h;simp at h⊢;omega
    ·exact h
  ·exact .ok (by simp)
 refine h1.then fun c i hc=> ?_
 have h2:Cm (fun x k'=>(Pw x.1 x.2).length+i<=k') (if isW l i [Kd] then(Lx l (i+1)).then fun v i=>Dh l wIs i fun i=>(Ai3 l i).then fun a i=>Dh l Pz i fun i=>Dh l Kd i fun i=>Dh l Fy i fun i=> .ok (v,a) i else .ok ([],[]) i):=by
  split
  ·exact Gv5.then fun v j hv=> .must (Gv8.then fun a j ha=> .must (.must (.must (.ok (by
    rw[Pw];split
    ·simp;omega
    ·simp only[jC,jA,jB];omega)))))
  ·exact .ok (by rw[Pw,if_pos rfl];simp)
 refine h2.then fun C D hv=> .must (.must (.ok ⟨rfl, ?_,by omega⟩))
 rw[Bt6];simp only[jC,jA,jB];omega
theorem Ga1:Cm (fun x k'=>(Jz x).length+k<=k') (Se l k):=by
 rw[Se];split
 ·exact Gq5.then fun n i hn=> .must (.ok (by
   have:=hn.2;rw[Jz];simp [Ed];omega))
 split
 ·exact Gq6.then fun b i hb=> .ok (by
   have:=hb.2.2;rw[Jz];simp [Ed];omega)
 split
 ·exact .must (Fz7.then fun d i hd=> .must (.must (Gx3.then fun s i hs=> .ok (by
   rw[Jz];simp [Ed];omega))))
 split
 ·exact Gx4.less fun x k' h=>by
   obtain⟨h1,h2,h3⟩:=h;rw[Jz,if_neg (by omega),if_neg (by omega),if_neg (by omega),if_neg (by omega),if_neg (by omega),if_neg (by omega)];split
   ·simp only[jA,jB];omega
   ·omega
 split
 ·exact Gx3.then fun s i hs=> .ok (by rw[Jz];simp [Ed];omega)
 split
 ·exact Gx3.then fun s i hs=> .ok (by rw[Jz];simp [Ed];omega)
 split
 ·exact .ok (by rw[Jz];simp [Ed];omega)
 split
 ·exact .must (.ok (by rw[Jz];simp [Ed];omega))
 split
 ·exact .must (.ok (by rw[Jz];simp [Ed];omega))
 ·exact .fail
inductive AgainR (l:List Tok) {α:Type} (front:List Tok->α×Int×Int) (z:α) (fine:α->Bool) (toks:α->List Tok) (same:α->α->Bool):Prop where
 | fail (k:Nat):k<=l.length->front l=(z,(k:Int),40)->AgainR l front z fine toks same
 | long:front l=(z,0,3)->AgainR l front z fine toks same
 | ok (x y:α) (k:Nat):front l=(x,(k:Int),0)->k<=l.length->fine x=true->(toks x).length<=k->front (toks x)=(y,((toks x).length:Int),0)->same x y=true->AgainR l front z fine toks same
theorem Dp0 {α:Type} {r:Re α} {front:List Tok->α×Int×Int} {z:α} {fine:α->Bool} {toks:α->List Tok} {same:α->α->Bool} (e:front l=Lk r fine z) (ha:Js l 1 r) (hl:Cm (fun x k'=>(toks x).length+0<=k') r)
  (hb: ∀x,fine x=true->(∃k,r= .ok x k)-> ∃y,front (toks x)=(y,((toks x).length:Int),0)/\same x y=true):AgainR l front z fine toks same:=by
 cases hr:r with
 | fail k=>rw[hr] at ha e;exact .fail k ha e
 | long=>rw[hr] at e;exact .long e
 | ok x k=>
  have hx:=hl x k hr;rw[hr] at ha e;cases c:fine x with
  | false=>rw[Lk,c,if_neg (by simp)] at e;exact .long e
  | true=>
   rw[Lk,c,if_pos rfl] at e;obtain⟨y,h1,h2⟩:=hb x c ⟨k,hr⟩;exact .ok x y k e ha.2 c (by omega) h1 h2
theorem Fi2 (C:Js l 1 (Se l 0)):AgainR l Lq Ed Du Jz Yl:=Dp0 (front:=Lq) rfl C Ga1 fun x hx _=>by
 obtain⟨y,h1,_,h2,_⟩:=Cz9 hx;exact⟨y,h1,h2⟩
theorem Fi3 (C:Js l 1 (Am4 l 0)):AgainR l Pu Rt Fh Lp (fun x y=>Mz y x):=Dp0 (front:=Pu) rfl C Fz7 fun x hx _=>by
 obtain⟨y,h1,h2,_,_⟩:=Cz8 hx;exact⟨y,h1,h2⟩
theorem En1 (C:Js l 1 (At0 l 0)):AgainR l Ss [] Jq Mo (Ru Lv):=by
 have hn:Cm (fun ys k'=>ys≠ []/\(Dm Fy (ys.map Nf)).length+0<=k') (At0 l 0):=Da0 Fy fun k=>Fz8;refine Dp0 (front:=Ss) rfl C (hn.less fun x k' h=>h.2) fun x hx ⟨k,hk⟩=> ?_;obtain⟨y,h1,_,h2,_⟩:=Cl9 hx (hn _ _ hk).1;exact⟨y,h1,h2⟩
end
section
variable {l:List Tok} {k:Nat}
theorem Vs (C:Cg l) (k:Nat):Cg (l.drop k):=fun j=>by rw[At3];exact C (k+j)
theorem Ll {α:Type} {a:Nat} {r:Re α} (h:Js l a r):Cm (fun _ k'=>a<=k'/\k'<=l.length) r:=fun x k' e=>by rw[e] at h;exact h
theorem Lm {α:Type} {R S:α->Nat->Prop} {r:Re α} (h:Cm R r) (g:Cm S r):Cm (fun x k=>R x k/\S x k) r:=fun x k e=>⟨h x k e,g x k e⟩
theorem Fi4 (D:Cg l) (hl:l.length<=500000) (C:Nat) (E:C<=6):Cm (fun x _=>Dp 1048576 x) (exR l C k):=by
 rw[exR];refine At8 (R:=fun x _=>Dp 1048576 x) fun x n e=> ?_;have hf:=Cw9 (l:=l.drop k) (Vs D k) C;have ha:=Cj1 (l:=l.drop k) C;rw[Fu,if_neg (by omega),jD] at e;cases hr:Ur (l.drop k) C with
 | bot=>exact absurd hr (Al1 _)
 | fail j=>rw[hr] at e;cases e
 | ok y j=>
  rw[hr] at e ha;dsimp only at e;have h1:=hf y j hr;have h2:=ha.2;rw[List.length_drop] at h2;split at e
  ·cases e;have:=h1.1;exact⟨by omega,h1.2⟩
  ·cases e
theorem At9 (C:Cg l) (hl:l.length<=500000):Cm (fun x _=>Dp 1048576 x) (exR l 2 k):=Fi4 C hl 2 (by omega)
theorem Dx2 (C:Cg l) (hl:l.length<=500000):Cm (fun x _=>Dp 1048576 x) (exR l 0 k):=Fi4 C hl 0 (by omega)
theorem Gp0 (C:Cg l) (hl:l.length<=500000):Cm (fun x _=>Ck5 1048576 x) (chR l k):=by
 rw[chR];refine At8 (R:=fun x _=>Ck5 1048576 x) fun x n e=> ?_;have hf:=Cb8 (l:=l.drop k) (Vs C k);have ha:=Dw4 (l:=l.drop k);rw[Jo] at e;cases hr:Al0 (l.drop k) with
 | bot=>exact absurd hr Af7
 | fail j=>rw[hr] at e;cases e
 | ok y j=>
  rw[hr] at e ha;dsimp only at e;have h1:=hf y j hr;have h2:=ha.2;rw[List.length_drop] at h2;split at e
  ·cases e;have:=h1.1;exact⟨by omega,h1.2⟩
  ·cases e
theorem Au0 (C:Cg l):Cm (fun s _=>s.length<=9223372036854775807) (Lx l k):=by
 rw[Lx];split
 ·exact .ok (C k)
 ·exact .fail
theorem Bh6 {α:Type} {f:α->Prop} {one:Nat->Re α} {more:Nat->Option Nat} (ha: ∀k,k<=l.length->Js l (k+1) (one k)) (hm: ∀k j,k<=l.length->more k=some j->k<=j/\j<=l.length) (h1: ∀k,k<=l.length->Cm (fun x _=>f x) (one k)) (hk:k<=l.length) (hl:l.length<=500000):
  Cm (fun ys _=>ys.length<=1048576/\ ∀x∈ys,f x) (Am3 l one more k):=by
 have key:Cm (fun ys k'=>ys.length<=k'/\k'<=l.length/\ ∀x∈ys,f x) (Am3 l one more k):=
  (Lm (h1 k hk) (Ll (ha k hk))).then fun x i ⟨hx,M,D⟩=>Ag7 (Inv:=fun ys k'=>ys.length<=k'/\k'<=l.length/\ ∀x∈ys,f x) (fun xs k1 j ⟨O,E,I⟩ hj=>by
   obtain⟨S,C⟩:=hm k1 j E hj;exact(Lm (h1 j C) (Ll (ha j C))).less fun y k' ⟨J,U,L⟩=>⟨by rw[jC,jQ];omega,L,fun z hz=>by
    rcases List.mem_append.1 hz with h | h
    ·exact I z h
    ·rw[List.mem_singleton.1 h];exact J⟩) _ [x] i ⟨by rw[jQ];omega,D,fun z hz=>by rw[List.mem_singleton.1 hz];exact hx⟩
 exact key.less fun ys k' ⟨a,b,c⟩=>⟨by omega,c⟩
theorem Ba9 (C:Cg l) (hl:l.length<=500000) (hk:k<=l.length):Cm (fun ns _=>Be0 1048576 ns) (Wc l k):=
 Bh6 (fun _ h=>Js.name h) Ag4 (fun k _=>Au0 C) hk hl
theorem Cj:Dp 1048576 ex0:=⟨by decide,by simp [ex0,okE,okL,Pc]⟩
theorem Rb:Be1 1048576 Ut:=⟨Cj,Cj,Cj,Cj⟩
theorem Ln:Ai2 1048576 Rt:=⟨Cj,Cj,Cj⟩
theorem Cd8 (C:Cg l) (line:Int): ∀(n:Nat) (x:Ex) (k:Nat),k<=l.length->Fo x<=k/\okE x->Cm (fun y k'=>Fo y<=k'/\k'<=l.length/\okE y) (markL l line n x k)
 | 0,_,_,_,_=>fun y k' e=>by cases e
 | n+1,x,k,hk,hx=>by
  rw[markL];split
  ·exact(Lm (Au0 C) (Ll (Js.name (Dg ‹_› hk)))).then fun s i ⟨hs,E,D⟩=>Cd8 C line n _ i D ⟨by simp only[Fo,Mg,Fx];omega,by simp only[okE,okL,Pc];exact⟨hs,⟨hx.2,trivial⟩,trivial⟩⟩
  ·exact .ok ⟨hx.1,hk,hx.2⟩
theorem Da2 (C:Cg l) (hl:l.length<=500000) (hk:k<=l.length):Cm (fun x _=>Dp 1048576 x) (Zg l k):=
 (Lm (Au0 C) (Ll (Js.name hk))).then fun s i ⟨hs,E,D⟩=>(Cd8 C _ _ _ i D ⟨by simp only[Fo,Mg,Fx];omega,by simp only[okE,okL,Pc];exact⟨hs,trivial,trivial⟩⟩).less fun y k' ⟨a,b,c⟩=>⟨by omega,c⟩
theorem Am6 (C:Cg l) (hl:l.length<=500000):Cm (fun x _=>Dp 1048576 x.1/\Dp 1048576 x.2) (Rl l k):=
 (At9 C hl).then fun a i ha=> .must ((At9 C hl).then fun b i hb=> .ok ⟨ha,hb⟩)
theorem Ag8 (C:Cg l) (hl:l.length<=500000) (hk:k<=l.length):Cm (fun x _=>Be1 1048576 x) (Wd l k):=
 (Da2 C hl hk).then fun m i hm=>by
  split
  ·exact(Am6 C hl).then fun b i hb=> .ok ⟨hm,hb.1,hb.2,Cj⟩
  split
  ·exact(Dx2 C hl).then fun v i hv=> .must (.ok ⟨hm,Cj,Cj,hv⟩)
  ·exact .ok ⟨hm,Cj,Cj,Cj⟩
theorem Au1 (C:Cg l) (hl:l.length<=500000):Cm (fun x _=>Ai2 1048576 x) (Am4 l k):=
 (At9 C hl).then fun x i hx=>by
  split
  ·exact(At9 C hl).then fun y i D=> .ok ⟨Cj,hx,D⟩
  split
  ·exact(Am6 C hl).then fun b i hb=> .ok ⟨hx,hb.1,hb.2⟩
  split
  ·exact .fail
  ·exact .ok ⟨hx,Cj,Cj⟩
theorem Cd9 (C:Cg l) (hl:l.length<=500000):Cm (fun x _=>Dp 1048576 x) (Pt l k):=by
 rw[Pt];split
 ·exact Dx2 C hl
 ·exact .ok Cj
theorem Ms {α:Type} {R:α->Nat->Prop} {s:List UInt8} {f:Nat->Re α} (hk:k<=l.length) (h:k+1<=l.length->Cm R (f (k+1))):Cm R (Dh l s k f):=by
 rw[Dh];split
 ·exact h (Dg ‹_› hk)
 ·exact .fail
theorem Ga2 (C:Cg l) (hl:l.length<=500000) (hk:k<=l.length):Cm (fun x _=>Si 1048576 x) (Ba7 l k):=
 (Lm (Ba9 C hl hk) (Ll (Js.names hk))).then fun n i ⟨hn,I,D⟩=>Ms D fun E=>(Da2 C hl (Cz2 E).2).then fun t j ht=>(Cd9 C hl).then fun e j he=> .ok ⟨hn,ht,he⟩
theorem Au2 (C:Cg l) (hl:l.length<=500000) (hk:k<=l.length):Cm (fun x _=>Ks Si 1048576 x) (At0 l k):=
 Bh6 (fun _ h=>Js.par h) Ag4 (fun k hk=>Ga2 C hl hk) hk hl
theorem Ga3 (C:Cg l) (hl:l.length<=500000) (hk:k<=l.length):Cm (fun x _=>Sj 1048576 x) (Bs6 l k):=
 (Lm (Ba9 C hl hk) (Ll (Js.names hk))).then fun n i ⟨hn,I,D⟩=>Ms D fun E=>(Ag8 C hl E).then fun s i hs=>(Cd9 C hl).then fun e i he=> .must (.ok ⟨hn,hs,he⟩)
theorem Da3 (C:Cg l) (hl:l.length<=500000) (hk:k<=l.length):Cm (fun x _=>Ks Sj 1048576 x) (Qj l k):=by
 rw[Qj];split
 ·exact .must (.ok ⟨by simp,fun x h=>by cases h⟩)
 ·exact Bh6 (fun _ h=>Js.cmp h) Bh3 (fun k hk=>Ga3 C hl hk) hk hl
theorem Ga4 (C:Cg l) (hl:l.length<=500000) (hk:k<=l.length):Cm (fun x _=>Be2 1048576 x) (Bs7 l k):=
 Ms hk fun h1=>(Lm (Gp0 C hl) (Ll (Js.ch h1))).then fun c i ⟨hc,E,D⟩=>Ms D fun h2=>(Da3 C hl h2).then fun m i hm=> .ok ⟨hc,hm⟩
theorem Fi5 (C:Cg l) (hl:l.length<=500000) (hk:k<=l.length):Cm (fun x _=>Ks Be2 1048576 x) (Ai3 l k):=
 Bh6 (fun _ h=>Js.arm h) Ck7 (fun k hk=>Ga4 C hl hk) hk hl
theorem Ep {α:Type} {f:Nat->α->Prop}:Ks f 1048576 []:=⟨by simp,fun x h=>by cases h⟩
theorem Jt:Be0 1048576 []:=⟨by simp,fun x h=>by cases h⟩
theorem Ga5 (C:Cg l) (hl:l.length<=500000) (hk:k<=l.length):Cm (fun x _=>Oy 1048576 x) (Ck6 l k):=by
 have h1:Cm (fun x k'=>Ks Sj 1048576 x/\k<=k'/\k'<=l.length) (if(tk l k).kind=1\/isW l k [Fm]=true then Qj l k else .ok [] k):=by
  split
  ·exact(Lm (Da3 C hl hk) (Ll (Js.cmps hk))).less fun x k' ⟨a,b,c⟩=>⟨a,by omega,c⟩
  ·exact .ok ⟨Ep,Nat.le_refl _,hk⟩
 refine h1.then fun c i ⟨hc,J,D⟩=> ?_
 have h2:Cm (fun(x:List UInt8×List Arm) (_:Nat)=>x.1.length<=9223372036854775807/\Ks Be2 1048576 x.2) (if isW l i [Kd] then(Lx l (i+1)).then fun v i=>Dh l wIs i fun i=>(Ai3 l i).then fun a i=>Dh l Pz i fun i=>Dh l Kd i fun i=>Dh l Fy i fun i=> .ok (v,a) i else .ok ([],[]) i):=by
  split
  ·exact(Lm (Au0 C) (Ll (Js.name (Dg ‹_› D)))).then fun v j ⟨hv,L,E⟩=>Ms E fun I=>(Fi5 C hl I).then fun a j ha=> .must (.must (.must (.ok ⟨hv,ha⟩)))
  ·exact .ok ⟨by simp,Ep⟩
 exact h2.then fun M D hv=> .must (.must (.ok ⟨Jt,Cj,Cj,Rb,Ln,hc,⟨hv.1,by simp,by simp⟩,hv.2⟩))
theorem Bh7 (C:Cg l) (hl:l.length<=500000) (hk:k<=l.length):Cm (fun x _=>Oy 1048576 x) (Se l k):=by
 rw[Se];split
 ·exact(Ba9 C hl (Dg ‹_› hk)).then fun n i hn=> .must (.ok ⟨hn,Cj,Cj,Rb,Ln,Ep,⟨by simp [Ed],by simp [Ed],by simp [Ed]⟩,Ep⟩)
 split
 ·exact(Am6 C hl).then fun b i hb=> .ok ⟨Jt,hb.1,hb.2,Rb,Ln,Ep,⟨by simp [Ed],by simp [Ed],by simp [Ed]⟩,Ep⟩
 split
 ·exact Ms (Dg ‹_› hk) fun h1=>(Lm (Au1 C hl) (Ll (Js.dis h1))).then fun d i ⟨hd,J,D⟩=>Ms D fun E=>Ms E fun I=>(Ag8 C hl I).then fun s i hs=> .ok ⟨Jt,Cj,Cj,hs,hd,Ep,⟨by simp [Ed],by simp [Ed],by simp [Ed]⟩,Ep⟩
 split
 ·exact Ga5 C hl (Dg ‹_› hk)
 split
 ·exact(Ag8 C hl (Dg ‹_› hk)).then fun s i hs=> .ok ⟨Jt,Cj,Cj,hs,Ln,Ep,⟨by simp [Ed],by simp [Ed],by simp [Ed]⟩,Ep⟩
 split
 ·exact(Ag8 C hl (Dg ‹_› hk)).then fun s i hs=> .ok ⟨Jt,Cj,Cj,hs,Ln,Ep,⟨by simp [Ed],by simp [Ed],by simp [Ed]⟩,Ep⟩
 split
 ·exact .ok ⟨Jt,Cj,Cj,Rb,Ln,Ep,⟨by simp [Ed],by simp [Ed],by simp [Ed]⟩,Ep⟩
 split
 ·exact .must (.ok ⟨Jt,Cj,Cj,Rb,Ln,Ep,⟨by simp [Ed],by simp [Ed],by simp [Ed]⟩,Ep⟩)
 split
 ·exact .must (.ok ⟨Jt,Cj,Cj,Rb,Ln,Ep,⟨by simp [Ed],by simp [Ed],by simp [Ed]⟩,Ep⟩)
 ·exact .fail
end
end Go.Dl
-- Hm
namespace Go.Dl
open Go Go.Proofs
set_option maxRecDepth 100000
section
variable {G:Nat->DVal} {r:Nat} {l:List Tok}
theorem Cm0 {C K:Ac} {D kk:Nat} {cs:List DVal} {x:Ex} {env:Nat->DVal} (E:K D=some (.cells cs 27)) (hr:K r=some (srO l kk)) (I: ∀b,b≠D->b≠r->C b≠none->K b=C b) (O:D≠r) (L:C D=none) (M:C r≠none)
  (hs: ∀T:Ac,(∀b,K b=none->T b=none)->(∀b,C b=none->b≠D->T b=none)->Lf K cs T (dEx x)):Rz G ⟨env,K⟩ ⟨env,upd (upd C r (some (srO l kk))) D (some (.cells (dEx x) 27))⟩:=by
 refine Rz.cell E (fun b o hb=> ?_) (hs _ (fun b hb=> ?_) fun b hb n=> ?_)
 ·simp only[upd] at hb;by_cases c:b=r
  ·subst c;rw[if_pos rfl] at hb;rw[hr];exact hb
  ·rw[if_neg c] at hb;rw[I b (fun e=>by subst e;rw[L] at hb;cases hb) c (by rw[hb];simp)];exact hb
 ·have J:b≠D:=fun e=>by subst e;rw[E] at hb;cases hb
  have c:b≠r:=fun e=>by subst e;rw[hr] at hb;cases hb
  simp only[upd];rw[if_neg J,if_neg c];cases hbb:C b with
  | none=>rfl
  | some o=>rw[I b J c (by rw[hbb];simp),hbb] at hb;cases hb
 ·have c:b≠r:=fun e=>by subst e;exact M hb
  simp only[upd];rw[if_neg n,if_neg c];exact hb
set_option maxHeartbeats 4000000 in
theorem Bu8 (hG:GX G) (hT:Cg l) (am:l.length<=500000):SrF Tryz.prog G l r 218 [] (fun k=>(Zg l k).mp dE):=by
 have hl:l.length<=800000:=by omega
 intro B k hr hk;dsimp only;refine Ab Tryz.func218 Tryz.call218 rfl (by kernel_rfl) ?_;simp(disch:=omega)only[go_sem];intro O S;dsimp only at S;have L:r≠O:=Af S hr;have C:=L.symm;simp(disch:=omega)only[go_sem];refine Ag.monoR (Mq G _ (Ae hr L) (by omega) (by omega)) ?_;simp(disch:=omega)only[go_sem,Cq];obtain⟨li,af⟩: ∃li,li=(tk l k).line:=⟨_,rfl⟩;rw[<-af];refine ReC (Qz G hl _ k (Ae hr L) hk) (Js.name hk) ?_ ?_ ?_
 ·intro s k1 hs h1 h2;simp(disch:=omega)only[go_sem];intro r4 ag;dsimp only at ag;obtain⟨D,J,ah⟩:=Ba.1 ag;obtain⟨aa,ab,ac⟩:=Ba.1 ah;simp(disch:=omega)only[go_sem,C,L,D,J,aa,ab];have hR:(Zg l k)=markL l li (l.length+1) (.mk 3 0 0 s [] [] li 0 0) k1:=by rw[Zg,hs,<-af];rfl
  rw[hR];obtain⟨x0,ai⟩: ∃x0,x0=Ex.mk 3 0 0 s [] [] li 0 0:=⟨_,rfl⟩;rw[<-ai];have b4:upd B O (some (.cells [.int .u8 0, .int .u8 0, .int .i64 0, .str [], .nilSlice, .nilSlice, .int .i64 0, .int .i64 0, .int .i64 0] 27)) r4=none:=ah;have br:upd B O (some (.cells [.int .u8 0, .int .u8 0, .int .i64 0, .str [], .nilSlice, .nilSlice, .int .i64 0, .int .i64 0, .int .i64 0] 27)) r≠none:=by rw[Am _ _ _ _ L,hr];simp
  obtain⟨I,hI⟩: ∃I:Nat×Ex×Nat->(Nat->DVal)->Ac->Prop,∀s env heap,I s env heap↔(env 0= .optr r 0/\env 2= .optr O 0/\env 3=dI li/\env 4= .optr r4 0/\s.2.2<=l.length/\l.length<s.1+s.2.2/\markL l li s.1 s.2.1 s.2.2=markL l li (l.length+1) x0 k1/\heap=upd (upd (upd B O (some (.cells [.int .u8 0, .int .u8 0, .int .i64 0, .str [], .nilSlice, .nilSlice, .int .i64 0, .int .i64 0, .int .i64 0] 27))) r (some (srO l s.2.2))) r4 (some (.cells (dEx s.2.1) 27))):=⟨_,fun _ _ _=>Iff.rfl⟩;refine Dr7.runG I (fun s=>s.1) (l.length+1,x0,k1) ⟨_,upd (upd (upd B O (some (.cells [.int .u8 0, .int .u8 0, .int .i64 0, .str [], .nilSlice, .nilSlice, .int .i64 0, .int .i64 0, .int .i64 0] 27))) r (some (srO l k1))) r4 (some (.cells (dEx x0) 27))⟩ (Cm0 (Aa _ _ _) (Ae (Aa _ _ _) J) (fun b c4 c _=>by simp only[upd];rw[if_neg c4,if_neg c]) D b4 br fun T hd _=> ?_) ((hI _ _ _).2 ?_) ?_
  ·rw[ai];exact Lf.exD hd (.exs0D hd) (.as0D hd)
  ·simp(disch:=omega)only[go_sem]
  ·rintro⟨n,x,k2⟩ env heap hi;obtain⟨U,V,W,X,aj,hn,E,rfl⟩:=(hI _ _ _).1 hi;dsimp only at aj hn E;obtain⟨m,rfl⟩: ∃m,n=m+1:=⟨n-1,by omega⟩;rw[markL] at E;simp(disch:=omega)only[go_sem,U,V,W,X];refine SrM (Tj hG _ _ (Ae (Aa _ _ _) J) (by omega) (by omega)) (Ae (Aa _ _ _) J) aj ?_ ?_
   ·intro hw ad;rw[show isW l k2 [Jj]=true from hw,if_pos rfl] at E;simp(disch:=omega)only[go_sem,U,V,W,X];refine Ak (by kernel_rfl) (.take 0 (.take 2 (.take 4 (.alt (.go 3 [0] (.go 1 [] (.take 5 (.go 6 [] .done)))) (.go 1 [] (.go 3 [0] (.take 5 (.go 6 [] .done)))))))) (by kernel_rfl) ?_;simp(disch:=omega)only[go_sem,U,V,W,X,D,J,L,C,aa,ab,Ad];have adv:=Js.name ad;refine And.intro ?_ ?_
    ·refine ReC (Qz G hl _ (k2+1) (Aa _ _ _) ad) adv ?_ ?_ ?_
     ·intro s1 k3 M ak al;simp(disch:=omega)only[go_sem,U,V,W,X,D,J,L,C,aa,ab,Ad];intro q hq;dsimp only at hq;obtain⟨Y,a2,hq⟩:=Ba.1 hq;obtain⟨Z,a4,hq⟩:=Ba.1 hq;obtain⟨-,-,hq⟩:=Ba.1 hq;have bq:upd B O (some (.cells [.int .u8 0, .int .u8 0, .int .i64 0, .str [], .nilSlice, .nilSlice, .int .i64 0, .int .i64 0, .int .i64 0] 27)) q=none:=hq;obtain⟨a5,a6,ae⟩:=Ba.1 hq;simp(disch:=omega)only[go_sem,U,V,W,X,D,J,L,C,aa,ab,Ad,Y,a2,Z,a4,a5,a6];refine⟨(m, .mk 4 0 0 s1 [x] [] li 0 0,k3),⟨_,upd (upd (upd B O (some (.cells [.int .u8 0, .int .u8 0, .int .i64 0, .str [], .nilSlice, .nilSlice, .int .i64 0, .int .i64 0, .int .i64 0] 27))) r (some (srO l k3))) r4 (some (.cells (dEx (.mk 4 0 0 s1 [x] [] li 0 0)) 27))⟩,Cm0 (l:=l) (kk:=k3) (Aa _ _ _) (by simp [upd,J,a2]) (fun b c4 c hb=> ?_) D b4 br (fun T hd hT=>Lf.exD hd ?_ (.as0D hd)),(hI _ _ _).2 ?_,by dsimp only;omega⟩
      ·have:b≠q:=fun e=>by subst e;exact hb bq
       simp [upd,c4,c,this]
      ·show Mh _ _ _ (.vslice ([x].flatMap dEx) 1);rw[List.flatMap_singleton];exact Mh.cellsD (e:=27) (hT q bq Z) (by simp [upd,Y,Z]) (by rw[Ad]) (Lf.keepD hd _)
      ·rw[M] at E;simp(disch:=omega)only[go_sem,U,V,W,X];(repeat' apply And.intro)<;>(try first | rfl | assumption | omega)
     ·intro i j M;rw[M] at E;simp(disch:=omega)only[go_sem];rw[<-E];exact SRt.finP (((((SRt.refl hr).own S C _).set _).own ac D _).set j) ⟨rfl,j,rfl⟩
     ·intro j M;rw[M] at E;simp(disch:=omega)only[go_sem];rw[<-E];exact SRt.finP (((((SRt.refl hr).own S C _).set _).own ac D _).set j) ⟨rfl,j,rfl⟩
    ·intro q hq;dsimp only at hq;obtain⟨Y,a2,hq⟩:=Ba.1 hq;obtain⟨Z,a4,hq⟩:=Ba.1 hq;obtain⟨-,-,hq⟩:=Ba.1 hq;have bq:upd B O (some (.cells [.int .u8 0, .int .u8 0, .int .i64 0, .str [], .nilSlice, .nilSlice, .int .i64 0, .int .i64 0, .int .i64 0] 27)) q=none:=hq;obtain⟨a5,a6,ae⟩:=Ba.1 hq;simp(disch:=omega)only[go_sem,U,V,W,X,D,J,L,C,aa,ab,Ad,Y,a2,Z,a4,a5,a6];refine ReC (Qz G hl _ (k2+1) (Ae (Aa _ _ _) a2) ad) adv ?_ ?_ ?_
     ·intro s1 k3 M ak al;simp(disch:=omega)only[go_sem,U,V,W,X,D,J,L,C,aa,ab,Ad,Y,a2,Z,a4,a5,a6];refine⟨(m, .mk 4 0 0 s1 [x] [] li 0 0,k3),⟨_,upd (upd (upd B O (some (.cells [.int .u8 0, .int .u8 0, .int .i64 0, .str [], .nilSlice, .nilSlice, .int .i64 0, .int .i64 0, .int .i64 0] 27))) r (some (srO l k3))) r4 (some (.cells (dEx (.mk 4 0 0 s1 [x] [] li 0 0)) 27))⟩,Cm0 (l:=l) (kk:=k3) (Aa _ _ _) (by simp [upd,J,a2]) (fun b c4 c hb=> ?_) D b4 br (fun T hd hT=>Lf.exD hd ?_ (.as0D hd)),(hI _ _ _).2 ?_,by dsimp only;omega⟩
      ·have:b≠q:=fun e=>by subst e;exact hb bq
       simp [upd,c4,c,this]
      ·show Mh _ _ _ (.vslice ([x].flatMap dEx) 1);rw[List.flatMap_singleton];exact Mh.cellsD (e:=27) (hT q bq Z) (by simp [upd,Y,Z]) (by rw[Ad]) (Lf.keepD hd _)
      ·rw[M] at E;simp(disch:=omega)only[go_sem,U,V,W,X];(repeat' apply And.intro)<;>(try first | rfl | assumption | omega)
     ·intro i j M;rw[M] at E;simp(disch:=omega)only[go_sem];rw[<-E];exact SRt.finP ((((((SRt.refl hr).own S C _).set _).own ac D _).set _).own ae Y _ |>.set j) ⟨rfl,j,rfl⟩
     ·intro j M;rw[M] at E;simp(disch:=omega)only[go_sem];rw[<-E];exact SRt.finP ((((((SRt.refl hr).own S C _).set _).own ac D _).set _).own ae Y _ |>.set j) ⟨rfl,j,rfl⟩
   ·intro hw;rw[show isW l k2 [Jj]=false from hw,if_neg (by simp)] at E;simp(disch:=omega)only[go_sem,U,V,W,X,D,J,L,C,aa,ab,Ad];rw[<-E];apply SRt.fin (H0:=B) (r:=r) (l:=l)
    ·apply SRt.own (hx:=S) (hr:=C);apply SRt.own (hx:=ac) (hr:=D);apply SRt.set;apply SRt.own (hx:=S) (hr:=C);exact SRt.refl hr
    ·exact⟨rfl,rfl⟩
 ·intro i j hs;simp(disch:=omega)only[go_sem];exact SRt.finP (((SRt.refl hr).own S C _).set j) (by rw[Zg,hs];exact⟨rfl,j,rfl⟩)
 ·intro j hs;simp(disch:=omega)only[go_sem];exact SRt.finP (((SRt.refl hr).own S C _).set j) (by rw[Zg,hs];exact⟨rfl,j,rfl⟩)
end
section
variable {P:Program} {G:Nat->DVal} {f:FuncId} {args:List DVal} {H H0:Ac} {R:DEnd->Ac->Prop} {r k a:Nat} {l:List Tok}
def Wg:List DVal->List (List UInt8)
 | .str s::cs=>s::Wg cs
 | _=> []
def Bu9 (l:List Tok):List (List UInt8)->Nat->(Nat->Prop)->(Nat->Prop)->Prop
 | [],k,yes,_=>yes k
 | s::ws,k,yes,no=>(isW l k [s]=true->k+1<=l.length->Bu9 l ws (k+1) yes no)/\(isW l k [s]=false->no k)
theorem Fi6 (hG:GX G) (hl:l.length<=800000) (cs:List DVal) (C:(Wg cs).map .str=cs) {H:Ac} {q n m:Nat} (D:H q=none) (hr:H r=some (srO l k)) (hk:k<=l.length) (E:n=cs.length/\m=cs.length/\cs.length<=1000):
  Ag Tryz.prog G 199 [.optr r 0, .oslice 1 q 0 n m] (upd H q (some (.cells cs 9))) (SrR r l H (We l (Wg cs) k)):=by
 have h:=congrArg List.length C;rw[jK] at h;obtain⟨rfl,rfl,h3⟩:=E;rw[<-h];exact Go1 hG hl (Wg cs) cs C H D hr hk (by omega)
theorem SrN {c:Prop} [Decidable c] (h:Ag P G f args H (Ax (.bool (decide c)) H)) (C:c->R (.ret (.bool true)) H) (no: ¬c->R (.ret (.bool false)) H):Ag P G f args H R:=h.mono fun e H' hx=>by
 obtain⟨rfl,rfl⟩:=hx;by_cases hc:c
 ·rw[decide_eq_true hc];exact C hc
 ·rw[decide_eq_false hc];exact no hc
theorem SrI {c:Bool} (h:Ag P G f args H (Ax (.bool c) H)) (C:c=true->R (.ret (.bool true)) H) (no:c=false->R (.ret (.bool false)) H):Ag P G f args H R:=h.mono fun e H' hx=>by
 obtain⟨rfl,rfl⟩:=hx;cases c
 ·exact no rfl
 ·exact C rfl
theorem SrU {ws:List (List UInt8)} (h:Ag P G f args H0 (SrR r l H (We l ws k))) (hk:k<=l.length)
  (g:Bu9 l ws k (fun k'=>R (.ret (.tuple [])) (upd H r (some (srO l k')))) (fun i=> ∀j,R (.panic (Pv i 40)) (upd H r (some (srO l j))))):Ag P G f args H0 R:=h.mono fun e H' hx=>by
 clear h
 induction ws generalizing k with
 | nil=>obtain⟨rfl,rfl⟩:=hx;exact g
 | cons s ws ih=>
  rw[We] at hx;cases c:isW l k [s]
  ·rw[c,if_neg (by simp)] at hx;obtain⟨rfl,j,rfl⟩:=hx;exact g.2 c j
  ·rw[c,if_pos rfl] at hx;exact ih (Dg c hk) (g.1 c (Dg c hk)) hx
theorem ReS {α:Type} {X:Nat->Re α} {D:α->DVal} {C:List DVal} (h:SrF P G l r f C (fun k=>(X k).mp D)) (adv:k<=l.length->Js l a (X k))
  (ok: ∀v j,X k= .ok v j->a<=j->j<=l.length->R (.ret (D v)) (upd H r (some (srO l j))))
  (fail: ∀i j,X k= .fail i->R (.panic (Pv i 40)) (upd H r (some (srO l j))))
  (long: ∀j,X k= .long->R (.panic (Pv 0 3)) (upd H r (some (srO l j)))) (E:H r=some (srO l k):=by repeat' first | assumption | exact Aa _ _ _ | refine Ae ?_ ?_) (hk:k<=l.length:=by omega):Ag P G f (.optr r 0::C) H R:=ReC (h H k E hk) (adv hk) ok fail long
theorem Gv9 {s:List UInt8} (hG:GX G) (hl:l.length<=800000)
  (D:isW l k [s]=true->k+1<=l.length->R (.ret (.bool true)) (upd H r (some (srO l (k+1)))))
  (no:isW l k [s]=false->R (.ret (.bool false)) H) (C:H r=some (srO l k):=by repeat' first | assumption | exact Aa _ _ _ | refine Ae ?_ ?_) (hk:k<=l.length:=by omega):Ag Tryz.prog G 201 [.optr r 0, .str s] H R:=SrM (Tj hG _ _ C (by omega) (by omega)) C hk D no
theorem Gw0 (hG:GX G) (hl:l.length<=800000) {cs:List DVal} {q n m:Nat} (C:(Wg cs).map .str=cs) (D:H q=none)
  (g:Bu9 l (Wg cs) k (fun k'=>R (.ret (.tuple [])) (upd H r (some (srO l k')))) (fun i=> ∀j,R (.panic (Pv i 40)) (upd H r (some (srO l j))))) (E:H r=some (srO l k):=by repeat' first | assumption | exact Aa _ _ _ | refine Ae ?_ ?_) (hk:k<=l.length:=by omega) (I:n=cs.length/\m=cs.length/\cs.length<=1000:=by simp):
  Ag Tryz.prog G 199 [.optr r 0, .oslice 1 q 0 n m] (upd H q (some (.cells cs 9))) R:=SrU (Fi6 hG hl cs C D E hk I) hk g
theorem Am7 {A B:Prop} (a:A) (f:A->B):A/\B:=⟨a,f a⟩
end
section
variable {G:Nat->DVal} {r:Nat} {l:List Tok}
theorem Gw1 (hG:GX G) (C:Nat) (L:C<=6) (m:List Tok) (hm:m.length<=800000) (E:Cg m) (K:Ac) (q:Nat) (D:K q=some (.cells [dI C] 3)):
  Ag Tryz.prog G 282 ([]++ [Bl m]++ [.optr q 0]) K (Ax (Bp7 (Fu m C)) K):=by
 refine Ab Tryz.func282 Tryz.call282 rfl (by kernel_rfl) ?_;simp(disch:=omega)only[go_sem,jG,jI];intro p hp;dsimp only at hp;have n:=Af hp D;have I:=n.symm;simp(disch:=omega)only[go_sem,D,n,I];refine Ag.monoR (Dl4 (l:=m) hG _ C hm E) ?_;have J:=Ad (Fu m C).1;simp(disch:=omega)only[go_sem,Bp7,dE,J];exact Fa.sub ((Sub.refl K).new hp _) (.refl ⟨rfl,rfl⟩)
theorem Bv0 (hG:GX G) (J:Cg l) (hl:l.length<=800000) (C:Nat) (E:C<=6):SrF Tryz.prog G l r 222 [dI C] (fun k=>(exR l C k).mp dE):=by
 intro B k hr hk;dsimp only;obtain⟨n,h1,h2,h3,-⟩:=Cz0 (l:=l.drop k) C E;rw[List.length_drop] at h2;have e:Fu (l.drop k) C=((Fu (l.drop k) C).1,(n:Int),(Fu (l.drop k) C).2.2):=by rw[<-h1]
 have L:=Vs J k;have adv:=Js.ex C E hk;have M:k+n<=l.length:=by omega
 refine Ab Tryz.func222 Tryz.call222 rfl (by kernel_rfl) ?_;simp(disch:=omega)only[go_sem]
 ((with_reducible show Fz _ _ _ _ _);intro q hq;dsimp only at hq;have O:=hq;have hz:=(show Ad3 B _ from(by repeat (first | exact Ad3.refl _ | refine Ad3.upd ?_ _ _))) _ hq;have I:=Af hz hr;have S:=I.symm;(try have U:=Af hz hq0);(try have V:=(Af hz hq0).symm);(try simp only[Ba] at hq);(repeat (have W:=hq.1;have hq:=hq.2)))
 simp(disch:=omega)only[go_sem, *]
 ((with_reducible show Fz _ _ _ _ _);intro q hq;dsimp only at hq;have O:=hq;have hz:=(show Ad3 B _ from(by repeat (first | exact Ad3.refl _ | refine Ad3.upd ?_ _ _))) _ hq;have I:=Af hz hr;have S:=I.symm;(try have U:=Af hz hq0);(try have V:=(Af hz hq0).symm);(try simp only[Ba] at hq);(repeat (have W:=hq.1;have hq:=hq.2)))
 simp(disch:=omega)only[go_sem, *];refine ReC (r:=r) (l:=l) (x:=exR l C k) (D:=dE) ?_ adv ?_ ?_ ?_
 ·rw[exR,e];refine Go2 hl _ _ _ _ _ k (by repeat' first | assumption | exact Aa _ _ _ | refine Ae ?_ ?_) hk n M fun K X=> ?_;rw[<-e];exact Gw1 hG C E _ (by rw[List.length_drop];omega) L K _ (X _ _ (by repeat' first | assumption | exact Aa _ _ _ | refine Ae ?_ ?_))
 all_goals clear e adv
 all_goals intros
 repeat' first
  | simp(disch:=omega)only[go_sem, *,dE,Ad]
  | (show SRt _ _ _ _ _;first | with_reducible assumption | apply SRt.at | (apply SRt.refl;assumption) | apply SRt.set | (apply SRt.own<;>first | assumption | skip))
  | ((with_reducible show Fa _ _ _);apply SRt.fin (H0:=B) (r:=r) (l:=l))
  | ((with_reducible show Vd _ _ _);apply SRt.finP (H0:=B) (r:=r) (l:=l))
  | ((first | refine SrR.ofK ?_ | refine SrR.ofF ?_ | refine SrR.ofL ?_);simp [Re.mp,dE, *];done)
  | fail
theorem Da4 (hG:GX G) (C:Cg l) (hl:l.length<=800000):SrF Tryz.prog G l r 222 [dI 2] (fun k=>(exR l 2 k).mp dE):=Bv0 hG C hl 2 (by omega)
theorem Da5 (hG:GX G) (C:Cg l) (hl:l.length<=800000):SrF Tryz.prog G l r 222 [dI 0] (fun k=>(exR l 0 k).mp dE):=Bv0 hG C hl 0 (by omega)
theorem Js.ex2 {k:Nat} (hk:k<=l.length):Js l (k+1) (exR l 2 k):=Js.ex 2 (by omega) hk
theorem Js.ex0 {k:Nat} (hk:k<=l.length):Js l (k+1) (exR l 0 k):=Js.ex 0 (by omega) hk
theorem Ly (x:Ex):(dEx x).map nz=dEx x:=by rw[Pm];rfl
theorem Im (x:Ex) {i:Nat} (h:9<=i):(dEx x).take i=dEx x:=List.take_of_length_le (by rw[Ad];exact h)
theorem Ju (x:Ex) {i:Nat} (h:9<=i):(dEx x).drop i= []:=List.drop_of_length_le (by rw[Ad];exact h)
theorem Gn (x:Ind) {i:Nat} (h:36<=i):(Dv x).take i=Dv x:=List.take_of_length_le (by rw[An];exact h)
theorem Gx (x:Ind) {i:Nat} (h:36<=i):(Dv x).drop i= []:=List.drop_of_length_le (by rw[An];exact h)
theorem Gp (x:Dis) {i:Nat} (h:27<=i):(Dy x).take i=Dy x:=List.take_of_length_le (by rw[Au];exact h)
theorem Gy (x:Dis) {i:Nat} (h:27<=i):(Dy x).drop i= []:=List.drop_of_length_le (by rw[Au];exact h)
theorem Qk:dEx ex0= [.int .u8 0, .int .u8 0, .int .i64 0, .str [], .vslice [] 0, .vslice [] 0, .int .i64 0, .int .i64 0, .int .i64 0]:=by rw[ex0,Xz];rfl
theorem Lb (x:Ind):(Dv x).map nz=Dv x:=by simp [Dv,Ly]
theorem Lc (x:Dis):(Dy x).map nz=Dy x:=by simp [Dy,Ly]
theorem Ai4 (G:Nat->DVal) (H:Ac) (s:List UInt8):Ag Tryz.prog G 121 [.optr r 0, .str s] H (fun e H'=> ∃q1 q2,H q1=none/\upd H q1 (some (.cells [.optr r 0] 140)) q2=none/\e= .ret (.func (.func 220) [] [.optr q1 0, .optr q2 0])/\H'=upd (upd H q1 (some (.cells [.optr r 0] 140))) q2 (some (.cells [.str s] 9))):=by
 refine Ab Tryz.func121 Tryz.call121 rfl (by kernel_rfl) ?_;simp(disch:=omega)only[go_sem];intro q1 h1;dsimp only at h1;simp(disch:=omega)only[go_sem];intro q2 h2;dsimp only at h2;simp(disch:=omega)only[go_sem];exact Fa.refl ⟨q1,q2,h1,h2,rfl,rfl⟩
theorem Ad8 (hG:GX G) (hl:l.length<=800000) (B:Ac) (s:List UInt8) (C D k:Nat) (I:C≠r) (J:D≠r) (L:B C=some (.cells [.optr r 0] 140)) (M:B D=some (.cells [.str s] 9)) (H:Ac) (E:SRt r l k B H) (hk:k<=l.length):
  Ag Tryz.prog G 220 ([]++ []++ [.optr C 0, .optr D 0]) H (SrQ r l H (.bool (byW l s k).isSome) ((byW l s k).getD k)):=by
 have O:H C=some (.cells [.optr r 0] 140):=E _ _ (Ae L I);have S:H D=some (.cells [.str s] 9):=E _ _ (Ae M J);refine Ab Tryz.func220 Tryz.call220 rfl (by kernel_rfl) ?_;simp(disch:=omega)only[go_sem,jG,O,S];refine(Tj hG H s E.get (by omega) (by omega)).mono ?_;rintro _ H1 ⟨rfl,rfl⟩;simp(disch:=omega)only[go_sem];refine Fa.refl ⟨?_, ?_⟩
 ·rw[byW];cases isW l k [s]<;>rfl
 ·rw[byW];cases isW l k [s]<;>rfl
theorem Au3 (hG:GX G) (hl:l.length<=800000):SrF Tryz.prog G l r 217 [] (fun k=>(Wc l k).mp dW):=by
 intro B k hr hk;dsimp only;refine Ab Tryz.func217 Tryz.call217 rfl (by kernel_rfl) ?_;simp(disch:=omega)only[go_sem];refine(Ai4 G B [44]).mono ?_;rintro _ K ⟨J,q2,L,M,rfl,rfl⟩;obtain⟨U,O,S⟩:=Ba.1 M;have C:=Af L hr;have E:=Af S hr;simp(disch:=omega)only[go_sem];refine ReC (r:=r) (l:=l) (x:=Wc l k) (D:=dW) (a:=k+1) ?_ (Js.names hk) ?_ ?_ ?_
 ·exact(Fz0 hl).1 _ 230 220 [.optr r 0] [] [] [.optr J 0, .optr q2 0] (Lx l) (byW l Ee)
   (fun H k I hk=>Qz G hl H k I.get hk) (fun H k I hk=>Ad8 hG hl _ Ee J q2 k C.symm E.symm (Ae (Aa _ _ _) O) (Aa _ _ _) H I hk) (fun _ h=>Js.name h) Ag4 k (Ae (Ae hr C) E) hk
 all_goals intros
 repeat' first
  | simp(disch:=omega)only[go_sem]
  | assumption
  | (show SRt _ _ _ _ _;first | with_reducible assumption | apply SRt.at | (apply SRt.refl;assumption) | apply SRt.set | (apply SRt.own<;>first | assumption | skip))
  | ((with_reducible show Fa _ _ _);apply SRt.fin (H0:=B) (r:=r) (l:=l))
  | ((with_reducible show Vd _ _ _);apply SRt.finP (H0:=B) (r:=r) (l:=l))
  | ((first | refine SrR.ofK ?_ | refine SrR.ofF ?_ | refine SrR.ofL ?_);simp [Re.mp, *];done)
  | exact C.symm
  | exact E.symm
  | fail
theorem Gp1 (hG:GX G) (C:Cg l) (hl:l.length<=800000):SrF Tryz.prog G l r 303 [.func (.func 304) [] []] (fun k=>(chR l k).mp dCl):=by
 intro B k hr hk;dsimp only;obtain⟨n,h1,h2,h3,-⟩:=Cd1 (l:=l.drop k);rw[List.length_drop] at h2;obtain⟨x,e,hx⟩: ∃x e,Jo (l.drop k)=(x,(n:Int),e):=⟨_,_,by rw[<-h1]⟩;have D:=Vs C k;have I:(0:Int)<=(k:Int):=by omega
 have J:(k:Int)<=(l.length:Int):=by omega
 have L:IntKind.i64.wrap ((k:Int)+(n:Int))=((k+n:Nat):Int):=by rw[IntKind.wrap_i64];omega
 have M:((l.drop k).flatMap Cq).take ((l.length-k)*4)=(l.drop k).flatMap Cq:=List.take_of_length_le (by rw[Aw Ao,List.length_drop];exact Nat.le_refl _);have hc:=fun K=>Cj2 (l:=l.drop k) hG K (by rw[List.length_drop];omega) D;rw[hx] at hc;simp only[Bl,List.length_drop] at hc;rw[chR,hx];refine Ab Tryz.func303 Tryz.call303 rfl (by kernel_rfl) ?_;simp(disch:=omega)only[go_sem, *];refine Ak (by kernel_rfl) (.take 0 (.take 1 (.take 2 (.take 3 (.take 4 (.take 5 (.take 6 (.take 7 (.take 8 (.take 9 (.go 10 [] (.take 11 (.take 12 (.take 13 (.take 14 (.take 15 (.take 16 (.take 17 .done)))))))))))))))))) (by kernel_rfl) ?_
 repeat' first
  | (refine Ag.monoR (hc _) ?_)
  | with_reducible refine And.intro ?_ ?_
  | ((with_reducible show Fz _ _ _ _ _);intro q hq;dsimp only at hq;have O:=hq;have hz:=(show Ad3 B _ from(by repeat (first | exact Ad3.refl _ | refine Ad3.upd ?_ _ _))) _ hq;have E:=Af hz hr;have S:=E.symm;(try have U:=Af hz hq0);(try have V:=(Af hz hq0).symm);(try simp only[Ba] at hq);(repeat (have W:=hq.1;have hq:=hq.2)))
  | simp(disch:=omega)only[go_sem, *,Bl,Cx1,dCl,jD,Bs8,List.length_drop]
  | (with_reducible refine Ma ?_ ?_<;>intro hb<;>try simp only[decide_eq_true_eq,decide_eq_false_iff_not,Bool.not_eq_true',Bool.not_eq_false'] at hb)
  | (show SRt _ _ _ _ _;first | with_reducible assumption | apply SRt.at | (apply SRt.refl;assumption) | apply SRt.set | (apply SRt.own<;>first | assumption | skip))
  | ((with_reducible show Fa _ _ _);apply SRt.fin (H0:=B) (r:=r) (l:=l))
  | ((with_reducible show Vd _ _ _);apply SRt.finP (H0:=B) (r:=r) (l:=l))
  | ((first | refine SrR.ofK ?_ | refine SrR.ofF ?_ | refine SrR.ofL ?_);simp [Re.mp,Re.then,Bs5,dCl, *];done)
  | fail
theorem Fi7 {x:Ex} {k k':Nat} (C:Cg l) (hl:l.length<=500000) (h:exR l 2 k= .ok x k'):Dp 1048576 x:=At9 C hl x k' h
def Dx3 (l:List Tok) (k:Nat):Re Typ:=(Wc l k).then fun n i=>Dh l Bv i fun i=> .ok { Ed with kind:=1,names:=n } i
def Bh8 (l:List Tok) (k:Nat):Re Typ:=(Rl l k).then fun b i=> .ok { Ed with kind:=2,lo:=b.1,hi:=b.2 } i
def Cm1 (l:List Tok) (k:Nat):Re Typ:=Dh l Bf k fun i=>(Am4 l i).then fun d i=>Dh l Bv i fun i=>Dh l wOf i fun i=>(Wd l i).then fun s i=> .ok { Ed with kind:=4,disc:=d,sub:=s } i
theorem Gz7 (G:Nat->DVal) (hl:l.length<=800000) (H:Ac) (k:Nat) (hr:H r=some (srO l k)) (hk:k<=l.length):Ag Tryz.prog G 237 [.optr r 0] H (SrQ r l H (.bool (byN l k).isSome) ((byN l k).getD k)):=
 (Su G H hr (by omega) (by omega)).mono fun e H' ⟨h1,h2⟩=>by
  subst h1;subst h2;rw[byN];by_cases c:(tk l k).kind=1
  ·rw[if_pos c,decide_eq_true c];exact⟨rfl,(Ec hr).symm⟩
  ·rw[if_neg c,decide_eq_false c];exact⟨rfl,(Ec hr).symm⟩
theorem Dp1 (hG:GX G) (hl:l.length<=800000) (B:Ac) (C k:Nat) (E:C≠r) (I:B C=some (.cells [.optr r 0] 140)) (H:Ac) (D:SRt r l k B H) (hk:k<=l.length):
  Ag Tryz.prog G 271 ([]++ []++ [.optr C 0]) H (SrQ r l H (.bool (byI l Pq k).isSome) ((byI l Pq k).getD k)):=by
 have J:H C=some (.cells [.optr r 0] 140):=D _ _ (Ae I E);refine Ab Tryz.func271 Tryz.call271 rfl (by kernel_rfl) ?_;simp(disch:=omega)only[go_sem,jG,J];refine(At1 hG H Pq D.get (by omega) (by omega)).mono ?_;rintro _ H1 ⟨rfl,rfl⟩;simp(disch:=omega)only[go_sem];refine Fa.refl ⟨?_, ?_⟩
 ·rw[byI];cases isW l k [Pq]<;>rfl
 ·rw[byI];cases isW l k [Pq]<;>exact(Ec D.get).symm
set_option maxHeartbeats 40000000 in
theorem Nb (hG:GX G) (J:Cg l) (O:l.length<=500000):
 SrF Tryz.prog G l r 223 [] (fun k=>(Rl l k).mp (fun b=> .tuple [dE b.1,dE b.2]))/\
 SrF Tryz.prog G l r 219 [] (fun k=>(Pt l k).mp dE)/\
 SrF Tryz.prog G l r 143 [] (fun k=>(Gv0 l k).mp (fun a=> .agg (Ba6 a)))/\
 SrF Tryz.prog G l r 132 [] (fun k=>(Wd l k).mp (fun a=> .agg (Dv a)))/\
 SrF Tryz.prog G l r 192 [] (fun k=>(Bh8 l k).mp (fun a=> .agg (Cl a)))/\
 SrF Tryz.prog G l r 191 [] (fun k=>(Dx3 l k).mp (fun a=> .agg (Cl a)))/\
 SrF Tryz.prog G l r 130 [] (fun k=>(Am4 l k).mp (fun a=> .agg (Dy a)))/\
 SrF Tryz.prog G l r 193 [] (fun k=>(Cm1 l k).mp (fun a=> .agg (Cl a)))/\
 SrF Tryz.prog G l r 236 [] (fun k=>(Bs6 l k).mp (fun a=> .agg (Hu a)))/\
 SrF Tryz.prog G l r 150 [] (fun k=>(Qj l k).mp Cv)/\
 SrF Tryz.prog G l r 270 [] (fun k=>(Bs7 l k).mp (fun a=> .agg (La a)))/\
 (∀(B:Ac) (k C:Nat) (E:B C=some (.cells [.optr r 0] 140)) (I:C≠r) (hr:B r=some (srO l k)) (hk:k<=l.length),Ag Tryz.prog G 195 [.optr C 0] B (SrR r l B (Re.mp (fun a=> .agg (Cl a)) ((Wd l k).then fun s i=> .ok { Ed with kind:=3,sub:=s } i))))/\
 (∀(B:Ac) (k C:Nat) (E:B C=some (.cells [.optr r 0] 140)) (I:C≠r) (hr:B r=some (srO l k)) (hk:k<=l.length),Ag Tryz.prog G 196 [.optr C 0] B (SrR r l B (Re.mp (fun a=> .agg (Cl a)) ((Wd l k).then fun s i=> .ok { Ed with kind:=6,sub:=s } i))))/\
 (∀(B:Ac) (k C:Nat) (E:B C=some (.cells [.optr r 0] 140)) (I:C≠r) (hr:B r=some (srO l k)) (hk:k<=l.length),Ag Tryz.prog G 198 [.optr C 0] B (SrR r l B (Re.mp (fun a=> .agg (Cl a)) (Dh l Fp k fun i=> .ok { Ed with kind:=7,limited:=true } i))))/\
 (∀(B:Ac) (k C:Nat) (E:B C=some (.cells [.optr r 0] 140)) (I:C≠r) (hr:B r=some (srO l k)) (hk:k<=l.length),Ag Tryz.prog G 200 [.optr C 0] B (SrR r l B (Re.mp (fun a=> .agg (Cl a)) (Dh l Cu k fun i=> .ok { Ed with kind:=5 } i))))/\
 (∀(B:Ac) (k C:Nat) (E:B C=some (.cells [.optr r 0] 140)) (I:C≠r) (hr:B r=some (srO l k)) (hk:k<=l.length),Ag Tryz.prog G 197 [] B (SrR r l B (Re.mp (fun a=> .agg (Cl a)) (.ok { Ed with kind:=7 } k)))):=by
 have hl:l.length<=800000:=by omega
 refine Am7 ?_ fun S=>Am7 ?_ fun U=>Am7 ?_ fun ae=>Am7 ?_ fun V=>Am7 ?_ fun af=>Am7 ?_ fun ag=>Am7 ?_ fun W=>Am7 ?_ fun ah=>Am7 ?_ fun X=>Am7 ?_ fun Y=>Am7 ?_ fun ai=>Am7 ?_ fun _=>Am7 ?_ fun _=>Am7 ?_ fun _=>Am7 ?_ fun _=> ?_;all_goals first | intro B k C E I hr hk;have aj:=I.symm | intro B k hr hk;dsimp only
 case' refine_1=>rw[Rl];refine Ab Tryz.func223 Tryz.call223 rfl (by kernel_rfl) ?_;have Z:=0
 case' refine_2=>rw[Pt];refine Ab Tryz.func219 Tryz.call219 rfl (by kernel_rfl) ?_
 case' refine_3=>rw[Gv0];refine Ab Tryz.func143 Tryz.call143 rfl (by kernel_rfl) ?_
 case' refine_4=>rw[Wd];refine Ab Tryz.func132 Tryz.call132 rfl (by kernel_rfl) ?_
 case' refine_5=>rw[Bh8];refine Ab Tryz.func192 Tryz.call192 rfl (by kernel_rfl) ?_
 case' refine_6=>rw[Dx3];refine Ab Tryz.func191 Tryz.call191 rfl (by kernel_rfl) ?_
 case' refine_7=>rw[Am4];refine Ab Tryz.func130 Tryz.call130 rfl (by kernel_rfl) ?_;have aa:=0
 case' refine_8=>rw[Cm1];refine Ab Tryz.func193 Tryz.call193 rfl (by kernel_rfl) ?_
 case' refine_9=>rw[Bs6];refine Ab Tryz.func236 Tryz.call236 rfl (by kernel_rfl) ?_
 case' refine_10=>rw[Qj];refine Ab Tryz.func150 Tryz.call150 rfl (by kernel_rfl) ?_
 case' refine_11=>rw[Bs7];refine Ab Tryz.func270 Tryz.call270 rfl (by kernel_rfl) ?_
 case' refine_12=>refine Ab Tryz.func195 Tryz.call195 rfl (by kernel_rfl) ?_
 case' refine_13=>refine Ab Tryz.func196 Tryz.call196 rfl (by kernel_rfl) ?_
 case' refine_14=>refine Ab Tryz.func198 Tryz.call198 rfl (by kernel_rfl) ?_
 case' refine_15=>refine Ab Tryz.func200 Tryz.call200 rfl (by kernel_rfl) ?_
 case' refine_16=>refine Ab Tryz.func197 Tryz.call197 rfl (by kernel_rfl) ?_
 all_goals simp(disch:=omega)only[go_sem]
 all_goals
 repeat' first
  | with_reducible refine And.intro ?_ ?_
  | ((with_reducible show Fz _ _ _ _ _);intro q hq;dsimp only at hq;have ab:=hq;have hz:=(show Ad3 B _ from(by repeat (first | exact Ad3.refl _ | refine Ad3.upd ?_ _ _))) _ hq;have L:=Af hz hr;have ac:=L.symm;(try have nb:=Af hz E);(try have ak:=(Af hz E).symm);(try simp only[Ba] at hq);(repeat (have ad:=hq.1;have hq:=hq.2)))
  | ((with_reducible refine fun(q:Nat) (hq:_=none)=> ?_);have ab:=hq;(try simp only[Ba8] at hq);(repeat (have ad:=hq.1;have hq:=hq.2));have hz:=hq;have L:=Af hz hr;have ac:=L.symm)
  | with_reducible refine Gv9 hG hl ?_ ?_<;>intros
  | (with_reducible refine ReS (Da5 hG J hl) Js.ex0 ?_ ?_ ?_<;>intros)
  | (with_reducible refine ReS (Da4 hG J hl) Js.ex2 ?_ ?_ ?_<;>intros)
  | (with_reducible refine ReS (Qz G hl) Js.name ?_ ?_ ?_<;>intros)
  | (with_reducible refine ReS (Au3 hG hl) Js.names ?_ ?_ ?_<;>intros)
  | (with_reducible refine ReS (Bu8 hG J O) Js.mark ?_ ?_ ?_<;>intros)
  | (with_reducible refine ReS (Gp1 hG J hl) Js.ch ?_ ?_ ?_<;>intros)
  | (with_reducible refine ReS S Js.bounds ?_ ?_ ?_<;>intros)
  | (with_reducible refine ReS U Js.given ?_ ?_ ?_<;>intros)
  | (with_reducible refine ReS V Js.ind ?_ ?_ ?_<;>intros)
  | (with_reducible refine ReS W Js.dis ?_ ?_ ?_<;>intros)
  | (with_reducible refine ReS Y Js.cmps ?_ ?_ ?_<;>intros)
  | (with_reducible refine SrI (At1 hG _ _ (by repeat' first | assumption | exact Aa _ _ _ | refine Ae ?_ ?_) (by omega) (by omega)) ?_ ?_<;>intros)
  | (with_reducible refine SrN (Su G _ (by repeat' first | assumption | exact Aa _ _ _ | refine Ae ?_ ?_) (by omega) (by omega)) ?_ ?_<;>intros)
  | simp(disch:=omega)only[go_sem, *,dE,Cq,dW,dCl,Cv,Ey,Wg,Bu9,Cn,List.take_append,List.drop_append,Im,Ju,Gn,Gx,Gp,Gy,jC,Ad,An,Au,Bo,Ej,Ek,List.all_append,List.all_cons,List.all_nil,jO,jH,jG,jA,jB,jE,jM,jJ,jR,jL,List.take_nil,jI]
  | refine Gw0 hG hl (by rfl) (by assumption) ?_
  | (with_reducible refine Ag.monoR (Mq G _ (by repeat' first | assumption | exact Aa _ _ _ | refine Ae ?_ ?_) (by omega) (by omega)) ?_)
  | (with_reducible refine Ag.monoR (Qy hG _ _ (Fi7 J O (by assumption))) ?_)
  | (with_reducible refine(Yo G _ (by repeat' first | assumption | exact Aa _ _ _ | refine Ae ?_ ?_)).mono ?_;rintro _ _ ⟨rfl,rfl⟩)
  | (have:=Z;with_reducible refine Ak (by kernel_rfl) (.take 0 (.take 1 (.go 2 [0] (.go 3 [] (.go 4 [] .done))))) (by kernel_rfl) ?_)
  | (have:=aa;with_reducible refine Ak (by kernel_rfl) (.take 0 (.take 1 (.go 2 [0] (.take 3 (.go 4 [] .done))))) (by kernel_rfl) ?_)
  | (with_reducible refine Ma ?_ ?_<;>intro hb<;>try simp only[decide_eq_true_eq,decide_eq_false_iff_not,Bool.not_eq_true',Bool.not_eq_false'] at hb)
  | (with_reducible refine Pe ?_ ?_<;>intro hb<;>try simp only[decide_eq_true_eq,decide_eq_false_iff_not,Bool.not_eq_true',Bool.not_eq_false'] at hb)
  | (show SRt _ _ _ _ _;first | with_reducible assumption | apply SRt.at | (apply SRt.refl;assumption) | apply SRt.set | (apply SRt.own<;>first | assumption | skip))
  | ((with_reducible show Fa _ .nilSlice _);refine Fa.le DLe.nil ?_)
  | ((with_reducible show Fa _ (.agg _) _);apply SRt.finZ (H0:=B) (r:=r) (l:=l))
  | ((with_reducible show Fa _ _ _);apply SRt.fin (H0:=B) (r:=r) (l:=l))
  | ((with_reducible show Vd _ _ _);apply SRt.finP (H0:=B) (r:=r) (l:=l))
  | (intro _)
  | ((with_reducible show Ag _ _ _ _ _ _);refine ReC (r:=r) (l:=l) (x:=Am3 l (Bs6 l) (byN l) k) (D:=Cv) (a:=k+1) ((Fz0 hl).2.2.2.1 _ 236 237 [.optr r 0] [] [.optr r 0] [] (Bs6 l) (byN l) (fun H k M hk=>X H k M.get hk) (fun H k M hk=>Gz7 G hl H k M.get hk) (fun _ h=>Js.cmp h) Bh3 k (by repeat' first | assumption | exact Aa _ _ _ | refine Ae ?_ ?_) hk) (Js.sev (fun _ h=>Js.cmp h) Bh3 hk) ?_ ?_ ?_<;>intros)
  | ((first | refine SrR.ofK ?_ | refine SrR.ofF ?_ | refine SrR.ofL ?_);simp [Re.mp,Re.then,Dh,dE,Cn,nz,Ly,Lb,Lc,Qk,Ad,An,Au,Ef,Eo,Bf,Bv,Ee,Sd,Od,Fy,wIn,As7,Kd,wIs,Pq,Pz,Cu,Am0,Lo,wOf,Lw,Fp,Ko,Fm,By,Jj,Cl,Ed,Ut,Rt,Dv,Dy,Cv,Ey,dW,Ba6,Hu,La,dCl, *];done)
  | fail
theorem Da6 (hG:GX G) (C:Cg l) (D:l.length<=500000):SrF Tryz.prog G l r 219 [] (fun k=>(Pt l k).mp dE):=(Nb (r:=r) hG C D).2.1
theorem Da7 (hG:GX G) (C:Cg l) (D:l.length<=500000):SrF Tryz.prog G l r 132 [] (fun k=>(Wd l k).mp (fun a=> .agg (Dv a))):=(Nb (r:=r) hG C D).2.2.2.1
theorem Cm2 (hG:GX G) (C:Cg l) (D:l.length<=500000):SrF Tryz.prog G l r 192 [] (fun k=>(Bh8 l k).mp (fun a=> .agg (Cl a))):=(Nb (r:=r) hG C D).2.2.2.2.1
theorem Dp2 (hG:GX G) (C:Cg l) (D:l.length<=500000):SrF Tryz.prog G l r 191 [] (fun k=>(Dx3 l k).mp (fun a=> .agg (Cl a))):=(Nb (r:=r) hG C D).2.2.2.2.2.1
theorem Da8 (hG:GX G) (C:Cg l) (D:l.length<=500000):SrF Tryz.prog G l r 130 [] (fun k=>(Am4 l k).mp (fun a=> .agg (Dy a))):=(Nb (r:=r) hG C D).2.2.2.2.2.2.1
theorem Da9 (hG:GX G) (C:Cg l) (D:l.length<=500000):SrF Tryz.prog G l r 193 [] (fun k=>(Cm1 l k).mp (fun a=> .agg (Cl a))):=(Nb (r:=r) hG C D).2.2.2.2.2.2.2.1
theorem Db0 (hG:GX G) (C:Cg l) (D:l.length<=500000):SrF Tryz.prog G l r 150 [] (fun k=>(Qj l k).mp Cv):=(Nb (r:=r) hG C D).2.2.2.2.2.2.2.2.2.1
theorem En2 (hG:GX G) (C:Cg l) (D:l.length<=500000):SrF Tryz.prog G l r 270 [] (fun k=>(Bs7 l k).mp (fun a=> .agg (La a))):=(Nb (r:=r) hG C D).2.2.2.2.2.2.2.2.2.2.1
set_option maxHeartbeats 8000000 in
theorem Cm3 (hG:GX G) (I:Cg l) (J:l.length<=500000):SrF Tryz.prog G l r 194 [] (fun k=>(Ck6 l k).mp (fun a=> .agg (Cl a))):=by
 have hl:l.length<=800000:=by omega
 intro B k hr hk;dsimp only;rw[Ck6];refine Ab Tryz.func194 Tryz.call194 rfl (by kernel_rfl) ?_;simp(disch:=omega)only[go_sem]
 repeat' first
  | with_reducible refine And.intro ?_ ?_
  | ((with_reducible show Fz _ _ _ _ _);intro q hq;dsimp only at hq;have L:=hq;have hz:=(show Ad3 B _ from(by repeat (first | exact Ad3.refl _ | refine Ad3.upd ?_ _ _))) _ hq;have C:=Af hz hr;have M:=C.symm;(try have S:=Af hz hq0);(try have U:=(Af hz hq0).symm);(try simp only[Ba] at hq);(repeat (have O:=hq.1;have hq:=hq.2)))
  | ((with_reducible refine fun(q:Nat) (hq:_=none)=> ?_);have L:=hq;(try simp only[Ba8] at hq);(repeat (have O:=hq.1;have hq:=hq.2));have hz:=hq;have C:=Af hz hr;have M:=C.symm)
  | with_reducible refine Gv9 hG hl ?_ ?_<;>intros
  | (with_reducible refine ReS (Qz G hl) Js.name ?_ ?_ ?_<;>intros)
  | (with_reducible refine ReS (Db0 hG I J) Js.cmps ?_ ?_ ?_<;>intros)
  | (with_reducible refine SrI (At1 hG _ _ (by repeat' first | assumption | exact Aa _ _ _ | refine Ae ?_ ?_) (by omega) (by omega)) ?_ ?_<;>intros)
  | (with_reducible refine SrN (Su G _ (by repeat' first | assumption | exact Aa _ _ _ | refine Ae ?_ ?_) (by omega) (by omega)) ?_ ?_<;>intros)
  | simp(disch:=omega)only[go_sem, *,dE,Cq,dW,dCl,Cv,Ey,Wg,Bu9,Cn,List.take_append,List.drop_append,Im,Ju,Gn,Gx,Gp,Gy,jC,Ad,An,Au,Bo,Ej,Ek,List.all_append,List.all_cons,List.all_nil,jO,jH,jG,jA,jB,jE,jM,jJ,jR,jL,List.take_nil,jI]
  | refine Gw0 hG hl (by rfl) (by assumption) ?_
  | (with_reducible refine Ag.monoR (Mq G _ (by repeat' first | assumption | exact Aa _ _ _ | refine Ae ?_ ?_) (by omega) (by omega)) ?_)
  | (with_reducible refine Ma ?_ ?_<;>intro hb<;>try simp only[decide_eq_true_eq,decide_eq_false_iff_not,Bool.not_eq_true',Bool.not_eq_false'] at hb)
  | (with_reducible refine Pe ?_ ?_<;>intro hb<;>try simp only[decide_eq_true_eq,decide_eq_false_iff_not,Bool.not_eq_true',Bool.not_eq_false'] at hb)
  | (show SRt _ _ _ _ _;first | with_reducible assumption | apply SRt.at | (apply SRt.refl;assumption) | apply SRt.set | (apply SRt.own<;>first | assumption | skip))
  | ((with_reducible show Fa _ .nilSlice _);refine Fa.le DLe.nil ?_)
  | ((with_reducible show Fa _ (.agg _) _);apply SRt.finZ (H0:=B) (r:=r) (l:=l))
  | ((with_reducible show Fa _ _ _);apply SRt.fin (H0:=B) (r:=r) (l:=l))
  | ((with_reducible show Vd _ _ _);apply SRt.finP (H0:=B) (r:=r) (l:=l))
  | (intro _)
  | ((with_reducible show Ag _ _ _ _ _ _);refine ReC (r:=r) (l:=l) (x:=Ai3 l _) (D:=Ey) ((Fz0 hl).2.2.2.2 _ 270 271 [.optr r 0] [] [] [.optr _ 0] (Bs7 l) (byI l Pq) (fun H k E hk=>En2 hG I J H k E.get hk) (fun H k E hk=>Dp1 hG hl _ _ k (by assumption) (by simp [upd, *];done) H E hk) (fun _ h=>Js.arm h) Ck7 _ (by repeat' first | assumption | exact Aa _ _ _ | refine Ae ?_ ?_) (by omega)) (Js.arms (by omega)) ?_ ?_ ?_<;>intros)
  | ((first | refine SrR.ofK ?_ | refine SrR.ofF ?_ | refine SrR.ofL ?_);simp [Re.mp,Re.then,Dh,dE,Cn,nz,Ly,Lb,Lc,Qk,Ad,An,Au,Ef,Eo,Bf,Bv,Ee,Sd,Od,Fy,wIn,As7,Kd,wIs,Pq,Pz,Cu,Am0,Lo,wOf,Lw,Fp,Ko,Fm,By,Jj,Cl,Ed,Ut,Rt,Dv,Dy,Cv,Ey,dW,Ba6,Hu,La,dCl, *];done)
  | fail
end
def Gp2 (l:List Tok):List (List UInt8×(Nat->Re Typ))->Nat->Re Typ
 | [],k=> .fail k
 | (w,f)::as',k=>if isW l k [w] then f (k+1) else Gp2 l as' k
def Ge9 (l:List Tok):List (List UInt8×(Nat->Re Typ)):=
 [(Bf,Dx3 l),(Eo,Bh8 l),(Lo,Cm1 l),(Cu,Ck6 l),(Am0,fun k=>(Wd l k).then fun s i=> .ok { Ed with kind:=3,sub:=s } i),(Lw,fun k=>(Wd l k).then fun s i=> .ok { Ed with kind:=6,sub:=s } i),
  (Fp,fun k=> .ok { Ed with kind:=7 } k),(Ko,fun k=>Dh l Fp k fun i=> .ok { Ed with kind:=7,limited:=true } i),(Fm,fun k=>Dh l Cu k fun i=> .ok { Ed with kind:=5 } i)]
theorem En3 (l:List Tok) (k:Nat):Se l k=Gp2 l (Ge9 l) k:=rfl
theorem Ht (x:Typ):(Cl x).take 87=Cl x:=List.take_of_length_le (by rw[Bt];exact Nat.le_refl _)
theorem Ls (t:Typ):(Cl t).map nz=Cl t:=by simp [Cl,Ly,Lb,Lc,nz,dW,Cv,Ey]
section
variable {P:Program} {G:Nat->DVal} {f:FuncId} {args:List DVal} {H:Ac} {R:DEnd->Ac->Prop} {r:Nat} {l:List Tok}
theorem Cm4 {α:Type} {x:Re α} {D:α->DVal} (h:Ag P G f args H (SrR r l H (x.mp D)))
  (ok: ∀v k,x= .ok v k->R (.ret (D v)) (upd H r (some (srO l k))))
  (fail: ∀k j,x= .fail k->R (.panic (Pv k 40)) (upd H r (some (srO l j))))
  (long: ∀j,x= .long->R (.panic (Pv 0 3)) (upd H r (some (srO l j)))):Ag P G f args H R:=h.mono fun e H' hx=>by
 cases x with
 | ok v k=>obtain⟨rfl,rfl⟩:=hx;exact ok v k rfl
 | fail k=>obtain⟨rfl,j,rfl⟩:=hx;exact fail k j rfl
 | long=>obtain⟨rfl,j,rfl⟩:=hx;exact long j rfl
end
section
variable {G:Nat->DVal} {r:Nat} {l:List Tok}
set_option maxHeartbeats 4000000 in
theorem By0 (hG:GX G) (W:Cg l) (X:l.length<=500000):SrF Tryz.prog G l r 91 [] (fun k=>(Se l k).mp fun a=> .agg (Cl a)):=by
 have hl:l.length<=800000:=by omega
 intro B k hr hk;dsimp only;refine Ab Tryz.func91 Tryz.call91 rfl (by kernel_rfl) ?_;simp(disch:=omega)only[go_sem];intro q0 hq0;dsimp only at hq0;have n0:=Af hq0 hr;have D:=n0.symm;simp(disch:=omega)only[go_sem];intro q2 al;dsimp only at al;obtain⟨a1,a2,am⟩:=Ba.1 al;have n2:=Af am hr;have m2:=n2.symm;simp(maxSteps:=4000000) (disch:=omega)only[go_sem,a1,a2,n0,D,n2,m2];have z9:Cd 9 [DVal.str [],DVal.nilFunc]= [.str [], .nilFunc, .str [], .nilFunc, .str [], .nilFunc, .str [], .nilFunc, .str [], .nilFunc, .str [], .nilFunc, .str [], .nilFunc, .str [], .nilFunc, .str [], .nilFunc]:=rfl;simp(disch:=omega)only[go_sem,z9,jA,jB,jE,jJ];intro qs ab;dsimp only at ab;obtain⟨b1,b2,ab⟩:=Ba.1 ab;obtain⟨b3,b4,ab⟩:=Ba.1 ab;have ns:=(Af ab hr).symm;simp(disch:=omega)only[go_sem];obtain⟨I,U⟩: ∃I:Nat->(Nat->DVal)->Ac->Prop,∀i env heap,I i env heap↔(env 1= .optr q0 0/\env 2= .optr q2 0/\env 26= .oslice 2 qs 0 9 9/\env 27=dI 9/\env 28=dI i/\i<=9/\Se l k=Gp2 l ((Ge9 l).drop i) k/\heap q0=some (.cells [.optr r 0] 140)/\(∃Z:List DVal,Z.length=87/\heap q2=some (.cells Z 62))/\heap qs=some (.cells ([.str Bf, .func (.func 191) [.optr r 0] [], .str Eo, .func (.func 192) [.optr r 0] [], .str Lo, .func (.func 193) [.optr r 0] [], .str Cu, .func (.func 194) [.optr r 0] [], .str Am0, .func (.func 195) [] [.optr q0 0], .str Lw, .func (.func 196) [] [.optr q0 0], .str Fp, .func (.func 197) [] [], .str Ko, .func (.func 198) [] [.optr q0 0], .str Fm, .func (.func 200) [] [.optr q0 0]]) 251)/\SRt r l k B heap):=⟨_,fun _ _ _=>Iff.rfl⟩;refine Dr7.run I (fun i=>9-i) 0 ((U _ _ _).2 ⟨by simp [upd],by simp [upd],by simp [upd],by simp [upd],by simp [upd],by omega,En3 l k,Ae (Ae (Aa _ _ _) a2) b4,⟨_, ?_,Ae (Aa _ _ _) b2⟩,Aa _ _ _,(((SRt.refl hr).own hq0 D _).own am m2 _).own ab ns _⟩) ?_
 ·rfl
 ·intro i env heap hi;obtain⟨e1,e2,ad,ae,af,ao,ak,C,⟨Z,Y,J⟩,E,S⟩:=(U _ _ _).1 hi;have gr:=S.get;have ah:Z.drop 87= []:=List.drop_of_length_le (by omega);by_cases ap:i<9
  ·rcases(by omega:i=0\/i=1\/i=2\/i=3\/i=4\/i=5\/i=6\/i=7\/i=8) with rfl | rfl | rfl | rfl | rfl | rfl | rfl | rfl | rfl;all_goals
    simp(disch:=omega)only[go_sem,e1,e2,ad,ae,af,E,jA,jB,jE,jJ];intro q4 ag;dsimp only at ag;have n40:=Af ag C;have L:=Af ag J;have M:=Af ag E;have ac:=Af ag gr;have ai:=n40.symm;have aj:=L.symm;have O:=ac.symm;have aa:=S.lo ag;simp(disch:=omega)only[go_sem,e1,e2,ad,ae,af,E,C,J,n40,L,M,ac,ai,aj,O,n0,D,n2,m2,a1,a2,Bt,Ls,ah,jH,Ht];refine SrM (Tj hG _ _ (Ae gr ac) (by omega) (by omega)) (Ae gr ac) hk ?_ ?_
    ·intro hw aq;have V:=ak.trans (if_pos hw);rw[V];simp(disch:=omega)only[go_sem,e1,e2,ad,ae,af,E,C,J,n40,L,M,ac,ai,aj,O,n0,D,n2,m2,a1,a2,Bt,Ls,ah,jH,Ht];first
     | refine Cm4 (Dp2 hG W X _ _ (Aa _ _ _) (by omega)) ?_ ?_ ?_
     | refine Cm4 (Cm2 hG W X _ _ (Aa _ _ _) (by omega)) ?_ ?_ ?_
     | refine Cm4 (Da9 hG W X _ _ (Aa _ _ _) (by omega)) ?_ ?_ ?_
     | refine Cm4 (Cm3 hG W X _ _ (Aa _ _ _) (by omega)) ?_ ?_ ?_
     | refine Cm4 ((Nb hG W X).2.2.2.2.2.2.2.2.2.2.2.1 _ _ _ (Ae (Ae C n40) D) D (Aa _ _ _) (by omega)) ?_ ?_ ?_
     | refine Cm4 ((Nb hG W X).2.2.2.2.2.2.2.2.2.2.2.2.1 _ _ _ (Ae (Ae C n40) D) D (Aa _ _ _) (by omega)) ?_ ?_ ?_
     | refine Cm4 ((Nb hG W X).2.2.2.2.2.2.2.2.2.2.2.2.2.1 _ _ _ (Ae (Ae C n40) D) D (Aa _ _ _) (by omega)) ?_ ?_ ?_
     | refine Cm4 ((Nb hG W X).2.2.2.2.2.2.2.2.2.2.2.2.2.2.1 _ _ _ (Ae (Ae C n40) D) D (Aa _ _ _) (by omega)) ?_ ?_ ?_
     | refine Cm4 ((Nb hG W X).2.2.2.2.2.2.2.2.2.2.2.2.2.2.2 _ _ _ (Ae (Ae C n40) D) D (Aa _ _ _) (by omega)) ?_ ?_ ?_
     all_goals intros
     repeat' first
      | simp(disch:=omega)only[go_sem,e1,e2,ad,ae,af,E,C,J,n40,L,M,ac,ai,aj,O,n0,D,n2,m2,a1,a2,Bt,Ls,ah,jH,Ht]
      | (show SRt _ _ _ _ _;first | with_reducible assumption | apply SRt.at | (apply SRt.refl;assumption) | apply SRt.set | (apply SRt.own<;>first | assumption | skip))
      | assumption
      | ((with_reducible show Fa _ (.agg _) _);apply SRt.finZ (H0:=B) (r:=r) (l:=l))
      | ((with_reducible show Vd _ _ _);apply SRt.finP (H0:=B) (r:=r) (l:=l))
      | ((first | refine SrR.ofK ?_ | refine SrR.ofF ?_ | refine SrR.ofL ?_);simp [Re.mp,Ls, *];done)
      | (rename_i hx;cases hx;done)
      | (rename_i hx;cases hx;refine SrR.ofK ?_;simp [Re.mp,Ls];done)
      | fail
    ·intro hw;have V:=ak.trans (if_neg (by rw[hw];simp));simp(disch:=omega)only[go_sem,e1,e2,ad,ae,af,E,C,J,n40,L,M,ac,ai,aj,O,n0,D,n2,m2,a1,a2,Bt,Ls,ah,jH,Ht];first
     | refine⟨1,_,Rz.refl _,(U _ _ _).2 ⟨by simp [upd, *];done,by simp [upd, *];done,by simp [upd, *];done,by simp [upd, *];done,by simp [upd, *];done,by omega,V,Ae C n40,⟨Z,Y,Ae J L⟩,Ae E M,S.own aa O _⟩,by omega⟩
     | refine⟨2,_,Rz.refl _,(U _ _ _).2 ⟨by simp [upd, *];done,by simp [upd, *];done,by simp [upd, *];done,by simp [upd, *];done,by simp [upd, *];done,by omega,V,Ae C n40,⟨Z,Y,Ae J L⟩,Ae E M,S.own aa O _⟩,by omega⟩
     | refine⟨3,_,Rz.refl _,(U _ _ _).2 ⟨by simp [upd, *];done,by simp [upd, *];done,by simp [upd, *];done,by simp [upd, *];done,by simp [upd, *];done,by omega,V,Ae C n40,⟨Z,Y,Ae J L⟩,Ae E M,S.own aa O _⟩,by omega⟩
     | refine⟨4,_,Rz.refl _,(U _ _ _).2 ⟨by simp [upd, *];done,by simp [upd, *];done,by simp [upd, *];done,by simp [upd, *];done,by simp [upd, *];done,by omega,V,Ae C n40,⟨Z,Y,Ae J L⟩,Ae E M,S.own aa O _⟩,by omega⟩
     | refine⟨5,_,Rz.refl _,(U _ _ _).2 ⟨by simp [upd, *];done,by simp [upd, *];done,by simp [upd, *];done,by simp [upd, *];done,by simp [upd, *];done,by omega,V,Ae C n40,⟨Z,Y,Ae J L⟩,Ae E M,S.own aa O _⟩,by omega⟩
     | refine⟨6,_,Rz.refl _,(U _ _ _).2 ⟨by simp [upd, *];done,by simp [upd, *];done,by simp [upd, *];done,by simp [upd, *];done,by simp [upd, *];done,by omega,V,Ae C n40,⟨Z,Y,Ae J L⟩,Ae E M,S.own aa O _⟩,by omega⟩
     | refine⟨7,_,Rz.refl _,(U _ _ _).2 ⟨by simp [upd, *];done,by simp [upd, *];done,by simp [upd, *];done,by simp [upd, *];done,by simp [upd, *];done,by omega,V,Ae C n40,⟨Z,Y,Ae J L⟩,Ae E M,S.own aa O _⟩,by omega⟩
     | refine⟨8,_,Rz.refl _,(U _ _ _).2 ⟨by simp [upd, *];done,by simp [upd, *];done,by simp [upd, *];done,by simp [upd, *];done,by simp [upd, *];done,by omega,V,Ae C n40,⟨Z,Y,Ae J L⟩,Ae E M,S.own aa O _⟩,by omega⟩
     | refine⟨9,_,Rz.refl _,(U _ _ _).2 ⟨by simp [upd, *];done,by simp [upd, *];done,by simp [upd, *];done,by simp [upd, *];done,by simp [upd, *];done,by omega,V,Ae C n40,⟨Z,Y,Ae J L⟩,Ae E M,S.own aa O _⟩,by omega⟩
  ·obtain rfl:i=9:=by omega
   simp(disch:=omega)only[go_sem,e1,e2,ad,ae,af,C];refine(Yo G heap gr).mono ?_;rintro _ H1 ⟨rfl,rfl⟩;simp(disch:=omega)only[go_sem];rw[ak];exact SRt.finP S ⟨rfl,k,rfl⟩
end
section
variable {G:Nat->DVal} {r:Nat} {l:List Tok}
theorem Fi8 {P:Program} {G:Nat->DVal} {N:Nat} {Q:DExit->DS->Prop} {id:Nat} {C:Array Oper} {s:DS} (D:DExit->DS->Prop) (h:dwp P G N (.region id C true) D s) (k: ∀e s',D e s'->Q e s'):dwp P G N (.region id C true) Q s:=by
 simp only[dwp] at h⊢
 intro F n B E a w hS;exact wpIn_mono (h F n B E a w hS) fun e a w ⟨e',s',q,r⟩=>⟨e',s',k _ _ q,r⟩
def Gf0 (a b:Bool):Int:=if b then(if a then 3 else 2) else 1
def Ga6 (es:List (DVal×DVal)):Prop:= ∀a b:Bool,∃i p,Np (.agg [.bool a, .bool b]) es 0=some (some i)/\es[i]? =some p/\p.2= .int .u8 (Gf0 a b)
def Gz8 (B:Ac) (r:Nat) (l:List Tok) (k q2 q3:Nat) (li:Int) (ns:List (List UInt8)) (e:DExit) (s:DS):Prop:=
 e= .normal/\s.env 0= .optr r 0/\s.env 2= .optr q2 0/\s.env 3= .optr q3 0/\ ∃m es,Ga6 es/\s.env 4= .omap m/\ ∃K:Ac,K m=none/\SRt r l k B K/\(∃Z:List DVal,Z.length=21/\K q2=some (.cells Z 136))/\
  K q3=some (.cells [.vslice (ns.map .str) ns.length, .int .u8 0, .int .u8 0, .int .u8 0, .int .i64 0, .str [], .nilSlice, .nilSlice, .int .i64 0, .int .i64 0, .int .i64 0, .int .u8 0, .int .u8 0, .int .i64 0, .str [], .nilSlice, .nilSlice, .int .i64 0, .int .i64 0, .int .i64 0,dI li] 136)/\s.heap=upd K m (some (.map es))
set_option maxHeartbeats 8000000 in
theorem Db1 (hG:GX G) (V:Cg l) (W:l.length<=500000):SrF Tryz.prog G l r 120 [] (fun k=>(Ba7 l k).mp fun a=> .agg (Gt a)):=by
 have hl:l.length<=800000:=by omega
 intro B k hr hk;dsimp only;refine Ab Tryz.func120 Tryz.call120 rfl (by kernel_rfl) ?_;simp(disch:=omega)only[go_sem];intro q2 E;dsimp only at E;have J:=Af E hr;have C:=J.symm;simp(disch:=omega)only[go_sem]
 (with_reducible refine Ag.monoR (Mq G _ (by first | assumption | exact Aa _ _ _ | exact Ae (Aa _ _ _) (by assumption) | exact Ae (Ae (Aa _ _ _) (by assumption)) (by assumption) | exact Ae (Ae (Ae (Aa _ _ _) (by assumption)) (by assumption)) (by assumption) | exact Ae (Ae (Ae (Ae (Aa _ _ _) (by assumption)) (by assumption)) (by assumption)) (by assumption) | exact Ae (by assumption) (by assumption) | exact Ae (Ae (by assumption) (by assumption)) (by assumption) | exact Ae (Ae (Ae (by assumption) (by assumption)) (by assumption)) (by assumption) | exact Ae (Ae (Ae (Ae (by assumption) (by assumption)) (by assumption)) (by assumption)) (by assumption)) (by omega) (by omega)) ?_)
 simp(disch:=omega)only[go_sem,Cq];refine ReC (Au3 hG hl _ _ (Ae hr J) hk) (Js.names hk) ?_ ?_ ?_
 ·intro ns k1 ab ai X;simp(disch:=omega)only[go_sem,dW];intro q3 D;dsimp only at D;obtain⟨I,L,D⟩:=Ba.1 D;obtain⟨S,M,D⟩:=Ba.1 D;simp(disch:=omega)only[go_sem,J,C,I,L,S,M];intro q4 Y;dsimp only at Y;simp(disch:=omega)only[go_sem,J,C,I,L,S,M];refine SrU (Fi6 hG hl _ (by rfl) Y (Ae (Aa _ _ _) L) X (by simp)) X ?_;simp(disch:=omega)only[go_sem,Bu9,Wg];refine⟨fun hw aj=> ?_,fun hw j=> ?_⟩
  ·(try simp(disch:=omega)only[go_sem])
   refine Fi8 (Gz8 B r l (k1+1) q2 q3 (tk l k).line ns) ?_ ?_
   ·refine Ak (by kernel_rfl) (.take 1 (.take 3 (.take 5 (.take 7 (.go 0 [] (.alt (.go 4 [] (.alt (.go 6 [] (.alt (.go 8 [] (.go 2 [] (.take 9 (.take 10 .done)))) (.go 2 [] (.go 8 [] (.take 9 (.take 10 .done)))))) (.alt (.go 8 [] (.alt (.go 6 [] (.go 2 [] (.take 9 (.take 10 .done)))) (.go 2 [] (.go 6 [] (.take 9 (.take 10 .done)))))) (.go 2 [] (.alt (.go 8 [] (.go 6 [] (.take 9 (.take 10 .done)))) (.go 6 [] (.go 8 [] (.take 9 (.take 10 .done))))))))) (.alt (.go 6 [] (.alt (.go 4 [] (.alt (.go 8 [] (.go 2 [] (.take 9 (.take 10 .done)))) (.go 2 [] (.go 8 [] (.take 9 (.take 10 .done)))))) (.alt (.go 8 [] (.alt (.go 4 [] (.go 2 [] (.take 9 (.take 10 .done)))) (.go 2 [] (.go 4 [] (.take 9 (.take 10 .done)))))) (.go 2 [] (.alt (.go 8 [] (.go 4 [] (.take 9 (.take 10 .done)))) (.go 4 [] (.go 8 [] (.take 9 (.take 10 .done))))))))) (.alt (.go 8 [] (.alt (.go 4 [] (.alt (.go 6 [] (.go 2 [] (.take 9 (.take 10 .done)))) (.go 2 [] (.go 6 [] (.take 9 (.take 10 .done)))))) (.alt (.go 6 [] (.alt (.go 4 [] (.go 2 [] (.take 9 (.take 10 .done)))) (.go 2 [] (.go 4 [] (.take 9 (.take 10 .done)))))) (.go 2 [] (.alt (.go 6 [] (.go 4 [] (.take 9 (.take 10 .done)))) (.go 4 [] (.go 6 [] (.take 9 (.take 10 .done))))))))) (.go 2 [] (.alt (.go 6 [] (.alt (.go 8 [] (.go 4 [] (.take 9 (.take 10 .done)))) (.go 4 [] (.go 8 [] (.take 9 (.take 10 .done)))))) (.alt (.go 8 [] (.alt (.go 6 [] (.go 4 [] (.take 9 (.take 10 .done)))) (.go 4 [] (.go 6 [] (.take 9 (.take 10 .done)))))) (.go 4 [] (.alt (.go 8 [] (.go 6 [] (.take 9 (.take 10 .done)))) (.go 6 [] (.go 8 [] (.take 9 (.take 10 .done))))))))))))))))) (by kernel_rfl) ?_;simp(disch:=omega)only[go_sem,J,C,I,L,S,M];intro m hm;dsimp only at hm;have O:=fun o1 o2=>((((SRt.refl hr).own E C o1).set k1).own D I o2).set (k1+1)
    repeat' first
     | with_reducible refine And.intro ?_ ?_
     | exact⟨rfl,by simp [upd],by simp [upd],by simp [upd],m,_,(fun a b=>by cases a<;>cases b<;>exact⟨_,_,rfl,rfl,rfl⟩),by simp [upd],_,hm,O _ _,⟨_,rfl,Ae (Ae (Ae (Aa _ _ _) C) M) C⟩,Ae (Aa _ _ _) I,rfl⟩
     | simp(disch:=omega)only[go_sem,Zj,Np,Zv,Dr5,jT,jS]
     | fail
   ·rintro _ ⟨env,K0⟩ ⟨rfl,x0,x2,x3,m,es,ho,x4,K,hm,O,⟨Z,hZ,g2⟩,g3,aa⟩;dsimp only at x0 x2 x3 x4 aa;subst aa;have gr:=O.get;have ac:=Af hm g2;have ad:=Af hm g3;have ae:=Af hm gr;have ak:=ac.symm;have al:=ad.symm;have am:=ae.symm;have ao:=O.lo hm;have ap:Z.drop 21= []:=List.drop_of_length_le (by omega);obtain⟨i1,p1,aq,ar,au⟩:=ho true true;obtain⟨i2,p2,av,aw,ax⟩:=ho true false;obtain⟨i3,p3,ay,a0,a1⟩:=ho false true;obtain⟨i4,p4,a2,a3,a4⟩:=ho false false;simp(disch:=omega)only[go_sem,x0,x2,x3,x4]
    repeat' first
     | (with_reducible refine SrM (Tj hG _ _ (by first | assumption | exact Aa _ _ _ | exact Ae (Aa _ _ _) (by assumption) | exact Ae (Ae (Aa _ _ _) (by assumption)) (by assumption) | exact Ae (Ae (Ae (Aa _ _ _) (by assumption)) (by assumption)) (by assumption) | exact Ae (Ae (Ae (Ae (Aa _ _ _) (by assumption)) (by assumption)) (by assumption)) (by assumption) | exact Ae (by assumption) (by assumption) | exact Ae (Ae (by assumption) (by assumption)) (by assumption) | exact Ae (Ae (Ae (by assumption) (by assumption)) (by assumption)) (by assumption) | exact Ae (Ae (Ae (Ae (by assumption) (by assumption)) (by assumption)) (by assumption)) (by assumption)) (by omega) (by omega)) (by first | assumption | exact Aa _ _ _ | exact Ae (Aa _ _ _) (by assumption) | exact Ae (Ae (Aa _ _ _) (by assumption)) (by assumption) | exact Ae (Ae (Ae (Aa _ _ _) (by assumption)) (by assumption)) (by assumption) | exact Ae (Ae (Ae (Ae (Aa _ _ _) (by assumption)) (by assumption)) (by assumption)) (by assumption) | exact Ae (by assumption) (by assumption) | exact Ae (Ae (by assumption) (by assumption)) (by assumption) | exact Ae (Ae (Ae (by assumption) (by assumption)) (by assumption)) (by assumption) | exact Ae (Ae (Ae (Ae (by assumption) (by assumption)) (by assumption)) (by assumption)) (by assumption)) (by omega) ?_ ?_<;>intros)
     | (with_reducible refine ReC (Bu8 hG V W _ _ (by first | assumption | exact Aa _ _ _ | exact Ae (Aa _ _ _) (by assumption) | exact Ae (Ae (Aa _ _ _) (by assumption)) (by assumption) | exact Ae (Ae (Ae (Aa _ _ _) (by assumption)) (by assumption)) (by assumption) | exact Ae (Ae (Ae (Ae (Aa _ _ _) (by assumption)) (by assumption)) (by assumption)) (by assumption) | exact Ae (by assumption) (by assumption) | exact Ae (Ae (by assumption) (by assumption)) (by assumption) | exact Ae (Ae (Ae (by assumption) (by assumption)) (by assumption)) (by assumption) | exact Ae (Ae (Ae (Ae (by assumption) (by assumption)) (by assumption)) (by assumption)) (by assumption)) (by omega)) (Js.mark (by omega)) ?_ ?_ ?_<;>intros)
     | (with_reducible refine ReC (Da6 hG V W _ _ (by first | assumption | exact Aa _ _ _ | exact Ae (Aa _ _ _) (by assumption) | exact Ae (Ae (Aa _ _ _) (by assumption)) (by assumption) | exact Ae (Ae (Ae (Aa _ _ _) (by assumption)) (by assumption)) (by assumption) | exact Ae (Ae (Ae (Ae (Aa _ _ _) (by assumption)) (by assumption)) (by assumption)) (by assumption) | exact Ae (by assumption) (by assumption) | exact Ae (Ae (by assumption) (by assumption)) (by assumption) | exact Ae (Ae (Ae (by assumption) (by assumption)) (by assumption)) (by assumption) | exact Ae (Ae (Ae (Ae (by assumption) (by assumption)) (by assumption)) (by assumption)) (by assumption)) (by omega)) (Js.given (by omega)) ?_ ?_ ?_<;>intros)
     | with_reducible refine And.intro ?_ ?_
     | ((with_reducible show Fz _ _ _ _ _);intro q hq;dsimp only at hq;have af:=hq;have hz:=(show Ad3 B _ from(by repeat (first | exact Ad3.refl _ | refine Ad3.upd ?_ _ _))) _ hq;have U:=Af hz hr;have ag:=U.symm;(try have nb:=Af hz hq0);(try have a5:=(Af hz hq0).symm);(try simp only[Ba] at hq);(repeat (have ah:=hq.1;have hq:=hq.2)))
     | ((with_reducible refine fun(q:Nat) (hq:_=none)=> ?_);have af:=hq;(try simp only[Ba8] at hq);(repeat (have ah:=hq.1;have hq:=hq.2));have hz:=hq;have U:=Af hz hr;have ag:=U.symm)
     | simp(disch:=omega)only[go_sem, *,dE,Wg,Bu9,Cn,List.take_append,List.drop_append,Im,Ju,Gn,Gx,Gp,Gy,jC,Ad,An,Au,Bo,Ej,Ek,List.all_append,List.all_cons,List.all_nil,jO,jH,jG,jA,jB,jE,jM,jJ,jR,jL,List.take_nil,jI,Gf0,exists_eq_left',Option.some.injEq]
     | (with_reducible refine Ma ?_ ?_<;>intro hb<;>try simp only[decide_eq_true_eq,decide_eq_false_iff_not,Bool.not_eq_true',Bool.not_eq_false'] at hb)
     | (with_reducible refine Pe ?_ ?_<;>intro hb<;>try simp only[decide_eq_true_eq,decide_eq_false_iff_not,Bool.not_eq_true',Bool.not_eq_false'] at hb)
     | (show SRt _ _ _ _ _;first | with_reducible assumption | apply SRt.at | (apply SRt.refl;assumption) | apply SRt.set | (apply SRt.own<;>first | assumption | skip))
     | ((with_reducible show Fa _ .nilSlice _);refine Fa.le DLe.nil ?_)
     | ((with_reducible show Fa _ (.agg _) _);apply SRt.finZ (H0:=B) (r:=r) (l:=l))
     | ((with_reducible show Fa _ _ _);apply SRt.fin (H0:=B) (r:=r) (l:=l))
     | ((with_reducible show Vd _ _ _);apply SRt.finP (H0:=B) (r:=r) (l:=l))
     | (intro _)
     | ((first | refine SrR.ofK ?_ | refine SrR.ofF ?_ | refine SrR.ofL ?_);simp [Re.mp,Re.then,Dh,dE,Cn,nz,Ly,Lb,Lc,Qk,Ad,An,Au,Ef,Eo,Bf,Bv,Ee,Sd,Od,Fy,wIn,As7,Kd,wIs,Pq,Pz,Cu,Am0,Lo,wOf,Lw,Fp,Ko,Fm,By,Jj,Ba7,Xe,Gt,dW, *];done)
     | fail
  ·(try simp(disch:=omega)only[go_sem])
   exact SRt.finP (((((SRt.refl hr).own E C _).set k1).own D I _).set j) (by rw[Ba7,ab];refine SrR.ofF ?_;simp [Re.then,Dh,Re.mp,Sd,hw])
 ·intro i j h;simp(disch:=omega)only[go_sem];exact SRt.finP (((SRt.refl hr).own E C _).set j) (by rw[Ba7,h];exact⟨rfl,j,rfl⟩)
 ·intro j h;simp(disch:=omega)only[go_sem];exact SRt.finP (((SRt.refl hr).own E C _).set j) (by rw[Ba7,h];exact⟨rfl,j,rfl⟩)
end
section
variable {G:Nat->DVal} {r:Nat} {l:List Tok}
theorem Dp3 (hG:GX G) (L:Cg l) (M:l.length<=500000):SrF Tryz.prog G l r 118 [] (fun k=>(At0 l k).mp Gm):=by
 have hl:l.length<=800000:=by omega
 intro B k hr hk;dsimp only;refine Ab Tryz.func118 Tryz.call118 rfl (by kernel_rfl) ?_;simp(disch:=omega)only[go_sem];refine(Ai4 G B [59]).mono ?_;rintro _ K ⟨E,q2,O,S,rfl,rfl⟩;obtain⟨Y,U,V⟩:=Ba.1 S;have I:=Af O hr;have J:=Af V hr;have W:=I.symm;have X:=J.symm;simp(disch:=omega)only[go_sem];refine ReC (r:=r) (l:=l) (x:=At0 l k) (D:=Gm) (a:=k+1) ?_ (Js.pars hk) ?_ ?_ ?_
 ·exact(Fz0 hl).2.1 _ 120 220 [.optr r 0] [] [] [.optr E 0, .optr q2 0] (Ba7 l) (byW l Fy)
   (fun H k C hk=>Db1 hG L M H k C.get hk) (fun H k C hk=>Ad8 hG hl _ Fy E q2 k W X (Ae (Aa _ _ _) U) (Aa _ _ _) H C hk) (fun _ h=>Js.par h) Ag4 k (Ae (Ae hr I) J) hk
 all_goals intros
 repeat' first
  | simp(disch:=omega)only[go_sem]
  | assumption
  | (show SRt _ _ _ _ _;first | with_reducible assumption | apply SRt.at | (apply SRt.refl;assumption) | apply SRt.set | (apply SRt.own<;>first | assumption | skip))
  | ((with_reducible show Fa _ _ _);apply SRt.fin (H0:=B) (r:=r) (l:=l))
  | ((with_reducible show Vd _ _ _);apply SRt.finP (H0:=B) (r:=r) (l:=l))
  | ((first | refine SrR.ofK ?_ | refine SrR.ofF ?_ | refine SrR.ofL ?_);simp [Re.mp, *];done)
  | fail
end
section
variable {G:Nat->DVal} {l:List Tok}
def nz2:DVal->DVal
 | .agg cs=> .agg (cs.map nz)
 | v=>nz v
theorem Gp3 (v:DVal):DLe v (nz2 v):=by
 cases v<;>first | exact Ge6 _ | exact fun w H x hx=>(by
  simp only[nz2,Rel] at hx⊢
  obtain⟨xs,rfl,hx⟩:=hx;exact⟨xs,rfl,Ck8 w H _ _ hx⟩)
theorem Cm5 (w:World) (H:Ac): ∀(cs:List DVal) (xs:List Value),Az w H cs xs->Az w H (cs.map nz2) xs
 | [],_,h=>h
 | c::cs,xs,h=>by
  simp only[jN,Az] at h⊢
  obtain⟨y,ys,rfl,h1,h2⟩:=h;exact⟨y,ys,rfl,Gp3 c w H y h1,Cm5 w H cs ys h2⟩
theorem Fa.nzT {R:DEnd->Ac->Prop} {cs:List DVal} {H H':Ac} (h:Sub H H') (C:R (.ret (.tuple (cs.map nz2))) H):Fa R (.tuple cs) H':=
 Fa.sub h (Fa.le (fun w H x hx=>by
  simp only[Rel] at hx⊢
  obtain⟨xs,rfl,hx⟩:=hx;exact⟨xs,rfl,Cm5 w H _ _ hx⟩) (.refl C))
def Kh {α:Type} (D:α->DVal) (x:α×Int×Int):DVal:= .tuple [D x.1,dI x.2.1,dI x.2.2]
set_option maxHeartbeats 4000000 in
theorem En4 (H:Ac) (hl:l.length<=800000) (g gf:FuncId) (ab:Re (List Par)) (fine:List Par->Bool) (hf: ∀r H,H r=some (srO l 0)->Ag Tryz.prog G g [.optr r 0] H (SrR r l H (ab.mp Gm))) (ai: ∀x k,ab= .ok x k-> ∀H,Ag Tryz.prog G gf [Gm x] H (Ax (.bool (fine x)) H)):
  Ag Tryz.prog G 117 [Bl l, .func (.func g) [] [], .func (.func gf) [] []] H (Ax (Kh Gm (Lk ab fine [])) H):=by
 refine Ot Tryz.func117 Tryz.func215 Tryz.call117 Tryz.call215 rfl rfl (by kernel_rfl) (by kernel_rfl) rfl ?_;simp(disch:=omega)only[go_sem];intro Z V;dsimp only at V;simp(disch:=omega)only[go_sem];intro W L;dsimp only at L;have aa:Z≠W:=Af L (Aa _ _ _);have ak:=aa.symm;have aj:(Bl l).cells= [Bl l]:=rfl;simp(disch:=omega)only[go_sem,aj,jA,jB,jE,jJ,jI,jG];intro r7 D;dsimp only at D;have M:Z≠r7:=Af D (Aj (Aa _ _ _) aa);have O:W≠r7:=Af D (Aa _ _ _);have al:H W=none:=((Sub.refl H).new V _).lo L;have ad:H r7=none:=(((Sub.refl H).new V _).new L _).lo D;have am:=M.symm;have ao:=O.symm;simp(disch:=omega)only[go_sem];refine(hf r7 _ (Aa _ _ _)).mono ?_;intro e E hq;cases hres:ab with
 | ok x k=>
  rw[hres] at hq;obtain⟨rfl,C⟩:=hq;have X:E Z=some (.cells [dI 0] 3):=by rw[C,Am _ _ _ _ M,Am _ _ _ _ M,Am _ _ _ _ aa];exact Aa _ _ _
  have Y:E W=some (.cells [dI 0] 36):=by rw[C,Am _ _ _ _ O,Am _ _ _ _ O];exact Aa _ _ _
  have J:E r7=some (.cells [Bl l,dI k] 246):=by rw[C];exact Aa _ _ _
  have I:Sub H E:=by rw[C];exact(((((Sub.refl H).new V _).new L _).new D _).up ad _)
  have ac:=ai x k hres E;cases hfi:fine x with
  | true=>
   rw[hfi] at ac;rw[Lk,hfi,if_pos rfl];clear C D hres
   repeat' first
    | with_reducible refine And.intro ?_ ?_
    | (with_reducible refine Ag.monoR ac ?_)
    | ((with_reducible show Fz _ _ _ _ _);intro q hq;dsimp only at hq;have hz:=(show Sub H _ from(by repeat (first | exact I | refine Sub.up ?_ (by assumption) _))).lo hq;(try simp only[Ba] at hq);(repeat (have ae:=hq.1;have hq:=hq.2));have S:=Af hq X;have U:=Af hq Y;have af:=S.symm;have ag:=U.symm;(try have q7:=Af hq J);(try have ah:=(Af hq J).symm))
    | simp(disch:=omega)only[go_sem, *,Pv]
    | refine Ak (by kernel_rfl) pL8 (by kernel_rfl) ?_
    | ((with_reducible show Fa _ _ _);refine Fa.nzT (H:=H) (by repeat (first | exact I | refine Sub.up ?_ (by assumption) _)) ⟨?_,rfl⟩;simp [Kh,nz2,nz,Gm,Cy5,Cv];done)
    | fail
  | false=>
   rw[hfi] at ac;rw[Lk,hfi,if_neg (by simp)];clear C D hres
   repeat' first
    | with_reducible refine And.intro ?_ ?_
    | (with_reducible refine Ag.monoR ac ?_)
    | ((with_reducible show Fz _ _ _ _ _);intro q hq;dsimp only at hq;have hz:=(show Sub H _ from(by repeat (first | exact I | refine Sub.up ?_ (by assumption) _))).lo hq;(try simp only[Ba] at hq);(repeat (have ae:=hq.1;have hq:=hq.2));have S:=Af hq X;have U:=Af hq Y;have af:=S.symm;have ag:=U.symm;(try have q7:=Af hq J);(try have ah:=(Af hq J).symm))
    | simp(disch:=omega)only[go_sem, *,Pv]
    | refine Ak (by kernel_rfl) pL8 (by kernel_rfl) ?_
    | ((with_reducible show Fa _ _ _);refine Fa.nzT (H:=H) (by repeat (first | exact I | refine Sub.up ?_ (by assumption) _)) ⟨?_,rfl⟩;simp [Kh,nz2,nz,Gm,Cy5,Cv];done)
    | fail
 | fail k=>
  rw[hres] at hq;obtain⟨rfl,j,C⟩:=hq;have X:E Z=some (.cells [dI 0] 3):=by rw[C,Am _ _ _ _ M,Am _ _ _ _ M,Am _ _ _ _ aa];exact Aa _ _ _
  have Y:E W=some (.cells [dI 0] 36):=by rw[C,Am _ _ _ _ O,Am _ _ _ _ O];exact Aa _ _ _
  have I:Sub H E:=by rw[C];exact(((((Sub.refl H).new V _).new L _).new D _).up ad _)
  rw[Lk];clear C D hres
  repeat' first
   |with_reducible refine And.intro ?_ ?_
    | ((with_reducible show Fz _ _ _ _ _);intro q hq;dsimp only at hq;have hz:=(show Sub H _ from(by repeat (first | exact I | refine Sub.up ?_ (by assumption) _))).lo hq;(try simp only[Ba] at hq);(repeat (have ae:=hq.1;have hq:=hq.2));have S:=Af hq X;have U:=Af hq Y;have af:=S.symm;have ag:=U.symm;(try have q7:=Af hq J);(try have ah:=(Af hq J).symm))
   | simp(disch:=omega)only[go_sem, *,Pv]
   | refine Ak (by kernel_rfl) pL4 (by kernel_rfl) ?_
   | ((with_reducible show Fa _ _ _);refine Fa.nzT (H:=H) (by repeat (first | exact I | refine Sub.up ?_ (by assumption) _)) ⟨?_,rfl⟩;simp [Kh,nz2,nz,Gm,Cy5,Cv];done)
   | fail
 | long=>
  rw[hres] at hq;obtain⟨rfl,j,C⟩:=hq;have X:E Z=some (.cells [dI 0] 3):=by rw[C,Am _ _ _ _ M,Am _ _ _ _ M,Am _ _ _ _ aa];exact Aa _ _ _
  have Y:E W=some (.cells [dI 0] 36):=by rw[C,Am _ _ _ _ O,Am _ _ _ _ O];exact Aa _ _ _
  have I:Sub H E:=by rw[C];exact(((((Sub.refl H).new V _).new L _).new D _).up ad _)
  rw[Lk];clear C D hres
  repeat' first
   | with_reducible refine And.intro ?_ ?_
   | ((with_reducible show Fz _ _ _ _ _);intro q hq;dsimp only at hq;have hz:=(show Sub H _ from(by repeat (first | exact I | refine Sub.up ?_ (by assumption) _))).lo hq;(try simp only[Ba] at hq);(repeat (have ae:=hq.1;have hq:=hq.2));have S:=Af hq X;have U:=Af hq Y;have af:=S.symm;have ag:=U.symm;(try have q7:=Af hq J);(try have ah:=(Af hq J).symm))
   | simp(disch:=omega)only[go_sem, *,Pv]
   | refine Ak (by kernel_rfl) pL4 (by kernel_rfl) ?_
   | ((with_reducible show Fa _ _ _);refine Fa.nzT (H:=H) (by repeat (first | exact I | refine Sub.up ?_ (by assumption) _)) ⟨?_,rfl⟩;simp [Kh,nz2,nz,Gm,Cy5,Cv];done)
   | fail
theorem Pb (x:Ind):(Dv x).take 36=Dv x:=Gn x (Nat.le_refl _)
theorem Hg (x:Dis):(Dy x).take 27=Dy x:=Gp x (Nat.le_refl _)
set_option maxHeartbeats 4000000 in
theorem En5 (H:Ac) (hl:l.length<=800000) (g gf:FuncId) (ab:Re Ind) (fine:Ind->Bool) (hf: ∀r H,H r=some (srO l 0)->Ag Tryz.prog G g [.optr r 0] H (SrR r l H (ab.mp (fun a=> .agg (Dv a))))) (ao: ∀x k,ab= .ok x k-> ∀H,Ag Tryz.prog G gf [.agg (Dv x)] H (Ax (.bool (fine x)) H)):
  Ag Tryz.prog G 131 [Bl l, .func (.func g) [] [], .func (.func gf) [] []] H (Ax (Kh (fun a=> .agg (Dv a)) (Lk ab fine Ut)) H):=by
 refine Ot Tryz.func131 Tryz.func224 Tryz.call131 Tryz.call224 rfl rfl (by kernel_rfl) (by kernel_rfl) rfl ?_;simp(disch:=omega)only[go_sem];intro r4 ac;dsimp only at ac;simp(disch:=omega)only[go_sem];intro r5 Z;dsimp only at Z;obtain⟨av,ae,aw⟩:=Ba.1 Z;simp(disch:=omega)only[go_sem];intro r6 aa;dsimp only at aa;obtain⟨ax,af,ap⟩:=Ba.1 aa;obtain⟨ay,ag,a0⟩:=Ba.1 ap;have aq:(Bl l).cells= [Bl l]:=rfl;simp(disch:=omega)only[go_sem,aq,jA,jB,jE,jJ,jI,jG];intro r7 I;dsimp only at I;obtain⟨a1,S,ar⟩:=Ba.1 I;obtain⟨a2,U,au⟩:=Ba.1 ar;obtain⟨a3,V,ah⟩:=Ba.1 au;simp(disch:=omega)only[go_sem];refine(hf r7 _ (Aa _ _ _)).mono ?_;intro e D hq;cases hres:ab with
 | ok x k=>
  rw[hres] at hq;obtain⟨rfl,C⟩:=hq;have W:=(congrFun C r4).trans (Aj (Aj (Aj (Aj (Aa _ _ _) ae) ag) V) V);have X:D r5=some (.cells [dI 0] 3):=by rw[C,Am _ _ _ _ U,Am _ _ _ _ U,Am _ _ _ _ af];exact Aa _ _ _
  have Y:D r6=some (.cells [dI 0] 36):=by rw[C,Am _ _ _ _ S,Am _ _ _ _ S];exact Aa _ _ _
  have E:Sub H D:=by rw[C];exact((((((Sub.refl H).new ac _).new Z _).new aa _).new I _).up ah _)
  have J:D r7=some (.cells [Bl l,dI k] 246):=by rw[C];exact Aa _ _ _
  have ad:=ao x k hres;cases hfi:fine x with
  | true=>
   rw[hfi] at ad;rw[Lk,hfi,if_pos rfl];clear C I hres
   repeat' first
    | with_reducible refine And.intro ?_ ?_
    | (with_reducible refine Ag.monoR (ad _) ?_)
    | ((with_reducible show Fz _ _ _ _ _);intro q hq;dsimp only at hq;have hz:=(show Sub H _ from(by repeat (first | exact E | refine Sub.up ?_ (by assumption) _))).lo hq;(try simp only[Ba] at hq);(repeat (have ai:=hq.1;have hq:=hq.2));have L:=Af hq W;have aj:=L.symm;have M:=Af hq X;have O:=Af hq Y;have ak:=M.symm;have al:=O.symm;(try have q7:=Af hq J);(try have am:=(Af hq J).symm))
    | simp(disch:=omega)only[go_sem, *,Pv,An,Pb,jH,jL]
    | refine Ak (by kernel_rfl) pL2 (by kernel_rfl) ?_
    | ((with_reducible show Fa _ _ _);refine Fa.nzT (H:=H) (by repeat (first | exact E | refine Sub.up ?_ (by assumption) _)) ⟨?_,rfl⟩;simp [Kh,nz2,nz,Ls,Lb,Lc,Cl,Ed,Ut,Rt,Dv,Dy,Qk,dW,Cv,Ey,Ly];done)
    | fail
  | false=>
   rw[hfi] at ad;rw[Lk,hfi,if_neg (by simp)];clear C I hres
   repeat' first
    | with_reducible refine And.intro ?_ ?_
    | (with_reducible refine Ag.monoR (ad _) ?_)
    | ((with_reducible show Fz _ _ _ _ _);intro q hq;dsimp only at hq;have hz:=(show Sub H _ from(by repeat (first | exact E | refine Sub.up ?_ (by assumption) _))).lo hq;(try simp only[Ba] at hq);(repeat (have ai:=hq.1;have hq:=hq.2));have L:=Af hq W;have aj:=L.symm;have M:=Af hq X;have O:=Af hq Y;have ak:=M.symm;have al:=O.symm;(try have q7:=Af hq J);(try have am:=(Af hq J).symm))
    | simp(disch:=omega)only[go_sem, *,Pv,An,Pb,jH,jL]
    | refine Ak (by kernel_rfl) pL2 (by kernel_rfl) ?_
    | ((with_reducible show Fa _ _ _);refine Fa.nzT (H:=H) (by repeat (first | exact E | refine Sub.up ?_ (by assumption) _)) ⟨?_,rfl⟩;simp [Kh,nz2,nz,Ls,Lb,Lc,Cl,Ed,Ut,Rt,Dv,Dy,Qk,dW,Cv,Ey,Ly];done)
    | fail
 | fail k=>
  rw[hres] at hq;obtain⟨rfl,j,C⟩:=hq;have W:=(congrFun C r4).trans (Aj (Aj (Aj (Aj (Aa _ _ _) ae) ag) V) V);have X:D r5=some (.cells [dI 0] 3):=by rw[C,Am _ _ _ _ U,Am _ _ _ _ U,Am _ _ _ _ af];exact Aa _ _ _
  have Y:D r6=some (.cells [dI 0] 36):=by rw[C,Am _ _ _ _ S,Am _ _ _ _ S];exact Aa _ _ _
  have E:Sub H D:=by rw[C];exact((((((Sub.refl H).new ac _).new Z _).new aa _).new I _).up ah _)
  rw[Lk];clear C I hres
  repeat' first
   | with_reducible refine And.intro ?_ ?_
   | ((with_reducible show Fz _ _ _ _ _);intro q hq;dsimp only at hq;have hz:=(show Sub H _ from(by repeat (first | exact E | refine Sub.up ?_ (by assumption) _))).lo hq;(try simp only[Ba] at hq);(repeat (have ai:=hq.1;have hq:=hq.2));have L:=Af hq W;have aj:=L.symm;have M:=Af hq X;have O:=Af hq Y;have ak:=M.symm;have al:=O.symm;(try have q7:=Af hq J);(try have am:=(Af hq J).symm))
   | simp(disch:=omega)only[go_sem, *,Pv,An,Pb,jH,jL]
   | refine Ak (by kernel_rfl) pL4 (by kernel_rfl) ?_
   | ((with_reducible show Fa _ _ _);refine Fa.nzT (H:=H) (by repeat (first | exact E | refine Sub.up ?_ (by assumption) _)) ⟨?_,rfl⟩;simp [Kh,nz2,nz,Ls,Lb,Lc,Cl,Ed,Ut,Rt,Dv,Dy,Qk,dW,Cv,Ey,Ly];done)
   | fail
 | long=>
  rw[hres] at hq;obtain⟨rfl,j,C⟩:=hq;have W:=(congrFun C r4).trans (Aj (Aj (Aj (Aj (Aa _ _ _) ae) ag) V) V);have X:D r5=some (.cells [dI 0] 3):=by rw[C,Am _ _ _ _ U,Am _ _ _ _ U,Am _ _ _ _ af];exact Aa _ _ _
  have Y:D r6=some (.cells [dI 0] 36):=by rw[C,Am _ _ _ _ S,Am _ _ _ _ S];exact Aa _ _ _
  have E:Sub H D:=by rw[C];exact((((((Sub.refl H).new ac _).new Z _).new aa _).new I _).up ah _)
  rw[Lk];clear C I hres
  repeat' first
   | with_reducible refine And.intro ?_ ?_
   | ((with_reducible show Fz _ _ _ _ _);intro q hq;dsimp only at hq;have hz:=(show Sub H _ from(by repeat (first | exact E | refine Sub.up ?_ (by assumption) _))).lo hq;(try simp only[Ba] at hq);(repeat (have ai:=hq.1;have hq:=hq.2));have L:=Af hq W;have aj:=L.symm;have M:=Af hq X;have O:=Af hq Y;have ak:=M.symm;have al:=O.symm;(try have q7:=Af hq J);(try have am:=(Af hq J).symm))
   | simp(disch:=omega)only[go_sem, *,Pv,An,Pb,jH,jL]
   | refine Ak (by kernel_rfl) pL4 (by kernel_rfl) ?_
   | ((with_reducible show Fa _ _ _);refine Fa.nzT (H:=H) (by repeat (first | exact E | refine Sub.up ?_ (by assumption) _)) ⟨?_,rfl⟩;simp [Kh,nz2,nz,Ls,Lb,Lc,Cl,Ed,Ut,Rt,Dv,Dy,Qk,dW,Cv,Ey,Ly];done)
   | fail
set_option maxHeartbeats 4000000 in
theorem En6 (H:Ac) (hl:l.length<=800000) (g gf:FuncId) (ab:Re Dis) (fine:Dis->Bool) (hf: ∀r H,H r=some (srO l 0)->Ag Tryz.prog G g [.optr r 0] H (SrR r l H (ab.mp (fun a=> .agg (Dy a))))) (ao: ∀x k,ab= .ok x k-> ∀H,Ag Tryz.prog G gf [.agg (Dy x)] H (Ax (.bool (fine x)) H)):
  Ag Tryz.prog G 129 [Bl l, .func (.func g) [] [], .func (.func gf) [] []] H (Ax (Kh (fun a=> .agg (Dy a)) (Lk ab fine Rt)) H):=by
 refine Ot Tryz.func129 Tryz.func221 Tryz.call129 Tryz.call221 rfl rfl (by kernel_rfl) (by kernel_rfl) rfl ?_;simp(disch:=omega)only[go_sem];intro r4 ac;dsimp only at ac;simp(disch:=omega)only[go_sem];intro r5 Z;dsimp only at Z;obtain⟨av,ae,aw⟩:=Ba.1 Z;simp(disch:=omega)only[go_sem];intro r6 aa;dsimp only at aa;obtain⟨ax,af,ap⟩:=Ba.1 aa;obtain⟨ay,ag,a0⟩:=Ba.1 ap;have aq:(Bl l).cells= [Bl l]:=rfl;simp(disch:=omega)only[go_sem,aq,jA,jB,jE,jJ,jI,jG];intro r7 I;dsimp only at I;obtain⟨a1,S,ar⟩:=Ba.1 I;obtain⟨a2,U,au⟩:=Ba.1 ar;obtain⟨a3,V,ah⟩:=Ba.1 au;simp(disch:=omega)only[go_sem];refine(hf r7 _ (Aa _ _ _)).mono ?_;intro e D hq;cases hres:ab with
 | ok x k=>
  rw[hres] at hq;obtain⟨rfl,C⟩:=hq;have W:=(congrFun C r4).trans (Aj (Aj (Aj (Aj (Aa _ _ _) ae) ag) V) V);have X:D r5=some (.cells [dI 0] 3):=by rw[C,Am _ _ _ _ U,Am _ _ _ _ U,Am _ _ _ _ af];exact Aa _ _ _
  have Y:D r6=some (.cells [dI 0] 36):=by rw[C,Am _ _ _ _ S,Am _ _ _ _ S];exact Aa _ _ _
  have E:Sub H D:=by rw[C];exact((((((Sub.refl H).new ac _).new Z _).new aa _).new I _).up ah _)
  have J:D r7=some (.cells [Bl l,dI k] 246):=by rw[C];exact Aa _ _ _
  have ad:=ao x k hres;cases hfi:fine x with
  | true=>
   rw[hfi] at ad;rw[Lk,hfi,if_pos rfl];clear C I hres
   repeat' first
    | with_reducible refine And.intro ?_ ?_
    | (with_reducible refine Ag.monoR (ad _) ?_)
    | ((with_reducible show Fz _ _ _ _ _);intro q hq;dsimp only at hq;have hz:=(show Sub H _ from(by repeat (first | exact E | refine Sub.up ?_ (by assumption) _))).lo hq;(try simp only[Ba] at hq);(repeat (have ai:=hq.1;have hq:=hq.2));have L:=Af hq W;have aj:=L.symm;have M:=Af hq X;have O:=Af hq Y;have ak:=M.symm;have al:=O.symm;(try have q7:=Af hq J);(try have am:=(Af hq J).symm))
    | simp(disch:=omega)only[go_sem, *,Pv,Au,Hg,jH,jL]
    | refine Ak (by kernel_rfl) pL2 (by kernel_rfl) ?_
    | ((with_reducible show Fa _ _ _);refine Fa.nzT (H:=H) (by repeat (first | exact E | refine Sub.up ?_ (by assumption) _)) ⟨?_,rfl⟩;simp [Kh,nz2,nz,Ls,Lb,Lc,Cl,Ed,Ut,Rt,Dv,Dy,Qk,dW,Cv,Ey,Ly];done)
    | fail
  | false=>
   rw[hfi] at ad;rw[Lk,hfi,if_neg (by simp)];clear C I hres
   repeat' first
    | with_reducible refine And.intro ?_ ?_
    | (with_reducible refine Ag.monoR (ad _) ?_)
    | ((with_reducible show Fz _ _ _ _ _);intro q hq;dsimp only at hq;have hz:=(show Sub H _ from(by repeat (first | exact E | refine Sub.up ?_ (by assumption) _))).lo hq;(try simp only[Ba] at hq);(repeat (have ai:=hq.1;have hq:=hq.2));have L:=Af hq W;have aj:=L.symm;have M:=Af hq X;have O:=Af hq Y;have ak:=M.symm;have al:=O.symm;(try have q7:=Af hq J);(try have am:=(Af hq J).symm))
    | simp(disch:=omega)only[go_sem, *,Pv,Au,Hg,jH,jL]
    | refine Ak (by kernel_rfl) pL2 (by kernel_rfl) ?_
    | ((with_reducible show Fa _ _ _);refine Fa.nzT (H:=H) (by repeat (first | exact E | refine Sub.up ?_ (by assumption) _)) ⟨?_,rfl⟩;simp [Kh,nz2,nz,Ls,Lb,Lc,Cl,Ed,Ut,Rt,Dv,Dy,Qk,dW,Cv,Ey,Ly];done)
    | fail
 | fail k=>
  rw[hres] at hq;obtain⟨rfl,j,C⟩:=hq;have W:=(congrFun C r4).trans (Aj (Aj (Aj (Aj (Aa _ _ _) ae) ag) V) V);have X:D r5=some (.cells [dI 0] 3):=by rw[C,Am _ _ _ _ U,Am _ _ _ _ U,Am _ _ _ _ af];exact Aa _ _ _
  have Y:D r6=some (.cells [dI 0] 36):=by rw[C,Am _ _ _ _ S,Am _ _ _ _ S];exact Aa _ _ _
  have E:Sub H D:=by rw[C];exact((((((Sub.refl H).new ac _).new Z _).new aa _).new I _).up ah _)
  rw[Lk];clear C I hres
  repeat' first
   | with_reducible refine And.intro ?_ ?_
   | ((with_reducible show Fz _ _ _ _ _);intro q hq;dsimp only at hq;have hz:=(show Sub H _ from(by repeat (first | exact E | refine Sub.up ?_ (by assumption) _))).lo hq;(try simp only[Ba] at hq);(repeat (have ai:=hq.1;have hq:=hq.2));have L:=Af hq W;have aj:=L.symm;have M:=Af hq X;have O:=Af hq Y;have ak:=M.symm;have al:=O.symm;(try have q7:=Af hq J);(try have am:=(Af hq J).symm))
   | simp(disch:=omega)only[go_sem, *,Pv,Au,Hg,jH,jL]
   | refine Ak (by kernel_rfl) pL4 (by kernel_rfl) ?_
   | ((with_reducible show Fa _ _ _);refine Fa.nzT (H:=H) (by repeat (first | exact E | refine Sub.up ?_ (by assumption) _)) ⟨?_,rfl⟩;simp [Kh,nz2,nz,Ls,Lb,Lc,Cl,Ed,Ut,Rt,Dv,Dy,Qk,dW,Cv,Ey,Ly];done)
   | fail
 | long=>
  rw[hres] at hq;obtain⟨rfl,j,C⟩:=hq;have W:=(congrFun C r4).trans (Aj (Aj (Aj (Aj (Aa _ _ _) ae) ag) V) V);have X:D r5=some (.cells [dI 0] 3):=by rw[C,Am _ _ _ _ U,Am _ _ _ _ U,Am _ _ _ _ af];exact Aa _ _ _
  have Y:D r6=some (.cells [dI 0] 36):=by rw[C,Am _ _ _ _ S,Am _ _ _ _ S];exact Aa _ _ _
  have E:Sub H D:=by rw[C];exact((((((Sub.refl H).new ac _).new Z _).new aa _).new I _).up ah _)
  rw[Lk];clear C I hres
  repeat' first
   | with_reducible refine And.intro ?_ ?_
   | ((with_reducible show Fz _ _ _ _ _);intro q hq;dsimp only at hq;have hz:=(show Sub H _ from(by repeat (first | exact E | refine Sub.up ?_ (by assumption) _))).lo hq;(try simp only[Ba] at hq);(repeat (have ai:=hq.1;have hq:=hq.2));have L:=Af hq W;have aj:=L.symm;have M:=Af hq X;have O:=Af hq Y;have ak:=M.symm;have al:=O.symm;(try have q7:=Af hq J);(try have am:=(Af hq J).symm))
   | simp(disch:=omega)only[go_sem, *,Pv,Au,Hg,jH,jL]
   | refine Ak (by kernel_rfl) pL4 (by kernel_rfl) ?_
   | ((with_reducible show Fa _ _ _);refine Fa.nzT (H:=H) (by repeat (first | exact E | refine Sub.up ?_ (by assumption) _)) ⟨?_,rfl⟩;simp [Kh,nz2,nz,Ls,Lb,Lc,Cl,Ed,Ut,Rt,Dv,Dy,Qk,dW,Cv,Ey,Ly];done)
   | fail
set_option maxHeartbeats 4000000 in
theorem En7 (H:Ac) (hl:l.length<=800000) (g gf:FuncId) (ab:Re Typ) (fine:Typ->Bool) (hf: ∀r H,H r=some (srO l 0)->Ag Tryz.prog G g [.optr r 0] H (SrR r l H (ab.mp (fun a=> .agg (Cl a))))) (ao: ∀x k,ab= .ok x k-> ∀H,Ag Tryz.prog G gf [.agg (Cl x)] H (Ax (.bool (fine x)) H)):
  Ag Tryz.prog G 90 [Bl l, .func (.func g) [] [], .func (.func gf) [] []] H (Ax (Kh (fun a=> .agg (Cl a)) (Lk ab fine Ed)) H):=by
 refine Ot Tryz.func90 Tryz.func190 Tryz.call90 Tryz.call190 rfl rfl (by kernel_rfl) (by kernel_rfl) rfl ?_;simp(disch:=omega)only[go_sem];intro r4 ac;dsimp only at ac;simp(disch:=omega)only[go_sem];intro r5 Z;dsimp only at Z;obtain⟨av,ae,aw⟩:=Ba.1 Z;simp(disch:=omega)only[go_sem];intro r6 aa;dsimp only at aa;obtain⟨ax,af,ap⟩:=Ba.1 aa;obtain⟨ay,ag,a0⟩:=Ba.1 ap;have aq:(Bl l).cells= [Bl l]:=rfl;simp(disch:=omega)only[go_sem,aq,jA,jB,jE,jJ,jI,jG];intro r7 I;dsimp only at I;obtain⟨a1,S,ar⟩:=Ba.1 I;obtain⟨a2,U,au⟩:=Ba.1 ar;obtain⟨a3,V,ah⟩:=Ba.1 au;simp(disch:=omega)only[go_sem];refine(hf r7 _ (Aa _ _ _)).mono ?_;intro e D hq;cases hres:ab with
 | ok x k=>
  rw[hres] at hq;obtain⟨rfl,C⟩:=hq;have W:=(congrFun C r4).trans (Aj (Aj (Aj (Aj (Aa _ _ _) ae) ag) V) V);have X:D r5=some (.cells [dI 0] 3):=by rw[C,Am _ _ _ _ U,Am _ _ _ _ U,Am _ _ _ _ af];exact Aa _ _ _
  have Y:D r6=some (.cells [dI 0] 36):=by rw[C,Am _ _ _ _ S,Am _ _ _ _ S];exact Aa _ _ _
  have E:Sub H D:=by rw[C];exact((((((Sub.refl H).new ac _).new Z _).new aa _).new I _).up ah _)
  have J:D r7=some (.cells [Bl l,dI k] 246):=by rw[C];exact Aa _ _ _
  have ad:=ao x k hres;cases hfi:fine x with
  | true=>
   rw[hfi] at ad;rw[Lk,hfi,if_pos rfl];clear C I hres
   repeat' first
    | with_reducible refine And.intro ?_ ?_
    | (with_reducible refine Ag.monoR (ad _) ?_)
    | ((with_reducible show Fz _ _ _ _ _);intro q hq;dsimp only at hq;have hz:=(show Sub H _ from(by repeat (first | exact E | refine Sub.up ?_ (by assumption) _))).lo hq;(try simp only[Ba] at hq);(repeat (have ai:=hq.1;have hq:=hq.2));have L:=Af hq W;have aj:=L.symm;have M:=Af hq X;have O:=Af hq Y;have ak:=M.symm;have al:=O.symm;(try have q7:=Af hq J);(try have am:=(Af hq J).symm))
    | simp(disch:=omega)only[go_sem, *,Pv,Bt,Ht,jH,jL]
    | refine Ak (by kernel_rfl) pL2 (by kernel_rfl) ?_
    | ((with_reducible show Fa _ _ _);refine Fa.nzT (H:=H) (by repeat (first | exact E | refine Sub.up ?_ (by assumption) _)) ⟨?_,rfl⟩;simp [Kh,nz2,nz,Ls,Lb,Lc,Cl,Ed,Ut,Rt,Dv,Dy,Qk,dW,Cv,Ey,Ly];done)
    | fail
  | false=>
   rw[hfi] at ad;rw[Lk,hfi,if_neg (by simp)];clear C I hres
   repeat' first
    | with_reducible refine And.intro ?_ ?_
    | (with_reducible refine Ag.monoR (ad _) ?_)
    | ((with_reducible show Fz _ _ _ _ _);intro q hq;dsimp only at hq;have hz:=(show Sub H _ from(by repeat (first | exact E | refine Sub.up ?_ (by assumption) _))).lo hq;(try simp only[Ba] at hq);(repeat (have ai:=hq.1;have hq:=hq.2));have L:=Af hq W;have aj:=L.symm;have M:=Af hq X;have O:=Af hq Y;have ak:=M.symm;have al:=O.symm;(try have q7:=Af hq J);(try have am:=(Af hq J).symm))
    | simp(disch:=omega)only[go_sem, *,Pv,Bt,Ht,jH,jL]
    | refine Ak (by kernel_rfl) pL2 (by kernel_rfl) ?_
    | ((with_reducible show Fa _ _ _);refine Fa.nzT (H:=H) (by repeat (first | exact E | refine Sub.up ?_ (by assumption) _)) ⟨?_,rfl⟩;simp [Kh,nz2,nz,Ls,Lb,Lc,Cl,Ed,Ut,Rt,Dv,Dy,Qk,dW,Cv,Ey,Ly];done)
    | fail
 | fail k=>
  rw[hres] at hq;obtain⟨rfl,j,C⟩:=hq;have W:=(congrFun C r4).trans (Aj (Aj (Aj (Aj (Aa _ _ _) ae) ag) V) V);have X:D r5=some (.cells [dI 0] 3):=by rw[C,Am _ _ _ _ U,Am _ _ _ _ U,Am _ _ _ _ af];exact Aa _ _ _
  have Y:D r6=some (.cells [dI 0] 36):=by rw[C,Am _ _ _ _ S,Am _ _ _ _ S];exact Aa _ _ _
  have E:Sub H D:=by rw[C];exact((((((Sub.refl H).new ac _).new Z _).new aa _).new I _).up ah _)
  rw[Lk];clear C I hres
  repeat' first
   | with_reducible refine And.intro ?_ ?_
   | ((with_reducible show Fz _ _ _ _ _);intro q hq;dsimp only at hq;have hz:=(show Sub H _ from(by repeat (first | exact E | refine Sub.up ?_ (by assumption) _))).lo hq;(try simp only[Ba] at hq);(repeat (have ai:=hq.1;have hq:=hq.2));have L:=Af hq W;have aj:=L.symm;have M:=Af hq X;have O:=Af hq Y;have ak:=M.symm;have al:=O.symm;(try have q7:=Af hq J);(try have am:=(Af hq J).symm))
   | simp(disch:=omega)only[go_sem, *,Pv,Bt,Ht,jH,jL]
   | refine Ak (by kernel_rfl) pL4 (by kernel_rfl) ?_
   | ((with_reducible show Fa _ _ _);refine Fa.nzT (H:=H) (by repeat (first | exact E | refine Sub.up ?_ (by assumption) _)) ⟨?_,rfl⟩;simp [Kh,nz2,nz,Ls,Lb,Lc,Cl,Ed,Ut,Rt,Dv,Dy,Qk,dW,Cv,Ey,Ly];done)
   | fail
 | long=>
  rw[hres] at hq;obtain⟨rfl,j,C⟩:=hq;have W:=(congrFun C r4).trans (Aj (Aj (Aj (Aj (Aa _ _ _) ae) ag) V) V);have X:D r5=some (.cells [dI 0] 3):=by rw[C,Am _ _ _ _ U,Am _ _ _ _ U,Am _ _ _ _ af];exact Aa _ _ _
  have Y:D r6=some (.cells [dI 0] 36):=by rw[C,Am _ _ _ _ S,Am _ _ _ _ S];exact Aa _ _ _
  have E:Sub H D:=by rw[C];exact((((((Sub.refl H).new ac _).new Z _).new aa _).new I _).up ah _)
  rw[Lk];clear C I hres
  repeat' first
   | with_reducible refine And.intro ?_ ?_
   | ((with_reducible show Fz _ _ _ _ _);intro q hq;dsimp only at hq;have hz:=(show Sub H _ from(by repeat (first | exact E | refine Sub.up ?_ (by assumption) _))).lo hq;(try simp only[Ba] at hq);(repeat (have ai:=hq.1;have hq:=hq.2));have L:=Af hq W;have aj:=L.symm;have M:=Af hq X;have O:=Af hq Y;have ak:=M.symm;have al:=O.symm;(try have q7:=Af hq J);(try have am:=(Af hq J).symm))
   | simp(disch:=omega)only[go_sem, *,Pv,Bt,Ht,jH,jL]
   | refine Ak (by kernel_rfl) pL4 (by kernel_rfl) ?_
   | ((with_reducible show Fa _ _ _);refine Fa.nzT (H:=H) (by repeat (first | exact E | refine Sub.up ?_ (by assumption) _)) ⟨?_,rfl⟩;simp [Kh,nz2,nz,Ls,Lb,Lc,Cl,Ed,Ut,Rt,Dv,Dy,Qk,dW,Cv,Ey,Ly];done)
   | fail
end
section
variable {G:Nat->DVal} {l:List Tok}
theorem Db2 (hG:GX G) (H:Ac) (C:l.length<=500000) (D:Cg l):Ag Tryz.prog G 35 [Bl l] H (Ax (Kh (fun a=> .agg (Dv a)) (Ad2 l)) H):=by
 have h:=fun K=>En5 K (by omega) 132 104 (Wd l 0) En (fun r H hr=>Da7 hG D C H 0 hr (Nat.zero_le _)) (fun x k hx H=>Rv hG H x (Ag8 D C (Nat.zero_le _) x k hx));refine Ab Tryz.func35 Tryz.call35 rfl (by kernel_rfl) ?_;simp(disch:=omega)only[go_sem];intro L E;dsimp only at E;simp(disch:=omega)only[go_sem];refine Ag.monoR (h _) ?_;have I:=An (Ad2 l).1;have J:=Pb (Ad2 l).1;change (Dv (Lk (Wd l 0) En _).1).length=_ at I;change (Dv (Lk (Wd l 0) En _).1).take _=_ at J;simp(disch:=omega)only[go_sem,Kh,I,J,jH,jL];exact Fa.sub ((Sub.refl H).new E _) (.refl ⟨rfl,rfl⟩)
theorem Ul (hG:GX G) (H:Ac) (C:l.length<=500000) (D:Cg l):Ag Tryz.prog G 30 [Bl l] H (Ax (Kh (fun a=> .agg (Dy a)) (Pu l)) H):=by
 have h:=fun K=>En6 K (by omega) 130 32 (Am4 l 0) Fh (fun r H hr=>Da8 hG D C H 0 hr (Nat.zero_le _)) (fun x k hx H=>Vq hG H x (Au1 D C x k hx));refine Ab Tryz.func30 Tryz.call30 rfl (by kernel_rfl) ?_;simp(disch:=omega)only[go_sem];intro L E;dsimp only at E;simp(disch:=omega)only[go_sem];refine Ag.monoR (h _) ?_;have I:=Au (Pu l).1;have J:=Hg (Pu l).1;change (Dy (Lk (Am4 l 0) Fh _).1).length=_ at I;change (Dy (Lk (Am4 l 0) Fh _).1).take _=_ at J;simp(disch:=omega)only[go_sem,Kh,I,J,jH,jL];exact Fa.sub ((Sub.refl H).new E _) (.refl ⟨rfl,rfl⟩)
theorem Yt (hG:GX G) (H:Ac) (C:l.length<=500000) (D:Cg l):Ag Tryz.prog G 20 [Bl l] H (Ax (Kh (fun a=> .agg (Cl a)) (Lq l)) H):=by
 have h:=fun K=>En7 K (by omega) 91 24 (Se l 0) Du (fun r H hr=>By0 hG D C H 0 hr (Nat.zero_le _)) (fun x k hx H=>Ad1 hG H x (Bh7 D C (Nat.zero_le _) x k hx));refine Ab Tryz.func20 Tryz.call20 rfl (by kernel_rfl) ?_;simp(disch:=omega)only[go_sem];intro L E;dsimp only at E;simp(disch:=omega)only[go_sem];refine Ag.monoR (h _) ?_;have I:=Bt (Lq l).1;have J:=Ht (Lq l).1;change (Cl (Lk (Se l 0) Du _).1).length=_ at I;change (Cl (Lk (Se l 0) Du _).1).take _=_ at J;simp(disch:=omega)only[go_sem,Kh,I,J,jH,jL];exact Fa.sub ((Sub.refl H).new E _) (.refl ⟨rfl,rfl⟩)
theorem Sw (hG:GX G) (H:Ac) (C:l.length<=500000) (D:Cg l):Ag Tryz.prog G 26 [Bl l] H (Ax (Kh Gm (Ss l)) H):=by
 have h:=fun K=>En4 K (by omega) 118 28 (At0 l 0) Jq (fun r H hr=>Dp3 hG D C H 0 hr (Nat.zero_le _)) (fun x k hx H=>Ps hG H x (Au2 D C (Nat.zero_le _) x k hx));refine Ab Tryz.func26 Tryz.call26 rfl (by kernel_rfl) ?_;simp(disch:=omega)only[go_sem];refine Ag.monoR (h _) ?_;simp(disch:=omega)only[go_sem,Kh];exact Fa.refl ⟨rfl,rfl⟩
end
end Go.Dl
