/- The data level and the contracts of the functions that are reached (part 4). -/
import Derived.Test.YtpkdkhoeaibpaaaGreatDoorPmc
set_option linter.unusedSimpArgs false
set_option linter.unusedVariables false
set_option linter.unusedSectionVars false
-- AN INTERPRETER OF THE DATA LEVEL, PART 2: how its values stand for those of the data level.
namespace Go.Dl
open Go
theorem Eb {R:Type} (n:Nat) (κ:Nat->R):Dj n κ=κ n:=by cases n<;>rfl
theorem Bd2 {R:Type} (n:Int) (κ:Int->R):Bj7 n κ=κ n:=by
 cases n with
 | ofNat m=>exact Eb m fun m=>κ (.ofNat m)
 | negSucc m=>exact Eb m fun m=>κ (.negSucc m)
theorem Ls {α R:Type}: ∀(l:List α) (κ:List α->R),Jo l κ=κ l
 | [],_=>rfl
 | x::l,κ=>Ls l (fun l=>κ (x::l))
theorem Av6 {R:Type} (b:Bool) (κ:Bool->R):Au5 b κ=κ b:=by cases b<;>rfl
theorem Xk {R:Type}: ∀(vs cs:List DVal) (κ:List DVal->R),Au6 vs cs κ=κ (splice cs 0 vs)
 | [],cs,κ=>by show κ cs=_;simp [splice]
 | v::vs,[],κ=>by show κ (v::vs)=_;simp [splice]
 | v::vs,c::cs,κ=>by
  show Au6 vs cs (fun r=>κ (v::r))=_;rw[Xk vs cs];simp [splice]
theorem Oe {R:Type} (vs:List DVal): ∀(off:Nat) (cs:List DVal) (κ:List DVal->R),Ab4 vs off cs κ=κ (splice cs off vs)
 | 0,cs,κ=>Xk vs cs κ
 | off+1,[],κ=>by show κ vs=_;simp [splice]
 | off+1,c::cs,κ=>by
  show Ab4 vs off cs (fun r=>κ (c::r))=_;rw[Oe vs off cs];simp [splice,Nat.add_right_comm]
theorem Ag9 {R:Type}: ∀(xs ys:List DVal) (κ:List DVal->R),Bo2 xs ys κ=κ (xs++ys)
 | [],_,_=>rfl
 | x::xs,ys,κ=>Ag9 xs ys fun r=>κ (x::r)
theorem Ir {R:Type}: ∀(n:Nat) (cs:List DVal) (κ:List DVal->R),Sd n cs κ=κ (cs.take n)
 | 0,cs,κ=>by show κ []=_;simp
 | n+1,[],κ=>by show κ []=_;simp
 | n+1,c::cs,κ=>by
  show Sd n cs (fun r=>κ (c::r))=_;rw[Ir n cs];simp
theorem Lt: ∀(n:Nat) (cs:List DVal),Af8 n cs=cs.drop n
 | 0,cs=>rfl
 | n+1,[]=>rfl
 | n+1,c::cs=>Lt n cs
theorem Ux: ∀(n:Nat) (cs:List DVal),Bc8 n cs=cs[n]?
 | 0,[]=>rfl
 | 0,c::cs=>rfl
 | n+1,[]=>rfl
 | n+1,c::cs=>by
  show Bc8 n cs=_;rw[Ux n cs];simp
theorem Is: ∀(n:Nat) (cs:List DVal),leN n cs=decide (n<=cs.length)
 | 0,cs=>by show true=_;simp
 | n+1,[]=>by show false=_;simp
 | n+1,c::cs=>by
  show leN n cs=_;rw[Is n cs];simp
theorem Qf: ∀(n:Nat) (cs:List DVal),eqN n cs=decide (cs.length=n)
 | 0,[]=>rfl
 | 0,c::cs=>by show false=_;simp
 | n+1,[]=>by show false=_;simp
 | n+1,c::cs=>by
  show eqN n cs=_;rw[Qf n cs];simp
theorem Lu {R:Type} (z:R) (place:Nat->Option (Nat×Nat)): ∀(parts:List (Nat×DVal)) (cs:List DVal) (κ:List DVal->R),Se z place parts cs κ=match Dd place cs parts with | some l=>κ l | none=>z
 | [],cs,κ=>rfl
 | (i,v)::parts,cs,κ=>by
  show Hw z (fun os=>Bool.rec (motive:=fun _=>R) z (Ab4 v.cells os.1 cs fun cs=>Se z place parts cs κ) (eqN os.2 v.cells&&leN (os.1+os.2) cs)) (place i)=_
  simp only[Dd]
  cases place i with
  | none=>rfl
  | some os=>
   obtain⟨off,size⟩:=os
   simp only[Hw]
   by_cases hc:v.cells.length=size/\off+v.cells.length<=cs.length
   ·rw[if_pos hc]
    have:(eqN size v.cells&&leN (off+size) cs)=true:=by
     rw[Qf,Is]
     simp only[Bool.and_eq_true,decide_eq_true_eq]
     exact⟨hc.1,by rw[<-hc.1];exact hc.2⟩
    rw[this]
    show Ab4 v.cells off cs (fun cs=>Se z place parts cs κ)=_
    rw[Oe,Lu z place parts]
    rfl
   ·rw[if_neg hc]
    have:(eqN size v.cells&&leN (off+size) cs)=false:=by
     rw[Qf,Is]
     cases hb:(decide (v.cells.length=size)&&decide (off+size<=cs.length)) with
     | false=>rfl
     | true=>
      simp only[Bool.and_eq_true,decide_eq_true_eq] at hb
      exact(hc ⟨hb.1,by rw[hb.1];exact hb.2⟩).elim
    rw[this]
theorem Mt (size:Nat) (cs:List DVal) (off:Nat) (ag:Option Bool):Uh size cs off ag=In size cs off ag:=by
 unfold Uh In;split
 ·rw[Ir,Lt,Is];by_cases h:off+size<=cs.length
  ·rw[if_pos h,decide_eq_true h]
  ·rw[if_neg h,decide_eq_false h]
 ·exact Ux _ _
 ·rfl
theorem Uy {R:Type} (v:DVal) (κ:DVal->R):fvK v κ=κ v:=by
 have e:fvK v κ=Bo3 v κ:=by cases v<;>rfl
 rw[e];unfold Bo3;split<;>simp only[Eb,Bd2,Ls,Av6]
theorem Av7 {R:Type} (v:DObj) (κ:DObj->R):foK v κ=κ v:=by
 unfold foK;split<;>simp only[Eb,Ls]
theorem Si: ∀(n m k j:Nat),k<=n->j<=m->Pt n k=Pt m j->k=j
 | 0,0,k,j,h1,h2,_=>by omega
 | 0,m+1,k,j,h1,h2,h=>by
  have hk:k=0:=by omega
  subst hk;by_cases hj:j=0
  ·exact hj.symm
  ·have hb:Nat.beq j 0=false:=by
    cases hb:Nat.beq j 0 with
    | false=>rfl
    | true=>exact(hj (Nat.eq_of_beq_eq_true hb)).elim
   have h:([]:List Bool)=Bool.rec (motive:=fun _=>List Bool) (Nat.beq (Nat.mod j 2) 1::Pt m (Nat.div (Nat.sub j 1) 2)) [] (Nat.beq j 0):=h;rw[hb] at h;cases h
 | n+1,0,k,j,h1,h2,h=>by
  have hj:j=0:=by omega
  subst hj;by_cases hk:k=0
  ·exact hk
  ·have hb:Nat.beq k 0=false:=by
    cases hb:Nat.beq k 0 with
    | false=>rfl
    | true=>exact(hk (Nat.eq_of_beq_eq_true hb)).elim
   have h:Bool.rec (motive:=fun _=>List Bool) (Nat.beq (Nat.mod k 2) 1::Pt n (Nat.div (Nat.sub k 1) 2)) [] (Nat.beq k 0)=([]:List Bool):=h;rw[hb] at h;cases h
 | n+1,m+1,k,j,h1,h2,h=>by
  have h:Bool.rec (motive:=fun _=>List Bool) (Nat.beq (Nat.mod k 2) 1::Pt n (Nat.div (Nat.sub k 1) 2)) [] (Nat.beq k 0)=Bool.rec (motive:=fun _=>List Bool) (Nat.beq (Nat.mod j 2) 1::Pt m (Nat.div (Nat.sub j 1) 2)) [] (Nat.beq j 0):=h;cases hb:Nat.beq k 0<;>cases hc:Nat.beq j 0<;>rw[hb,hc] at h
  ·injection h with h3 h4;have e:=Si n m ((k-1)/2) ((j-1)/2) (by omega) (by omega) h4;have hk:k≠0:=fun e=>by rw[e] at hb;cases hb
   have hj:j≠0:=fun e=>by rw[e] at hc;cases hc
   have h5:(k%2=1)↔(j%2=1):=by
    have h6: ∀a:Nat,Nat.beq (Nat.mod a 2) 1=true↔a%2=1:=fun a=>⟨fun h=>Nat.eq_of_beq_eq_true h,fun h=>by
     show Nat.beq (a%2) 1=true;rw[h];rfl⟩
    rw[<-h6,<-h6,h3]
   omega
  ·cases h
  ·cases h
  ·rw[Nat.eq_of_beq_eq_true hb,Nat.eq_of_beq_eq_true hc]
theorem Ac4 {k j:Nat} (h:Ip k=Ip j):k=j:=Si k j k j (Nat.le_refl _) (Nat.le_refl _) h
theorem Sj {α:Type} (p:List Bool):Gm (Tr.leaf:Tr α) p=none:=rfl
theorem Xl {α:Type} (k:Nat):(Tr.leaf:Tr α).get k=none:=rfl
theorem Gn {α R:Type} (x:α): ∀(p:List Bool) (t:Tr α) (κ:Tr α->R),∃t',(∀q,Gm t' q=if q=p then some x else Gm t q)/\Bo1 x p t κ=κ t'
 | [], .leaf,κ=>⟨.node .leaf (some x) .leaf,fun q=>by
   cases q with
   | nil=>rfl
   | cons b q=>cases b<;>rfl,rfl⟩
 | [], .node l v r,κ=>⟨.node l (some x) r,fun q=>by
   cases q with
   | nil=>rfl
   | cons b q=>cases b<;>rfl,rfl⟩
 | true::p, .leaf,κ=>by
  obtain⟨t',h1,h2⟩:=Gn (R:=R) x p .leaf (fun l=>κ (.node l none .leaf));refine⟨.node t' none .leaf,fun q=> ?_,h2⟩;cases q with
  | nil=>rfl
  | cons b q=>cases b with
   | false=>rfl
   | true=>
    show Gm t' q=_;rw[h1];by_cases e:q=p<;>simp [e,Sj]
 | false::p, .leaf,κ=>by
  obtain⟨t',h1,h2⟩:=Gn (R:=R) x p .leaf (fun r=>κ (.node .leaf none r));refine⟨.node .leaf none t',fun q=> ?_,h2⟩;cases q with
  | nil=>rfl
  | cons b q=>cases b with
   | true=>rfl
   | false=>
    show Gm t' q=_;rw[h1];by_cases e:q=p<;>simp [e,Sj]
 | true::p, .node l v r,κ=>by
  obtain⟨t',h1,h2⟩:=Gn (R:=R) x p l (fun l=>κ (.node l v r));refine⟨.node t' v r,fun q=> ?_,h2⟩;cases q with
  | nil=>rfl
  | cons b q=>cases b with
   | false=>rfl
   | true=>
    show Gm t' q=if(true::q)=(true::p) then some x else Gm l q
    rw[h1];by_cases e:q=p<;>simp [e]
 | false::p, .node l v r,κ=>by
  obtain⟨t',h1,h2⟩:=Gn (R:=R) x p r (fun r=>κ (.node l v r));refine⟨.node l v t',fun q=> ?_,h2⟩;cases q with
  | nil=>rfl
  | cons b q=>cases b with
   | true=>rfl
   | false=>
    show Gm t' q=if(false::q)=(false::p) then some x else Gm r q
    rw[h1];by_cases e:q=p<;>simp [e]
theorem Dv {α R:Type} {z:R} {x:α} (n:Nat) (t:Tr α) (k:Nat) (κ:Tr α->R):Tr.setK z x n t k κ=z\/ ∃t',(∀j,t'.get j=if j=k then some x else t.get j)/\Tr.setK z x n t k κ=κ t':=by
 obtain⟨t',h1,h2⟩:=Gn x (Ip k) t κ;refine .inr ⟨t',fun j=> ?_,h2⟩;show Gm t' (Ip j)=_;rw[h1];by_cases e:j=k
 ·rw[if_pos e,if_pos (by rw[e])]
 ·rw[if_neg e,if_neg fun h=>e (Ac4 h)];rfl
theorem Mu {α:Type} (f:α->α->Option α): ∀(t t':Tr α) (p:List Bool) (x:α),Gm (Jp f t t') p=some x-> ∃a b,Gm t p=some a/\Gm t' p=some b/\f a b=some x
 | .leaf,t',p,x,h=>by
  have:Jp f .leaf t'= .leaf:=by cases t'<;>rfl
  rw[this] at h;cases h
 | .node l v r, .leaf,p,x,h=>by
  have h:Gm (.leaf:Tr α) p=some x:=h;cases h
 | .node l v r, .node l' v' r',[],x,h=>by
  have h:Bf9 f v v'=some x:=h;show∃a b,v=some a/\v'=some b/\f a b=some x;cases v with
  | none=>cases v'<;>cases h
  | some a=>cases v' with
   | none=>cases h
   | some b=>exact⟨a,b,rfl,rfl,h⟩
 | .node l v r, .node l' v' r',true::p,x,h=>Mu f l l' p x h
 | .node l v r, .node l' v' r',false::p,x,h=>Mu f r r' p x h
theorem Av8 {α:Type} {f:α->α->Option α} {t t':Tr α} {k:Nat} {x:α} (h:(Jp f t t').get k=some x): ∃a b,t.get k=some a/\t'.get k=some b/\f a b=some x:=Mu f t t' (Ip k) x h
theorem Ki {α:Type} (g:α->Bool) (f:α->α->Option α): ∀(t t1 t2:Tr α) (p:List Bool) (x:α),Gm (Lj g f t t1 t2) p=some x-> ∃z a b,Gm t p=some z/\g z=true/\Gm t1 p=some a/\Gm t2 p=some b/\f a b=some x
 | .leaf,t1,t2,p,x,h=>by
  have:Lj g f .leaf t1 t2= .leaf:=by cases t1<;>cases t2<;>rfl
  rw[this] at h;cases h
 | .node l v r, .leaf,t2,p,x,h=>by
  have:Lj g f (.node l v r) .leaf t2= .leaf:=by cases t2<;>rfl
  rw[this] at h;cases h
 | .node l v r, .node l1 v1 r1, .leaf,p,x,h=>by
  have h:Gm (.leaf:Tr α) p=some x:=h;cases h
 | .node l v r, .node l1 v1 r1, .node l2 v2 r2,[],x,h=>by
  have h:Bg0 g f v v1 v2=some x:=h;show∃z a b,v=some z/\g z=true/\v1=some a/\v2=some b/\f a b=some x;cases v with
  | none=>cases v1<;>cases v2<;>cases h
  | some z=>cases v1 with
   | none=>cases v2<;>cases h
   | some a=>cases v2 with
    | none=>cases h
    | some b=>
     have h:Bool.rec (motive:=fun _=>Option α) none (f a b) (g z)=some x:=h;cases hg:g z with
     | false=>rw[hg] at h;cases h
     | true=>rw[hg] at h;exact⟨z,a,b,rfl,hg,rfl,rfl,h⟩
 | .node l v r, .node l1 v1 r1, .node l2 v2 r2,true::p,x,h=>Ki g f l l1 l2 p x h
 | .node l v r, .node l1 v1 r1, .node l2 v2 r2,false::p,x,h=>Ki g f r r1 r2 p x h
theorem Ao5 {α:Type} {g:α->Bool} {f:α->α->Option α} {t t1 t2:Tr α} {k:Nat} {x:α} (h:(Lj g f t t1 t2).get k=some x): ∃z a b,t.get k=some z/\g z=true/\t1.get k=some a/\t2.get k=some b/\f a b=some x:=Ki g f t t1 t2 (Ip k) x h
mutual
/-- The interpreter's value stands for that of the data level. -/
def RV (ρ:Nat->Option Nat):DVal->DVal->Prop
 | .raw x,d=>d= .raw x
 | .bool b,d=>d= .bool b
 | .int k n,d=>d= .int k n
 | .str s,d=>d= .str s
 | .nilPtr,d=>d= .nilPtr
 | .vptr cs off,d=> ∃cs',d= .vptr cs' off/\RVL ρ cs cs'
 | .optr k off,d=> ∃r,d= .optr r off/\ρ k=some r
 | .nilSlice,d=>d= .nilSlice
 | .vslice cs n,d=> ∃cs',d= .vslice cs' n/\RVL ρ cs cs'
 | .oslice sz k off len lo,d=> ∃r,d= .oslice sz r off len lo/\ρ k=some r
 | .nilMap,d=>d= .nilMap
 | .omap k,d=> ∃r,d= .omap r/\ρ k=some r
 | .func fn a c,d=> ∃a' c',d= .func fn a' c'/\RVL ρ a a'/\RVL ρ c c'
 | .nilFunc,d=>d= .nilFunc
 | .iface t v,d=> ∃v',d= .iface t v'/\RV ρ v v'
 | .nilIface,d=>d= .nilIface
 | .agg cs,d=> ∃cs',d= .agg cs'/\RVL ρ cs cs'
 | .tuple cs,d=> ∃cs',d= .tuple cs'/\RVL ρ cs cs'
def RVL (ρ:Nat->Option Nat):List DVal->List DVal->Prop
 | [],ds=>ds= []
 | x::xs,ds=> ∃y ys,ds=y::ys/\RV ρ x y/\RVL ρ xs ys
end
def RVM (ρ:Nat->Option Nat):List (DVal×DVal)->List (DVal×DVal)->Prop
 | [],es=>es= []
 | p::ps,es=> ∃q qs,es=q::qs/\RV ρ p.1 q.1/\RV ρ p.2 q.2/\RVM ρ ps qs
def RVP (ρ:Nat->Option Nat):List (Nat×DVal)->List (Nat×DVal)->Prop
 | [],es=>es= []
 | p::ps,es=> ∃v qs,es=(p.1,v)::qs/\RV ρ p.2 v/\RVP ρ ps qs
def LK (es es':List (DVal×DVal)):Prop:= ∀k r,Bb k es 0=some r-> ∃r',Bb k es' 0=some r'/\
 ((r=none/\r'=none)\/ ∃i j p p',r=some i/\r'=some j/\es[i]? =some p/\es'[j]? =some p'/\p.2=p'.2/\By p.2=true)
theorem LK.trans {a b c:List (DVal×DVal)} (h:LK a b) (k:LK b c):LK a c:=fun q r hr=>by
 obtain⟨r1,h1,h2⟩:=h q r hr;obtain⟨r2,k1,k2⟩:=k q r1 h1;refine⟨r2,k1, ?_⟩;rcases h2 with⟨rfl,rfl⟩ | ⟨i,j,p,p',rfl,rfl,e1,e2,e3,e4⟩
 ·rcases k2 with⟨_,rfl⟩ | ⟨i,j,p,p',e,_⟩
  ·exact .inl ⟨rfl,rfl⟩
  ·cases e
 ·rcases k2 with⟨e,_⟩ | ⟨i',j',q1,q2,e,rfl,f1,f2,f3,f4⟩
  ·cases e
  ·cases e;rw[e2] at f1;cases f1;exact .inr ⟨i,j',p,q2,rfl,rfl,e1,f2,e3.trans f3,e4⟩
def RO (ρ:Nat->Option Nat):DObj->DObj->Prop
 | .cells cs e,o=> ∃cs',o= .cells cs' e/\RVL ρ cs cs'
 | .map es,o=> ∃es',o= .map es'/\RVM ρ es es'
 | .iter s p,o=>o= .iter s p
 | .loop env n _,o=> ∃es',o= .map es'/\LK (Ri env n) es'
def Ble (ρ ρ':Nat->Option Nat):Prop:= ∀k r,ρ k=some r->ρ' k=some r
theorem Ble.refl (ρ:Nat->Option Nat):Ble ρ ρ:=fun _ _ h=>h
theorem Ble.trans {ρ ρ' ρ'':Nat->Option Nat} (h:Ble ρ ρ') (k:Ble ρ' ρ''):Ble ρ ρ'':=fun a r e=>k a r (h a r e)
section
variable {ρ ρ':Nat->Option Nat}
mutual
theorem RV.mono (h:Ble ρ ρ'): ∀ {v d:DVal},RV ρ v d->RV ρ' v d
 | .raw _,_,hr=>by simpa only[RV] using hr
 | .bool _,_,hr=>by simpa only[RV] using hr
 | .int _ _,_,hr=>by simpa only[RV] using hr
 | .str _,_,hr=>by simpa only[RV] using hr
 | .nilPtr,_,hr=>by simpa only[RV] using hr
 | .vptr cs off,d,hr=>by
  simp only[RV] at hr⊢
  obtain⟨cs',e,hl⟩:=hr
  exact⟨cs',e,RVL.mono h hl⟩
 | .optr k off,d,hr=>by
  simp only[RV] at hr⊢
  obtain⟨r,e,hk⟩:=hr
  exact⟨r,e,h k r hk⟩
 | .nilSlice,_,hr=>by simpa only[RV] using hr
 | .vslice cs n,d,hr=>by
  simp only[RV] at hr⊢
  obtain⟨cs',e,hl⟩:=hr
  exact⟨cs',e,RVL.mono h hl⟩
 | .oslice sz k off len lo,d,hr=>by
  simp only[RV] at hr⊢
  obtain⟨r,e,hk⟩:=hr
  exact⟨r,e,h k r hk⟩
 | .nilMap,_,hr=>by simpa only[RV] using hr
 | .omap k,d,hr=>by
  simp only[RV] at hr⊢
  obtain⟨r,e,hk⟩:=hr
  exact⟨r,e,h k r hk⟩
 | .func fn a c,d,hr=>by
  simp only[RV] at hr⊢
  obtain⟨a',c',e,h1,h2⟩:=hr
  exact⟨a',c',e,RVL.mono h h1,RVL.mono h h2⟩
 | .nilFunc,_,hr=>by simpa only[RV] using hr
 | .iface t v,d,hr=>by
  simp only[RV] at hr⊢
  obtain⟨v',e,hv⟩:=hr
  exact⟨v',e,RV.mono h hv⟩
 | .nilIface,_,hr=>by simpa only[RV] using hr
 | .agg cs,d,hr=>by
  simp only[RV] at hr⊢
  obtain⟨cs',e,hl⟩:=hr
  exact⟨cs',e,RVL.mono h hl⟩
 | .tuple cs,d,hr=>by
  simp only[RV] at hr⊢
  obtain⟨cs',e,hl⟩:=hr
  exact⟨cs',e,RVL.mono h hl⟩
theorem RVL.mono (h:Ble ρ ρ'): ∀ {vs ds:List DVal},RVL ρ vs ds->RVL ρ' vs ds
 | [],_,hr=>by simpa only[RVL] using hr
 | x::xs,ds,hr=>by
  simp only[RVL] at hr⊢
  obtain⟨y,ys,e,h1,h2⟩:=hr
  exact⟨y,ys,e,RV.mono h h1,RVL.mono h h2⟩
end
theorem RVM.mono (h:Ble ρ ρ'): ∀ {vs ds:List (DVal×DVal)},RVM ρ vs ds->RVM ρ' vs ds
 | [],_,hr=>hr
 | x::xs,ds,hr=>by
  obtain⟨y,ys,e,h1,h2,h3⟩:=hr;exact⟨y,ys,e,RV.mono h h1,RV.mono h h2,RVM.mono h h3⟩
theorem RO.mono (h:Ble ρ ρ') {o o':DObj} (hr:RO ρ o o'):RO ρ' o o':=by
 cases o with
 | cells cs e=>
  obtain⟨cs',e,hl⟩:=hr;exact⟨cs',e,hl.mono h⟩
 | map es=>
  obtain⟨cs',e,hl⟩:=hr;exact⟨cs',e,hl.mono h⟩
 | iter s p=>exact hr
 | loop=>exact hr
mutual
/-- What it stands for is one value alone. -/
theorem RV.fn: ∀ {v d d':DVal},RV ρ v d->RV ρ v d'->d=d'
 | .raw _,_,_,h,h'=>by simp only[RV] at h h';rw[h,h']
 | .bool _,_,_,h,h'=>by simp only[RV] at h h';rw[h,h']
 | .int _ _,_,_,h,h'=>by simp only[RV] at h h';rw[h,h']
 | .str _,_,_,h,h'=>by simp only[RV] at h h';rw[h,h']
 | .nilPtr,_,_,h,h'=>by simp only[RV] at h h';rw[h,h']
 | .nilSlice,_,_,h,h'=>by simp only[RV] at h h';rw[h,h']
 | .nilMap,_,_,h,h'=>by simp only[RV] at h h';rw[h,h']
 | .nilFunc,_,_,h,h'=>by simp only[RV] at h h';rw[h,h']
 | .nilIface,_,_,h,h'=>by simp only[RV] at h h';rw[h,h']
 | .vptr cs off,_,_,h,h'=>by
  simp only[RV] at h h'
  obtain⟨a,rfl,h1⟩:=h;obtain⟨b,rfl,h2⟩:=h'
  rw[RVL.fn h1 h2]
 | .vslice cs off,_,_,h,h'=>by
  simp only[RV] at h h'
  obtain⟨a,rfl,h1⟩:=h;obtain⟨b,rfl,h2⟩:=h'
  rw[RVL.fn h1 h2]
 | .agg cs,_,_,h,h'=>by
  simp only[RV] at h h'
  obtain⟨a,rfl,h1⟩:=h;obtain⟨b,rfl,h2⟩:=h'
  rw[RVL.fn h1 h2]
 | .tuple cs,_,_,h,h'=>by
  simp only[RV] at h h'
  obtain⟨a,rfl,h1⟩:=h;obtain⟨b,rfl,h2⟩:=h'
  rw[RVL.fn h1 h2]
 | .func fn a c,_,_,h,h'=>by
  simp only[RV] at h h'
  obtain⟨a,b,rfl,h1,h3⟩:=h;obtain⟨a',b',rfl,h2,h4⟩:=h'
  rw[RVL.fn h1 h2,RVL.fn h3 h4]
 | .iface t v,_,_,h,h'=>by
  simp only[RV] at h h'
  obtain⟨a,rfl,h1⟩:=h;obtain⟨b,rfl,h2⟩:=h'
  rw[RV.fn h1 h2]
 | .optr k off,_,_,h,h'=>by
  simp only[RV] at h h'
  obtain⟨a,rfl,h1⟩:=h;obtain⟨b,rfl,h2⟩:=h'
  rw[h1] at h2;cases h2;rfl
 | .oslice _ k _ _ _,_,_,h,h'=>by
  simp only[RV] at h h'
  obtain⟨a,rfl,h1⟩:=h;obtain⟨b,rfl,h2⟩:=h'
  rw[h1] at h2;cases h2;rfl
 | .omap k,_,_,h,h'=>by
  simp only[RV] at h h'
  obtain⟨a,rfl,h1⟩:=h;obtain⟨b,rfl,h2⟩:=h'
  rw[h1] at h2;cases h2;rfl
theorem RVL.fn: ∀ {v d d':List DVal},RVL ρ v d->RVL ρ v d'->d=d'
 | [],_,_,h,h'=>by simp only[RVL] at h h';rw[h,h']
 | x::xs,_,_,h,h'=>by
  simp only[RVL] at h h'
  obtain⟨a,b,rfl,h1,h3⟩:=h;obtain⟨a',b',rfl,h2,h4⟩:=h'
  rw[RV.fn h1 h2,RVL.fn h3 h4]
end
theorem RVL.length: ∀ {xs ys:List DVal},RVL ρ xs ys->ys.length=xs.length
 | [],_,h=>by simp only[RVL] at h;subst h;rfl
 | x::xs,_,h=>by
  simp only[RVL] at h;obtain⟨a,b,rfl,h1,h2⟩:=h;simp [h2.length]
theorem RVL.append: ∀ {xs ys xs' ys':List DVal},RVL ρ xs xs'->RVL ρ ys ys'->RVL ρ (xs++ys) (xs'++ys')
 | [],_,_,_,h,k=>by simp only[RVL] at h;subst h;exact k
 | x::xs,_,_,_,h,k=>by
  simp only[RVL] at h;obtain⟨a,b,rfl,h1,h2⟩:=h;simp only[List.cons_append,RVL];exact⟨a,_,rfl,h1,h2.append k⟩
theorem RVL.take: ∀ {xs xs':List DVal} (n:Nat),RVL ρ xs xs'->RVL ρ (xs.take n) (xs'.take n)
 | [],_,n,h=>by simp only[RVL] at h;subst h;simp [RVL]
 | x::xs,_,0,h=>by simp [RVL]
 | x::xs,_,n+1,h=>by
  simp only[RVL] at h;obtain⟨a,b,rfl,h1,h2⟩:=h;simp only[List.take_succ_cons,RVL];exact⟨a,_,rfl,h1,h2.take n⟩
theorem RVL.drop: ∀ {xs xs':List DVal} (n:Nat),RVL ρ xs xs'->RVL ρ (xs.drop n) (xs'.drop n)
 | [],_,n,h=>by simp only[RVL] at h;subst h;simp [RVL]
 | x::xs,_,0,h=>by simpa using h
 | x::xs,_,n+1,h=>by
  simp only[RVL] at h;obtain⟨a,b,rfl,h1,h2⟩:=h;simpa only[List.drop_succ_cons] using h2.drop n
theorem RVL.get: ∀ {xs xs':List DVal} {n:Nat} {x:DVal},RVL ρ xs xs'->xs[n]? =some x-> ∃x',xs'[n]? =some x'/\RV ρ x x'
 | [],_,n,x,_,e=>by simp at e
 | y::xs,_,0,x,h,e=>by
  simp only[RVL] at h;obtain⟨a,b,rfl,h1,h2⟩:=h;simp only[List.getElem?_cons_zero,Option.some.injEq] at e;subst e;exact⟨a,rfl,h1⟩
 | y::xs,_,n+1,x,h,e=>by
  simp only[RVL] at h;obtain⟨a,b,rfl,h1,h2⟩:=h;simp only[List.getElem?_cons_succ] at e⊢
  exact h2.get e
theorem RVL.nil:RVL ρ [] []:=rfl
theorem RVL.cons {x y:DVal} {xs ys:List DVal} (h:RV ρ x y) (k:RVL ρ xs ys):RVL ρ (x::xs) (y::ys):=by
 simp only[RVL];exact⟨y,ys,rfl,h,k⟩
theorem RVL.inv {x:DVal} {xs ds:List DVal} (h:RVL ρ (x::xs) ds): ∃y ys,ds=y::ys/\RV ρ x y/\RVL ρ xs ys:=by simpa only[RVL] using h
theorem RVL.splice {xs xs' vs vs':List DVal} (off:Nat) (h:RVL ρ xs xs') (k:RVL ρ vs vs'):RVL ρ (splice xs off vs) (splice xs' off vs'):=by
 unfold Dl.splice;rw[k.length];exact((h.take off).append k).append (h.drop _)
theorem RVL.repl {zs zs':List DVal} (h:RVL ρ zs zs'): ∀n,RVL ρ (repl n zs) (repl n zs')
 | 0=>by simp [Dl.repl,RVL]
 | n+1=>by
  have:=RVL.repl h n;simp only[Dl.repl,List.replicate_succ,List.flatten_cons] at this⊢
  exact h.append this
theorem RVL.bytes (l:List UInt8):RVL ρ (l.map fun b=> .int .u8 b.toNat) (l.map fun b=> .int .u8 b.toNat):=by
 induction l with
 | nil=>exact rfl
 | cons x l ih=>exact .cons (by simp only[RV]) ih
theorem RV.one {v v':DVal} (h:RV ρ v v'):v'.one=v.one:=by
 cases v<;>simp only[RV] at h;all_goals first | (subst h;rfl) | (obtain⟨_,rfl,_⟩:=h;rfl) | (obtain⟨_,_,rfl,_⟩:=h;rfl)
theorem RVL.allOne: ∀ {xs ys:List DVal},RVL ρ xs ys->ys.all (·.one)=xs.all (·.one)
 | [],_,h=>by simp only[RVL] at h;subst h;rfl
 | x::xs,_,h=>by
  obtain⟨a,b,rfl,h1,h2⟩:=h.inv;simp only[List.all_cons,h1.one,h2.allOne]
theorem RV.cells {v v':DVal} (h:RV ρ v v'):RVL ρ v.cells v'.cells:=by
 have keep:=h;cases v<;>simp only[RV] at h;all_goals first
  | (subst h;exact .cons keep .nil)
  | (obtain⟨_,rfl,hl⟩:=h;first | exact hl | exact .cons keep .nil)
  | (obtain⟨_,_,rfl,_⟩:=h;exact .cons keep .nil)
theorem RV.int (k:IntKind) (n:Int):RV ρ (.int k n) (.int k n):=by simp only[RV]
theorem RV.bool (b:Bool):RV ρ (.bool b) (.bool b):=by simp only[RV]
theorem RV.str (b:List UInt8):RV ρ (.str b) (.str b):=by simp only[RV]
theorem RV.nilS:RV ρ .nilSlice .nilSlice:=by simp only[RV]
theorem RV.agg {cs cs':List DVal} (h:RVL ρ cs cs'):RV ρ (.agg cs) (.agg cs'):=by simp only[RV];exact⟨_,rfl,h⟩
theorem RV.tuple {cs cs':List DVal} (h:RVL ρ cs cs'):RV ρ (.tuple cs) (.tuple cs'):=by simp only[RV];exact⟨_,rfl,h⟩
theorem RV.undef:RV ρ Aw Aw:= .tuple .nil
theorem RV.vptr {cs cs':List DVal} (o:Nat) (h:RVL ρ cs cs'):RV ρ (.vptr cs o) (.vptr cs' o):=by simp only[RV];exact⟨_,rfl,h⟩
theorem RV.vslice {cs cs':List DVal} (o:Nat) (h:RVL ρ cs cs'):RV ρ (.vslice cs o) (.vslice cs' o):=by simp only[RV];exact⟨_,rfl,h⟩
theorem RV.optr {k r:Nat} (o:Nat) (h:ρ k=some r):RV ρ (.optr k o) (.optr r o):=by simp only[RV];exact⟨_,rfl,h⟩
theorem RV.oslice {k r:Nat} (a b c d:Nat) (h:ρ k=some r):RV ρ (.oslice a k b c d) (.oslice a r b c d):=by simp only[RV];exact⟨_,rfl,h⟩
theorem RV.omap {k r:Nat} (h:ρ k=some r):RV ρ (.omap k) (.omap r):=by simp only[RV];exact⟨_,rfl,h⟩
theorem RV.iface {v v':DVal} (t:TypeId) (h:RV ρ v v'):RV ρ (.iface t v) (.iface t v'):=by simp only[RV];exact⟨_,rfl,h⟩
theorem RV.func {a a' c c':List DVal} (f:Fn) (h:RVL ρ a a') (k:RVL ρ c c'):RV ρ (.func f a c) (.func f a' c'):=by simp only[RV];exact⟨_,_,rfl,h,k⟩
theorem Xm: ∀v,RV ρ (Ao v) (Ao v):=by
 intro v;refine Ao.induct (motive_1:=fun v=>RV ρ (Ao v) (Ao v)) (motive_2:=fun vs=>RVL ρ (Bk vs) (Bk vs)) ?_ ?_ ?_ ?_ ?_ ?_ ?_ ?_ ?_ ?_ ?_ ?_ ?_ ?_ v;all_goals (intros;simp only[Ao,Bk];try first
  | (simp only[RV];done)
  | exact .agg (by assumption)
  | exact .tuple (by assumption)
  | exact .func _ (by assumption) (by assumption)
  | exact .cons (by assumption) (by assumption)
  | exact .nil)
 all_goals (unfold Ao;split<;>first | (simp only[RV];done) | (exfalso;simp_all;done))
theorem Er {P:Program} {t:TypeId} {z:DVal} (h:Ah P t=some z):RV ρ z z:=by
 unfold Ah at h;cases hz:(P.info? t).bind (·.zero) with
 | none=>rw[hz] at h;cases h
 | some v=>rw[hz] at h;cases h;exact Xm v
end
mutual
theorem Gp {ρ:Nat->Option Nat}: ∀ {v:DVal},By v=true->RV ρ v v
 | .raw _,_=>by simp only[RV]
 | .bool _,_=>by simp only[RV]
 | .int _ _,_=>by simp only[RV]
 | .str _,_=>by simp only[RV]
 | .nilPtr,_=>by simp only[RV]
 | .nilSlice,_=>by simp only[RV]
 | .nilMap,_=>by simp only[RV]
 | .nilFunc,_=>by simp only[RV]
 | .nilIface,_=>by simp only[RV]
 | .vptr cs o,h=> .vptr o (Ca (by simpa only[By] using h))
 | .vslice cs o,h=> .vslice o (Ca (by simpa only[By] using h))
 | .agg cs,h=> .agg (Ca (by simpa only[By] using h))
 | .tuple cs,h=> .tuple (Ca (by simpa only[By] using h))
 | .iface t v,h=> .iface t (Gp (by simpa only[By] using h))
 | .func f a c,h=>by
  simp only[By,Bool.and_eq_true] at h
  exact .func f (Ca h.1) (Ca h.2)
 | .optr _ _,h=>by simp only[By] at h;cases h
 | .oslice _ _ _ _ _,h=>by simp only[By] at h;cases h
 | .omap _,h=>by simp only[By] at h;cases h
theorem Ca {ρ:Nat->Option Nat}: ∀ {vs:List DVal},Cc vs=true->RVL ρ vs vs
 | [],_=> .nil
 | v::vs,h=>by
  simp only[Cc,Bool.and_eq_true] at h
  exact .cons (Gp h.1) (Ca h.2)
end
structure RH (B:Aa) (ρ:Nat->Option Nat) (A:XH) (H:Aa):Prop where
 obj: ∀k o,Av A k=some o-> ∃r o',ρ k=some r/\H r=some o'/\RO ρ o o'
 inj: ∀k k' r o o',Av A k=some o->Av A k'=some o'->ρ k=some r->ρ k'=some r->k=k'
 nx: ∀k,A.nx<=k->ρ k=none
 base: ∀r o,B r=some o->H r=some o
 low: ∀k r,ρ k=some r->B r=none
structure RS (B:Aa) (ρ:Nat->Option Nat) (E:Tr DVal) (A:XH) (s:DS):Prop where
 env: ∀i v,E.get i=some v->RV ρ v (s.env i)
 heap:RH B ρ A s.heap
def Ad (B:Aa) (ρ:Nat->Option Nat) (Q:DExit->DS->Prop):Out->Prop
 | .bad=>False
 | .norm E A=> ∀ρ' s',Ble ρ ρ'->RS B ρ' E A s'->Q .normal s'
 | .exit id E A=> ∀ρ' s',Ble ρ ρ'->RS B ρ' E A s'->Q (.exit id) s'
 | .ret E A=> ∀ρ' s',Ble ρ ρ'->RS B ρ' E A s'->Q .ret s'
 | .panic v E A=> ∀ρ' s' v',Ble ρ ρ'->RS B ρ' E A s'->RV ρ' v v'->Q (.panic v') s'
 | .panicX v A=> ∀ρ' s' v',Ble ρ ρ'->RH B ρ' A s'.heap->RV ρ' v v'->Q (.panic v') s'
def Cr (B:Aa) (ρ:Nat->Option Nat) (R:DEnd->Aa->Prop):COut->Prop
 | .bad=>False
 | .cret v A=> ∀ρ' H' v',Ble ρ ρ'->RH B ρ' A H'->RV ρ' v v'->R (.ret v') H'
 | .cpanic v A=> ∀ρ' H' v',Ble ρ ρ'->RH B ρ' A H'->RV ρ' v v'->R (.panic v') H'
section
variable {B:Aa} {ρ ρ':Nat->Option Nat} {E:Tr DVal} {A:XH} {s:DS} {K:DK} {Q Q':DExit->DS->Prop}
theorem Ad.le (h:Ble ρ ρ') {o:Out} (hr:Ad B ρ Q o):Ad B ρ' Q o:=by
 cases o with
 | bad=>exact hr
 | norm E A=>exact fun σ s' hl=>hr σ s' (h.trans hl)
 | exit id E A=>exact fun σ s' hl=>hr σ s' (h.trans hl)
 | ret E A=>exact fun σ s' hl=>hr σ s' (h.trans hl)
 | panic v E A=>exact fun σ s' v' hl=>hr σ s' v' (h.trans hl)
 | panicX v A=>exact fun σ s' v' hl=>hr σ s' v' (h.trans hl)
theorem Cr.le (h:Ble ρ ρ') {R:DEnd->Aa->Prop} {o:COut} (hr:Cr B ρ R o):Cr B ρ' R o:=by
 cases o with
 | bad=>exact hr
 | cret v A=>exact fun σ s' v' hl=>hr σ s' v' (h.trans hl)
 | cpanic v A=>exact fun σ s' v' hl=>hr σ s' v' (h.trans hl)
theorem RH.live {H:Aa} (h:RH B ρ A H) {k:Nat} {o:DObj} (hk:Av A k=some o):k<A.nx:=by
 obtain⟨r,o',h1,_⟩:=h.obj k o hk;rcases Nat.lt_or_ge k A.nx with hl | hl
 ·exact hl
 ·rw[h.nx k hl] at h1;cases h1
theorem RS.put (hS:RS B ρ E A s) {E':Tr DVal} {d:Nat} {v v':DVal} (h: ∀j,E'.get j=if j=d then some v else E.get j) (hv:RV ρ v v'):RS B ρ E' A ⟨upd s.env d v',s.heap⟩:=by
 refine⟨fun i x hx=> ?_,hS.heap⟩;show RV ρ x (upd s.env d v' i);rw[h] at hx;unfold upd;by_cases e:i=d
 ·rw[if_pos e] at hx⊢;cases hx;exact hv
 ·rw[if_neg e] at hx⊢;exact hS.env i x hx
theorem Bt (hS:RS B ρ E A s) {dst:Option Nat} {v v':DVal} (hv:RV ρ v v') (h:Ad B ρ (Bl K Q) (Hg E A dst v)):Af dst v' K s:=by
 unfold Hg at h;rw[Uy] at h;cases dst with
 | none=>exact h ρ s (Ble.refl _) hS
 | some d=>
  simp only[Hw] at h;rcases Dv (z:=Out.bad) (x:=v) 10 E d (fun E=> .norm E A) with e | ⟨t',h1,e⟩
  ·rw[e] at h;exact h.elim
  ·rw[e] at h;exact h ρ _ (Ble.refl _) (hS.put h1 hv)
theorem Xn (hS:RS B ρ E A s) {dst:Option Nat} {v v':DVal} (hv:RV ρ v v') (h:Ad B ρ (Bl K Q) (Pu E A dst v)):Af dst v' K s:=
 Bt hS hv (by unfold Hg;rw[Uy];exact h)
theorem Ao6 (E:Tr DVal) (A:XH) (dst:Option Nat) (o:Option DVal):Du E A dst o=Bv E A dst o:=by
 cases o with
 | none=>rfl
 | some v=>show Pu E A dst v=Hg E A dst v;unfold Hg;rw[Uy];rfl
theorem Av9 (hS:RS B ρ E A s) {dst:Option Nat} {o:Option DVal} (h:Ad B ρ (Bl K Q) (Bv E A dst o)): ∃v,o=some v/\ ∀v',RV ρ v v'->Af dst v' K s:=by
 cases o with
 | none=>exact h.elim
 | some v=>exact⟨v,rfl,fun v' hv=>Bt hS hv h⟩
theorem Xo {A:XH} {tr':Tr (Option DObj)} {k:Nat} {o:Option DObj} {n:Nat} (h: ∀j,tr'.get j=if j=k then some o else A.tr.get j) (i:Nat):Av ⟨tr',n⟩ i=if i=k then o else Av A i:=by
 unfold Av
 show(match tr'.get i with | some (some o)=>some o | _=>none)=_
 rw[h]
 by_cases e:i=k
 ·rw[if_pos e,if_pos e];cases o<;>rfl
 ·rw[if_neg e,if_neg e];try rfl
theorem It {k:Nat} {o:Option DObj} {κ:XH->Out} {r:Nat} {ob ob':DObj} {Q:DExit->DS->Prop} (hS:RS B ρ E A s) (hk:Av A k=some ob) (hr:ρ k=some r) (ho: ∀o1,o=some o1->RO ρ o1 ob')
  (h:Ad B ρ Q (Pv A k o κ)): ∃A',Ad B ρ Q (κ A')/\RS B ρ E A' ⟨s.env,upd s.heap r (o.map fun _=>ob')⟩/\A'.nx=A.nx/\(∀i,Av A' i=if i=k then o else Av A i):=by
 have key: ∃tr',(∀j,tr'.get j=if j=k then some o else A.tr.get j)/\Ad B ρ Q (κ ⟨tr',A.nx⟩):=by
  unfold Pv at h;obtain⟨tr,nx⟩:=A;cases o with
  | some o1=>
   simp only[Av7] at h;rcases Dv (z:=Out.bad) (x:=some o1) 24 tr k (fun tr=>κ ⟨tr,nx⟩) with e | ⟨t',h1,e⟩
   ·rw[e] at h;exact h.elim
   ·rw[e] at h;exact⟨t',h1,h⟩
  | none=>
   simp only at h;rcases Dv (z:=Out.bad) (x:=(none:Option DObj)) 24 tr k (fun tr=>κ ⟨tr,nx⟩) with e | ⟨t',h1,e⟩
   ·rw[e] at h;exact h.elim
   ·rw[e] at h;exact⟨t',h1,h⟩
 obtain⟨tr',h1,h2⟩:=key;have hg:=fun i=>Xo (A:=A) (n:=A.nx) h1 i;refine⟨⟨tr',A.nx⟩,h2,⟨hS.env, ?_⟩,rfl,hg⟩;have hkeep:=hS.heap;refine⟨fun k' o' hk'=> ?_,fun k1 k2 r' o1 o2 g1 g2 e1 e2=> ?_,hkeep.nx,fun r' o' hb=> ?_,hkeep.low⟩
 ·rw[hg] at hk';by_cases e:k'=k
  ·rw[if_pos e] at hk';subst e;subst hk';exact⟨r,ob',hr,by simp [upd],ho _ rfl⟩
  ·rw[if_neg e] at hk';obtain⟨r1,o1,h3,h4,h5⟩:=hkeep.obj k' o' hk';refine⟨r1,o1,h3, ?_,h5⟩;have:r1≠r:=fun er=>e (hkeep.inj k' k r _ _ hk' hk (er▸h3) hr);simp [upd,this,h4]
 ·rw[hg] at g1 g2;by_cases c1:k1=k<;>by_cases c2:k2=k
  ·rw[c1,c2]
  ·rw[if_neg c2] at g2;subst c1;exact hkeep.inj k1 k2 r' _ _ hk g2 e1 e2
  ·rw[if_neg c1] at g1;subst c2;exact hkeep.inj k1 k2 r' _ _ g1 hk e1 e2
  ·rw[if_neg c1] at g1;rw[if_neg c2] at g2;exact hkeep.inj k1 k2 r' _ _ g1 g2 e1 e2
 ·have h3:=hkeep.base r' o' hb;have:r'≠r:=fun e=>by
   have:=hkeep.low k r hr;rw[e,this] at hb;cases hb
  simp [upd,this,h3]
theorem Iu {o o':DObj} {κ:Nat->XH->Out} {r:Nat} {Q:DExit->DS->Prop} (hS:RS B ρ E A s) (hr:s.heap r=none) (ho:RO ρ o o') (h:Ad B ρ Q (Pw A o κ)):
  ∃A' ρ',Ble ρ ρ'/\ρ' A.nx=some r/\Ad B ρ' Q (κ A.nx A')/\RS B ρ' E A' ⟨s.env,upd s.heap r (some o')⟩:=by
 have key: ∃tr',(∀j,tr'.get j=if j=A.nx then some (some o) else A.tr.get j)/\Ad B ρ Q (κ A.nx ⟨tr',A.nx+1⟩):=by
  unfold Pw at h;obtain⟨tr,nx⟩:=A;simp only[Av7,Eb] at h;rcases Dv (z:=Out.bad) (x:=some o) 24 tr nx (fun tr=>κ nx ⟨tr,nx+1⟩) with e | ⟨t',h1,e⟩
  ·rw[e] at h;exact h.elim
  ·rw[e] at h;exact⟨t',h1,h⟩
 obtain⟨tr',h1,h2⟩:=key;have hg:=fun i=>Xo (A:=A) (n:=A.nx+1) h1 i;have hkeep:=hS.heap;have hnone:ρ A.nx=none:=hkeep.nx _ (Nat.le_refl _);have hle:Ble ρ (fun k=>if k=A.nx then some r else ρ k):=fun k r1 e=>by
  have:k≠A.nx:=fun c=>by rw[c,hnone] at e;cases e
  simp [this,e]
 have hBr:B r=none:=by
  cases e:B r with
  | none=>rfl
  | some x=>rw[hkeep.base r x e] at hr;cases hr
 refine⟨⟨tr',A.nx+1⟩,fun k=>if k=A.nx then some r else ρ k,hle,by simp,h2.le hle,⟨fun i v hi=>(hS.env i v hi).mono hle, ?_⟩⟩;refine⟨fun k' o1 hk'=> ?_,fun k1 k2 r' o1 o2 g1 g2 e1 e2=> ?_,fun k hk=> ?_,fun r' o1 hb=> ?_,fun k r1 e=> ?_⟩
 ·rw[hg] at hk';by_cases e:k'=A.nx
  ·rw[if_pos e] at hk';cases hk';exact⟨r,o',by simp [e],by simp [upd],ho.mono hle⟩
  ·rw[if_neg e] at hk';obtain⟨r1,o2,h3,h4,h5⟩:=hkeep.obj k' o1 hk';refine⟨r1,o2,by simp [e,h3], ?_,h5.mono hle⟩;have:r1≠r:=fun er=>by rw[er,hr] at h4;cases h4
   simp [upd,this,h4]
 ·rw[hg] at g1 g2;by_cases c1:k1=A.nx<;>by_cases c2:k2=A.nx
  ·rw[c1,c2]
  ·rw[if_neg c2] at g2;simp only[c1,if_true,c2,if_false] at e1 e2;cases e1;obtain⟨r3,o3,x1,x2,x3⟩:=hkeep.obj k2 o2 g2;rw[x1] at e2;cases e2;rw[hr] at x2;cases x2
  ·rw[if_neg c1] at g1;simp only[c1,if_true,c2,if_false] at e1 e2;cases e2;obtain⟨r3,o3,x1,x2,x3⟩:=hkeep.obj k1 o1 g1;rw[x1] at e1;cases e1;rw[hr] at x2;cases x2
  ·rw[if_neg c1] at g1;rw[if_neg c2] at g2;simp only[c1,c2,if_false] at e1 e2;exact hkeep.inj k1 k2 r' _ _ g1 g2 e1 e2
 ·have hk':A.nx+1<=k:=hk;have:k≠A.nx:=by omega
  simp only[this,if_false];exact hkeep.nx k (by omega)
 ·have h3:=hkeep.base r' o1 hb;have:r'≠r:=fun e=>by rw[e,hBr] at hb;cases hb
  simp [upd,this,h3]
 ·by_cases c:k=A.nx
  ·simp only[c,if_true] at e;cases e;exact hBr
  ·simp only[c,if_false] at e;exact hkeep.low k r1 e
end
end Go.Dl

-- AN INTERPRETER OF THE DATA LEVEL, PART 3: the values that operations give are those of the data level.
namespace Go.Dl
open Go
section
variable {P:Program} {gt:Nat->Option DVal} {G:Nat->DVal}
variable {B:Aa} {ρ:Nat->Option Nat} {E:Tr DVal} {A:XH} {s:DS} {Q:DExit->DS->Prop}
theorem Ac5 {R:Type} {z:R} (hgt: ∀g d,gt g=some d-> ∀ρ,RV ρ d (G g)) (hS:RS B ρ E A s) (o:Operand) (κ:DVal->R):evK gt z E o κ=z\/ ∃v,RV ρ v (dev G s.env o)/\evK gt z E o κ=κ v:=by
 cases o with
 | tmp t=>
  simp only[evK,dev];cases h:E.get t with
  | none=>exact .inl rfl
  | some v=>exact .inr ⟨v,hS.env t v h,rfl⟩
 | const v=>exact .inr ⟨_,Xm v,rfl⟩
 | global g=>
  simp only[evK,dev];cases h:gt g with
  | none=>exact .inl rfl
  | some d=>exact .inr ⟨d,hgt g d h ρ,rfl⟩
 | func f=>exact .inr ⟨_, .func _ .nil .nil,rfl⟩
theorem Aq (hgt: ∀g d,gt g=some d-> ∀ρ,RV ρ d (G g)) (hS:RS B ρ E A s) {o:Operand} {κ:DVal->Out} (h:Ad B ρ Q (evK gt .bad E o κ)): ∃v,RV ρ v (dev G s.env o)/\Ad B ρ Q (κ v):=by
 rcases Ac5 hgt hS o κ with e | ⟨v,h1,e⟩
 ·rw[e] at h;exact h.elim
 ·rw[e] at h;exact⟨v,h1,h⟩
theorem Qg (hgt: ∀g d,gt g=some d-> ∀ρ,RV ρ d (G g)) (hS:RS B ρ E A s): ∀ {os:List Operand} {κ:List DVal->Out},Ad B ρ Q (Lk gt .bad E os κ)-> ∃vs,RVL ρ vs (Az G s.env os)/\Ad B ρ Q (κ vs)
 | [],κ,h=>⟨[],rfl,h⟩
 | o::os,κ,h=>by
  obtain⟨v,h1,h2⟩:=Aq hgt hS (o:=o) (κ:=fun v=>Lk gt .bad E os fun vs=>κ (v::vs)) h;obtain⟨vs,h3,h4⟩:=Qg hgt hS h2;exact⟨v::vs, .cons h1 h3,h4⟩
theorem Qh (hgt: ∀g d,gt g=some d-> ∀ρ,RV ρ d (G g)) (hS:RS B ρ E A s): ∀ {os:List (Nat×Operand)} {κ:List (Nat×DVal)->Out},Ad B ρ Q (Mq gt .bad E os κ)-> ∃vs,RVP ρ vs (Ce G s.env os)/\Ad B ρ Q (κ vs)
 | [],κ,h=>⟨[],rfl,h⟩
 | (i,o)::os,κ,h=>by
  obtain⟨v,h1,h2⟩:=Aq hgt hS (o:=o) (κ:=fun v=>Mq gt .bad E os fun vs=>κ ((i,v)::vs)) h;obtain⟨vs,h3,h4⟩:=Qh hgt hS h2;exact⟨(i,v)::vs,⟨_,_,rfl,h1,h3⟩,h4⟩
def RVo (ρ:Nat->Option Nat):Option DVal->Option DVal->Prop
 | some v,some d=>RV ρ v d
 | none,none=>True
 | _,_=>False
theorem Uz (hgt: ∀g d,gt g=some d-> ∀ρ,RV ρ d (G g)) (hS:RS B ρ E A s) {o:Option Operand} {κ:Option DVal->Out} (h:Ad B ρ Q (Uf gt .bad E o κ)): ∃v,RVo ρ v (Ee G s.env o)/\Ad B ρ Q (κ v):=by
 cases o with
 | none=>exact⟨none,trivial,h⟩
 | some x=>
  obtain⟨v,h1,h2⟩:=Aq hgt hS (o:=x) (κ:=fun v=>κ (some v)) h;exact⟨some v,h1,h2⟩
def Bd (ρ:Nat->Option Nat) (v:DVal) (F:Option Nat->DK->DS->Prop) (s:DS):Prop:= ∃v',RV ρ v v'/\ ∀dst K,Af dst v' K s->F dst K s
theorem Aw0 {c a b c' a' b' v:DVal} (hv:Af9 c a b=some v) (hc:RV ρ c c') (ha:RV ρ a a') (hb:RV ρ b b'):Bd ρ v (fun dst=>Ro dst c' a' b') s:=by
 unfold Af9 at hv;split at hv<;>cases hv<;>simp only[RV] at hc<;>subst hc
 ·exact⟨a',ha,fun _ _ h=>h⟩
 ·exact⟨b',hb,fun _ _ h=>h⟩
theorem Lv {place:Nat->Option (Nat×Nat)}: ∀ {parts parts':List (Nat×DVal)} {cs cs' out:List DVal},RVP ρ parts parts'->RVL ρ cs cs'->Dd place cs parts=some out-> ∃out',Dd place cs' parts'=some out'/\RVL ρ out out'
 | [],_,cs,cs',out,hp,hc,h=>by
  simp only[RVP] at hp;subst hp;simp only[Dd] at h;cases h;exact⟨cs',rfl,hc⟩
 | (i,v)::parts,_,cs,cs',out,hp,hc,h=>by
  obtain⟨v',qs,rfl,hv,hq⟩:=hp;simp only[Dd] at h⊢
  cases hpl:place i with
  | none=>rw[hpl] at h;cases h
  | some os=>
   obtain⟨off,size⟩:=os;rw[hpl] at h;simp only at h⊢
   rw[hv.cells.length,hc.length];split at h
   ·rename_i hcond
    rw[if_pos hcond];exact Lv hq (((hc.take off).append hv.cells).append (hc.drop _)) h
   ·cases h
theorem Ao7 {b:Bool} {t:Option TypeDesc} {z:Option DVal} {ps ps':List (Nat×DVal)} {v:DVal} (hz: ∀x,z=some x->RV ρ x x) (hv:Ug P b t z ps=some v) (hp:RVP ρ ps ps'):Bd ρ v (fun dst=>Jt P dst b t z ps') s:=by
 unfold Ug at hv;split at hv<;>try (cases hv;done)
 ·rename_i fields x
  rw[Lu] at hv;split at hv<;>cases hv
  rename_i out h1
  obtain⟨out',h2,h3⟩:=Lv hp (hz x rfl).cells h1;exact⟨_, .agg h3,fun dst K h=>by simp only[Jt,h2,Option.map_some,Ck];exact h⟩
 ·rename_i n e x
  rw[Lu] at hv;split at hv<;>cases hv
  rename_i out h1
  obtain⟨out',h2,h3⟩:=Lv hp (hz x rfl).cells h1;exact⟨_, .agg h3,fun dst K h=>by simp only[Jt,h2,Option.map_some,Ck];exact h⟩
theorem Xp {size off:Nat} {ag:Option Bool} {cs cs':List DVal} {v:DVal} (hc:RVL ρ cs cs') (hv:In size cs off ag=some v):Bd ρ v (fun dst=>Ju size dst ag cs' off) s:=by
 unfold In at hv;split at hv
 ·split at hv<;>cases hv
  rename_i hle
  exact⟨_, .agg ((hc.drop off).take size),fun dst K h=>⟨by rw[hc.length];exact hle,h⟩⟩
 ·obtain⟨x',h1,h2⟩:=hc.get hv;exact⟨x',h2,fun dst K h=>by simp only[Ju,h1,Ck];exact h⟩
 ·cases hv
theorem Dw {cs:List DVal} {e:TypeId} {k:Nat} (hS:RH B ρ A s.heap) (h:Av A k=some (.cells cs e)): ∃r cs',ρ k=some r/\s.heap r=some (.cells cs' e)/\RVL ρ cs cs':=by
 obtain⟨r,o',h1,h2,cs',rfl,h3⟩:=hS.obj k _ h;exact⟨r,cs',h1,h2,h3⟩
theorem Aw1 {size:Nat} {ag:Option Bool} {a a' v:DVal} (hS:RH B ρ A s.heap) (ha:RV ρ a a') (hv:Ag0 size ag A a=some v):Bd ρ v (fun dst=>Nc size ag dst a') s:=by
 unfold Ag0 at hv;split at hv
 ·simp only[RV] at ha;obtain⟨cs',rfl,hl⟩:=ha;rw[Mt] at hv;exact Xp hl hv
 ·simp only[RV] at ha;obtain⟨r,rfl,hr⟩:=ha;unfold Ui at hv;split at hv
  ·rename_i cs e heq
   obtain⟨r',cs',h1,h2,h3⟩:=Dw hS heq;rw[hr] at h1;cases h1;rw[Mt] at hv;obtain⟨v',h4,h5⟩:=Xp (s:=s) h3 hv;exact⟨v',h4,fun dst K h=>by simp only[Nc,h2,Ol];exact h5 dst K h⟩
  ·cases hv
 ·cases hv
theorem Bd3 {x x' v:DVal} (hx:RV ρ x x') (hv:Bc9 x=some v):Bd ρ v (fun dst=>Ga dst x') s:=by
 have keep:=hx;unfold Bc9 at hv;split at hv<;>cases hv<;>simp only[RV] at hx;all_goals first
  | (obtain⟨_,rfl,_⟩:=hx;exact⟨_,keep,fun _ _ h=>h⟩)
  | (obtain⟨_,_,rfl,_⟩:=hx;exact⟨_,keep,fun _ _ h=>h⟩)
theorem Va {o b:Option Bool} {v:DVal} (hv:Ab5 o b=some v):Bd ρ v (fun dst=>Eh dst o b) s:=by
 unfold Ab5 at hv;split at hv<;>cases hv<;>exact⟨_, .bool _,fun _ _ h=>h⟩
theorem Bd4 {k:IntKind} {a b:Int} {op:BinOp} {v:DVal} (hv:Bj8 k a b op=some v):Bd ρ v (fun dst K s=>Ko k a b dst K s op) s:=by
 have e:Bj8 k a b op=Bg1 k a b op:=by cases op<;>rfl
 rw[e] at hv;unfold Bg1 at hv;split at hv<;>(try split at hv)<;>cases hv<;>first
  | exact⟨_, .int _ _,fun _ _ h=>h⟩
  | exact⟨_, .bool _,fun _ _ h=>h⟩
  | exact⟨_, .int _ _,fun _ _ h=>⟨by assumption,h⟩⟩
theorem Ao8 {k:IntKind} {a b:Int} {op:BinOp} {v:DVal} (hv:Ab6 k a b op=some v):Bd ρ v (fun dst K s=>On k a b dst K s op) s:=by
 unfold Ab6 at hv;split at hv<;>(try split at hv)<;>cases hv;all_goals exact⟨_, .int _ _,fun _ _ h=>⟨by assumption,h⟩⟩
theorem Of: ∀a b:List UInt8,Ab7 a b=decide (a=b)
 | [],[]=>rfl
 | [],_::_=>rfl
 | _::_,[]=>rfl
 | x::a,y::b=>by
  show Bool.rec (motive:=fun _=>Bool) false (Ab7 a b) (Nat.beq x.toNat y.toNat)=_;by_cases h:x=y
  ·subst h;have:Nat.beq x.toNat x.toNat=true:=Nat.beq_refl _;rw[this,Of a b];simp
  ·have:Nat.beq x.toNat y.toNat=false:=by
    cases hb:Nat.beq x.toNat y.toNat with
    | false=>rfl
    | true=>exact(h (UInt8.toNat_inj.1 (Nat.eq_of_beq_eq_true hb))).elim
   rw[this];simp [h]
theorem Bd5 {a b:List UInt8} {op:BinOp} {v:DVal} (hv:Bj9 a b op=some v):Bd ρ v (fun dst K s=>Iz a b dst K s op) s:=by
 unfold Bj9 at hv;split at hv<;>(try split at hv)<;>cases hv<;>(try rw[Of])<;>first
  | exact⟨_, .bool _,fun _ _ h=>h⟩
  | exact⟨_, .str _,fun _ _ h=>⟨by assumption,h⟩⟩
theorem Og {size off:Nat} {ag:Option Bool} {xs xs':List DVal} (h:RVL ρ xs xs'):RVL ρ (Be size off xs ag) (Be size off xs' ag):=by
 unfold Be;split
 ·exact(h.drop off).take size
 ·exact(h.drop off).take 1
 ·exact .nil
theorem Ac6 {a b:Option Bool} {c:Bool} (h:Yv a b=some c):(a=some true/\b=some c)\/(a=some false/\c=false/\ ∃d,b=some d):=by
 unfold Yv at h;split at h
 ·exact .inl ⟨rfl,h⟩
 ·cases h;exact .inr ⟨rfl,rfl,_,rfl⟩
 ·cases h
theorem Sk {a b a' b':Option Bool} {c:Bool} (h:Yv a b=some c) (ha: ∀x,a=some x->a'=some x) (hb: ∀x,b=some x->b'=some x):Yv a' b'=some c:=by
 rcases Ac6 h with⟨h1,h2⟩ | ⟨h1,rfl,d,h2⟩
 ·rw[ha _ h1,hb _ h2];rfl
 ·rw[ha _ h1,hb _ h2];rfl
theorem Sl {f f':TypeId->Nat->Option Bool} (hf: ∀t o b,f t o=some b->f' t o=some b): ∀ {fs:List Field} {b:Bool},Om f fs=some b->Om f' fs=some b
 | [],b,h=>h
 | x::fs,b,h=>by
  simp only[Om] at h⊢
  split at h
  ·rename_i hn
   rw[if_pos hn];exact Sk h (hf _ _) fun _ h=>Sl hf h
  ·cases h
theorem Sm {f f':Nat->Option Bool} (hf: ∀o b,f o=some b->f' o=some b): ∀ {is:List Nat} {b:Bool},Nd f is=some b->Nd f' is=some b
 | [],b,h=>h
 | x::is,b,h=>by
  simp only[Nd] at h⊢
  exact Sk h (hf _) fun _ h=>Sm hf h
theorem Cj {x:DVal} {ds:List DVal} (h:RVL ρ [x] ds): ∃y,ds= [y]/\RV ρ x y:=by
 obtain⟨y,ys,rfl,h1,h2⟩:=h.inv;simp only[RVL] at h2;subst h2;exact⟨y,rfl,h1⟩
theorem Ac7: ∀(n:Nat) {t:TypeId} {xs xs' ys ys':List DVal} {b:Bool},RVL ρ xs xs'->RVL ρ ys ys'->Ht P n t xs ys=some b->Ht P n t xs' ys'=some b
 | 0,_,_,_,_,_,_,_,_,h=>by cases h
 | n+1,t,xs,xs',ys,ys',b,hx,hy,h=>by
  simp only[Ht] at h⊢
  unfold Hz at h⊢
  split at h
  ·unfold Rp at h;split at h<;>cases h;obtain⟨a,rfl,h1⟩:=Cj hx;obtain⟨c,rfl,h2⟩:=Cj hy;simp only[RV] at h1 h2;subst h1;subst h2;rfl
  ·unfold Vq at h;split at h<;>try cases h
   obtain⟨a,rfl,h1⟩:=Cj hx;obtain⟨c,rfl,h2⟩:=Cj hy;simp only[RV] at h1 h2;subst h1;subst h2;exact h
  ·unfold Vr at h;split at h<;>cases h;obtain⟨a,rfl,h1⟩:=Cj hx;obtain⟨c,rfl,h2⟩:=Cj hy;simp only[RV] at h1 h2;subst h1;subst h2;rfl
  ·unfold Aq5 at h⊢
   split at h
   ·cases h
   ·exact Sl (fun u o b h=>Ac7 n (Og hx) (Og hy) h) h
  ·split at h
   ·rename_i hi
    rw[if_pos hi];exact Sm (fun o b h=>Ac7 n (Og hx) (Og hy) h) h
   ·cases h
  ·cases h
theorem Bk8 {c b:Bool} {td:Option TypeDesc} {x y x' y':DVal} (hx:RV ρ x x') (hy:RV ρ y y') (h:Em c td x y=some b):
  Em c td x' y'=some b/\ ∀(P:Program) t op dst K s,Dc P t c op dst x' y' K s=Eh dst (Ed op) (Em c (P.underlying t) x' y') K s:=by
 have h0:=h;unfold Em at h;split at h<;>(try (cases h;done))<;>simp only[RV] at hx hy;all_goals first
  | (subst hx;subst hy;exact⟨h0,fun _ _ _ _ _ _=>rfl⟩)
  | (subst hx;obtain⟨_,rfl,_⟩:=hy;exact⟨h0,fun _ _ _ _ _ _=>rfl⟩)
  | (subst hy;obtain⟨_,rfl,_⟩:=hx;exact⟨h0,fun _ _ _ _ _ _=>rfl⟩)
  | (subst hx;obtain⟨_,_,rfl,_⟩:=hy;exact⟨h0,fun _ _ _ _ _ _=>rfl⟩)
  | (subst hy;obtain⟨_,_,rfl,_⟩:=hx;exact⟨h0,fun _ _ _ _ _ _=>rfl⟩)
theorem Bd6 {t:TypeId} {c:Bool} {op:BinOp} {x y x' y' v:DVal} (hx:RV ρ x x') (hy:RV ρ y y') (hv:Bk0 P t c op x y=some v):Bd ρ v (fun dst=>Dc P t c op dst x' y') s:=by
 unfold Bk0 at hv;split at hv
 ·rename_i k a k' b
  simp only[RV] at hx hy;subst hx;subst hy;split at hv
  ·rename_i hs
   obtain⟨v',h1,h2⟩:=Ao8 (ρ:=ρ) (s:=s) hv;exact⟨v',h1,fun dst K h=>by simp only[Dc,hs,Rq];exact h2 dst K h⟩
  ·rename_i hs
   split at hv
   ·rename_i hk
    obtain⟨v',h1,h2⟩:=Bd4 (ρ:=ρ) (s:=s) hv;exact⟨v',h1,fun dst K h=>by simp only[Dc,hs,Rq];exact⟨hk,h2 dst K h⟩⟩
   ·cases hv
 ·simp only[RV] at hx hy;subst hx;subst hy;exact Bd5 hv
 ·simp only[RV] at hx hy;obtain⟨xs',rfl,hx⟩:=hx;obtain⟨ys',rfl,hy⟩:=hy;split at hv
  ·rename_i hc
   rename_i xs ys
   cases he:Ht P 6 t xs ys with
   | none=>rw[he] at hv;unfold Ab5 at hv;split at hv<;>simp_all
   | some b=>
    rw[he] at hv;obtain⟨v',h1,h2⟩:=Va (ρ:=ρ) (s:=s) hv;exact⟨v',h1,fun dst K h=>⟨hc.1,hc.2,by rw[Ac7 6 hx hy he];exact h2 dst K h⟩⟩
  ·cases hv
 ·cases he:Em c (P.underlying t) x y with
  | none=>rw[he] at hv;unfold Ab5 at hv;split at hv<;>simp_all
  | some b=>
   rw[he] at hv;obtain⟨v',h1,h2⟩:=Va (ρ:=ρ) (s:=s) hv;refine⟨v',h1,fun dst K h=> ?_⟩;obtain⟨h3,h4⟩:=Bk8 hx hy he;show Dc P t c op dst x' y' K s;rw[h4,h3];exact h2 dst K h
end
end Go.Dl

-- AN INTERPRETER OF THE DATA LEVEL, PART 4: the values that operations give, continued.
namespace Go.Dl
open Go
section
variable {P:Program} {G:Nat->DVal}
variable {B:Aa} {ρ:Nat->Option Nat} {E:Tr DVal} {A:XH} {s:DS}
theorem Aw2 {t:TypeId} {c n:Bool} {op:BinOp} {x y x' y' v:DVal} (hx:RV ρ x x') (hy:RV ρ y y') (hv:Ag1 P t c op n x y=some v):Bd ρ v (fun dst=>Jl P t c op dst n x' y') s:=by
 unfold Ag1 at hv;split at hv
 ·split at hv
  ·rename_i hs
   simp only[RV] at hx;obtain⟨cs',rfl,hl⟩:=hx;obtain⟨a,b,rfl,_,_⟩:=hl.inv;obtain⟨v',h1,h2⟩:=Va (ρ:=ρ) (s:=s) hv;refine⟨v',h1,fun dst K h=>⟨hs,fun b hb=> ?_⟩⟩;rw[hb (by simp)];exact h2 dst K h
  ·cases hv
 ·cases hv
 ·rename_i hne1 hne2
  obtain⟨v',h1,h2⟩:=Bd6 (s:=s) hx hy hv;refine⟨v',h1,fun dst K h=> ?_⟩;have h3:=h2 dst K h;cases n with
  | false=>show Jl P t c op dst false x' y' K s;rw[Ef];exact h3
  | true=>
   cases x<;>simp only[RV] at hx
   case vslice cs m=>cases cs with
    | nil=>exact(hne2 m rfl rfl).elim
    | cons a cs=>exact(hne1 a cs m rfl rfl).elim
   all_goals first
    | (subst hx;exact h3)
    | (obtain⟨_,rfl,_⟩:=hx;exact h3)
    | (obtain⟨_,_,rfl,_⟩:=hx;exact h3)
theorem Bk9 {op:UnOp} {x x' v:DVal} (hx:RV ρ x x') (hv:vUn op x=some v):Bd ρ v (fun dst=>dUn dst op x') s:=by
 unfold vUn at hv;split at hv<;>cases hv<;>simp only[RV] at hx<;>subst hx
 ·exact⟨_, .bool _,fun _ _ h=>h⟩
 ·exact⟨_, .int _ _,fun _ _ h=>h⟩
 ·exact⟨_, .int _ _,fun _ _ h=>h⟩
theorem Bd7 {t:Option TypeDesc} (h:Bk1 t=true):t=some (.int .u8):=by
 unfold Bk1 at h;split at h
 ·rfl
 ·cases h
theorem Ac8 {n off:Nat} {k r:Nat} {l:List DVal} (hS:RH B ρ A s.heap) (hr:ρ k=some r) (hv:Gs n off (Av A k)=some l): ∃l',Gs n off (s.heap r)=some l'/\RVL ρ l l':=by
 unfold Gs at hv;split at hv
 ·rename_i cs e heq
  obtain⟨r',cs',h1,h2,h3⟩:=Dw hS heq;rw[hr] at h1;cases h1;split at hv<;>cases hv
  rename_i hle
  refine⟨_, ?_,(h3.drop off).take n⟩;rw[h2];simp only[Gs,h3.length];rw[if_pos hle]
 ·cases hv
theorem Bd8 {x x':DVal} {l:List DVal} (hS:RH B ρ A s.heap) (hx:RV ρ x x') (hv:Bk2 A x=some l): ∃l',Gt s.heap x'=some l'/\RVL ρ l l':=by
 unfold Bk2 at hv;split at hv
 ·cases hv;simp only[RV] at hx;subst hx;exact⟨[],rfl, .nil⟩
 ·simp only[RV] at hx;obtain⟨cs',rfl,hl⟩:=hx;split at hv<;>cases hv
  rename_i hle
  exact⟨_,by simp only[Gt,hl.length];rw[if_pos hle],hl.take _⟩
 ·simp only[RV] at hx;obtain⟨r,rfl,hr⟩:=hx;exact Ac8 hS hr hv
 ·cases hv
theorem Xq: ∀ {ds ds':List DVal} {l:List UInt8},RVL ρ ds ds'->Ej ds=some l->Ej ds'=some l
 | [],_,l,h,hv=>by simp only[RVL] at h;subst h;exact hv
 | d::ds,_,l,h,hv=>by
  obtain⟨y,ys,rfl,h1,h2⟩:=h.inv;unfold Ej at hv;split at hv
  ·rename_i hd;cases hd
  ·rename_i n ds0 hd
   cases hd;simp only[RV] at h1;subst h1;cases hm:Ej ds with
   | none=>rw[hm] at hv;cases hv
   | some m=>
    rw[hm] at hv;simp only[Ej,Xq h2 hm];exact hv
  ·cases hv
theorem Xr {a b:Option TypeDesc} {x x' v:DVal} (hx:RV ρ x x') (hv:Px a b x=some v):Bd ρ v (fun dst=>Ev dst a b x') s/\ ∀(P:Program) dst K s,(∀e,a=some (.slice e)->b≠some .string)->De P dst a b x' K s=Ev dst a b x' K s:=by
 have key: ∀(P:Program) dst K s,(∀e,a=some (.slice e)->b≠some .string)->De P dst a b x' K s=Ev dst a b x' K s:=by
  intro P dst K s hne;unfold De;split
  ·exact(hne _ rfl rfl).elim
  ·rfl
 refine⟨?_,key⟩;unfold Px at hv;split at hv<;>cases hv<;>simp only[RV] at hx<;>subst hx
 ·exact⟨_, .int _ _,fun _ _ h=>h⟩
 ·exact⟨_, .str _,fun _ _ h=>h⟩
theorem Ao9 {a b:Option TypeDesc} {x x' v:DVal} (hS:RH B ρ A s.heap) (hx:RV ρ x x') (hv:Uj P A a b x=some v):Bd ρ v (fun dst=>De P dst a b x') s:=by
 unfold Uj at hv;split at hv
 ·split at hv
  ·rename_i hu
   obtain⟨l,h1,rfl⟩:=Option.map_eq_some_iff.1 hv;obtain⟨m,h2,h3⟩:=Option.bind_eq_some_iff.1 h1;obtain⟨m',h4,h5⟩:=Bd8 hS hx h2;refine⟨_, .str l,fun dst K h=> ?_⟩;simp only[De,Aq6];refine⟨Bd7 hu, ?_⟩;rw[h4];simp only[Option.bind_some,Xq h5 h3,Bf1];exact h
  ·cases hv
 ·rename_i hne
  obtain⟨⟨v',h1,h2⟩,h3⟩:=Xr (s:=s) hx hv;refine⟨v',h1,fun dst K h=> ?_⟩;show De P dst a b x' K s;rw[h3 P dst K s fun e h4 h5=>hne e h4 h5];exact h2 dst K h
theorem Ho {o o':Option DVal} (h:RVo ρ o o'):dLo o'=dLo o:=by
 cases o with
 | none=>cases o' with
  | none=>rfl
  | some _=>exact h.elim
 | some v=>cases o' with
  | none=>exact h.elim
  | some d=>
   have h:RV ρ v d:=h;cases v<;>simp only[RV] at h;all_goals first
    | (subst h;rfl)
    | (obtain⟨_,rfl,_⟩:=h;rfl)
    | (obtain⟨_,_,rfl,_⟩:=h;rfl)
theorem Mv {o o':Option DVal} (n:Nat) (h:RVo ρ o o'):dHi n o'=dHi n o:=by
 cases o with
 | none=>cases o' with
  | none=>rfl
  | some _=>exact h.elim
 | some v=>cases o' with
  | none=>exact h.elim
  | some d=>
   have h:RV ρ v d:=h;cases v<;>simp only[RV] at h;all_goals first
    | (subst h;rfl)
    | (obtain⟨_,rfl,_⟩:=h;rfl)
    | (obtain⟨_,_,rfl,_⟩:=h;rfl)
theorem Vb {l:List UInt8} {a b:Option Int} {v:DVal} (hv:Mr l a b=some v):Bd ρ v (fun dst K s=>Ja l dst K s a b) s:=by
 unfold Mr at hv;split at hv
 ·split at hv<;>cases hv
  rename_i hc
  exact⟨_, .str _,fun _ _ h=>⟨hc.1,hc.2.1,hc.2.2,h⟩⟩
 ·cases hv
theorem Qi {size len:Nat} {cs cs':List DVal} {a b:Option Int} {v:DVal} (hc:RVL ρ cs cs') (hv:Oc size cs len a b=some v):Bd ρ v (fun dst K s=>Jb size cs' len dst K s a b) s:=by
 unfold Oc at hv;split at hv
 ·split at hv<;>cases hv
  rename_i h
  exact⟨_, .vslice _ ((hc.drop _).take _),fun _ _ k=>⟨h.1,h.2.1,h.2.2,k⟩⟩
 ·cases hv
theorem Kj {size k r off cap:Nat} {a b c:Option Int} {v:DVal} (hr:ρ k=some r) (hv:Ll size k off cap a b c=some v):Bd ρ v (fun dst K s=>Fi size r off cap dst K s a b c) s:=by
 unfold Ll at hv;split at hv
 ·split at hv<;>cases hv
  rename_i h
  exact⟨_, .oslice _ _ _ _ hr,fun _ _ k=>⟨h.1,h.2.1,h.2.2.1,h.2.2.2,k⟩⟩
 ·cases hv
theorem Ac9 {a b:Option Int} {v:DVal} (hv:Uk a b=some v):Bd ρ v (fun dst K s=>Ny dst K s a b) s:=by
 unfold Uk at hv;split at hv
 ·split at hv<;>cases hv
  rename_i h
  exact⟨_, .nilS,fun _ _ k=>⟨h.1,h.2,k⟩⟩
 ·cases hv
theorem Fd {o:Option DVal} (h:RVo ρ none o):o=none:=by
 cases o with
 | none=>rfl
 | some _=>exact h.elim
theorem Xs {v:DVal} {o:Option DVal} (h:RVo ρ (some v) o): ∃d,o=some d/\RV ρ v d:=by
 cases o with
 | none=>exact h.elim
 | some d=>exact⟨d,rfl,h⟩
theorem Bl0 {o o':Option DVal} (h:RVo ρ o o'):o'.isSome=o.isSome:=by
 cases o<;>cases o'<;>first | rfl | exact h.elim
theorem Bd9 {n k r:Nat} (hS:RH B ρ A s.heap) (hr:ρ k=some r) (h:Au7 n (Av A k)=true):Ae3 n (s.heap r):=by
 unfold Au7 at h;split at h
 ·rename_i cs e heq
  obtain⟨r',cs',h1,h2,h3⟩:=Dw hS heq;rw[hr] at h1;cases h1;rw[h2];simp only[Ae3,h3.length];exact of_decide_eq_true h
 ·cases h
theorem Ap0 {lo lo' hi hi' mx mx':Option DVal} {t:Option TypeDesc} {x x' v:DVal} (hS:RH B ρ A s.heap) (hl:RVo ρ lo lo') (hh:RVo ρ hi hi') (hm:RVo ρ mx mx') (hx:RV ρ x x')
  (hv:Ul P A lo hi t x mx=some v):Bd ρ v (fun dst=>Jv P lo' hi' dst t x' mx') s:=by
 unfold Ul at hv;split at hv
 ·obtain rfl:=Fd hm;simp only[RV] at hx;subst hx;rw[<-Ho hl,<-Mv _ hh] at hv;exact Vb hv
 ·obtain rfl:=Fd hm;simp only[RV] at hx;subst hx;split at hv<;>try (cases hv;done)
  rename_i hi0
  rw[<-Ho hl,<-Mv _ hh] at hv;obtain⟨v',h1,h2⟩:=Ac9 (ρ:=ρ) (s:=s) hv;exact⟨v',h1,fun dst K h=>⟨hi0,h2 dst K h⟩⟩
 ·obtain rfl:=Fd hm;simp only[RV] at hx;obtain⟨cs',rfl,hc⟩:=hx;split at hv<;>try (cases hv;done)
  rename_i hi0
  rw[<-Ho hl,<-Mv _ hh] at hv;obtain⟨v',h1,h2⟩:=Qi (s:=s) hc hv;exact⟨v',h1,fun dst K h=>⟨hi0,h2 dst K h⟩⟩
 ·obtain rfl:=Fd hm;simp only[RV] at hx;obtain⟨r,rfl,hr⟩:=hx;split at hv<;>try (cases hv;done)
  rename_i hi0
  simp only[Bool.and_eq_true,beq_iff_eq] at hi0;rw[<-Ho hl,<-Mv _ hh] at hv;obtain⟨v',h1,h2⟩:=Kj (s:=s) hr hv;exact⟨v',h1,fun dst K h=>⟨hi0.1,hi0.2,h2 dst K h⟩⟩
 ·obtain⟨m',rfl,hm'⟩:=Xs hm;simp only[RV] at hx;obtain⟨r,rfl,hr⟩:=hx;split at hv<;>try (cases hv;done)
  rename_i hi0
  simp only[Bool.and_eq_true,beq_iff_eq] at hi0;rw[<-Ho hl,<-Ho hh,<-Ho hm] at hv;obtain⟨v',h1,h2⟩:=Kj (s:=s) hr hv;exact⟨v',h1,fun dst K h=>⟨hi0.1.1,hi0.1.2,by rw[Bl0 hh];exact hi0.2,h2 dst K h⟩⟩
 ·obtain rfl:=Fd hm;simp only[RV] at hx;obtain⟨r,rfl,hr⟩:=hx;split at hv<;>try (cases hv;done)
  rename_i hi0
  simp only[Bool.and_eq_true] at hi0;rw[<-Ho hl,<-Mv _ hh] at hv;obtain⟨v',h1,h2⟩:=Kj (s:=s) hr hv;exact⟨v',h1,fun dst K h=>⟨hi0.1,Bd9 hS hr hi0.2,h2 dst K h⟩⟩
 ·obtain rfl:=Fd hm;simp only[RV] at hx;obtain⟨cs',rfl,hc⟩:=hx;split at hv<;>try (cases hv;done)
  rename_i hi0
  simp only[Bool.and_eq_true,decide_eq_true_eq] at hi0;rw[<-Ho hl,<-Mv _ hh] at hv;obtain⟨v',h1,h2⟩:=Qi (s:=s) ((hc.drop _).take _) hv;exact⟨v',h1,fun dst K h=>⟨hi0.1,by rw[hc.length];exact hi0.2,h2 dst K h⟩⟩
 ·cases hv
theorem Sn {n:Nat} {x x' v:DVal} (hx:RV ρ x x') (hv:En n x=some v): ∃v',RV ρ v v'/\En n x'=some v':=by
 unfold En at hv;split at hv<;>cases hv<;>simp only[RV] at hx<;>obtain⟨_,rfl,h⟩:=hx
 ·exact⟨_, .vptr _ h,rfl⟩
 ·exact⟨_, .optr _ h,rfl⟩
theorem Rj {f:Nat} {t:Option TypeDesc} {x x' v:DVal} (hx:RV ρ x x') (hv:Hh P f x t=some v):Bd ρ v (fun dst=>Co P f x' dst t) s:=by
 unfold Hh at hv;split at hv
 ·unfold Nl at hv;split at hv
  ·rename_i fd heq
   split at hv<;>try (cases hv;done)
   rename_i hlt
   obtain⟨v',h1,h2⟩:=Sn hx hv;exact⟨v',h1,fun dst K h=>by simp only[Co,heq,Ib,h2,Ck];exact⟨hlt,h⟩⟩
  ·cases hv
 ·cases hv
theorem Xt {size off:Nat} {ag:Option Bool} {cs cs':List DVal} {v:DVal} (hc:RVL ρ cs cs') (hv:Ag2 size cs off ag=some v):Bd ρ v (fun dst=>Oq size cs' off dst ag) s:=by
 unfold Ag2 at hv;split at hv
 ·rw[Ir,Lt] at hv;cases hv;exact⟨_, .agg ((hc.drop off).take size),fun _ _ h=>h⟩
 ·rw[Ux] at hv;obtain⟨x',h1,h2⟩:=hc.get hv;exact⟨x',h2,fun dst K h=>by simp only[Oq,h1,Ck];exact h⟩
 ·cases hv
theorem Ap1 {f:Nat} {t:Option TypeDesc} {x x' v:DVal} (hx:RV ρ x x') (hv:Um P f t x=some v):Bd ρ v (fun dst=>Jw P f dst t x') s:=by
 unfold Um at hv;split at hv
 ·simp only[RV] at hx;obtain⟨cs',rfl,hc⟩:=hx;unfold Ag3 at hv;split at hv
  ·rename_i fd heq
   obtain⟨v',h1,h2⟩:=Xt (s:=s) hc hv;exact⟨v',h1,fun dst K h=>by simp only[Jw,heq,Sy];exact h2 dst K h⟩
  ·cases hv
 ·cases hv
theorem Rk {t:Option TypeDesc} {x x' i i' v:DVal} (hx:RV ρ x x') (hi:RV ρ i i') (hv:Hj P t x i=some v):Bd ρ v (fun dst=>Cp P dst t x' i') s:=by
 unfold Hj at hv;split at hv
 ·split at hv<;>cases hv
  rename_i hc
  simp only[RV] at hx hi;subst hi;obtain⟨cs',rfl,hl⟩:=hx;have h4:=hc.2.2.2;rw[Is,decide_eq_true_eq] at h4;exact⟨_, .vptr _ hl,fun dst K h=>⟨hc.1,hc.2.1,hc.2.2.1,by rw[hl.length];omega,h⟩⟩
 ·split at hv<;>cases hv
  rename_i hc
  simp only[RV] at hx hi;subst hi;obtain⟨r,rfl,hr⟩:=hx;exact⟨_, .optr _ hr,fun dst K h=>⟨hc.1,hc.2.1,hc.2.2,h⟩⟩
 ·split at hv<;>try (cases hv;done)
  rename_i hc
  simp only[RV] at hi;subst hi;obtain⟨v',h1,h2⟩:=Sn hx hv;exact⟨v',h1,fun dst K h=>by simp only[Cp];exact⟨hc.1,hc.2.1,hc.2.2,by rw[h2];exact h⟩⟩
 ·cases hv
theorem Ap2 {t:Option TypeDesc} {x x' i i' v:DVal} (hx:RV ρ x x') (hi:RV ρ i i') (hv:Un P t x i=some v):Bd ρ v (fun dst=>Mb P dst t x' i') s:=by
 unfold Un at hv;split at hv
 ·split at hv<;>try (cases hv;done)
  rename_i hc
  simp only[RV] at hx hi;subst hi;obtain⟨cs',rfl,hl⟩:=hx;obtain⟨v',h1,h2⟩:=Xt (s:=s) hl hv;exact⟨v',h1,fun dst K h=>⟨hc.1,hc.2,h2 dst K h⟩⟩
 ·split at hv<;>try (cases hv;done)
  rename_i hc
  simp only[RV] at hx hi;subst hi;subst hx;obtain⟨b,h1,rfl⟩:=Option.map_eq_some_iff.1 hv;exact⟨_, .int _ _,fun dst K h=>⟨hc,by rw[h1];exact h⟩⟩
 ·cases hv
theorem Xu {i:Nat} {x x' v:DVal} (hx:RV ρ x x') (hv:Lm i x=some v):Bd ρ v (fun dst=>Gb i dst x') s:=by
 unfold Lm at hv;split at hv
 ·simp only[RV] at hx;obtain⟨cs',rfl,hl⟩:=hx;obtain⟨x',h1,h2⟩:=hl.get hv;exact⟨x',h2,fun dst K h=>by simp only[Gb,h1,Ck];exact h⟩
 ·cases hv
theorem Nn {z:Option DVal} {v:DVal} (hz: ∀x,z=some x->RV ρ x x) (hv:Ln z=some v):Bd ρ v (fun dst=>Kp dst z) s:=by
 unfold Ln at hv;split at hv<;>cases hv;exact⟨_, .tuple (.cons (hz _ rfl) (.cons (.bool _) .nil)),fun _ _ h=>h⟩
theorem Qj {t:TypeId} {ok b:Bool} {x x' v:DVal} (hx:RV ρ x x') (hv:Fv P t ok b x=some v):Bd ρ v (fun dst=>Ba P t ok dst b x') s:=by
 unfold Fv at hv;split at hv
 ·simp only[RV] at hx;obtain⟨v1,rfl,h1⟩:=hx;unfold Sf at hv;split at hv
  ·cases hv;exact⟨_, .tuple (.cons h1 (.cons (.bool _) .nil)),fun dst K h=>by
    show Ba P t _ dst _ _ K s;simp only[Ba, *,Et]⟩
  ·rename_i hd
   obtain⟨v',h2,h3⟩:=Nn (s:=s) (fun x hx=>Er hx) hv;exact⟨v',h2,fun dst K h=>by simp only[Ba,hd,Et];exact h3 dst K h⟩
  ·cases hv;exact⟨_,h1,fun dst K h=>by
    show Ba P t _ dst _ _ K s;simp only[Ba, *,Et]⟩
  ·cases hv
 ·simp only[RV] at hx;subst hx;split at hv<;>try (cases hv;done)
  rename_i hc
  obtain⟨v',h2,h3⟩:=Nn (s:=s) (fun x hx=>Er hx) hv;exact⟨v',h2,fun dst K h=>⟨hc,h3 dst K h⟩⟩
 ·cases hv
theorem Be0 {t:Option TypeDesc} {x x' v:DVal} (hx:RV ρ x x') (hv:Bk3 t x=some v):Bd ρ v (fun dst=>Ai9 dst t x') s:=by
 unfold Bk3 at hv;split at hv<;>cases hv
 ·simp only[RV] at hx;subst hx;exact⟨_, .int _ _,fun _ _ h=>h⟩
 ·exact⟨_, .int _ _,fun _ _ h=>h⟩
 all_goals simp only[RV] at hx
 ·subst hx;exact⟨_, .int _ _,fun _ _ h=>h⟩
 ·obtain⟨_,rfl,_⟩:=hx;exact⟨_, .int _ _,fun _ _ h=>h⟩
 ·obtain⟨_,rfl,_⟩:=hx;exact⟨_, .int _ _,fun _ _ h=>h⟩
theorem Ap3 {ts:List TypeId} {x x' v:DVal} (hx:RV ρ x x') (hv:Ab8 P x ts=some v):Bd ρ v (fun dst=>Sz P x' dst ts) s:=by
 unfold Ab8 at hv;split at hv
 ·exact Be0 hx hv
 ·cases hv
theorem Aw3 {k k' p p':DVal} {b:Bool} (hk:RV ρ k k') (hp:RV ρ p p') (h:Ff k p=some b):Ff k' p'=some b:=by
 have h0:=h;unfold Ff at h;split at h<;>(try (cases h;done))<;>simp only[RV] at hk hp
 ·subst hk;subst hp;exact h0
 ·subst hk;subst hp;exact h0
 ·subst hk;subst hp;exact h0
 ·obtain⟨cs,rfl,h1⟩:=hk;obtain⟨cs2,rfl,h2⟩:=hp;obtain⟨x,xs,rfl,a1,h1⟩:=h1.inv;obtain⟨y,rfl,a2⟩:=Cj h1;obtain⟨x',xs',rfl,b1,h2⟩:=h2.inv;obtain⟨y',rfl,b2⟩:=Cj h2;simp only[RV] at a1 a2 b1 b2;subst a1;subst a2;subst b1;subst b2;exact h0
theorem Vc {k k':DVal} (hk:RV ρ k k'): ∀ {es es':List (DVal×DVal)} {i:Nat} {r:Option Nat},RVM ρ es es'->Bb k es i=some r->Bb k' es' i=some r
 | [],_,i,r,he,h=>by simp only[RVM] at he;subst he;exact h
 | p::es,_,i,r,he,h=>by
  obtain⟨q,qs,rfl,h1,h2,h3⟩:=he;simp only[Bb] at h⊢
  unfold Gu at h;split at h
  ·rename_i hb;rw[Aw3 hk h1 hb];exact h
  ·rename_i hb;rw[Aw3 hk h1 hb];exact Vc hk h3 h
  ·cases h
theorem RVM.get: ∀ {es es':List (DVal×DVal)} {i:Nat} {p:DVal×DVal},RVM ρ es es'->es[i]? =some p-> ∃p',es'[i]? =some p'/\RV ρ p.1 p'.1/\RV ρ p.2 p'.2
 | [],_,i,p,_,h=>by simp at h
 | x::es,_,0,p,he,h=>by
  obtain⟨q,qs,rfl,h1,h2,h3⟩:=he;simp only[List.getElem?_cons_zero,Option.some.injEq] at h;subst h;exact⟨q,rfl,h1,h2⟩
 | x::es,_,i+1,p,he,h=>by
  obtain⟨q,qs,rfl,h1,h2,h3⟩:=he;simp only[List.getElem?_cons_succ] at h⊢
  exact h3.get h
theorem Be1 {t:Option TypeDesc} {k k':DVal} (hk:RV ρ k k') (h:Dg t k=true):Dg t k'=true:=by
 have h0:=h;unfold Dg at h;split at h<;>(try (cases h;done))<;>simp only[RV] at hk<;>(subst hk;exact h0)
theorem Vd {t:Option TypeDesc} {k k':DVal} (hk:RV ρ k k') (h:Ct P t k=true):Ct P t k'=true:=by
 unfold Ct at h;split at h
 ·simp only[RV] at hk;obtain⟨cs',rfl,hl⟩:=hk;obtain⟨x,xs,rfl,h1,hl⟩:=hl.inv;obtain⟨y,rfl,h2⟩:=Cj hl;simp only[RV] at h1 h2;subst h1;subst h2;exact h
 ·have h0:=Be1 hk h;unfold Ct;split
  ·unfold Dg at h0;split at h0<;>first | (rename_i e;cases e;done) | cases h0
  ·exact h0
theorem Lw {ok b:Bool} {v v':DVal} (h:RV ρ v v'):RV ρ (Uo ok v b) (if ok then .tuple [v', .bool b] else v'):=by
 unfold Uo;split
 ·exact .tuple (.cons h (.cons (.bool _) .nil))
 ·exact h
theorem So {es es':List (DVal×DVal)} {ok:Bool} {z:Option DVal} {r r':Option (Option Nat)} {v:DVal} (hz: ∀x,z=some x->RV ρ x x) (he:RVM ρ es es') (hr: ∀x,r=some x->r'=some x) (hv:Kh es ok z r=some v):
  Bd ρ v (fun dst=>Jy es' ok dst z r') s:=by
 unfold Kh at hv;split at hv
 ·rename_i i
  obtain⟨p,h1,rfl⟩:=Option.map_eq_some_iff.1 hv;obtain⟨p',h2,h3,h4⟩:=he.get h1;rw[hr _ rfl];exact⟨_,Lw h4,fun dst K h=>⟨p',h2,h⟩⟩
 ·cases hv;rw[hr _ rfl];exact⟨_,Lw (hz _ rfl),fun dst K h=>h⟩
 ·cases hv
theorem Be2 {t:Option TypeDesc} {k k':DVal} (hk:RV ρ k k') (h:Ct P t k=true):k'=k:=by
 unfold Ct at h;split at h
 ·simp only[RV] at hk;obtain⟨cs',rfl,hl⟩:=hk;obtain⟨x,xs,rfl,h1,hl⟩:=hl.inv;obtain⟨y,rfl,h2⟩:=Cj hl;simp only[RV] at h1 h2;subst h1;subst h2;rfl
 ·unfold Dg at h;split at h<;>(try (cases h;done))<;>simp only[RV] at hk<;>exact hk
theorem Ap4 {es es':List (DVal×DVal)} {ok:Bool} {z:Option DVal} {k v:DVal} (hz: ∀x,z=some x->RV ρ x x) (he:LK es es') (hv:Kh es ok z (Bb k es 0)=some v):Bd ρ v (fun dst=>Jy es' ok dst z (Bb k es' 0)) s:=by
 unfold Kh at hv;split at hv
 ·rename_i i hf
  obtain⟨p,h1,rfl⟩:=Option.map_eq_some_iff.1 hv;obtain⟨r',h2,h3⟩:=he k _ hf;rcases h3 with⟨e,_⟩ | ⟨i',j,q,q',e,rfl,e1,e2,e3,e4⟩
  ·cases e
  ·cases e;rw[h1] at e1;cases e1;rw[h2];exact⟨_,Lw (Gp e4),fun dst K h=>⟨q',e2,by rw[<-e3];exact h⟩⟩
 ·rename_i x hf
  cases hv;obtain⟨r',h2,h3⟩:=he k _ hf;rcases h3 with⟨_,rfl⟩ | ⟨i',j,q,q',e,_⟩
  ·rw[h2];exact⟨_,Lw (hz _ rfl),fun dst K h=>h⟩
  ·cases e
 ·cases hv
theorem Ad0 {ok:Bool} {t:Option TypeDesc} {x x' k k' v:DVal} (hS:RH B ρ A s.heap) (hx:RV ρ x x') (hk:RV ρ k k') (hv:Od P A ok t x k=some v):Bd ρ v (fun dst=>Kv P ok dst t x' k') s:=by
 unfold Od at hv;split at hv
 ·split at hv<;>try (cases hv;done)
  rename_i hkt
  simp only[RV] at hx;obtain⟨r,rfl,hr⟩:=hx;unfold Au8 at hv;split at hv
  ·rename_i es heq
   obtain⟨r',o',h1,h2,es',rfl,h3⟩:=hS.obj _ _ heq;rw[hr] at h1;cases h1;obtain⟨v',h4,h5⟩:=So (s:=s) (r':=Bb k' es' 0) (fun x hx=>Er hx) h3 (fun x hx=>Vc hk h3 hx) hv;exact⟨v',h4,fun dst K h=>⟨Vd hk hkt,by rw[h2];exact h5 dst K h⟩⟩
  ·rename_i env n l heq
   obtain⟨r',o',h1,h2,es',rfl,h3⟩:=hS.obj _ _ heq;rw[hr] at h1;cases h1;obtain rfl:=Be2 hk hkt;obtain⟨v',h4,h5⟩:=Ap4 (s:=s) (fun x hx=>Er hx) h3 hv;exact⟨v',h4,fun dst K h=>⟨hkt,by rw[h2];exact h5 dst K h⟩⟩
  ·cases hv
 ·split at hv<;>try (cases hv;done)
  rename_i hkt
  simp only[RV] at hx;subst hx;obtain⟨v',h4,h5⟩:=So (s:=s) (es:= []) (es':= []) (r':=some none) (fun x hx=>Er hx) (by simp only[RVM]) (fun x hx=>hx) hv;exact⟨v',h4,fun dst K h=>⟨Vd hk hkt,h5 dst K h⟩⟩
 ·cases hv
theorem Rl {t:TypeId} {b:Bool} {x x' v:DVal} (hx:RV ρ x x') (hv:Hk t x b=some v):Bd ρ v (fun dst=>Ex t x' dst b) s:=by
 unfold Hk at hv;split at hv<;>cases hv;exact⟨_, .iface t hx,fun _ _ h=>h⟩
theorem Bo7 {b:Bool} {x x' y y' v:DVal} (hx:RV ρ x x') (hy:RV ρ y y') (h:dMM b x y=some v):dMM b x' y'=some v/\ ∃k n,v= .int k n:=by
 have h0:=h;unfold dMM at h;split at h
 ·simp only[RV] at hx hy;subst hx;subst hy;cases h;exact⟨h0,_,_,rfl⟩
 ·cases h
theorem Qk {b:Bool}: ∀ {ys ys':List DVal} {x x' v:DVal},RV ρ x x'->RVL ρ ys ys'->Dh b (some x) ys=some v-> ∃v',RV ρ v v'/\Dh b (some x') ys'=some v'
 | [],_,x,x',v,hx,hy,h=>by
  simp only[RVL] at hy;subst hy;simp only[Dh] at h;cases h;exact⟨x',hx,rfl⟩
 | y::ys,_,x,x',v,hx,hy,h=>by
  obtain⟨a,b',rfl,h1,h2⟩:=hy.inv;simp only[Dh] at h⊢
  cases hm:dMM b x y with
  | none=>rw[hm] at h;cases ys<;>cases h
  | some w=>
   rw[hm] at h;obtain⟨h3,k,n,rfl⟩:=Bo7 hx h1 hm;rw[h3];exact Qk (.int k n) h2 h
theorem Sp {b:Bool} {ys ys':List DVal} {v:DVal} (hy:RVL ρ ys ys') (h:Cn b ys=some v):Bd ρ v (fun dst=>Ck dst (Cn b ys')) s:=by
 cases ys with
 | nil=>cases h
 | cons y ys=>
  obtain⟨a,b',rfl,h1,h2⟩:=hy.inv;simp only[Cn] at h;obtain⟨v',h3,h4⟩:=Qk h1 h2 h;exact⟨v',h3,fun dst K h=>by simp only[Cn,h4,Ck];exact h⟩
end
end Go.Dl

-- AN INTERPRETER OF THE DATA LEVEL, PART 5: operations.
namespace Go.Dl
open Go
def Mw (P:Program) (G:Nat->DVal) (call:Nat->List DVal->XH->COut):Prop:=
 ∀(B:Aa) (ρ:Nat->Option Nat) (k:Nat) (args args':List DVal) (A:XH) (H:Aa) (R:DEnd->Aa->Prop),RVL ρ args args'->RH B ρ A H->Cr B ρ R (call k args A)->Bj P G k args' H R
section
variable {P:Program} {gt:Nat->Option DVal} {G:Nat->DVal} {call:Nat->List DVal->XH->COut}
variable {B:Aa} {ρ:Nat->Option Nat} {E:Tr DVal} {A:XH} {s:DS} {K:DK} {Q:DExit->DS->Prop} {dst:Option Nat}
theorem Bi {b:Bool} {x:Out} {Q:DExit->DS->Prop} (h:Ad B ρ Q (Bool.rec (motive:=fun _=>Out) .bad x b)):b=true/\Ad B ρ Q x:=by
 cases b with
 | false=>exact h.elim
 | true=>exact⟨rfl,h⟩
theorem Jg {α:Type} {o:Option α} {f:α->Out} {Q:DExit->DS->Prop} (h:Ad B ρ Q (Hw .bad f o)): ∃v,o=some v/\Ad B ρ Q (f v):=by
 cases o with
 | none=>exact h.elim
 | some v=>exact⟨v,rfl,h⟩
theorem Dk (hS:RS B ρ E A s) {o:Option DVal} {F:Option Nat->DK->DS->Prop} (h:Ad B ρ (Bl K Q) (Bv E A dst o)) (hg: ∀v,o=some v->Bd ρ v F s):F dst K s:=by
 obtain⟨v,hv,hk⟩:=Av9 hS h;obtain⟨v',h1,h2⟩:=hg v hv;exact h2 dst K (hk v' h1)
theorem Xv (hS:RS B ρ E A s) {cs cs':List DVal} {e:TypeId} (hc:RVL ρ cs cs') (h:Ad B ρ (Bl K Q) (Xf E A dst cs e)):Ok cs' e dst K s:=by
 intro r hr;obtain⟨A',ρ',hle,hk,h1,hS'⟩:=Iu hS hr (o:= .cells cs e) (o':= .cells cs' e) ⟨cs',rfl,hc⟩ h;exact Bt hS' (.optr 0 hk) h1
theorem Ql (hS:RS B ρ E A s) {cs cs':List DVal} {e:TypeId} {sz len cap:Nat} (hc:RVL ρ cs cs') (h:Ad B ρ (Bl K Q) (Xg E A dst cs e sz len cap)):Nb cs' e sz len cap dst K s:=by
 intro r hr;obtain⟨A',ρ',hle,hk,h1,hS'⟩:=Iu hS hr (o:= .cells cs e) (o':= .cells cs' e) ⟨cs',rfl,hc⟩ h;exact Bt hS' (.oslice _ _ _ _ hk) h1
theorem Xw (hS:RS B ρ E A s) (h:Ad B ρ (Bl K Q) (Au9 E A dst)):Aq9 dst K s:=by
 intro r hr;obtain⟨A',ρ',hle,hk,h1,hS'⟩:=Iu hS hr (o:= .map []) (o':= .map []) ⟨[],rfl,by simp only[RVM]⟩ h;exact Bt hS' (.omap hk) h1
theorem Qm (hS:RS B ρ E A s) {n:Nat} {t:Option TypeDesc} {ps ps':List (Nat×DVal)} (hp:RVP ρ ps ps') (h:Ad B ρ (Bl K Q) (Fw P E A dst n t ps)):Cs P n dst t ps' K s:=by
 unfold Fw at h;split at h
 ·rename_i e
  obtain⟨z,hz,h⟩:=Jg h;obtain⟨hb,h⟩:=Bi h;rw[Lu] at h;simp only[Bool.and_eq_true,decide_eq_true_eq,beq_iff_eq] at hb;obtain⟨cs,hcs,h⟩: ∃cs,Dd (Hy (P.cellsOf e)) (repl n z.cells) ps=some cs/\Ad B ρ (Bl K Q) (Xg E A dst cs e (P.cellsOf e) n n):=by
   split at h
   ·rename_i cs hcs;exact⟨cs,hcs,h⟩
   ·exact h.elim
  have rz:RV ρ z z:=Er hz;obtain⟨cs',h1,h2⟩:=Lv hp (rz.cells.repl n) hcs;simp only[Cs,hz,Gr,h1,Aq4];exact⟨hb.1,hb.2,Ql hS h2 h⟩
 ·exact h.elim
theorem Rm (hS:RS B ρ E A s) {t:Option TypeDesc} {l l' c c':DVal} (hl:RV ρ l l') (hc:RV ρ c c') (h:Ad B ρ (Bl K Q) (Hl P E A dst t l c)):Dn P dst t l' c' K s:=by
 unfold Hl at h;split at h
 ·simp only[RV] at hl hc;subst hl;subst hc;obtain⟨z,hz,h⟩:=Jg h;obtain⟨hb,h⟩:=Bi h;rw[Eb,Eb] at h;simp only[Bool.and_eq_true,decide_eq_true_eq,beq_iff_eq] at hb;have rz:RV ρ z z:=Er hz;simp only[Dn,hz,Ia];exact⟨hb.1.1.1.1.1,hb.1.1.1.1.2,hb.1.1.1.2,hb.1.1.2,hb.1.2,hb.2,Ql hS (rz.cells.repl _) h⟩
 ·exact h.elim
theorem Ap5 (hS:RS B ρ E A s) {size:Nat} {a a' x x':DVal} (ha:RV ρ a a') (hx:RV ρ x x') (h:Ad B ρ (Bl K Q) (Up E A size dst a x)):Ma size dst a' x' K s:=by
 unfold Up at h;split at h
 ·simp only[RV] at ha;obtain⟨r,rfl,hr⟩:=ha;unfold Ag4 at h;split at h
  ·rename_i cs e heq
   obtain⟨r',cs',h1,h2,h3⟩:=Dw hS.heap heq;rw[hr] at h1;cases h1;obtain⟨hb,h⟩:=Bi h;rw[Oe] at h;simp only[Bool.and_eq_true,Qf,Is,decide_eq_true_eq] at hb;have hcl:=hx.cells;obtain⟨A',h4,h5,_,_⟩:=It (ob':= .cells (splice cs' _ x'.cells) e) hS heq hr (fun o1 e1=>by cases e1;exact⟨_,rfl,h3.splice _ hcl⟩) h;simp only[Ma,h2,Sw];exact⟨by rw[hcl.length];exact hb.1.1,by rw[hcl.allOne];exact hb.1.2,by rw[h3.length];exact hb.2,h4 ρ _ (Ble.refl _) h5⟩
  ·exact h.elim
 ·exact h.elim
theorem Ap6 (hS:RH B ρ A s.heap) {size:Nat} {y y':DVal} {n:Nat} {news:List DVal} (hy:RV ρ y y') (h:Ab9 size A y=some (n,news)): ∃news',Ey size s.heap y'=some (n,news')/\RVL ρ news news':=by
 unfold Ab9 at h;split at h
 ·cases h;simp only[RV] at hy;subst hy;exact⟨[],rfl, .nil⟩
 ·rw[Ir] at h;cases h;simp only[RV] at hy;obtain⟨cs',rfl,hl⟩:=hy;exact⟨_,rfl,hl.take _⟩
 ·simp only[RV] at hy;obtain⟨r,rfl,hr⟩:=hy;unfold Gc at h;split at h
  ·rename_i cs e heq
   cases h;obtain⟨r',cs',h1,h2,h3⟩:=Dw hS heq;rw[hr] at h1;cases h1;exact⟨_,by simp only[Ey,h2,Gc],(h3.drop _).take _⟩
  ·cases h
 ·cases h;simp only[RV] at hy;subst hy;exact⟨_,rfl, .bytes _⟩
 ·cases h
theorem Xx (hS:RS B ρ E A s) {e:TypeId} {size bytes k r off len lo n:Nat} {news news':List DVal} (hr:ρ k=some r) (hn:RVL ρ news news')
  (h:Ad B ρ (Bl K Q) (Py E A dst e size bytes k off len lo n news (Av A k))):Kq e size bytes r off len lo n news' dst K s (s.heap r):=by
 unfold Py at h;split at h
 ·rename_i cs e' heq
  obtain⟨r',cs',h1,h2,h3⟩:=Dw hS.heap heq;rw[hr] at h1;cases h1;obtain⟨he,h⟩:=Bi h;have he:=Nat.eq_of_beq_eq_true he;subst he;rw[h2];simp only[Kq];refine⟨trivial,fun hle=> ?_,fun hle=> ?_⟩
  ·rw[Nat.ble_eq_true_of_le hle] at h;obtain⟨hb,h⟩:=Bi h;rw[Oe] at h;rw[Is] at hb;obtain⟨A',h4,h5,_,_⟩:=It (ob':= .cells (splice cs' (off+len*size) news') e') hS heq hr (fun o1 e1=>by cases e1;exact⟨_,rfl,h3.splice _ hn⟩) h;exact⟨by rw[h3.length];exact of_decide_eq_true hb,Bt h5 (.oslice _ _ _ _ hr) h4⟩
  ·have:Nat.ble (len+n) lo=false:=by
    cases hb:Nat.ble (len+n) lo with
    | false=>rfl
    | true=>exact(hle (Nat.le_of_ble_eq_true hb)).elim
   rw[this] at h;obtain⟨hb,h⟩:=Bi h;simp only[Bool.and_eq_true,Is,decide_eq_true_eq] at hb;obtain⟨⟨⟨hb1,hb2⟩,hb3⟩,hb4⟩:=hb;have hb3:=Nat.le_of_ble_eq_true hb3;have hb4:=Nat.eq_of_beq_eq_true hb4;subst hb4;refine⟨by rw[h3.length];exact hb1,hb2,fun r2 pre hr2 hpre=> ?_⟩;obtain rfl:=hpre rfl;obtain⟨A',h4,h5,_,_⟩:=It (ob':= .cells [] e') hS heq hr (fun o1 e1=>by cases e1) h;have hif:(if len<=lo\/r2=r then upd s.heap r none else s.heap)=upd s.heap r none:=if_pos (.inl hb3);rw[hif];rw[Ir,Lt,Ag9] at h4;obtain⟨A2,ρ2,hle2,hk2,h6,h7⟩:=Iu h5 hr2 (o:= .cells ((cs.drop 0).take (len*size)++news) e') (o':= .cells ((cs'.drop 0).take (len*size)++news') e') ⟨_,rfl,((h3.drop 0).take _).append hn⟩ h4;exact Bt h7 (.oslice _ _ _ _ hk2) h6
 ·exact h.elim
theorem Ad1 (hS:RS B ρ E A s) {x x' y y':DVal} {ts:List TypeId} (hx:RV ρ x x') (hy:RV ρ y y') (h:Ad B ρ (Bl K Q) (Ms P E A dst x y ts)):Ge P x' y' dst ts K s:=by
 unfold Ms at h;split at h
 ·obtain⟨hb,h⟩:=Bi h;simp only[Bool.and_eq_true,Bool.not_eq_true'] at hb;simp only[Ge,hb.1,Ic];unfold Ag5 at h;split at h
  ·rename_i e heq
   rw[heq];obtain⟨hb2,h⟩:=Bi h;simp only[Bool.and_eq_true,decide_eq_true_eq] at hb2;simp only[Kr];refine⟨hb.2,hb2.1.1.1,hb2.1.1.2,hb2.1.2,hb2.2, ?_⟩;unfold Xh at h;split at h
   ·rename_i n news hc
    obtain⟨hb3,h⟩:=Bi h;simp only[Bool.and_eq_true,Qf,decide_eq_true_eq] at hb3;obtain⟨news',h1,h2⟩:=Ap6 hS.heap hy hc;rw[h1];simp only[Ot];refine⟨by rw[h2.length];exact hb3.1,by rw[h2.allOne];exact hb3.2, ?_⟩;unfold Sg at h;split at h
    ·simp only[RV] at hx;subst hx;simp only[Gd];refine⟨fun h0=> ?_,fun h0=> ?_⟩
     ·subst h0;exact Bt hS .nilS h
     ·have:Nat.beq n 0=false:=by
       cases hb:Nat.beq n 0 with
       | false=>rfl
       | true=>exact(h0 (Nat.eq_of_beq_eq_true hb)).elim
      rw[this] at h;obtain⟨hb4,h⟩:=Bi h;exact⟨of_decide_eq_true hb4,Ql hS h2 h⟩
    ·simp only[RV] at hx;obtain⟨r,rfl,hr⟩:=hx;obtain⟨hb4,h⟩:=Bi h;simp only[Gd];exact⟨Nat.eq_of_beq_eq_true hb4,Xx hS hr h2 h⟩
    ·exact h.elim
   ·exact h.elim
  ·exact h.elim
 ·exact h.elim
theorem RVM.set: ∀ {es es':List (DVal×DVal)} {i:Nat} {p p':DVal×DVal},RVM ρ es es'->RV ρ p.1 p'.1->RV ρ p.2 p'.2->RVM ρ (es.set i p) (es'.set i p')
 | [],_,i,p,p',he,_,_=>by simp only[RVM] at he;subst he;simp [RVM]
 | x::es,_,0,p,p',he,h1,h2=>by
  obtain⟨q,qs,rfl,_,_,h5⟩:=he;exact⟨p',qs,rfl,h1,h2,h5⟩
 | x::es,_,i+1,p,p',he,h1,h2=>by
  obtain⟨q,qs,rfl,h3,h4,h5⟩:=he;exact⟨q,_,rfl,h3,h4,h5.set h1 h2⟩
theorem RVM.push: ∀ {es es':List (DVal×DVal)} {p p':DVal×DVal},RVM ρ es es'->RV ρ p.1 p'.1->RV ρ p.2 p'.2->RVM ρ (es++ [p]) (es'++ [p'])
 | [],_,p,p',he,h1,h2=>by simp only[RVM] at he;subst he;exact⟨p',[],rfl,h1,h2,rfl⟩
 | x::es,_,p,p',he,h1,h2=>by
  obtain⟨q,qs,rfl,h3,h4,h5⟩:=he;exact⟨q,_,rfl,h3,h4,h5.push h1 h2⟩
theorem Qn (hS:RS B ρ E A s) {t:Option TypeDesc} {m m' k k' x x':DVal} (hm:RV ρ m m') (hk:RV ρ k k') (hx:RV ρ x x') (h:Ad B ρ (Bl K Q) (Jf P E A dst t m k x)):Fj P dst t m' k' x' K s:=by
 unfold Jf at h;split at h
 ·simp only[RV] at hm;obtain⟨r,rfl,hr⟩:=hm;split at h
  ·rename_i hb heq
   rename_i es
   simp only[Bool.and_eq_true] at hb;obtain⟨i,hi,h⟩:=Jg h;obtain⟨r',o',h1,h2,es',rfl,h3⟩:=hS.heap.obj _ _ heq;rw[hr] at h1;cases h1;obtain⟨A',h4,h5,_,_⟩:=It (ob':= .map (Tb es' k' x' i)) hS heq hr (fun o1 e1=>by
    cases e1;refine⟨_,rfl, ?_⟩;cases i with
    | none=>exact h3.push (p:=(k,x)) (p':=(k',x')) hk hx
    | some j=>exact h3.set (p:=(k,x)) (p':=(k',x')) hk hx) h
   simp only[Fj];refine⟨trivial,Vd hk hb.1, ?_⟩;rw[h2];simp only[Ku];refine⟨by rw[hx.one];exact hb.2, ?_⟩;rw[Vc hk h3 hi];exact h4 ρ _ (Ble.refl _) h5
  ·exact h.elim
 ·exact h.elim
theorem Xy (hS:RS B ρ E A s) {t:Option TypeDesc} {r r':Option DVal} (hr:RVo ρ r r') (h:Ad B ρ (Bl K Q) (Lo E A dst t r)):Gf dst t r' K s:=by
 unfold Lo at h;split at h
 ·obtain rfl:=Fd hr;exact Xw hS h
 ·obtain⟨d,rfl,hd⟩:=Xs hr;simp only[RV] at hd;subst hd;exact Xw hS h
 ·exact h.elim
theorem Ap7 (hS:RS B ρ E A s) {t:Option TypeDesc} {x x':DVal} (hx:RV ρ x x') (h:Ad B ρ (Bl K Q) (Uq E A dst t x)):Oo dst t x' K s:=by
 unfold Uq at h;split at h
 ·rename_i l
  simp only[RV] at hx;subst hx;intro r hr;obtain⟨A',ρ',hle,hk,h1,hS'⟩:=Iu hS hr (o:= .iter l 0) (o':= .iter l 0) (by simp only[RO]) h;exact Bt hS' (.optr 0 hk) h1
 ·exact h.elim
theorem Aw4 (hS:RS B ρ E A s) {b:Bool} {x x':DVal} (hx:RV ρ x x') (h:Ad B ρ (Bl K Q) (Ag6 E A dst b x)):Rr dst b x' K s:=by
 unfold Ag6 at h;split at h
 ·simp only[RV] at hx;obtain⟨r,rfl,hr⟩:=hx;unfold Av0 at h;split at h
  ·rename_i l pos heq
   obtain⟨r',o',h1,h2,h3⟩:=hS.heap.obj _ _ heq;rw[hr] at h1;cases h1;simp only[RO] at h3;subst h3;simp only[Rr,h2,Sx];refine⟨fun hlt=> ?_,fun hlt=> ?_⟩
   ·rw[decide_eq_true hlt] at h;simp only[Eb] at h;obtain⟨A',h4,h5,_,_⟩:=It (ob':= .iter l (pos+(Ew l pos).2)) hS heq hr (fun o1 e1=>by cases e1;rfl) h;exact Bt h5 (.tuple (.cons (.bool _) (.cons (.int _ _) (.cons (.int _ _) .nil)))) h4
   ·rw[decide_eq_false hlt] at h;exact Bt hS (.tuple (.cons (.bool _) .nil)) h
  ·exact h.elim
 ·exact h.elim
theorem Ap8 (hS:RS B ρ E A s) {c:COut} (h:Ad B ρ (Bl K Q) (Av1 E dst c)):Cr B ρ (Tc dst K Q s.env) c:=by
 cases c with
 | bad=>exact h.elim
 | cret v A1=>
  intro ρ' H' v' hle hH hv;have hS':RS B ρ' E A1 ⟨s.env,H'⟩:=⟨fun i v hi=>(hS.env i v hi).mono hle,hH⟩;exact Bt hS' hv (Ad.le hle h)
 | cpanic v A1=>
  intro ρ' H' v' hle hH hv;exact h ρ' ⟨s.env,H'⟩ v' hle ⟨fun i v hi=>(hS.env i v hi).mono hle,hH⟩ hv
theorem Ap9 (hc:Mw P G call) (hS:RS B ρ E A s) {args args':List DVal} {f f':DVal} (ha:RVL ρ args args') (hf:RV ρ f f') (h:Ad B ρ (Bl K Q) (Ac0 call E A dst args f)):Mc P G args' dst Q f' K s:=by
 unfold Ac0 at h;split at h
 ·simp only[RV] at hf;obtain⟨a',c',rfl,h1,h2⟩:=hf;exact hc B ρ _ _ _ A s.heap _ ((h1.append ha).append h2) hS.heap (Ap8 hS h)
 ·exact h.elim
theorem Aq0 (hS:RS B ρ E A s) {x x':DVal} (hx:RV ρ x x') (h:Ad B ρ (Bl K Q) (Us E A x)):Ie Q s x':=by
 have keep:=hx;unfold Us at h;split at h
 ·simp only[RV] at hx;obtain⟨v',rfl,_⟩:=hx;exact h ρ s _ (Ble.refl _) hS keep
 ·exact h.elim
theorem Xz (hS:RS B ρ E A s) {ts:List TypeId} {b:Builtin} {args args':List DVal} (ha:RVL ρ args args') (h:Ad B ρ (Bl K Q) (Pz P E A dst ts b args)):Cd P ts dst Q b args' K s:=by
 unfold Pz at h;split at h
 ·obtain⟨x',rfl,hx⟩:=Cj ha;exact Dk hS h fun v hv=>Ap3 hx hv
 ·obtain⟨x',ys,rfl,hx,hy⟩:=ha.inv;obtain⟨y',rfl,hy'⟩:=Cj hy;exact Ad1 hS hx hy' h
 ·exact Dk hS h fun v hv=>Sp ha hv
 ·exact Dk hS h fun v hv=>Sp ha hv
 ·obtain⟨x',rfl,hx⟩:=Cj ha;have keep:=hx;simp only[RV] at hx;obtain⟨v',rfl,_⟩:=hx;exact h ρ s _ (Ble.refl _) hS keep
 ·exact h.elim
theorem Bl1 (call:Nat->List DVal->XH->COut) (E:Tr DVal) (A:XH) (dst:Option Nat) (op:Op):xop P gt call E A dst op=Bo5 P gt call E A dst op:=by cases op<;>rfl
theorem Ve (hgt: ∀g d,gt g=some d-> ∀ρ,RV ρ d (G g)) (hc:Mw P G call) (hS:RS B ρ E A s) (op:Op) (h:Ad B ρ (Bl K Q) (xop P gt call E A dst op)):dop P G dst K Q s op:=by
 rw[Bl1] at h;cases op<;>simp only[Bo5,Ao6] at h<;>try (exact h.elim)
 case move x=>obtain⟨v,h1,h⟩:=Aq hgt hS h;exact Xn hS h1 h
 case assign x=>obtain⟨v,h1,h⟩:=Aq hgt hS h;exact Xn hS h1 h
 case pick c a b=>
  obtain⟨v,h1,h⟩:=Aq hgt hS h;obtain⟨w,h2,h⟩:=Aq hgt hS h;obtain⟨x,h3,h⟩:=Aq hgt hS h;exact Dk hS h fun v hv=>Aw0 hv h1 h2 h3
 case alloc e=>
  obtain⟨z,hz,h⟩:=Jg h;simp only[dop,hz,Yu];exact Xv hS (Er hz).cells h
 case box e x=>
  obtain⟨v,h1,h⟩:=Aq hgt hS h;exact Xv hS h1.cells h
 case build t ps=>
  obtain⟨v,h1,h⟩:=Qh hgt hS h;exact Dk hS h fun v hv=>Ao7 (fun x hx=>Er hx) hv h1
 case buildSlice t n ps=>
  obtain⟨v,h1,h⟩:=Qh hgt hS h;exact Qm hS h1 h
 case load t a=>
  obtain⟨v,h1,h⟩:=Aq hgt hS h;exact Dk hS h fun v hv=>Aw1 hS.heap h1 hv
 case store t a x=>
  obtain⟨v,h1,h⟩:=Aq hgt hS h;obtain⟨w,h2,h⟩:=Aq hgt hS h;obtain⟨hb,h⟩:=Bi h;exact⟨hb,Ap5 hS h1 h2 h⟩
 case nilCheck x=>
  obtain⟨v,h1,h⟩:=Aq hgt hS h;exact Dk hS h fun v hv=>Bd3 h1 hv
 case binOp op t x y t'=>
  obtain⟨v,h1,h⟩:=Aq hgt hS h;obtain⟨w,h2,h⟩:=Aq hgt hS h;exact Dk hS h fun v hv=>Aw2 h1 h2 hv
 case unOp op t x=>
  obtain⟨v,h1,h⟩:=Aq hgt hS h;exact Dk hS h fun v hv=>Bk9 h1 hv
 case convert src t x=>
  obtain⟨v,h1,h⟩:=Aq hgt hS h;exact Dk hS h fun v hv=>Ao9 hS.heap h1 hv
 case makeInterface t x=>
  obtain⟨v,h1,h⟩:=Aq hgt hS h;exact Dk hS h fun v hv=>Rl h1 hv
 case makeFunc fn fs cs=>
  obtain⟨v,h1,h⟩:=Qg hgt hS h;obtain⟨w,h2,h⟩:=Qg hgt hS h;exact Bt hS (.func fn h1 h2) h
 case makeMap t r=>
  obtain⟨v,h1,h⟩:=Uz hgt hS h;exact Xy hS h1 h
 case lookup t x k ok=>
  obtain⟨v,h1,h⟩:=Aq hgt hS h;obtain⟨w,h2,h⟩:=Aq hgt hS h;exact Dk hS h fun v hv=>Ad0 hS.heap h1 h2 hv
 case mapUpdate t m k x=>
  obtain⟨v,h1,h⟩:=Aq hgt hS h;obtain⟨w,h2,h⟩:=Aq hgt hS h;obtain⟨y,h3,h⟩:=Aq hgt hS h;exact Qn hS h1 h2 h3 h
 case insert t m k x=>
  obtain⟨v,h1,h⟩:=Aq hgt hS h;obtain⟨w,h2,h⟩:=Aq hgt hS h;obtain⟨y,h3,h⟩:=Aq hgt hS h;exact Qn hS h1 h2 h3 h
 case makeSlice t l c=>
  obtain⟨v,h1,h⟩:=Aq hgt hS h;obtain⟨w,h2,h⟩:=Aq hgt hS h;exact Rm hS h1 h2 h
 case slice t x lo hi mx=>
  obtain⟨v,h1,h⟩:=Aq hgt hS h;obtain⟨a,h2,h⟩:=Uz hgt hS h;obtain⟨b,h3,h⟩:=Uz hgt hS h;obtain⟨c,h4,h⟩:=Uz hgt hS h;exact Dk hS h fun v hv=>Ap0 hS.heap h2 h3 h4 h1 hv
 case fieldAddr t x f=>
  obtain⟨v,h1,h⟩:=Aq hgt hS h;exact Dk hS h fun v hv=>Rj h1 hv
 case field t x f=>
  obtain⟨v,h1,h⟩:=Aq hgt hS h;exact Dk hS h fun v hv=>Ap1 h1 hv
 case indexAddr t x i=>
  obtain⟨v,h1,h⟩:=Aq hgt hS h;obtain⟨w,h2,h⟩:=Aq hgt hS h;exact Dk hS h fun v hv=>Rk h1 h2 hv
 case index t x i=>
  obtain⟨v,h1,h⟩:=Aq hgt hS h;obtain⟨w,h2,h⟩:=Aq hgt hS h;exact Dk hS h fun v hv=>Ap2 h1 h2 hv
 case typeAssert x t u ok=>
  obtain⟨v,h1,h⟩:=Aq hgt hS h;exact Dk hS h fun v hv=>Qj h1 hv
 case extract x i=>
  obtain⟨v,h1,h⟩:=Aq hgt hS h;exact Dk hS h fun v hv=>Xu h1 hv
 case panic x=>
  obtain⟨v,h1,h⟩:=Aq hgt hS h;exact Aq0 hS h1 h
 case range t x=>
  obtain⟨v,h1,h⟩:=Aq hgt hS h;exact Ap7 hS h1 h
 case next x b=>
  obtain⟨v,h1,h⟩:=Aq hgt hS h;exact Aw4 hS h1 h
 case call c=>
  unfold Ur at h;simp only[dop,Fk];split at h
  ·rename_i f heq
   rw[heq];obtain⟨v,h1,h⟩:=Aq hgt hS h;obtain⟨w,h2,h⟩:=Qg hgt hS h;exact Ap9 hc hS h2 h1 h
  ·rename_i b heq
   rw[heq];obtain⟨w,h2,h⟩:=Qg hgt hS h;exact Xz hS h2 h
  ·exact h.elim
end
end Go.Dl

-- THE DATA LEVEL, PART 6: a heap in two parts; the contract of an iterator; the loop over it.
namespace Go.Dl
open Go Go.RowKit
def Bu0 (Hi X:Aa):Aa:=fun r=>match X r with
 | some o=>some o
 | none=>Hi r
def h0:Aa:=fun _=>none
theorem Be3 (Hi:Aa):Bu0 Hi h0=Hi:=rfl
section
end
end Go.Dl

-- THE DATA LEVEL, PART 7: own memory seen as memory that lasts; calls that only look.
namespace Go.Dl
open Go Go.RowKit
mutual
/-- The value, with block r (its cells: cs) seen as memory that lasts. -/
def fz (r:Nat) (cs:List DVal):DVal->DVal
 | .optr r' off=>if r'=r then .vptr cs off else .optr r' off
 | .oslice sz r' off len lo=>if r'=r then .vslice ((cs.drop off).take (len*sz)) len else .oslice sz r' off len lo
 | .func fn a c=> .func fn (fzs r cs a) (fzs r cs c)
 | .iface t v=> .iface t (fz r cs v)
 | .agg l=> .agg (fzs r cs l)
 | .tuple l=> .tuple (fzs r cs l)
 | .vptr l off=> .vptr (fzs r cs l) off
 | .vslice l n=> .vslice (fzs r cs l) n
 | d=>d
def fzs (r:Nat) (cs:List DVal):List DVal->List DVal
 | []=> []
 | d::ds=>fz r cs d::fzs r cs ds
end
section
variable {P:Program} {G:Nat->DVal} {w:World} {H:Aa}
def Aw5 (H:Aa) (v:DVal) (H':Aa) (v':DVal):Prop:= ∀w,Ae w H->Ae w H'/\(∀b,H' b≠none->H b≠none)/\ ∀x,Rel w H v x->Rel w H' v' x
theorem Bj.ghost {f:FuncId} {args:List DVal} {H:Aa} {R R':DEnd->Aa->Prop} (h:Bj P G f args H R) (hr: ∀e H',R e H'-> ∃v v' H'',e= .ret v/\Aw5 H' v H'' v'/\R' (.ret v') H''):Bj P G f args H R':=by
 refine⟨h.1,fun vs w hv hH hG=>(h.2 vs w hv hH hG).mono fun e w' ⟨e',H',r,k1,k2,k3⟩=> ?_⟩;obtain⟨v,v',H'',rfl,g,r'⟩:=hr _ _ r;obtain⟨g1,g2,g3⟩:=g w' k2;cases k1 with
 | ret d x hx=>exact⟨.ret v',H'',r', .ret _ _ (g3 x hx),g1,k3.os,k3.tape,k3.output,k3.size,k3.block,fun b hb=>k3.own b (g2 b hb),k3.keep,k3.fz⟩
def plain:DVal->Bool
 | .bool _ | .int _ _ | .str _ | .nilPtr | .nilSlice | .nilMap | .nilFunc | .nilIface=>true
 | .tuple l=>plains l
 | .agg l=>plains l
 | _=>false
where plains:List DVal->Bool
 | []=>true
 | d::ds=>plain d&&plains ds
end
attribute [go_sem] fz.eq_1 fz.eq_2 fz.eq_3 fz.eq_4 fz.eq_5 fz.eq_6 fzs.eq_1 fzs.eq_2
end Go.Dl

-- THE DATA LEVEL, PART 8: loops over iterators, ready for use.
namespace Go.Dl
open Go Go.RowKit
attribute [go_sem] Be3
section
end
end Go.Dl

-- THE DATA LEVEL, PART 9: slices that are built up; plain lists seen as slices.
namespace Go.Dl
open Go Go.RowKit
abbrev Mx (v:DVal) (H:Aa):DEnd->Aa->Prop:=fun e H'=>e= .ret v/\H'=H
section
end
theorem Ya {H H':Aa} (h: ∀r o,H' r=some o->H r=some o) {b:Nat} (hb:H b=none):H' b=none:=by
 cases e:H' b with
 | none=>rfl
 | some o=>rw[h b o e] at hb;cases hb
theorem My {H H':Aa} (h: ∀r o,H' r=some o->H r=some o) (w:World):Lasts H w H' w:=
 ⟨fun b i x hb hc=>⟨Ya h hb,hc⟩,Nat.le_refl _,fun _ _=>rfl⟩
theorem Aw5.sub {H H':Aa} (h: ∀r o,H' r=some o->H r=some o) (v:DVal):Aw5 H v H' v:=fun w hw=>
 ⟨fun r o ho=>(hw r o (h r o ho)).lasts (My h w),fun b hb e=>hb (Ya h e),fun x hx=>Rel.lasts (My h w) _ _ hx⟩
theorem Yb {α:Type} (p:α->Bool) (x:α):Option.all p (some x)=p x:=rfl
attribute [go_sem] Yb
end Go.Dl

-- THE DATA LEVEL: the lemmas that the long simp call (simp (disch := omega) only [go_sem] in fill.py) takes besides the equations.
namespace Go.Dl
open Go
attribute [go_sem] Int.toNat_natCast Int.sub_zero Int.zero_add Int.add_zero Nat.add_sub_cancel List.length_cons List.length_nil List.all_cons List.all_nil Bool.and_true Bool.true_and Bool.or_false Bool.false_or
attribute [go_sem] List.take_succ_cons List.take_zero List.drop_succ_cons List.drop_zero decide_true decide_false Nat.mul_one Nat.one_mul Nat.zero_add Nat.add_zero Nat.mul_zero Nat.zero_mul Bool.not_true Bool.not_false
attribute [go_sem] Option.map_some Option.map_none Nat.le_refl Nat.zero_lt_succ ne_eq not_true_eq_false not_false_eq_true Option.isSome_some true_imp_iff false_imp_iff beq_self_eq_true forall_const List.length_map
end Go.Dl

-- AN INTERPRETER OF THE DATA LEVEL, PART 6: code.
namespace Go.Dl
open Go
noncomputable section
structure XP where
 P:Program
 gt:Nat->Option DVal
 plans:List (FuncId×Nat×Plan)
 memo:List (FuncId×List DVal×DVal)
 good:List (FuncId×Nat)
def Ad2 (l:List (FuncId×Nat×Plan)) (f id:Nat):Option Plan:=
 List.rec (motive:=fun _=>Option Plan) none (fun x _ ih=>Bool.rec (motive:=fun _=>Option Plan) ih (some x.2.2) (Nat.beq x.1 f&&Nat.beq x.2.1 id)) l
def Ad3 (l:List (FuncId×List DVal×DVal)) (k:Nat) (args:List DVal):Option DVal:=
 List.rec (motive:=fun _=>Option DVal) none (fun x _ ih=>Bool.rec (motive:=fun _=>Option DVal) ih (some x.2.2) (Nat.beq x.1 k&&Db args x.2.1)) l
def Vf (l:List (FuncId×Nat)) (k n:Nat):Bool:=
 List.rec (motive:=fun _=>Bool) false (fun x _ ih=>Bool.rec (motive:=fun _=>Bool) ih true (Nat.beq x.1 k&&Nat.beq x.2 n)) l
section
variable (X:XP)
def Iv (ih:FuncId->Code->Tr DVal->XH->Out) (rs:List ResultVar) (g:FuncId) (caps:List DVal) (x:DVal) (E:Tr DVal) (H:XH):COut:=
 match X.P.funcs[g]? with
 | some fg=>match fg.body with
  | some c=>match Sh c with
   | some (t1,t2,cc)=>Lr caps 0 .leaf fun F=>Tr.setK .bad x 10 F t1 fun F=>Tr.setK .bad x 10 F t2 fun F=>
    match ih g cc F H with
    | .norm _ H'=>Ao4 X.P rs E H'
    | .ret _ H'=>Ao4 X.P rs E H'
    | _=> .bad
   | none=> .bad
  | none=> .bad
 | none=> .bad
def Qo (ih:FuncId->Code->Tr DVal->XH->Out) (rs:List ResultVar) (g:FuncId) (caps:List DVal):Out->COut
 | .norm E H=>Iv X ih rs g caps .nilIface E H
 | .ret E H=>Iv X ih rs g caps .nilIface E H
 | .panic v E H=>Iv X ih rs g caps v E H
 | _=> .bad
def Bg5 (ih:FuncId->Code->Tr DVal->XH->Out) (k:FuncId) (rs:List ResultVar) (l:Late) (args:List DVal) (H:XH):COut:=
 Lr args 0 .leaf fun E=>
 match ih k l.A1 E H with
 | .norm E H=>match ih k l.A2 E H with
  | .norm E H=>Lk X.gt .bad E l.caps fun caps=>Tr.setK .bad (.func (.func l.g) [] caps) 10 E l.d fun E2=>Qo X ih rs l.g caps (ih k l.C E2 H)
  | _=> .bad
 | _=> .bad
def Ad4 (ih:FuncId->Code->Tr DVal->XH->Out) (k:FuncId) (args:List DVal) (H:XH):COut:=
 match X.P.funcs[k]? with
 | some fn=>match fn.body with
  | some c=>match Qe c with
   | some l=>Bg5 X ih k fn.results.toList l args H
   | none=>Lr args 0 .leaf fun E=>Bo6 X.P fn.results.toList (ih k c E H)
  | none=> .bad
 | none=> .bad
def Yc (ih:FuncId->Code->Tr DVal->XH->Out) (k:FuncId) (args:List DVal) (H:XH):COut:=
 match Ad3 X.memo k args with
 | some v=> .cret v H
 | none=>Bool.rec (motive:=fun _=>COut) .bad (Ad4 X ih k args H) (Vf X.good k args.length)
def Aw6 (ih:FuncId->Code->Tr DVal->XH->Out) (f:FuncId) (c:Code) (E:Tr DVal) (H:XH):Out:=
 match c with
 | .skip=> .norm E H
 | .label _=> .norm E H
 | .region _ ops false=>Bk4 X.P X.gt (Yc X ih) ops.toList ops.toList E H
 | .region id ops true=>match Ad2 X.plans f id with
  | some p=>Xi (Lq X.P X.gt (Yc X ih) ops.toList p E H)
  | none=> .bad
 | .seq a b=>Iq (ih f a E H) fun E H=>ih f b E H
 | .cond c a b=>evK X.gt .bad E c fun v=>Bg4 (ih f a E H) (ih f b E H) v
 | .block id c=>Uw id (ih f c E H)
 | .loop c=>Bg3 (Qd (fun E H=>ih f c E H) 20 E H)
 | .exit id=> .exit id E H
 | .ret=> .ret E H
 | .scope c=>ih f c E H
 | _=> .bad
def Rn (n:Nat):FuncId->Code->Tr DVal->XH->Out:=
 Nat.rec (motive:=fun _=>FuncId->Code->Tr DVal->XH->Out) (fun _ _ _ _=> .bad) (fun _ ih f c E H=>Aw6 X ih f c E H) n
def Bg (plans:List (FuncId×Nat×Plan)) (f N:Nat):Code->Bool
 | .region id ops true=>match Ad2 plans f id with
  | some p=>ops.toList.all (Cb N)&&Pq ops.toList [] p&&Bu ops.toList p []
  | none=>true
 | .seq a b=>Bg plans f N a&&Bg plans f N b
 | .cond _ a b=>Bg plans f N a&&Bg plans f N b
 | .block _ c=>Bg plans f N c
 | .loop c=>Bg plans f N c
 | .scope c=>Bg plans f N c
 | _=>true
def Ah0 (P:Program) (plans:List (FuncId×Nat×Plan)) (k n:Nat) (fn:Func) (l:Late):Bool:=
 match P.funcs[l.g]? with
 | some fg=>match fg.body with
  | some c=>match Sh c with
   | some (t1,t2,cc)=>!(fg.name== "runtime.NumGoroutine")&&fg.results.toList.isEmpty&&Bg plans l.g fg.ntmps cc&&
    (decide (l.caps.length<=fg.ntmps)&&Bc fg.ntmps cc&&Fg cc&&decide (t1<fg.ntmps)&&decide (t2<fg.ntmps))&&
    (Bg plans k fn.ntmps l.A1&&Bg plans k fn.ntmps l.A2&&Bg plans k fn.ntmps l.C)&&
    (decide (n<=fn.ntmps)&&(Bc fn.ntmps l.A1&&Fg l.A1)&&(Bc fn.ntmps l.A2&&Fg l.A2)&&(Bc fn.ntmps l.C&&Fg l.C)&&decide (l.d<fn.ntmps)&&l.caps.all (Ag fn.ntmps)&&fn.results.toList.all (Ni fn.ntmps))
   | none=>false
  | none=>false
 | none=>false
def Ah1 (P:Program) (plans:List (FuncId×Nat×Plan)) (k n:Nat):Bool:=
 match P.funcs[k]? with
 | some fn=>!(fn.name== "runtime.NumGoroutine")&&match fn.body with
  | some c=>match Qe c with
   | some l=>Ah0 P plans k n fn l
   | none=>Bj3 fn n&&Bg plans k fn.ntmps c
  | none=>false
 | none=>false
structure XOk (G:Nat->DVal):Prop where
 mixed:X.P.follows .mixedOrders=true
 gt: ∀g d,X.gt g=some d-> ∀ρ,RV ρ d (G g)
 good:X.good.all (fun x=>Ah1 X.P X.plans x.1 x.2)=true
 plain:X.memo.all (fun x=>Cc x.2.1&&By x.2.2)=true
 memo: ∀x∈X.memo,∀H,Bj X.P G x.1 x.2.1 H (Mx x.2.2 H)
end
end
theorem Np {k:Nat} {args:List DVal} {v:DVal}: ∀ {l:List (FuncId×List DVal×DVal)},Ad3 l k args=some v-> ∃x∈l,x.1=k/\Db args x.2.1=true/\x.2.2=v
 | [],h=>by cases h
 | x::l,h=>by
  have h:Bool.rec (motive:=fun _=>Option DVal) (Ad3 l k args) (some x.2.2) (Nat.beq x.1 k&&Db args x.2.1)=some v:=h;cases hb:(Nat.beq x.1 k&&Db args x.2.1) with
  | false=>
   rw[hb] at h;obtain⟨y,h1,h2⟩:=Np h;exact⟨y,List.mem_cons_of_mem _ h1,h2⟩
  | true=>
   rw[hb] at h;cases h;simp only[Bool.and_eq_true] at hb;exact⟨x,List.mem_cons_self,Nat.eq_of_beq_eq_true hb.1,hb.2,rfl⟩
theorem Nq {k n:Nat}: ∀ {l:List (FuncId×Nat)},Vf l k n=true->(k,n)∈l
 | [],h=>by cases h
 | x::l,h=>by
  have h:Bool.rec (motive:=fun _=>Bool) (Vf l k n) true (Nat.beq x.1 k&&Nat.beq x.2 n)=true:=h;cases hb:(Nat.beq x.1 k&&Nat.beq x.2 n) with
  | false=>rw[hb] at h;exact List.mem_cons_of_mem _ (Nq h)
  | true=>
   simp only[Bool.and_eq_true] at hb;obtain⟨a,b⟩:=x;have h1:=Nat.eq_of_beq_eq_true hb.1;have h2:=Nat.eq_of_beq_eq_true hb.2;dsimp only at h1 h2;rw[h1,h2];exact List.mem_cons_self
theorem Ap {a b:Nat} (h:Nat.beq a b=true):a=b:=Nat.eq_of_beq_eq_true h
mutual
theorem Oh: ∀ {a b:DVal},Ac1 a b=true->a=b
 | .raw _,b,h=>by
  cases b<;>first | (cases (show false=true from h);done) | skip
 | .bool a,b,h=>by
  cases b<;>first | (cases (show false=true from h);done) | skip
  rename_i c;have h:(a==c)=true:=h;rw[eq_of_beq h]
 | .int k n,b,h=>by
  cases b<;>first | (cases (show false=true from h);done) | skip
  rename_i k' n';have h:(decide (k=k')&&decide (n=n'))=true:=h;simp only[Bool.and_eq_true,decide_eq_true_eq] at h;rw[h.1,h.2]
 | .str l,b,h=>by
  cases b<;>first | (cases (show false=true from h);done) | skip
  rename_i c;have h:decide (l=c)=true:=h;rw[of_decide_eq_true h]
 | .nilPtr,b,h=>by
  cases b<;>first | (cases (show false=true from h);done) | skip
  rfl
 | .nilSlice,b,h=>by
  cases b<;>first | (cases (show false=true from h);done) | skip
  rfl
 | .nilMap,b,h=>by
  cases b<;>first | (cases (show false=true from h);done) | skip
  rfl
 | .nilFunc,b,h=>by
  cases b<;>first | (cases (show false=true from h);done) | skip
  rfl
 | .nilIface,b,h=>by
  cases b<;>first | (cases (show false=true from h);done) | skip
  rfl
 | .optr r o,b,h=>by
  cases b<;>first | (cases (show false=true from h);done) | skip
  rename_i r' o';have h:(Nat.beq r r'&&Nat.beq o o')=true:=h;simp only[Bool.and_eq_true] at h;rw[Ap h.1,Ap h.2]
 | .oslice x y z u v,b,h=>by
  cases b<;>first | (cases (show false=true from h);done) | skip
  rename_i x' y' z' u' v';have h:(Nat.beq x x'&&Nat.beq y y'&&Nat.beq z z'&&Nat.beq u u'&&Nat.beq v v')=true:=h;simp only[Bool.and_eq_true] at h;rw[Ap h.1.1.1.1,Ap h.1.1.1.2,Ap h.1.1.2,Ap h.1.2,Ap h.2]
 | .vptr cs o,b,h=>by
  cases b<;>first | (cases (show false=true from h);done) | skip
  rename_i cs' o';have h:(Nat.beq o o'&&Db cs cs')=true:=h;simp only[Bool.and_eq_true] at h;rw[Ap h.1,Dm h.2]
 | .vslice cs o,b,h=>by
  cases b<;>first | (cases (show false=true from h);done) | skip
  rename_i cs' o';have h:(Nat.beq o o'&&Db cs cs')=true:=h;simp only[Bool.and_eq_true] at h;rw[Ap h.1,Dm h.2]
 | .iface t v,b,h=>by
  cases b<;>first | (cases (show false=true from h);done) | skip
  rename_i t' v';have h:(Nat.beq t t'&&Ac1 v v')=true:=h;simp only[Bool.and_eq_true] at h;rw[Ap h.1,Oh h.2]
 | .agg cs,b,h=>by
  cases b<;>first | (cases (show false=true from h);done) | skip
  rename_i cs';have h:Db cs cs'=true:=h;rw[Dm h]
 | .tuple cs,b,h=>by
  cases b<;>first | (cases (show false=true from h);done) | skip
  rename_i cs';have h:Db cs cs'=true:=h;rw[Dm h]
 | .omap r,b,h=>by
  cases b<;>first | (cases (show false=true from h);done) | skip
 | .func f x y,b,h=>by
  cases f<;>cases b<;>first | (cases (show false=true from h);done) | skip
  rename_i f g x' y'
  cases g<;>first | (cases (show false=true from h);done) | skip
  rename_i g
  have h:(Nat.beq f g&&Db x x'&&Db y y')=true:=h
  simp only[Bool.and_eq_true] at h
  rw[Ap h.1.1,Dm h.1.2,Dm h.2]
theorem Dm: ∀ {a b:List DVal},Db a b=true->a=b
 | [],[],_=>rfl
 | [],_::_,h=>by cases (show false=true from h)
 | _::_,[],h=>by cases (show false=true from h)
 | a::al,b::bl,h=>by
  have h:(Ac1 a b&&Db al bl)=true:=h
  simp only[Bool.and_eq_true] at h
  rw[Oh h.1,Dm h.2]
end
theorem Be4 {a b:Option DObj} (h:Ac2 a b=true):a=b/\ ∃o,a=some o:=by
 unfold Ac2 at h;split at h
 ·simp only[Bool.and_eq_true] at h;rw[Nat.eq_of_beq_eq_true h.1,Dm h.2];exact⟨rfl,_,rfl⟩
 ·simp only[Bool.and_eq_true,decide_eq_true_eq] at h;rw[h.1,Nat.eq_of_beq_eq_true h.2];exact⟨rfl,_,rfl⟩
 ·cases h
end Go.Dl

-- AN INTERPRETER OF THE DATA LEVEL, PART 7: what it says of code and of calls is true.
namespace Go.Dl
open Go
section
variable {X:XP} {G:Nat->DVal} {call:Nat->List DVal->XH->COut}
variable {B:Aa} {ρ:Nat->Option Nat} {E:Tr DVal} {A:XH} {s:DS} {K:DK} {Q:DExit->DS->Prop}
theorem Vg {W:DK} {o:Out} {κ:Tr DVal->XH->Out} (h:Ad B ρ Q (Iq o κ)) (k: ∀ρ' E' A' s',Ble ρ ρ'->RS B ρ' E' A' s'->Ad B ρ' Q (κ E' A')->W s'):Ad B ρ (Bl W Q) o:=by
 cases o with
 | bad=>exact h
 | norm E' A'=>exact fun ρ' s' hl hS=>k ρ' E' A' s' hl hS (Ad.le hl h)
 | exit id E' A'=>exact h
 | ret E' A'=>exact h
 | panic v E' A'=>exact h
 | panicX v A'=>exact h
theorem Oi {all:List Oper} (hS:RS B ρ E A s) {gd:Option (Nat×Bool)} {w:Bool} (h:Av2 all E gd=some w):
  (gd=none/\w=true)\/ ∃j b g,gd=some (j,b)/\Fl all j=some g/\((∃v,s.env g= .bool v/\w=(v==b))\/(s.env g= .tuple []/\w=false)):=by
 unfold Av2 at h;split at h
 ·cases h;exact .inl ⟨rfl,rfl⟩
 ·rename_i j b
  split at h
  ·rename_i g hg
   refine .inr ⟨j,b,g,rfl,hg, ?_⟩;cases hv:E.get g with
   | none=>rw[hv] at h;cases b<;>cases h
   | some x=>
    have hr:=hS.env g x hv;rw[hv] at h;cases x<;>simp only[RV] at hr
    case bool c=>cases c<;>cases b<;>cases h<;>exact .inl ⟨_,hr,rfl⟩
    case tuple cs=>cases cs with
     | nil=>
      simp only[RVL] at hr;obtain⟨cs',hr,rfl⟩:=hr;cases b<;>cases h<;>exact .inr ⟨hr,rfl⟩
     | cons x cs=>cases b<;>cases h
    all_goals (cases b<;>cases h)
  ·cases h
theorem Ah2 (hX:XOk X G) (hc:Mw X.P G call) (all:List Oper): ∀(ops:List Oper) (E:Tr DVal) (A:XH) (s:DS) (ρ:Nat->Option Nat),RS B ρ E A s->Ad B ρ Q (Bk4 X.P X.gt call all ops E A)->Ji X.P G all Q ops s
 | [],E,A,s,ρ,hS,h=>h ρ s (Ble.refl _) hS
 | o::ops,E,A,s,ρ,hS,h=>by
  have h:Ad B ρ Q (Iq (Av3 X.P X.gt call all E A o) (Bk4 X.P X.gt call all ops)):=h;have h1:=Vg (W:=Ji X.P G all Q ops) h fun ρ' E' A' s' _ hS' h'=>Ah2 hX hc all ops E' A' s' ρ' hS' h';simp only[Ji];unfold Av3 at h1;split at h1
  ·rename_i hw
   rcases Oi hS hw with⟨hg,_⟩ | ⟨j,b,g,hg,hd,hv⟩
   ·rw[hg];exact Ve hX.gt hc hS _ h1
   ·rw[hg];simp only[hd];rcases hv with⟨v,hv,hvb⟩ | ⟨_,hf⟩
    ·rw[hv];have:v=b:=by simpa using hvb.symm
     exact⟨fun _=>Ve hX.gt hc hS _ h1,fun hn=>(hn this).elim⟩
    ·cases hf
  ·rename_i hw
   rcases Oi hS hw with⟨_,hf⟩ | ⟨j,b,g,hg,hd,hv⟩
   ·cases hf
   ·rw[hg];simp only[hd];rcases hv with⟨v,hv,hvb⟩ | ⟨hv,_⟩
    ·rw[hv];have:v≠b:=by simpa using hvb.symm
     exact⟨fun hn=>(this hn).elim,fun _=>Bt hS .undef h1⟩
    ·rw[hv];exact Bt hS .undef h1
  ·exact h1.elim
theorem Aw7 {W:DK} {o:Out} {κ:Tr DVal->XH->Out} (h:Ad B ρ Q (Xi (Iq o κ))) (k: ∀ρ' E' A' s',Ble ρ ρ'->RS B ρ' E' A' s'->Ad B ρ' Q (Xi (κ E' A'))->W s'):Ad B ρ (Bl W (QP Q)) o:=by
 cases o with
 | bad=>exact h
 | norm E' A'=>exact fun ρ' s' hl hS=>k ρ' E' A' s' hl hS (Ad.le hl h)
 | exit id E' A'=>exact h.elim
 | ret E' A'=>exact h.elim
 | panic v E' A'=>exact fun ρ' s' v' hl hS hv env=>h ρ' ⟨env,s'.heap⟩ v' hl hS.heap hv
 | panicX v A'=>exact h.elim
theorem Sq {ρ':Nat->Option Nat} {A':XH} {s':DS} (hS:RS B ρ E A s) {E':Tr DVal} (hS':RS B ρ' E' A' s') (hl:Ble ρ ρ') {k r:Nat} (hr:ρ k=some r) (h:Ac2 (Av A k) (Av A' k)=true):s'.heap r=s.heap r:=by
 obtain⟨he,o,ho⟩:=Be4 h;obtain⟨r1,o1,h1,h2,h3⟩:=hS.heap.obj k o ho;obtain⟨r2,o2,k1,k2,k3⟩:=hS'.heap.obj k o (by rw[<-he];exact ho);rw[hr] at h1;cases h1;rw[hl k r hr] at k1;cases k1;rw[ho] at h;have h3:=h3.mono hl;cases o with
 | cells cs e=>
  obtain⟨x,rfl,g1⟩:=h3;obtain⟨y,rfl,g2⟩:=k3;rw[h2,k2,RVL.fn g1 g2]
 | iter s p=>
  simp only[RO] at h3 k3;rw[h2,k2,h3,k3]
 | map es=>exfalso;revert h;unfold Ac2;split<;>simp_all
 | loop=>exfalso;revert h;unfold Ac2;split<;>simp_all
theorem Aw8 {ρ':Nat->Option Nat} {A':XH} {s':DS} (hS:RS B ρ E A s) {E':Tr DVal} (hS':RS B ρ' E' A' s') (hl:Ble ρ ρ') {v v':DVal} (hv:RV ρ v v') (h:Ac3 A A' v=true):Cf s.heap s'.heap v':=by
 cases v<;>simp only[RV] at hv
 case optr r off=>
  obtain⟨r',rfl,hr⟩:=hv;exact Sq hS hS' hl hr h
 case oslice a b c d e=>
  obtain⟨r',rfl,hr⟩:=hv;exact Sq hS hS' hl hr h
 all_goals first
  | (subst hv;trivial)
  | (obtain⟨_,rfl,_⟩:=hv;trivial)
  | (obtain⟨_,_,rfl,_⟩:=hv;trivial)
theorem Yd (hX:XOk X G) {ρ':Nat->Option Nat} {A':XH} {s':DS} (hS:RS B ρ E A s) {E':Tr DVal} (hS':RS B ρ' E' A' s') (hl:Ble ρ ρ') (all:List Oper): ∀ {ls:List Nat},Qa X.gt all E A A' ls=true->Af4 G all s s'.heap ls
 | [],_=>trivial
 | l::ls,h=>by
  simp only[Qa,Bool.and_eq_true] at h;refine⟨?_,Yd hX hS hS' hl all h.2⟩;have h:=h.1;revert h;cases Hd (As all l) with
  | none=>intro _;trivial
  | some a=>
   intro h;simp only[Av4] at h;rcases Ac5 hX.gt hS a (fun v=>Ac3 A A' v) (z:=false) with e | ⟨v,h1,e⟩
   ·rw[e] at h;cases h
   ·rw[e] at h;exact Aw8 hS hS' hl h1 h
theorem Aw9 (hX:XOk X G) (hc:Mw X.P G call) {all:List Oper} (hS:RS B ρ E A s) {i:Nat} (h:Ad B ρ (Bl K Q) (xat X.P X.gt call all E A i)):dAt X.P G all K Q s (As all i):=by
 unfold xat at h;split at h
 ·rename_i o ho
  rw[ho];show An9 X.P G all K Q s o.dst o.op o.guard;unfold Av3 at h;split at h
  ·rename_i hw
   rcases Oi hS hw with⟨hg,_⟩ | ⟨j,b,g,hg,hd,hv⟩
   ·rw[hg];exact Ve hX.gt hc hS _ h
   ·rw[hg];simp only[An9,hd,Gk];rcases hv with⟨v,hv,hvb⟩ | ⟨_,hf⟩
    ·rw[hv];have:v=b:=by simpa using hvb.symm
     subst this;cases v<;>exact Ve hX.gt hc hS _ h
    ·cases hf
  ·rename_i hw
   rcases Oi hS hw with⟨_,hf⟩ | ⟨j,b,g,hg,hd,hv⟩
   ·cases hf
   ·rw[hg];simp only[An9,hd,Gk];have:=Bt hS .undef h;rcases hv with⟨v,hv,hvb⟩ | ⟨hv,_⟩
    ·rw[hv];have hne:v≠b:=by simpa using hvb.symm
     cases v<;>cases b<;>first | exact this | exact(hne rfl).elim
    ·rw[hv];cases b<;>exact this
  ·exact h.elim
 ·exact h.elim
mutual
theorem Ad5 {π:List (Nat×Nat)} {nx:Nat} {ρ2 ρ0:Nat->Option Nat} (hid: ∀k k' r,Nw π nx k k'=true->ρ2 k'=some r->ρ0 k=some r): ∀ {v w d:DVal},eqP π nx v w=true->RV ρ2 w d->RV ρ0 v d
 | .raw _,w,d,h,hr=>by
  cases w<;>first | (cases (show false=true from h);done) | skip
 | .bool a,w,d,h,hr=>by
  cases w<;>first | (cases (show false=true from h);done) | skip
  rename_i c;have h:(a==c)=true:=h;rw[eq_of_beq h];simpa only[RV] using hr
 | .int k n,w,d,h,hr=>by
  cases w<;>first | (cases (show false=true from h);done) | skip
  rename_i k' n';have h:(decide (k=k')&&decide (n=n'))=true:=h;simp only[Bool.and_eq_true,decide_eq_true_eq] at h;rw[h.1,h.2];simpa only[RV] using hr
 | .str l,w,d,h,hr=>by
  cases w<;>first | (cases (show false=true from h);done) | skip
  rename_i c;have h:Ab7 l c=true:=h;rw[Of] at h;rw[of_decide_eq_true h];simpa only[RV] using hr
 | .nilPtr,w,d,h,hr=>by
  cases w<;>first | (cases (show false=true from h);done) | skip
  simpa only[RV] using hr
 | .nilSlice,w,d,h,hr=>by
  cases w<;>first | (cases (show false=true from h);done) | skip
  simpa only[RV] using hr
 | .nilMap,w,d,h,hr=>by
  cases w<;>first | (cases (show false=true from h);done) | skip
  simpa only[RV] using hr
 | .nilFunc,w,d,h,hr=>by
  cases w<;>first | (cases (show false=true from h);done) | skip
  simpa only[RV] using hr
 | .nilIface,w,d,h,hr=>by
  cases w<;>first | (cases (show false=true from h);done) | skip
  simpa only[RV] using hr
 | .optr r o,w,d,h,hr=>by
  cases w<;>first | (cases (show false=true from h);done) | skip
  rename_i r' o';have h:(Nw π nx r r'&&Nat.beq o o')=true:=h;simp only[Bool.and_eq_true] at h;simp only[RV] at hr⊢;obtain⟨a,rfl,e⟩:=hr;exact⟨a,by rw[Ap h.2],hid _ _ _ h.1 e⟩
 | .omap r,w,d,h,hr=>by
  cases w<;>first | (cases (show false=true from h);done) | skip
  rename_i r';have h:Nw π nx r r'=true:=h;simp only[RV] at hr⊢;obtain⟨a,rfl,e⟩:=hr;exact⟨a,rfl,hid _ _ _ h e⟩
 | .oslice x y z u v,w,d,h,hr=>by
  cases w<;>first | (cases (show false=true from h);done) | skip
  rename_i x' y' z' u' v';have h:(Nat.beq x x'&&Nw π nx y y'&&Nat.beq z z'&&Nat.beq u u'&&Nat.beq v v')=true:=h;simp only[Bool.and_eq_true] at h;simp only[RV] at hr⊢;obtain⟨a,rfl,e⟩:=hr;exact⟨a,by rw[Ap h.1.1.1.1,Ap h.1.1.2,Ap h.1.2,Ap h.2],hid _ _ _ h.1.1.1.2 e⟩
 | .vptr cs o,w,d,h,hr=>by
  cases w<;>first | (cases (show false=true from h);done) | skip
  rename_i cs' o';have h:(Nat.beq o o'&&Jk π nx cs cs')=true:=h;simp only[Bool.and_eq_true] at h;simp only[RV] at hr⊢;obtain⟨a,rfl,e⟩:=hr;exact⟨a,by rw[Ap h.1],Fx hid h.2 e⟩
 | .vslice cs o,w,d,h,hr=>by
  cases w<;>first | (cases (show false=true from h);done) | skip
  rename_i cs' o';have h:(Nat.beq o o'&&Jk π nx cs cs')=true:=h;simp only[Bool.and_eq_true] at h;simp only[RV] at hr⊢;obtain⟨a,rfl,e⟩:=hr;exact⟨a,by rw[Ap h.1],Fx hid h.2 e⟩
 | .iface t v,w,d,h,hr=>by
  cases w<;>first | (cases (show false=true from h);done) | skip
  rename_i t' v';have h:(Nat.beq t t'&&eqP π nx v v')=true:=h;simp only[Bool.and_eq_true] at h;simp only[RV] at hr⊢;obtain⟨a,rfl,e⟩:=hr;exact⟨a,by rw[Ap h.1],Ad5 hid h.2 e⟩
 | .agg cs,w,d,h,hr=>by
  cases w<;>first | (cases (show false=true from h);done) | skip
  rename_i cs';have h:Jk π nx cs cs'=true:=h;simp only[RV] at hr⊢;obtain⟨a,rfl,e⟩:=hr;exact⟨a,rfl,Fx hid h e⟩
 | .tuple cs,w,d,h,hr=>by
  cases w<;>first | (cases (show false=true from h);done) | skip
  rename_i cs';have h:Jk π nx cs cs'=true:=h;simp only[RV] at hr⊢;obtain⟨a,rfl,e⟩:=hr;exact⟨a,rfl,Fx hid h e⟩
 | .func f x y,w,d,h,hr=>by
  cases f<;>cases w<;>first | (cases (show false=true from h);done) | skip
  rename_i f g x' y'
  cases g<;>first | (cases (show false=true from h);done) | skip
  rename_i g
  have h:(Nat.beq f g&&Jk π nx x x'&&Jk π nx y y')=true:=h
  simp only[Bool.and_eq_true] at h
  simp only[RV] at hr⊢
  obtain⟨a,b,rfl,e1,e2⟩:=hr
  exact⟨a,b,by rw[Ap h.1.1],Fx hid h.1.2 e1,Fx hid h.2 e2⟩
theorem Fx {π:List (Nat×Nat)} {nx:Nat} {ρ2 ρ0:Nat->Option Nat} (hid: ∀k k' r,Nw π nx k k'=true->ρ2 k'=some r->ρ0 k=some r): ∀ {v w d:List DVal},Jk π nx v w=true->RVL ρ2 w d->RVL ρ0 v d
 | [],[],_,_,hr=>by simpa only[RVL] using hr
 | [],_::_,_,h,_=>by cases (show false=true from h)
 | _::_,[],_,h,_=>by cases (show false=true from h)
 | a::al,b::bl,_,h,hr=>by
  have h:(eqP π nx a b&&Jk π nx al bl)=true:=h
  simp only[Bool.and_eq_true] at h
  obtain⟨x,xs,rfl,h1,h2⟩:=hr.inv
  exact .cons (Ad5 hid h.1 h1) (Fx hid h.2 h2)
end
theorem Ye {k:DVal} {c d r:Bool} (h:Ff k (.agg [.bool c, .bool d])=some r): ∃a b,k= .agg [.bool a, .bool b]:=by
 unfold Ff at h;split at h;all_goals first | (cases h;done) | skip
 all_goals first | (rename_i heq;cases heq;done) | skip
 exact⟨_,_,rfl⟩
theorem Vh {es es':List (DVal×DVal)} {k:DVal} {r:Option Nat} (h:lkB es es' k=true) (hr:Bb k es 0=some r): ∃r',Bb k es' 0=some r'/\
  ((r=none/\r'=none)\/ ∃i j p p',r=some i/\r'=some j/\es[i]? =some p/\es'[j]? =some p'/\p.2=p'.2/\By p.2=true):=by
 unfold lkB at h;rw[hr] at h;split at h
 ·rename_i h1 h2;cases h1;exact⟨none,h2, .inl ⟨rfl,rfl⟩⟩
 ·rename_i i j h1 h2
  cases h1;split at h
  ·rename_i p p' e1 e2
   simp only[Bool.and_eq_true] at h;exact⟨some j,h2, .inr ⟨i,j,p,p',rfl,rfl,e1,e2,Oh h.1,h.2⟩⟩
  ·cases h
 ·cases h
theorem Ax0 {es es':List (DVal×DVal)} (h:lkA es es'=true):LK es es'/\Ut es'=true:=by
 unfold lkA at h;simp only[Bool.and_eq_true] at h;obtain⟨⟨⟨⟨⟨h0,hp⟩,h1⟩,h2⟩,h3⟩,h4⟩:=h;refine⟨fun k r hr=> ?_,hp⟩;have hk: ∃a b,k= .agg [.bool a, .bool b]:=by
  unfold Bg2 at h0;split at h0
  ·simp only[Bb] at hr;unfold Gu at hr;split at hr
   ·rename_i e;exact Ye e
   ·rename_i e;exact Ye e
   ·cases hr
  ·cases h0
 obtain⟨a,b,rfl⟩:=hk;cases a<;>cases b
 ·exact Vh h4 hr
 ·exact Vh h3 hr
 ·exact Vh h2 hr
 ·exact Vh h1 hr
theorem Sr {ρ:Nat->Option Nat}: ∀ {es c:List (DVal×DVal)},Ut es=true->RVM ρ es c->c=es
 | [],c,_,h=>by simp only[RVM] at h;exact h
 | p::es,c,hp,h=>by
  obtain⟨q,qs,rfl,h1,h2,h3⟩:=h;simp only[Ut,List.all_cons,Bool.and_eq_true] at hp;have e1:=h1.fn (Gp hp.1.1);have e2:=h2.fn (Gp hp.1.2);have:q=p:=by obtain⟨a,b⟩:=q;obtain⟨c,d⟩:=p;simp only at e1 e2;rw[e1,e2]
  rw[this,Sr hp.2 h3]
theorem Dx {α:Type} {x y:α} {b:Bool} (h:Bool.rec (motive:=fun _=>Option α) none (some x) b=some y):b=true/\x=y:=by
 cases b with
 | false=>cases h
 | true=>cases h;exact⟨rfl,rfl⟩
theorem Vi {ρ:Nat->Option Nat} {env:Nat->DVal} {n:Nat} {l:Loop} {es:List (DVal×DVal)} {o:DObj} (h:lkA (Ri env n) es=true) (ho:RO ρ (.map es) o) {ρ':Nat->Option Nat}:RO ρ' (.loop env n l) o:=by
 obtain⟨c,rfl,hc⟩:=ho;obtain⟨h1,h2⟩:=Ax0 h;obtain rfl:=Sr h2 hc;exact⟨_,rfl,h1⟩
theorem Qp {π:List (Nat×Nat)} {nx:Nat} {ρ1 ρ2 ρ0:Nat->Option Nat} (hid: ∀k k' r,Nw π nx k k'=true->ρ2 k'=some r->ρ0 k=some r) {a b y:Option DObj} (h:Lp π nx a b=some y):
  ∃x z o,a=some x/\b=some z/\y=some o/\(∀c,RO ρ1 x c->RO ρ1 o c)/\(∀c,RO ρ2 z c->RO ρ0 o c):=by
 unfold Lp at h;split at h
 ·obtain⟨hb,rfl⟩:=Dx h;simp only[Bool.and_eq_true] at hb;refine⟨_,_,_,rfl,rfl,rfl,fun c hc=>hc,fun c hc=> ?_⟩;obtain⟨cs',rfl,hl⟩:=hc;exact⟨cs',by rw[Ap hb.1],Fx hid hb.2 hl⟩
 ·obtain⟨hb,rfl⟩:=Dx h;simp only[Bool.and_eq_true] at hb;refine⟨_,_,_,rfl,rfl,rfl,fun c hc=>hc,fun c hc=> ?_⟩;have h1:=hb.1;rw[Of] at h1;simp only[RO] at hc⊢
  rw[hc,of_decide_eq_true h1,Ap hb.2]
 ·obtain⟨hb,rfl⟩:=Dx h;simp only[Bool.and_eq_true] at hb;exact⟨_,_,_,rfl,rfl,rfl,fun c hc=>Vi hb.1 hc,fun c hc=>Vi hb.2 hc⟩
 ·obtain⟨hb,rfl⟩:=Dx h;exact⟨_,_,_,rfl,rfl,rfl,fun c hc=>hc,fun c hc=>Vi hb hc⟩
 ·obtain⟨hb,rfl⟩:=Dx h;exact⟨_,_,_,rfl,rfl,rfl,fun c hc=>Vi hb hc,fun c hc=>hc⟩
 ·obtain⟨hb,rfl⟩:=Dx h;refine⟨_,_,_,rfl,rfl,rfl,fun c hc=>hc,fun c hc=> ?_⟩;obtain⟨es',rfl,h2⟩:=hc;exact⟨es',rfl,(Ax0 hb).1.trans h2⟩
 ·cases h
theorem Aq1 {A:XH} {k:Nat} {o:DObj} (h:Av A k=some o):A.tr.get k=some (some o):=by
 unfold Av at h;split at h
 ·rename_i heq;cases h;exact heq
 ·cases h
theorem Vj {A:XH} {k:Nat} {o:DObj} (h:A.tr.get k=some (some o)):Av A k=some o:=by
 unfold Av;rw[h]
theorem Jh {π:List (Nat×Nat)} {nx:Nat} {A A':XH}: ∀(ks:List (Nat×Nat)) (t:Tr (Option DObj)) (κ:Tr (Option DObj)->Out),Hm π nx A A' ks t κ= .bad\/
  ∃t',Hm π nx A A' ks t κ=κ t'/\ ∀k o,t'.get k=some (some o)->t.get k=some (some o)\/ ∃j,Fz π k=some j/\Lp π nx (Av A k) (Av A' j)=some (some o)
 | [],t,κ=> .inr ⟨t,rfl,fun k o hk=> .inl hk⟩
 | x::ks,t,κ=>by
  have e0:Hm π nx A A' (x::ks) t κ=(match Fz π x.1 with
   | some j=>match Lp π nx (Av A x.1) (Av A' j) with
    | some (some o)=>Tr.setK Out.bad (some o) 24 t x.1 fun t=>Hm π nx A A' ks t κ
    | _=>Hm π nx A A' ks t κ
   | none=>Hm π nx A A' ks t κ):=rfl
  rw[e0]
  split
  ·rename_i j hj
   split
   ·rename_i o ho
    rcases Dv (z:=Out.bad) (x:=some o) 24 t x.1 (fun t=>Hm π nx A A' ks t κ) with e | ⟨t1,h1,e⟩
    ·exact .inl e
    ·rw[e]
     rcases Jh ks t1 κ with e | ⟨t',h2,h3⟩
     ·exact .inl e
     ·refine .inr ⟨t',h2,fun k o' hk=> ?_⟩
      rcases h3 k o' hk with h4 | h4
      ·rw[h1] at h4
       by_cases c:k=x.1
       ·rw[if_pos c] at h4
        cases h4
        rw[c]
        exact .inr ⟨j,hj,ho⟩
       ·rw[if_neg c] at h4;exact .inl h4
      ·exact .inr h4
   ·exact Jh ks t κ
  ·exact Jh ks t κ
theorem Fe {k j:Nat}: ∀ {π:List (Nat×Nat)},Fz π k=some j->(k,j)∈π
 | [],h=>by cases h
 | x::π,h=>by
  have h:Bool.rec (motive:=fun _=>Option Nat) (Fz π k) (some x.2) (Nat.beq x.1 k)=some j:=h;cases hb:Nat.beq x.1 k with
  | false=>rw[hb] at h;exact List.mem_cons_of_mem _ (Fe h)
  | true=>
   rw[hb] at h;cases h;have:=Ap hb;obtain⟨a,b⟩:=x;simp only at this;subst this;exact List.mem_cons_self
theorem Ss: ∀ {π:List (Nat×Nat)},Uv π=true-> ∀ {k k' j:Nat},(k,j)∈π->(k',j)∈π->k=k'
 | [],_,_,_,_,h,_=>by cases h
 | x::π,hn,k,k',j,h,h'=>by
  simp only[Uv,Bool.and_eq_true,List.all_eq_true,Bool.not_eq_true'] at hn;rcases List.mem_cons.1 h with e | e<;>rcases List.mem_cons.1 h' with e' | e'
  ·rw[<-e] at e';cases e';rfl
  ·have:=hn.1 _ e';rw[<-e] at this;simp only[Nat.beq_refl] at this;cases this
  ·have:=hn.1 _ e;rw[<-e'] at this;simp only[Nat.beq_refl] at this;cases this
  ·exact Ss hn.2 e e'
theorem Be5 (hS:RS B ρ E A s) {o1 o2:Out} (h:Ad B ρ Q (Xi (Av5 E A o1 o2))):Ad B ρ Q (Xi o1)/\Ad B ρ Q (Xi o2):=by
 cases o1<;>try (exact h.elim)
 cases o2<;>try (exact h.elim)
 rename_i E1 A1 E2 A2
 unfold Av5 at h;simp only[Ls,Eb] at h;generalize hmx:max A.nx (max A1.nx A2.nx)=mx at h;generalize (Bd0 A.nx A1 A2 _ _)=π at h;have hb:Bd1 π A.nx mx=true:=by
  cases hb:Bd1 π A.nx mx with
  | true=>rfl
  | false=>rw[hb] at h;exact h.elim
 rw[hb] at h;have h:Ad B ρ Q (Xi (Hm π A.nx A1 A2 π (Lj Uu (Lp π A.nx) A.tr A1.tr A2.tr) fun t=> .norm (Jp (fun v w=>Bool.rec (motive:=fun _=>Option DVal) none (some v) (eqP π A.nx v w)) E1 E2) ⟨t,mx⟩)):=h;rcases Jh (π:=π) (nx:=A.nx) (A:=A1) (A':=A2) π (Lj Uu (Lp π A.nx) A.tr A1.tr A2.tr) (fun t=>Out.norm (Jp (fun v w=>Bool.rec (motive:=fun _=>Option DVal) none (some v) (eqP π A.nx v w)) E1 E2) ⟨t,mx⟩) with e | ⟨t',e,ht⟩
 ·rw[e] at h;exact h.elim
 rw[e] at h;have h:Ad B ρ Q (.norm (Jp (fun v w=>Bool.rec (motive:=fun _=>Option DVal) none (some v) (eqP π A.nx v w)) E1 E2) ⟨t',mx⟩):=h;simp only[Bd1,Bool.and_eq_true,List.all_eq_true] at hb;obtain⟨hb1,hb2⟩:=hb;have hn0:A.nx<=mx:=by omega
 have hn1:A1.nx<=mx:=by omega
 have hn2:A2.nx<=mx:=by omega
 have henv: ∀i v,(Jp (fun v w=>Bool.rec (motive:=fun _=>Option DVal) none (some v) (eqP π A.nx v w)) E1 E2).get i=some v->E1.get i=some v/\ ∃w,E2.get i=some w/\eqP π A.nx v w=true:=fun i v hi=>by
  obtain⟨a,b,h1,h2,h3⟩:=Av8 hi;obtain⟨hq,rfl⟩:=Dx h3;exact⟨h1,b,h2,hq⟩
 have hblk: ∀k o,Av ⟨t',mx⟩ k=some o-> ∃j,((k<A.nx/\j=k)\/(A.nx<=k/\Fz π k=some j))/\Lp π A.nx (Av A1 k) (Av A2 j)=some (some o):=fun k o hk=>by
  rcases ht k o (Aq1 hk) with h1 | ⟨j,h1,h2⟩
  ·obtain⟨z,a,b,g1,g2,g3,g4,g5⟩:=Ao5 h1;cases z with
   | none=>cases g2
   | some z=>
    refine⟨k, .inl ⟨hS.heap.live (Vj g1),rfl⟩, ?_⟩;obtain⟨x,y,o',rfl,rfl,_⟩:=Qp (ρ1:=ρ) (ρ2:=ρ) (ρ0:=fun k=>if k<A.nx then ρ k else(Fz π k).bind ρ) (by
     intro k k' r hid e;unfold Nw at hid;cases hlt:Nat.blt k A.nx with
     | true=>
      rw[hlt] at hid;have e1:=Ap hid;have:k<A.nx:=by simpa [Nat.blt_eq] using hlt
      simp only[this,if_true];rw[e1];exact e
     | false=>
      rw[hlt] at hid;have: ¬k<A.nx:=fun c=>by
       have h9:Nat.blt k A.nx=true:=by rw[Nat.blt_eq];exact c
       rw[h9] at hlt;cases hlt
      simp only[this,if_false];cases hp:Fz π k with
      | none=>rw[hp] at hid;cases hid
      | some j=>rw[hp] at hid;rw[Ap hid];exact e) g5
    rw[Vj g3,Vj g4];exact g5
  ·have:=hb1 _ (Fe h1);exact⟨j, .inr ⟨Nat.le_of_ble_eq_true this.1.1,h1⟩,h2⟩
 constructor
 ·intro ρ1 s1 hl hS1;refine h ρ1 s1 hl ⟨fun i v hi=>hS1.env i v (henv i v hi).1, ?_⟩;have hlive: ∀k o,Av ⟨t',mx⟩ k=some o-> ∃x,Av A1 k=some x/\ ∀c,RO ρ1 x c->RO ρ1 o c:=fun k o hk=>by
   obtain⟨j,_,hm⟩:=hblk k o hk;obtain⟨x,z,o',e1,_,e3,e4,_⟩:=Qp (ρ1:=ρ1) (ρ2:=fun _=>none) (ρ0:=fun _=>none) (fun _ _ _ _ e=>by cases e) hm;cases e3;exact⟨x,e1,e4⟩
  exact⟨fun k o hk=>by
    obtain⟨x,h1,h2⟩:=hlive k o hk;obtain⟨r,o',g1,g2,g3⟩:=hS1.heap.obj k x h1;exact⟨r,o',g1,g2,h2 _ g3⟩,
   fun k k' r o o' hk hk' e e'=>by
    obtain⟨x,h1,_⟩:=hlive k o hk;obtain⟨x',h1',_⟩:=hlive k' o' hk';exact hS1.heap.inj k k' r x x' h1 h1' e e',
   fun k hk=>hS1.heap.nx k (Nat.le_trans hn1 hk),hS1.heap.base,hS1.heap.low⟩
 ·intro ρ2 s2 hl hS2;have hid: ∀k k' r,Nw π A.nx k k'=true->ρ2 k'=some r->(if k<A.nx then ρ2 k else(Fz π k).bind ρ2)=some r:=by
   intro k k' r hid e;unfold Nw at hid;cases hlt:Nat.blt k A.nx with
   | true=>
    rw[hlt] at hid;have e1:=Ap hid;have:k<A.nx:=by simpa [Nat.blt_eq] using hlt
    simp only[this,if_true];rw[e1];exact e
   | false=>
    rw[hlt] at hid;have: ¬k<A.nx:=fun c=>by
       have h9:Nat.blt k A.nx=true:=by rw[Nat.blt_eq];exact c
       rw[h9] at hlt;cases hlt
    simp only[this,if_false];cases hp:Fz π k with
    | none=>rw[hp] at hid;cases hid
    | some j=>rw[hp] at hid;rw[Ap hid];exact e
  have hle:Ble ρ (fun k=>if k<A.nx then ρ2 k else(Fz π k).bind ρ2):=fun k r e=>by
   have:k<A.nx:=by
    rcases Nat.lt_or_ge k A.nx with c | c
    ·exact c
    ·rw[hS.heap.nx k c] at e;cases e
   simp only[this,if_true];exact hl k r e
  refine h (fun k=>if k<A.nx then ρ2 k else(Fz π k).bind ρ2) s2 hle ⟨fun i v hi=> ?_, ?_⟩
  ·obtain⟨_,w,h2,h3⟩:=henv i v hi;exact Ad5 hid h3 (hS2.env i w h2)
  have hlive: ∀k o,Av ⟨t',mx⟩ k=some o-> ∃j z,((k<A.nx/\j=k)\/(A.nx<=k/\Fz π k=some j))/\Av A2 j=some z/\(if k<A.nx then ρ2 k else(Fz π k).bind ρ2)=ρ2 j/\ ∀c,RO ρ2 z c->RO (fun k=>if k<A.nx then ρ2 k else(Fz π k).bind ρ2) o c:=fun k o hk=>by
   obtain⟨j,hj,hm⟩:=hblk k o hk;obtain⟨x,z,o',e1,e2,e3,_,e5⟩:=Qp (ρ1:=ρ2) (ρ2:=ρ2) (ρ0:=fun k=>if k<A.nx then ρ2 k else(Fz π k).bind ρ2) hid hm;cases e3;refine⟨j,z,hj,e2, ?_,e5⟩;rcases hj with⟨c,rfl⟩ | ⟨c,hp⟩
   ·simp only[c,if_true]
   ·have: ¬k<A.nx:=by omega
    simp only[this,if_false,hp,Option.bind_some]
  refine⟨fun k o hk=> ?_,fun k k' r o o' hk hk' e e'=> ?_,fun k hk=> ?_,hS2.heap.base,fun k r e=> ?_⟩
  ·obtain⟨j,z,_,h1,h2,h3⟩:=hlive k o hk;obtain⟨r,o',g1,g2,g3⟩:=hS2.heap.obj j z h1;exact⟨r,o',by rw[h2];exact g1,g2,h3 _ g3⟩
  ·obtain⟨j,z,c,h1,h2,_⟩:=hlive k o hk;obtain⟨j',z',c',h1',h2',_⟩:=hlive k' o' hk';have e:=h2.symm.trans e;have e':=h2'.symm.trans e';have hjj:=hS2.heap.inj j j' r z z' h1 h1' e e';subst hjj;rcases c with⟨c1,c2⟩ | ⟨c1,c2⟩<;>rcases c' with⟨d1,d2⟩ | ⟨d1,d2⟩
   ·rw[<-c2,<-d2]
   ·have:=(hb1 _ (Fe d2)).1.2;have:=Nat.le_of_ble_eq_true this;simp only at this;omega
   ·have:=(hb1 _ (Fe c2)).1.2;have:=Nat.le_of_ble_eq_true this;simp only at this;omega
   ·exact Ss hb2 (Fe c2) (Fe d2)
  ·have hk':mx<=k:=hk;have: ¬k<A.nx:=by omega
   simp only[this,if_false];cases hp:Fz π k with
   | none=>rfl
   | some j=>
    have:=(hb1 _ (Fe hp)).2;have:k<mx:=by simpa [Nat.blt_eq] using this
    omega
  ·have e:(if k<A.nx then ρ2 k else(Fz π k).bind ρ2)=some r:=e;split at e
   ·exact hS2.heap.low k r e
   ·cases hp:Fz π k with
    | none=>rw[hp] at e;cases e
    | some j=>rw[hp] at e;exact hS2.heap.low j r e
theorem Iw (hX:XOk X G) (hc:Mw X.P G call) (all:List Oper): ∀(p:Plan) (E:Tr DVal) (A:XH) (s:DS) (ρ:Nat->Option Nat),RS B ρ E A s->Ad B ρ Q (Xi (Lq X.P X.gt call all p E A))->Cz X.P G all (QP Q) p s
 | .done,E,A,s,ρ,hS,h=>h ρ s (Ble.refl _) hS
 | .take i p,E,A,s,ρ,hS,h=>by
  simp only[Lq] at h;simp only[Cz];exact Aw9 hX hc hS (Aw7 (W:=Cz X.P G all (QP Q) p) h fun ρ' E' A' s' _ hS' h'=>Iw hX hc all p E' A' s' ρ' hS' h')
 | .go i ls p,E,A,s,ρ,hS,h=>by
  simp only[Lq] at h;simp only[Cz];refine Aw9 hX hc hS (Aw7 (W:=Af5 G all ls s (Cz X.P G all (QP Q) p)) h fun ρ' E' A' s' hl hS' h'=> ?_);cases hb:Qa X.gt all E A A' ls with
  | false=>rw[hb] at h';exact h'.elim
  | true=>
   rw[hb] at h';exact⟨Yd hX hS hS' hl all hb,Iw hX hc all p E' A' s' ρ' hS' h'⟩
 | .alt p q,E,A,s,ρ,hS,h=>by
  simp only[Lq] at h;obtain⟨h1,h2⟩:=Be5 hS h;exact⟨Iw hX hc all p E A s ρ hS h1,Iw hX hc all q E A s ρ hS h2⟩
def Qq (body:Tr DVal->XH->Out):Nat->Tr DVal->XH->Out
 | 0,_,_=> .bad
 | n+1,E,A=>Iq (body E A) (Qq body n)
theorem Qr {body:Tr DVal->XH->Out}: ∀(k:Nat),(∀E A E' A',Qd body k E A= .more E' A'-> ∃m,∀j,Qq body (m+j) E A=Qq body j E' A')/\(∀E A o,Qd body k E A= .stop o-> ∃m,Qq body m E A=o)
 | 0=>by
  constructor
  ·intro E A E' A' h;have h:Xj body E A= .more E' A':=h;refine⟨1,fun j=> ?_⟩;rw[Nat.add_comm];show Iq (body E A) (Qq body j)=_;unfold Xj at h;split at h
   ·rename_i heq;cases h;rw[heq];rfl
   ·cases h
  ·intro E A o h;have h:Xj body E A= .stop o:=h;refine⟨1, ?_⟩;show Iq (body E A) (Qq body 0)=_;unfold Xj at h;split at h
   ·cases h
   ·rename_i hne
    cases h;unfold Iq;split
    ·rename_i heq;exact(hne _ _ heq).elim
    ·rfl
 | k+1=>by
  obtain⟨h1,h2⟩:=Qr (body:=body) k;constructor
  ·intro E A E' A' h;have h:Qc (Qd body k) E A= .more E' A':=h;unfold Qc at h;split at h
   ·rename_i E1 A1 heq
    obtain⟨m,hm⟩:=h1 _ _ _ _ heq;obtain⟨m',hm'⟩:=h1 _ _ _ _ h;exact⟨m+m',fun j=>by rw[Nat.add_assoc,hm,hm']⟩
   ·cases h
  ·intro E A o h;have h:Qc (Qd body k) E A= .stop o:=h;unfold Qc at h;split at h
   ·rename_i E1 A1 heq
    obtain⟨m,hm⟩:=h1 _ _ _ _ heq;obtain⟨m',hm'⟩:=h2 _ _ _ h;exact⟨m+m',by rw[hm,hm']⟩
   ·rename_i heq
    cases h;exact h2 _ _ _ heq
theorem Yf {ρ:Nat->Option Nat}: ∀ {args args':List DVal} (k:Nat) (E:Tr DVal) (κ:Tr DVal->COut),RVL ρ args args'->(∀i,k<=i->E.get i=none)->
  Lr args k E κ= .bad\/ ∃E',(∀i v,k<=i->E'.get i=some v->RV ρ v (Cy args' k i))/\(∀i,i<k->E'.get i=E.get i)/\Lr args k E κ=κ E'
 | [],_,k,E,κ,ha,hE=>by
  simp only[RVL] at ha;subst ha;exact .inr ⟨E,(fun i v hi hv=>by rw[hE i hi] at hv;cases hv),fun _ _=>rfl,rfl⟩
 | x::xs,_,k,E,κ,ha,hE=>by
  obtain⟨y,ys,rfl,h1,h2⟩:=ha.inv;have e0:Lr (x::xs) k E κ=Tr.setK .bad x 10 E k fun E=>Dj (k+1) fun k=>Lr xs k E κ:=rfl;rw[e0];rcases Dv (z:=COut.bad) (x:=x) 10 E k (fun E=>Dj (k+1) fun k=>Lr xs k E κ) with e | ⟨E1,hE1,e⟩
  ·exact .inl e
  ·rw[e,Eb];rcases Yf (k+1) E1 κ h2 (fun i hi=>by rw[hE1,if_neg (by omega)];exact hE i (by omega)) with e | ⟨E',g1,g2,g3⟩
   ·exact .inl e
   ·refine .inr ⟨E',fun i v hi hv=> ?_,fun i hi=> ?_,g3⟩
    ·by_cases hik:i=k
     ·subst hik;simp only[Cy,upd,if_true];rw[g2 i (by omega),hE1,if_pos rfl] at hv;cases hv;exact h1
     ·simp only[Cy,upd,hik,if_false];exact g1 i v (by omega) hv
    ·rw[g2 i (by omega),hE1,if_neg (by omega)]
theorem Be6 (hS:RS B ρ E A s) {P:Program} {r:ResultVar} {v:DVal} (h:Ag8 P E A r=some v): ∃v',Pn P s r=some v'/\RV ρ v v':=by
 unfold Ag8 at h;split at h
 ·exact⟨_,rfl,hS.env _ _ h⟩
 ·rename_i x t
  split at h
  ·rename_i r off he
   have hx:=hS.env x _ he;simp only[RV] at hx;obtain⟨r',hx,hr⟩:=hx;unfold Ui at h;split at h
   ·rename_i cs e heq
    obtain⟨r2,cs',h1,h2,h3⟩:=Dw hS.heap heq;rw[hr] at h1;cases h1;rw[Mt] at h;simp only[Pn,hx,Aa5,h2,Je];unfold In at h⊢
    split at h
    ·split at h<;>cases h
     rename_i hle
     rw[if_pos (by rw[h3.length];exact hle)];exact⟨_,rfl, .agg ((h3.drop _).take _)⟩
    ·exact h3.get h
    ·cases h
   ·cases h
  ·cases h
theorem Ah3 (hS:RS B ρ E A s) {P:Program}: ∀ {rs:List ResultVar} {vs:List DVal},Nm P E A rs=some vs-> ∃vs',Cl P s rs=some vs'/\RVL ρ vs vs'
 | [],vs,h=>by simp only[Nm] at h;cases h;exact⟨[],rfl, .nil⟩
 | r::rs,vs,h=>by
  simp only[Nm] at h;cases h1:Ag8 P E A r with
  | none=>rw[h1] at h;cases h2:Nm P E A rs<;>rw[h2] at h<;>cases h
  | some v=>cases h2:Nm P E A rs with
   | none=>rw[h1,h2] at h;cases h
   | some ws=>
    rw[h1,h2] at h;simp only[Wr] at h;cases h;obtain⟨v',k1,k2⟩:=Be6 hS h1;obtain⟨ws',k3,k4⟩:=Ah3 hS h2;exact⟨v'::ws',by simp only[Cl,k1,k3,Wr], .cons k2 k4⟩
theorem Ax1 {vs vs':List DVal} {v:DVal} (h:RVL ρ vs vs') (hv:Br (some vs)=some v): ∃v',Br (some vs')=some v'/\RV ρ v v':=by
 cases vs with
 | nil=>simp only[RVL] at h;subst h;cases hv;exact⟨_,rfl, .tuple .nil⟩
 | cons a vs=>
  obtain⟨a',ys,rfl,h1,h2⟩:=h.inv;cases vs with
  | nil=>simp only[RVL] at h2;subst h2;cases hv;exact⟨a',rfl,h1⟩
  | cons b vs=>
   obtain⟨b',ys,rfl,h3,h4⟩:=h2.inv;cases hv;exact⟨_,rfl, .tuple (.cons h1 (.cons h3 h4))⟩
theorem Ad6 {α:Type} {o:Option α} {f:α->COut} {R:DEnd->Aa->Prop} (h:Cr B ρ R (Hw .bad f o)): ∃v,o=some v/\Cr B ρ R (f v):=by
 cases o with
 | none=>exact h.elim
 | some v=>exact⟨v,rfl,h⟩
theorem Oj (hS:RS B ρ E A s) {P:Program} {rs:List ResultVar} {R:DEnd->Aa->Prop} (h:Cr B ρ R (Ao4 P rs E A)):Nh R s.heap (Br (Cl P s rs)):=by
 unfold Ao4 at h;obtain⟨v,hv,h⟩:=Ad6 h;rw[Uy] at h;cases hl:Nm P E A rs with
 | none=>rw[hl] at hv;cases hv
 | some vs=>
  rw[hl] at hv;obtain⟨vs',h1,h2⟩:=Ah3 hS hl;obtain⟨v',h3,h4⟩:=Ax1 h2 hv;rw[h1,h3];exact Bj2.refl (h ρ s.heap v' (Ble.refl _) hS.heap h4)
theorem Be7 {P:Program} {rs:List ResultVar} {R:DEnd->Aa->Prop} {o:Out} (h:Cr B ρ R (Bo6 P rs o)):Ad B ρ (Af2 P rs R) o:=by
 cases o with
 | bad=>exact h
 | norm E A=>exact fun ρ' s' hl hS=>Oj hS (Cr.le hl h)
 | exit id E A=>exact h.elim
 | ret E A=>exact fun ρ' s' hl hS=>Oj hS (Cr.le hl h)
 | panic v E A=>exact fun ρ' s' v' hl hS hv=>Bf5.refl (h ρ' s'.heap v' hl hS.heap hv)
 | panicX v A=>exact fun ρ' s' v' hl hH hv=>Bf5.refl (h ρ' s'.heap v' hl hH hv)
theorem Mz {P:Program} {k:FuncId} {fn:Func} {c:Code} (hf:P.funcs[k]? =some fn) (hn:(fn.name== "runtime.NumGoroutine")=false) (hb:fn.body=some c) (vs:Array Value) (w:World):(callFunc k vs).run P w= .ok (.enter k vs) w:=by
 have hn': ¬fn.name= "runtime.NumGoroutine" :=fun e=>by rw[e] at hn;simp at hn
 simp [callFunc,go_sem,hf,hn',hb]
end
end Go.Dl
