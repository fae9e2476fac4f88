/- The data level and the contracts of the functions that are reached (part 8). -/
import Derived.Test.YtddbdpcgikmiaaaGreatDoorPig
set_option linter.unusedSimpArgs false
set_option linter.unusedVariables false
set_option linter.unusedSectionVars false
set_option maxHeartbeats 400000000
-- Se
namespace Go.Dl
open Go
set_option maxRecDepth 10000
def At (l:List Tok) (k:Nat) (ts:List Tok):Prop:=k<=l.length/\ts<+:l.drop k
section
variable {l:List Tok} {k k':Nat} {s:List UInt8} {p:PS} [hr:Rdr l p]
theorem At.le {ts:List Tok} (h:At l k ts):k+ts.length<=l.length:=by
 have:=h.2.length_le;rw[List.length_drop] at this;have:=h.1;omega
theorem At.left {a b:List Tok} (h:At l k (a++b)):At l k a:=⟨h.1,(List.prefix_append a b).trans h.2⟩
theorem At.right {a b:List Tok} (h:At l k (a++b)):At l (k+a.length) b:=by
 obtain⟨r,hr⟩:=h.2;have:=h.le;rw[jC] at this;refine⟨by omega,r, ?_⟩;rw[<-List.drop_drop,<-hr,jO,List.drop_left]
theorem At.head {t:Tok} {ts:List Tok} (h:At l k (t::ts)):tk l k=t/\k<l.length:=by
 obtain⟨r,hr⟩:=h.2;have hl:=h.le;rw[jA] at hl;have hk:k<l.length:=by omega
 refine⟨?_,hk⟩;have:(l.drop k)[0]? =some t:=by rw[<-hr];rfl
 rw[List.getElem?_drop,Nat.add_zero] at this;rw[tk,List.getD,this];rfl
theorem At.tail {t:Tok} {ts:List Tok} (h:At l k (t::ts)):At l (k+1) ts:=At.right (a:= [t]) h
theorem At.word {ts:List Tok} (h:At l k (Ag s::ts)):isW l k [s]=true:=by
 rw[Bu0,h.head.1];simp [Ag]
theorem At.words: ∀ {ws:List (List UInt8)} {k:Nat} {ts:List Tok},At l k (ws.map Ag++ts)->isW l k ws=true
 | [],_,_,_=>rfl
 |s::r,k,ts,h=>by
  have h1:=At.word (s:=s) h;have h2:=At.words (ws:=r) (At.tail h);rw[Bu0] at h1;rw[isW,h1,h2];rfl
theorem Ap4 {want o:Nat} (hw:isW l k (Ay o)=true) (y:want=0\/want=o): ∀ {pre post:List Nat},(∀p∈pre,isW l k (Ay p)=false)->opF l want k (pre++o::post)=(o,k+(Ay o).length)
 | [],post,_=>by
  rw[jG,opF,if_pos hw,if_neg];rintro⟨h1,h2⟩;rcases y with h|h
  ·exact h1 h
  ·exact h2 h.symm
 |p::pre,post,h=>by
  rw[jI,opF,h p (by simp)];exact Ap4 hw y λq hq=>h q (by simp [hq])
theorem Jz {o:Nat} {s t:List UInt8} {r:List (List UInt8)} (h:isW l k [s]=true) (e:Ay o=t::r) (hs:s≠t):isW l k (Ay o)=false:=by
 rw[e];exact Gz (Gm h hs) r
theorem De5 {want o:Nat} {os:List Nat} {ts:List Tok} (C:(o∈Nw/\os=Nw)\/(o∈Hh/\os=Hh)\/(o∈Yq/\os=Yq)\/(o∈Yr/\os=Yr)\/(o∈Ky/\os=Ky))
  (h:At l k ((Ay o).map Ag++ts)) (D:want=0\/want=o):opF l want k os=(o,k+(Ay o).length)/\(Ay o).length=1:=by
 have hw:=At.words h;have key: ∀(pre post:List Nat) (s:List UInt8),os=pre++o::post->Ay o= [s]->(pre.all λp=>(Ay p).head?.any λt=>decide (s≠t))=true->opF l want k os=(o,k+(Ay o).length)/\(Ay o).length=1:=λpre post s e1 y E=>by
  rw[e1];refine⟨Ap4 hw D λp hp=> ?_,by rw[y];rfl⟩;have:=List.all_eq_true.1 E p hp;rw[y] at hw;cases hp2:Ay p with
  |nil=>rw[hp2] at this;simp at this
  |cons t r=>
   rw[hp2] at this;exact Gz (Gm hw (by simpa using this)) r
 rcases C with⟨h1,rfl⟩|⟨h1,rfl⟩|⟨h1,rfl⟩|⟨h1,rfl⟩|⟨h1,rfl⟩
 ·simp only[Nw,List.mem_cons,List.not_mem_nil,or_false] at h1;rcases h1 with rfl|rfl|rfl|rfl|rfl|rfl
  ·exact key [] [11,10,9,8,7] _ rfl rfl (by decide)
  ·exact key [12] [10,9,8,7] _ rfl rfl (by decide)
  ·exact key [12,11] [9,8,7] _ rfl rfl (by decide)
  ·exact key [12,11,10] [8,7] _ rfl rfl (by decide)
  ·exact key [12,11,10,9] [7] _ rfl rfl (by decide)
  ·exact key [12,11,10,9,8] [] _ rfl rfl (by decide)
 ·simp only[Hh,List.mem_cons,List.not_mem_nil,or_false] at h1;rcases h1 with rfl|rfl
  ·exact key [] [18] _ rfl rfl (by decide)
  ·exact key [19] [] _ rfl rfl (by decide)
 ·simp only[Yq,List.mem_cons,List.not_mem_nil,or_false] at h1;rcases h1 with rfl|rfl
  ·exact key [] [1] _ rfl rfl (by decide)
  ·exact key [2] [] _ rfl rfl (by decide)
 ·simp only[Yr,List.mem_cons,List.not_mem_nil,or_false] at h1;rcases h1 with rfl|rfl|rfl|rfl
  ·exact key [] [5,4,3] _ rfl rfl (by decide)
  ·exact key [6] [4,3] _ rfl rfl (by decide)
  ·exact key [6,5] [3] _ rfl rfl (by decide)
  ·exact key [6,5,4] [] _ rfl rfl (by decide)
 ·simp only[Ky,List.mem_cons,List.not_mem_nil,or_false] at h1;rcases h1 with rfl|rfl
  ·exact key [] [20] _ rfl rfl (by decide)
  ·exact key [21] [] _ rfl rfl (by decide)
theorem Gw1 {want o:Nat} {ts:List Tok} {y:Ex} {j:Nat} (D:o∈Fy) (h:At l k ((Ay o).map Ag++ts)) (C:want=0\/want=o) (hs:p.simple (k+(Ay o).length)= .ok y j):opF l want k Fy=(o,k+(Ay o).length):=by
 have hw:=At.words h;simp only[Fy,List.mem_cons,List.not_mem_nil,or_false] at D;rcases D with rfl|rfl|rfl|rfl|rfl
 ·exact Ap4 hw C (pre:= []) (post:= [16,15,14,13]) (by simp)
 ·have h1:isW l k [Db0]=true:=Fn0 hw rfl;refine Ap4 hw C (pre:= [17]) (post:= [15,14,13]) λp hp=> ?_;simp only[List.mem_cons,List.not_mem_nil,or_false] at hp;subst hp;exact Jz h1 rfl (by decide)
 ·refine Ap4 hw C (pre:= [17,16]) (post:= [14,13]) λp hp=> ?_;simp only[List.mem_cons,List.not_mem_nil,or_false] at hp;rcases hp with rfl|rfl
  ·exact Jz (s:=Gf4) hw rfl (by decide)
  ·exact Jz (s:=Gf4) hw rfl (by decide)
 ·have h3:isW l (k+1) [Qv]=false:=Bd0 hs (by decide);refine Ap4 hw C (pre:= [17,16,15]) (post:= [13]) λp hp=> ?_;simp only[List.mem_cons,List.not_mem_nil,or_false] at hp;rcases hp with rfl|rfl|rfl
  ·show isW l k [wOr,Qv]=false;rw[Fm9,h3,Bool.and_false]
  ·exact Jz (s:=wOr) hw rfl (by decide)
  ·exact Jz (s:=wOr) hw rfl (by decide)
 ·have h3:isW l (k+1) [Pp]=false:=Bd0 hs (by decide);refine Ap4 hw C (pre:= [17,16,15,14]) (post:= []) λp hp=> ?_;simp only[List.mem_cons,List.not_mem_nil,or_false] at hp;rcases hp with rfl|rfl|rfl|rfl
  ·exact Jz (s:=Db0) hw rfl (by decide)
  ·show isW l k [Db0,Pp]=false;rw[Fm9,h3,Bool.and_false]
  ·exact Jz (s:=Db0) hw rfl (by decide)
  ·exact Jz (s:=Db0) hw rfl (by decide)
theorem lv5 {e:Ex} (h:1<=e.kind/\e.kind<=10):Aw e=5:=by unfold Aw;rw[if_neg (by omega),if_neg (by omega),if_neg (by omega)]
theorem Af0 {e:Ex} {n:Int} (h:Aw e=n) (y:n≠5):Rb e.kind=true->False:=λc=>y (h.symm.trans (lv5 (by rw[Rb,Bool.or_eq_true,decide_eq_true_eq,decide_eq_true_eq] at c;omega)))
structure Rd (l:List Tok) (p:PS) (e:Ex) (k k':Nat):Prop where
 le:k<=l.length/\k'<=l.length
 name:Bn e=true->p.name k=p.nameL 0 (stE e) k'
 bare:Rb e.kind=true->p.paren k= .ok (stE e) k'
 prim:Aw e=5->nof w5 (tk l k')->p.primary k= .ok (stE e) k'
 fac:4<=Aw e->nof w5 (tk l k')->p.factor k= .ok (stE e) k'
 term:3<=Aw e->nof w5 (tk l k')->p.term k=p.mulL (stE e) k'
 simp:2<=Aw e->nof w3 (tk l k')->p.simple k=p.addL (stE e) k'
 rel:1<=Aw e->nof w2d (tk l k')->(Aw e≠1->nof w1 (tk l k'))->Bd2 p k= .ok (stE e) k'
 exp:Aw e=0->nof w1 (tk l k')->p.expr k=p.restL e.oper.toNat (stE e) k'
theorem s53 {t:Tok} (h:nof w3 t):nof w5 t:=Ft h (by decide)
theorem s31 {t:Tok} (h:nof w1 t):nof w3 t:=Ft h (by decide)
theorem s32 {t:Tok} (h:nof w2 t):nof w3 t:=Ft h (by decide)
theorem s2d {t:Tok} (h:nof w2d t):nof w2 t:=Ft h (by decide)
theorem sd1 {t:Tok} (h:nof w1 t):nof w2d t:=Ft h (by decide)
theorem s10 {t:Tok} (h:nof w0 t):nof w1 t:=Ft h (by decide)
theorem Xe {e:Ex} {n:Int} (h:Aw e=n) (y:n≠5):Bn e=true->False:=λc=>y (h.symm.trans (Vp c))
theorem Rd.of1 {e:Ex} (hk:k<=l.length/\k'<=l.length) (hl:Aw e=1) (h:nof w2d (tk l k')->Bd2 p k= .ok (stE e) k'):Rd l p e k k':=
 ⟨hk,λc=>(Xe hl (by decide) c).elim,λc=>(Af0 hl (by decide) c).elim,λc=>by omega,λc=>by omega,λc=>by omega,λc=>by omega,λ_ a _=>h a,λc=>by omega⟩
theorem Rd.of0 {e:Ex} (hk:k<=l.length/\k'<=l.length) (hl:Aw e=0) (h:nof w1 (tk l k')->p.expr k=p.restL e.oper.toNat (stE e) k'):Rd l p e k k':=
 ⟨hk,λc=>(Xe hl (by decide) c).elim,λc=>(Af0 hl (by decide) c).elim,λc=>by omega,λc=>by omega,λc=>by omega,λc=>by omega,λc=>by omega,λ_=>h⟩
theorem Rd.of2 {e:Ex} (hk:k<=l.length/\k'<=l.length) (hl:Aw e=2) (h:nof w3 (tk l k')->p.simple k=p.addL (stE e) k'):Rd l p e k k':=
 ⟨hk,λc=>(Xe hl (by decide) c).elim,λc=>(Af0 hl (by decide) c).elim,λc=>by omega,λc=>by omega,λc=>by omega,λ_=>h,λ_ _ a=>Oq hk.2 (h (s31 (a (by omega)))) (a (by omega)),λc=>by omega⟩
theorem Rd.of3 {e:Ex} (hk:k<=l.length/\k'<=l.length) (hl:Aw e=3) (h:nof w5 (tk l k')->p.term k=p.mulL (stE e) k'):Rd l p e k k':=
 have h2:nof w3 (tk l k')->p.simple k=p.addL (stE e) k':=λa=>Kh hk.1 hk.2 (h (s53 a)) a
 ⟨hk,λc=>(Xe hl (by decide) c).elim,λc=>(Af0 hl (by decide) c).elim,λc=>by omega,λc=>by omega,λ_=>h,λ_=>h2,λ_ _ a=>Oq hk.2 (h2 (s31 (a (by omega)))) (a (by omega)),λc=>by omega⟩
theorem Rd.of4 {e:Ex} (hk:k<=l.length/\k'<=l.length) (hl:Aw e=4) (h:nof w5 (tk l k')->p.factor k= .ok (stE e) k'):Rd l p e k k':=
 have h3:nof w5 (tk l k')->p.term k=p.mulL (stE e) k':=λa=>Ls hk.1 (h a)
 have h2:nof w3 (tk l k')->p.simple k=p.addL (stE e) k':=λa=>Kh hk.1 hk.2 (h3 (s53 a)) a
 ⟨hk,λc=>(Xe hl (by decide) c).elim,λc=>(Af0 hl (by decide) c).elim,λc=>by omega,λ_=>h,λ_=>h3,λ_=>h2,λ_ _ a=>Oq hk.2 (h2 (s31 (a (by omega)))) (a (by omega)),λc=>by omega⟩
theorem Rd.of5 {e:Ex} (hk:k<=l.length/\k'<=l.length) (hl:Aw e=5) (y:Bn e=true->p.name k=p.nameL 0 (stE e) k') (hb:Rb e.kind=true->p.paren k= .ok (stE e) k') (h:nof w5 (tk l k')->p.primary k= .ok (stE e) k'):Rd l p e k k':=
 have h4:nof w5 (tk l k')->p.factor k= .ok (stE e) k':=λa=>Lr hk.1 (h a)
 have h3:nof w5 (tk l k')->p.term k=p.mulL (stE e) k':=λa=>Ls hk.1 (h4 a)
 have h2:nof w3 (tk l k')->p.simple k=p.addL (stE e) k':=λa=>Kh hk.1 hk.2 (h3 (s53 a)) a
 ⟨hk,y,hb,λ_=>h,λ_=>h4,λ_=>h3,λ_=>h2,λ_ _ a=>Oq hk.2 (h2 (s31 (a (by omega)))) (a (by omega)),λc=>by omega⟩
theorem Rd.ofName {e:Ex} (hk:k<=l.length/\k'<=l.length) (hl:Bn e=true) (y:p.name k=p.nameL 0 (stE e) k'):Rd l p e k k':=
 .of5 hk (Vp hl) (λ_=>y) (λc=>by
  rw[Rb,Bool.or_eq_true,decide_eq_true_eq,decide_eq_true_eq] at c;rw[Bn,jF,decide_eq_true_eq,decide_eq_true_eq] at hl;omega) λa=>by
  rw[Bd1 hk.2 a] at y;have:(tk l k).kind=1:=by
   rw[Cq5 hk.1,Jg] at y;split at y
   ·assumption
   ·cases y
  rw[Ch7 hk.1 this,y]
theorem Rd.full {e:Ex} (r:Rd l p e k k') (h:nof w0 (tk l k')):p.expr k= .ok (stE e) k':=by
 have hg:=(Rf e).1;by_cases c:Aw e=0
 ·rw[r.exp c (s10 h),Ap2 r.le.2 h]
 ·rw[Bv9 r.le.1,r.rel (by omega) (sd1 (s10 h)) λ_=>s10 h];exact Ap2 r.le.2 h
def RT (l:List Tok) (p:PS) (e:Ex):Prop:= ∀k,At l k (Ai e)->Rd l p e k (k+(Ai e).length)
theorem Xf {e:Ex} {y:Int} (R:RT l p e) (h:At l k (Ap e y)) (C:k'=k+(Ap e y).length):(Aw e<y/\p.primary k= .ok (stE e) k')\/(y<=Aw e/\Rd l p e k k'):=by
 subst C;unfold Ap at h⊢
 by_cases c:Aw e<y
 ·refine .inl ⟨c, ?_⟩;rw[decide_eq_true c] at h⊢
  have h1:At l (k+1) (Ai e++ [Ag Bs]):=At.tail h;have h2:=h1.right;have hs:=At.word h2;have r:=R _ h1.left;have he:=r.full (by rw[h2.head.1];decide+kernel);rw[Ap3 (At.word h),Bw1 (At.word h) he hs];simp only[Wz,if_true,jA,jC,jB];congr 1;omega
 ·refine .inr ⟨by omega, ?_⟩;rw[decide_eq_false c] at h⊢
  exact R _ h
section
variable {e:Ex} (R:RT l p e)
include R
theorem Hf1 (h:At l k (Ap e 5)) (y:k'=k+(Ap e 5).length) (C:nof w5 (tk l k')):p.primary k= .ok (stE e) k':=by
 rcases Xf R h y with⟨_,h1⟩|⟨h1,r⟩
 ·exact h1
 ·exact r.prim (by have:=(Rf e).2;omega) C
theorem Hf2 (h:At l k (Ap e 4)) (y:k'=k+(Ap e 4).length) (C:nof w5 (tk l k')):p.factor k= .ok (stE e) k':=by
 rcases Xf R h y with⟨_,h1⟩|⟨h1,r⟩
 ·exact Lr h.1 h1
 ·exact r.fac h1 C
theorem Fo7 (h:At l k (Ap e 3)) (y:k'=k+(Ap e 3).length) (C:nof w5 (tk l k')):p.term k=p.mulL (stE e) k':=by
 rcases Xf R h y with⟨_,h1⟩|⟨h1,r⟩
 ·exact Ls h.1 (Lr h.1 h1)
 ·exact r.term h1 C
theorem Gn4 (h:At l k (Ap e 2)) (C:k'=k+(Ap e 2).length) (y:nof w3 (tk l k')):p.simple k=p.addL (stE e) k':=by
 rcases Xf R h C with⟨_,h1⟩|⟨h1,r⟩
 ·exact Kh h.1 (by have:=h.le;omega) (Ls h.1 (Lr h.1 h1)) y
 ·exact r.simp h1 y
theorem Af1 (h:At l k (Ap e 2)) (C:k'=k+(Ap e 2).length) (y:nof w2 (tk l k')):p.simple k= .ok (stE e) k':=by
 rw[Gn4 R h C (s32 y),Sz (by have:=h.le;omega) y]
theorem Gn5 (h:At l k (Ap e 1)) (D:k'=k+(Ap e 1).length) (y:nof w1 (tk l k')):Bd2 p k= .ok (stE e) k':=by
 rcases Xf R h D with⟨_,h1⟩|⟨h1,r⟩
 ·have C:k'<=l.length:=by have:=h.le;omega
  exact Oq C (Kh h.1 C (Ls h.1 (Lr h.1 h1)) (s31 y)) y
 ·exact r.rel h1 (sd1 y) λ_=>y
end
end
theorem Fo8 {l:List Ex} (h:l.length=1): ∃x,l= [x]:=by
 match l,h with
 | [x],_=>exact⟨x,rfl⟩
theorem Et7 {l:List Ex} (h:l.length=2): ∃x y,l= [x,y]:=by
 match l,h with
 | [x,y],_=>exact⟨x,y,rfl⟩
theorem Hf3 {l:List Ex} (h:l.length=3): ∃x y z,l= [x,y,z]:=by
 match l,h with
 | [x,y,z],_=>exact⟨x,y,z,rfl⟩
theorem Cq6 {e:Ex} (h:Je e 1=true): ∃x,e.l= [x]/\Bn x=true:=by
 rw[Je,jF,decide_eq_true_eq] at h;obtain⟨x,hx⟩:=Fo8 h.1;rw[hx] at h;exact⟨x,hx,h.2⟩
theorem Gh2 {e:Ex} (h:Je e 2=true): ∃x y,e.l= [x,y]/\Bn x=true:=by
 rw[Je,jF,decide_eq_true_eq] at h;obtain⟨x,y,hx⟩:=Et7 h.1;rw[hx] at h;exact⟨x,y,hx,h.2⟩
section
variable {e:Ex}
theorem ff1 (h:e.kind=1) (hf:Ax e=true):e.l= []/\e.oper=0/\e.s= []/\e.a= []:=by
 have:Ax e=(e.l.isEmpty&&decide (0<=e.n)&&decide (e.n<=2147483647)&&zO e&&zS e&&zA e):=by unfold Ax;rw[h];rfl
 rw[this] at hf;simp only[jF,zO,zS,zA,decide_eq_true_eq,List.isEmpty_iff] at hf;exact⟨hf.1.1.1.1.1,hf.1.1.2,hf.1.2,hf.2⟩
theorem ff2 (h:e.kind=2) (hf:Ax e=true):e.l= []/\e.oper=0/\e.n=0/\e.s= []/\e.a= []:=by
 have:Ax e=(e.l.isEmpty&&zO e&&zN e&&zS e&&zA e):=by unfold Ax;rw[h];rfl
 rw[this] at hf;simp only[jF,zO,zN,zS,zA,decide_eq_true_eq,List.isEmpty_iff] at hf;exact⟨hf.1.1.1.1,hf.1.1.1.2,hf.1.1.2,hf.1.2,hf.2⟩
theorem ff3 (h:e.kind=3) (hf:Ax e=true):e.l= []/\e.oper=0/\e.n=0/\e.a= []:=by
 have:Ax e=(e.l.isEmpty&&Iv e.s&&zO e&&zN e&&zA e):=by unfold Ax;rw[h];rfl
 rw[this] at hf;simp only[jF,zO,zN,zA,decide_eq_true_eq,List.isEmpty_iff] at hf;exact⟨hf.1.1.1.1,hf.1.1.2,hf.1.2,hf.2⟩
theorem Dt9 (h:e.kind=4\/e.kind=6) (hf:Ax e=true):(∃x,e.l= [x]/\Bn x=true)/\e.oper=0/\e.n=0/\e.a= []:=by
 have:Ax e=(Je e 1&&Iv e.s&&zO e&&zN e&&zA e):=by rcases h with h|h<;>(unfold Ax;rw[h];rfl)
 rw[this] at hf;simp only[jF,zO,zN,zA,decide_eq_true_eq,List.isEmpty_iff] at hf;exact⟨Cq6 hf.1.1.1.1,hf.1.1.2,hf.1.2,hf.2⟩
theorem ff5 (h:e.kind=5) (hf:Ax e=true):(∃x,e.l= [x]/\Bn x=true)/\e.oper=0/\e.n=0/\e.s= []/\e.a= []:=by
 have:Ax e=(Je e 1&&zO e&&zN e&&zS e&&zA e):=by unfold Ax;rw[h];rfl
 rw[this] at hf;simp only[jF,zO,zN,zS,zA,decide_eq_true_eq,List.isEmpty_iff] at hf;exact⟨Cq6 hf.1.1.1.1,hf.1.1.1.2,hf.1.1.2,hf.1.2,hf.2⟩
theorem ff7 (h:e.kind=7) (hf:Ax e=true):(∃x,e.l= [x]/\Bn x=true)/\Jn e.a=true/\e.oper=0/\e.n=0/\e.s= []:=by
 have:Ax e=(Je e 1&&Jn e.a&&zO e&&zN e&&zS e):=by unfold Ax;rw[h];rfl
 rw[this] at hf;simp only[jF,zO,zN,zS,decide_eq_true_eq] at hf;exact⟨Cq6 hf.1.1.1.1,hf.1.1.1.2,hf.1.1.2,hf.1.2,hf.2⟩
theorem ff8 (h:e.kind=8) (hf:Ax e=true):(∃x y,e.l= [x,y]/\Bn x=true)/\e.oper=0/\e.n=0/\e.s= []/\e.a= []:=by
 have:Ax e=(Je e 2&&zO e&&zN e&&zS e&&zA e):=by unfold Ax;rw[h];rfl
 rw[this] at hf;simp only[jF,zO,zN,zS,zA,decide_eq_true_eq,List.isEmpty_iff] at hf;exact⟨Gh2 hf.1.1.1.1,hf.1.1.1.2,hf.1.1.2,hf.1.2,hf.2⟩
theorem ff9 (h:e.kind=9) (hf:Ax e=true):e.l= []/\Fx e.a=true/\e.oper=0/\e.n=0/\e.s= []:=by
 have:Ax e=(e.l.isEmpty&&Fx e.a&&zO e&&zN e&&zS e):=by unfold Ax;rw[h];rfl
 rw[this] at hf;simp only[jF,zO,zN,zS,decide_eq_true_eq,List.isEmpty_iff] at hf;exact⟨hf.1.1.1.1,hf.1.1.1.2,hf.1.1.2,hf.1.2,hf.2⟩
theorem Gw2 (h:e.kind=10) (hf:Ax e=true):(∃x y z,e.l= [x,y,z])/\e.oper=0/\e.n=0/\e.s= []/\e.a= []:=by
 have:Ax e=(decide (e.l.length=3)&&zO e&&zN e&&zS e&&zA e):=by unfold Ax;rw[h];rfl
 rw[this] at hf;simp only[jF,zO,zN,zS,zA,decide_eq_true_eq,List.isEmpty_iff] at hf;exact⟨Hf3 hf.1.1.1.1,hf.1.1.1.2,hf.1.1.2,hf.1.2,hf.2⟩
theorem Gw3 (h:e.kind=11) (hf:Ax e=true):(∃x,e.l= [x])/\(∃o:Nat,e.oper=o/\(o=18\/o=19\/o=20\/o=21))/\e.n=0/\e.s= []/\e.a= []:=by
 have:Ax e=(decide (e.l.length=1)&&decide (18<=e.oper)&&decide (e.oper<=21)&&zN e&&zS e&&zA e):=by unfold Ax;rw[h];rfl
 rw[this] at hf;simp only[jF,zN,zS,zA,decide_eq_true_eq,List.isEmpty_iff] at hf;exact⟨Fo8 hf.1.1.1.1.1,⟨e.oper.toNat,by omega,by omega⟩,hf.1.1.2,hf.1.2,hf.2⟩
theorem Gw4 (h:e.kind=12) (hf:Ax e=true):(∃x y,e.l= [x,y])/\(∃o:Nat,e.oper=o/\1<=o/\o<=17)/\e.n=0/\e.s= []/\e.a= []:=by
 have:Ax e=(decide (e.l.length=2)&&decide (1<=e.oper)&&decide (e.oper<=17)&&zN e&&zS e&&zA e):=by unfold Ax;rw[h];rfl
 rw[this] at hf;simp only[jF,zN,zS,zA,decide_eq_true_eq,List.isEmpty_iff] at hf;exact⟨Et7 hf.1.1.1.1.1,⟨e.oper.toNat,by omega,by omega,by omega⟩,hf.1.1.2,hf.1.2,hf.2⟩
theorem Fo9 (h:e.kind=13\/e.kind=14) (hf:Ax e=true):((∃x y z,e.l= [x,y,z])\/ ∃x y,e.l= [x,y]/\Bn y=true)/\e.oper=0/\e.n=0/\e.s= []/\e.a= []:=by
 have:Ax e=((decide (e.l.length=3) || decide (e.l.length=2)&&Bn (e.l.getD 1 ex0))&&zO e&&zN e&&zS e&&zA e):=by rcases h with h|h<;>(unfold Ax;rw[h];rfl)
 rw[this] at hf;simp only[jF,Bool.or_eq_true,zO,zN,zS,zA,decide_eq_true_eq,List.isEmpty_iff] at hf;refine⟨?_,hf.1.1.1.2,hf.1.1.2,hf.1.2,hf.2⟩;rcases hf.1.1.1.1 with h3|h2
 ·exact .inl (Hf3 h3)
 ·obtain⟨x,y,hx⟩:=Et7 h2.1;rw[hx] at h2;exact .inr ⟨x,y,hx,h2.2⟩
theorem Ty (h:3<=e.kind/\e.kind<=8):Bn e=true:=by rw[Bn,decide_eq_true h.1,decide_eq_true h.2];rfl
theorem Tz (h:e.kind<3\/8<e.kind):Bn e=true->False:=λc=>by
 rw[Bn,jF,decide_eq_true_eq,decide_eq_true_eq] at c;omega
end
theorem Aj0 (s:List UInt8): ∀(x:List Tok) (xs:List (List Tok)),Dw s (x::xs)=x++xs.flatMap λt=>Ag s::t
 |x,[]=>by simp [Dw]
 |x,y::ys=>by rw[Sy s x _ (by simp),Aj0 s y ys,List.flatMap_cons];simp
section
variable {l:List Tok} {k k':Nat} {s:List UInt8} {p:PS} [hr:Rdr l p]
theorem Ef0 {α β:Type} {f:Nat->Res α} {fL:List α->Nat->Res (List α)} {sep:List UInt8} {W:List (List UInt8)} {g:β->List Tok} {st:β->α}
  (C: ∀az k,k<=l.length->fL az k=if isW l k [sep] then(f (k+1)).then λa k=>fL (az++ [a]) k else .ok az k) (D:nof W (Ag sep)):
  ∀(bs:List β) (y:List α) (k:Nat),(∀b∈bs,∀k,At l k (g b)->nof W (tk l (k+(g b).length))->f k= .ok (st b) (k+(g b).length))->At l k (bs.flatMap λb=>Ag sep::g b)->
   nof W (tk l (k+(bs.flatMap λb=>Ag sep::g b).length))->isW l (k+(bs.flatMap λb=>Ag sep::g b).length) [sep]=false->fL y k= .ok (y++bs.map st) (k+(bs.flatMap λb=>Ag sep::g b).length)
 | [],y,k,_,ha,_,hn=>by
  rw[List.flatMap_nil,jB,Nat.add_zero] at hn⊢
  rw[C y k ha.1,hn,jP,jH];rfl
 |b::r,y,k,he,ha,hw,hn=>by
  rw[List.flatMap_cons] at ha hw hn⊢
  have e1:k+(Ag sep::g b++r.flatMap λb=>Ag sep::g b).length=k+1+(g b).length+(r.flatMap λb=>Ag sep::g b).length:=by
   rw[jC,jA];omega
  rw[e1] at hw hn⊢
  have h1:At l (k+1) (g b++r.flatMap λb=>Ag sep::g b):=At.tail ha;have h2:=h1.right;have hf:nof W (tk l (k+1+(g b).length)):=by
   cases r with
   |nil=>simpa using hw
   |cons c r'=>
    rw[List.flatMap_cons] at h2;rw[(At.head h2).1];exact D
  rw[C y k ha.1,if_pos (At.word ha),he b (by simp) _ h1.left hf];show fL (y++ [st b]) _=_;rw[Ef0 C D r (y++ [st b]) _ (λc hc=>he c (by simp [hc])) h2 hw hn];simp
theorem Av1 {α β:Type} {f:Nat->Res α} {fL:List α->Nat->Res (List α)} {sep:List UInt8} {W:List (List UInt8)} {g:β->List Tok} {st:β->α}
  (D: ∀az k,k<=l.length->fL az k=if isW l k [sep] then(f (k+1)).then λa k=>fL (az++ [a]) k else .ok az k) (C:nof W (Ag sep))
  {b:β} {r:List β} (he: ∀c∈b::r,∀k,At l k (g c)->nof W (tk l (k+(g c).length))->f k= .ok (st c) (k+(g c).length)) (ha:At l k (Dw sep ((b::r).map g)))
  (y:k'=k+(Dw sep ((b::r).map g)).length) (hw:nof W (tk l k')) (E:isW l k' [sep]=false):
  ∃j,f k= .ok (st b) j/\fL [st b] j= .ok ((b::r).map st) k'/\j<=l.length/\(r≠ []->isW l j [sep]=true)/\(r= []->j=k'):=by
 have e1:Dw sep ((b::r).map g)=g b++r.flatMap λc=>Ag sep::g c:=by
  rw[jN,Aj0,Za]
 rw[e1] at ha y;rw[jC,<-Nat.add_assoc] at y;have h2:=ha.right;have hf:nof W (tk l (k+(g b).length)):=by
  cases r with
  |nil=>rw[List.flatMap_nil,jB,Nat.add_zero] at y;rw[<-y];exact hw
  |cons c r'=>
   rw[List.flatMap_cons] at h2;rw[(At.head h2).1];exact C
 refine⟨_,he b (by simp) k ha.left hf, ?_,h2.1,λhr=> ?_,λhr=> ?_⟩
 ·subst y;rw[Ef0 D C r [st b] _ (λc hc=>he c (by simp [hc])) h2 hw E];rfl
 ·cases r with
  |nil=>exact absurd rfl hr
  |cons c r'=>
   rw[List.flatMap_cons] at h2;exact At.word h2
 ·subst hr;rw[y,List.flatMap_nil,jB,Nat.add_zero]
def wA:List (List UInt8):=w0++ [Bp,Gp]
theorem Bw2 {x:Ex} (h:x.kind=3) (hf:Ax x=true):stE x= .mk 3 0 0 x.s [] [] 0 0 0:=by
 obtain⟨a,b,c,d⟩:=ff3 h hf;rw[Fv,h,a,b,c,d];rfl
theorem Gw5 (hz: ∀k,(tk l k).line=0) {a:As} (ha:(a.c.isEmpty || Ce a.c)=true) (hp: ∀x∈Ct a,Ax x=true/\RT l p x) (h:At l k (Hl a)) (y:nof wA (tk l (k+(Hl a).length))):
  p.arg k= .ok (stA a) (k+(Hl a).length):=by
 obtain⟨L,C⟩:=hp a.e (Mh a);rw[Ap1];by_cases D:a.c= []
 ·rw[Rc,D,List.isEmpty_nil,if_pos rfl] at h y⊢
  exact Fo6 h.1 ((C _ h).full (Ft y (by decide))) (Ho y (by decide) [])
 ·obtain⟨c,hc⟩: ∃c,a.c= [c]/\c.kind=1/\ ∃x,c.l= [x]/\x.kind=3:=by
   match hcc:a.c,D with
   | [c],_=>
    rw[hcc] at ha;simp only[Ce,List.isEmpty_cons,Bool.false_or,jF,decide_eq_true_eq] at ha;refine⟨c,rfl,ha.1, ?_⟩
    match hl:c.l with
    | [x]=>rw[hl] at ha;exact⟨x,rfl,by simpa using ha.2⟩
    | []=>rw[hl] at ha;cases ha.2
    |_::_::_=>rw[hl] at ha;cases ha.2
   |c::d::r,_=>rw[hcc] at ha;simp [Ce] at ha
  obtain⟨hc,E,x,hx,I⟩:=hc;have J:=hp x (Sg (c:=c) (by rw[hc];simp) (by rw[hx];simp));have ht:Hl a=Eg x.s::Ag Bp::Ai a.e:=by
   rw[Rc,hc];show Da c++_=_;rw[Ng,if_pos E,hx,List.map_singleton];show Ai x++_=_;rw[Dd6 I];rfl
  rw[ht] at h y⊢
  have h1:At l (k+1) (Ag Bp::Ai a.e):=At.tail h;have h2:At l (k+2) (Ai a.e):=At.tail h1;have e1:k+(Eg x.s::Ag Bp::Ai a.e).length=k+2+(Ai a.e).length:=by simp only[jA];omega
  rw[e1] at y⊢
  rw[Gn3 h.1,h.head.1,if_pos ⟨rfl,At.word h1⟩,(C _ h2).full (Ft y (by decide))];show Res.ok _ _=_;rw[hc,List.map_singleton,Bu9,E,hx,List.map_singleton,Bw2 I J.1];rfl
theorem Ch8 {n:Nat} {c:Ch} (C:Cv n c=true) (hp: ∀x∈c.l,RT l p x) (h:At l k (Da c)) (D:nof w0 (tk l (k+(Da c).length))):p.choice k= .ok (stC c) (k+(Da c).length):=by
 rw[Bu9];unfold Cv at C;by_cases E:c.kind=1
 ·rw[if_pos E,decide_eq_true_eq] at C;obtain⟨x,hx⟩:=Fo8 C;have ht:Da c=Ai x:=by rw[Ng,if_pos E,hx];rfl
  rw[ht] at h D⊢
  rw[Bi3 h.1 ((hp x (by rw[hx];simp) _ h).full D) (Ho D (by decide) []),E,hx];rfl
 ·rw[if_neg E] at C;by_cases I:c.kind=2
  ·rw[if_pos I,decide_eq_true_eq] at C;obtain⟨x,y,hx⟩:=Et7 C;(have ht:Da c=Ap x 2++Ag Et::Ap y 2:=by rw[Ng,if_neg E,if_pos I,hx];rfl);rw[ht] at h D⊢
   have h1:=h.right;have h2:At l (k+(Ap x 2).length+1) (Ap y 2):=At.tail h1;(have e1:k+(Ap x 2++Ag Et::Ap y 2).length=k+(Ap x 2).length+1+(Ap y 2).length:=by rw[jC,jA];omega);rw[e1] at D⊢
   have s1:=Af1 (hp x (by rw[hx];simp)) h.left rfl (by rw[h1.head.1];decide+kernel);have s2:=Af1 (hp y (by rw[hx];simp)) h2 rfl (Ft D (by decide));rw[Au9 h.1,Bd0 s1 (s:=La) (by decide),s1];show(if isW l _ [Et] then _ else _)=_;rw[if_pos (At.word h1),s2,I,hx];rfl
  ·rw[if_neg I] at C;simp only[jF,decide_eq_true_eq] at C;(have ht:Da c= [Ag La]:=by rw[Ng,if_neg E,if_neg I]);rw[ht] at h D⊢
   rw[Au9 h.1,if_pos (At.word h),C.1.1,List.length_eq_zero_iff.1 C.1.2];rfl
theorem Fp0 {a:As} (ha:(a.c.isEmpty || Cl a.c)=true) (hp: ∀x∈Ct a,RT l p x) (h:At l k (Hl a)) (y:nof wA (tk l (k+(Hl a).length))):
  p.assoc k= .ok (stA a) (k+(Hl a).length):=by
 have he:=hp a.e (Mh a);rw[Ap1];cases hc:a.c with
 |nil=>
  rw[Rc,hc,List.isEmpty_nil,if_pos rfl] at h y⊢
  exact Bw0 h.1 ((he _ h).full (Ft y (by decide))) (Ho y (by decide) []) (Ho y (by decide) []) (Ho y (by decide) [])
 |cons c r=>
  rw[hc] at ha;simp only[List.isEmpty_cons,Bool.false_or,Cl,jF,decide_eq_true_eq,List.all_eq_true] at ha;have ht:Hl a=Dw Gp ((c::r).map Da)++Ag Bp::Ai a.e:=by rw[Rc,hc,List.isEmpty_cons,if_neg (by simp)]
  rw[ht] at h y⊢
  have h1:=h.right;have h2:At l (k+(Dw Gp ((c::r).map Da)).length+1) (Ai a.e):=At.tail h1;have e1:k+(Dw Gp ((c::r).map Da)++Ag Bp::Ai a.e).length=k+(Dw Gp ((c::r).map Da)).length+1+(Ai a.e).length:=by rw[jC,jA];omega
  rw[e1] at y⊢
  have C:=(he _ h2).full (Ft y (by decide));have hw:=At.word h1;obtain⟨j,M,O,X,S,D⟩:=Av1 (l:=l) (f:=p.choice) (fL:=p.choicesL) (sep:=Gp) (W:=w0) (g:=Da) (st:=stC) (λaz k hk=>Bv8 az hk) (by decide+kernel) (b:=c) (r:=r)
   (λd hd k U V=>Ch8 (ha.2 d hd) (λx hx=>hp x (Sg (c:=d) (by rw[hc];exact hd) hx)) U V) h.left rfl (by rw[h1.head.1];decide+kernel) (Gm hw (by decide))
  rw[Cq4 h.1,M];show(if _ then _ else _)=_;rw[if_neg,Au7]
  ·by_cases E:c.kind=3
   ·have I:r= []:=by
     have:=ha.2 c (by simp);unfold Cv at this;rw[if_neg (by omega),if_neg (by omega)] at this;simp only[jF,decide_eq_true_eq,jA] at this;exact List.length_eq_zero_iff.1 (by omega)
    rw[if_pos E,D I,must,if_pos hw,C,I];rfl
   ·rw[if_neg E,O];show must l Bp _ (λk=>(p.expr k).then λe k=>Res.ok (As.mk ((c::r).map stC) e) k)=_;rw[must,if_pos hw,C];rfl
  ·rintro⟨_,J,L⟩;cases r with
   |nil=>rw[D rfl,hw] at L;cases L
   |cons d r'=>rw[S (by simp)] at J;cases J
end
theorem Et8 {az:List As} (h:Vi az=false) (li:Int):Bs0 li az= .mk 9 0 0 [] [] az li 0 0:=by
 match az,h with
 | [],_=>rfl
 | [x],h=>
  show(if x.c= [] then x.e else _)=_;rw[if_neg];intro c;simp [Vi,c] at h
 |_::_::_,_=>rfl
theorem Si: ∀ {l:List As},Fo l=true-> ∀a∈l,(a.c.isEmpty || Cl a.c)=true
 | [],_,a,h=>by cases h
 |b::r,h,a,hm=>by
  rw[Fo,jF] at h;rcases List.mem_cons.1 hm with rfl|hm
  ·have:=h.1;rw[Bool.or_eq_true] at this⊢
   rcases this with h1|h1
   ·exact .inl h1
   ·rw[jF] at h1;exact .inr h1.1
  ·exact Si h.2 a hm
theorem Bd3 {α β:Type} (x:α) (k:Nat) (f:α->Nat->Res β):(Res.ok x k).then f=f x k:=rfl
theorem Av2 {l:List Tok} {α:Type} {s:List UInt8} {k:Nat} {f:Nat->Res α} (h:isW l k [s]=true):must l s k f=f (k+1):=by rw[must,if_pos h]
section
variable {l:List Tok} {k k':Nat} {s:List UInt8} {p:PS} [hr:Rdr l p] {e:Ex}
variable (hz: ∀k,(tk l k).line=0) (hf:Ax e=true) (ih: ∀x∈parts e,RT l p x)
include hf hz
theorem rt1 (h:e.kind=1):RT l p e:=by
 obtain⟨a,b,c,d⟩:=ff1 h hf;intro k y;rw[Fm3 h] at y⊢
 refine .of5 ⟨y.1,y.le⟩ (lv5 (by omega)) (λc=>(Tz (by omega) c).elim) (λc=>by rw[h] at c;cases c) λ_=> ?_;have ht:=y.head.1;rw[Xd y.1,ht,if_pos (show(Dd4 e.n).kind=3 from rfl),Fv,h,a,b,c,d];rfl
theorem rt2 (h:e.kind=2):RT l p e:=by
 obtain⟨a,b,c,d,C⟩:=ff2 h hf;intro k y;rw[Fm4 h] at y⊢
 refine .of5 ⟨y.1,y.le⟩ (lv5 (by omega)) (λc=>(Tz (by omega) c).elim) (λc=>by rw[h] at c;cases c) λ_=> ?_;have hw:=At.word y;rw[Xd y.1,if_neg (Jq hw).2.1,if_pos hw,hz,Fv,h,a,b,c,d,C];rfl
theorem rt3 (h:e.kind=3):RT l p e:=by
 intro k y;rw[Dd6 h] at y⊢
 refine .ofName ⟨y.1,y.le⟩ (Ty (by omega)) ?_;have ht:=y.head.1;rw[Cq5 y.1,Jg,if_pos (by rw[ht];rfl),hz,ht,Bw2 h hf];rfl
include ih
theorem rt4 (h:e.kind=4):RT l p e:=by
 obtain⟨⟨x,hx,hn⟩,b,c,d⟩:=Dt9 (.inl h) hf;have ht:Ai e=Ai x++ [Ag Ju,Eg e.s]:=by rw[Ee3 h];unfold tE;rw[hx];rfl
 intro k y;rw[ht] at y⊢
 have r:=ih x (Ba (by rw[hx];simp)) k y.left;have h1:=y.right;have h2:At l (k+(Ai x).length+1) [Eg e.s]:=At.tail h1;have h3:=h2.head.1;have w1:isW l (k+(Ai x).length) [Ju]=true:=At.word h1;have C:isW l (k+(Ai x).length+1) [Ae1]=false:=Ho (ws:= [Ae1]) (by rw[h3];exact Xc (.inl rfl)) (by simp) [];refine .ofName ⟨y.1,y.le⟩ (Ty (by omega)) ?_;rw[r.name hn,Ai8 _ _ r.le.2,Fm9 (s:=Ju) (t:=Ae1),C,Bool.and_false,if_neg (by simp),if_pos w1,Jg,if_pos (by rw[h3];rfl),h3,Fv e,h,hx,b,c,d,jC];rfl
theorem rt5 (h:e.kind=5):RT l p e:=by
 obtain⟨⟨x,hx,hn⟩,b,c,d,C⟩:=ff5 h hf;have ht:Ai e=Ai x++ [Ag Ju,Ag Ae1]:=by rw[Fm5 h];unfold tE;rw[hx];rfl
 intro k y;rw[ht] at y⊢
 have r:=ih x (Ba (by rw[hx];simp)) k y.left;have w1:isW l (k+(Ai x).length) [Ju,Ae1]=true:=At.words (ws:= [Ju,Ae1]) (ts:= []) y.right;refine .ofName ⟨y.1,y.le⟩ (Ty (by omega)) ?_;rw[r.name hn,Ai8 _ _ r.le.2,if_pos w1,Fv e,h,hx,b,c,d,C,jC];rfl
theorem rt6 (h:e.kind=6):RT l p e:=by
 obtain⟨⟨x,hx,hn⟩,b,c,d⟩:=Dt9 (.inr h) hf;have ht:Ai e=Ai x++ [Ag Iy,Eg e.s]:=by rw[Fm6 h];unfold tE;rw[hx];rfl
 intro k y;rw[ht] at y⊢
 have r:=ih x (Ba (by rw[hx];simp)) k y.left;have h1:=y.right;have h2:At l (k+(Ai x).length+1) [Eg e.s]:=At.tail h1;have h3:=h2.head.1;have w1:isW l (k+(Ai x).length) [Iy]=true:=At.word h1;have w2:isW l (k+(Ai x).length) [Ju]=false:=Gm w1 (by decide);have C:isW l (k+(Ai x).length+1) [Bc]=false:=Ho (ws:= [Bc]) (by rw[h3];exact Xc (.inl rfl)) (by simp) [];refine .ofName ⟨y.1,y.le⟩ (Ty (by omega)) ?_;rw[r.name hn,Ai8 _ _ r.le.2,Gz w2,w2,Gm w1 (t:=Bc) (by decide),Fm9 (s:=Iy) (t:=Bc),C,Bool.and_false,if_neg (by simp),if_neg (by simp),if_neg (by simp),if_neg (by simp),if_pos w1,Jg,if_pos (by rw[h3];rfl),h3,Fv e,h,hx,b,c,d,jC];rfl
theorem rt7 (hv: ∀x∈parts e,Ax x=true) (h:e.kind=7):RT l p e:=by
 obtain⟨⟨x,hx,hn⟩,ha,b,c,d⟩:=ff7 h hf;have ht:Ai e=Ai x++Ag Bc::(taE e++ [Ag Bs]):=by rw[Fm7 h];unfold tE;rw[hx];rfl
 intro k C;rw[ht] at C⊢
 have r:=ih x (Ba (by rw[hx];simp)) k C.left;have h1:=C.right;have h2:At l (k+(Ai x).length+1) (taE e++ [Ag Bs]):=At.tail h1;have h3:=h2.right;have w1:isW l (k+(Ai x).length) [Bc]=true:=At.word h1;have w2:isW l (k+(Ai x).length) [Ju]=false:=Gm w1 (by decide);have w3:=At.word h3;rw[Jn,jF,jF,jF,decide_eq_true_eq,decide_eq_true_eq,List.all_eq_true] at ha;refine .ofName ⟨C.1,C.le⟩ (Ty (by omega)) ?_;cases hea:e.a with
 |nil=>rw[hea] at ha;simp at ha
 |cons a az=>
  have D:taE e=Dw Dm ((a::az).map Hl):=by rw[taE,hea]
  obtain⟨j,I,J,M,O,S⟩:=Av1 (l:=l) (f:=p.arg) (fL:=p.argsL) (sep:=Dm) (W:=wA) (g:=Hl) (st:=stA) (λaz k hk=>Gg9 az hk) (by decide+kernel) (b:=a) (r:=az)
   (λc hc k C L=>Gw5 hz (ha.2 c (by rw[hea];exact hc)) (λy E=>⟨hv y (Lk (by rw[hea];exact hc) E),ih y (Lk (by rw[hea];exact hc) E)⟩) C L) (by rw[<-D];exact h2.left) rfl (by rw[<-D,h3.head.1];decide+kernel) (by rw[<-D];exact Gm w3 (by decide))
  rw[r.name hn,Ai8 _ _ r.le.2,Gz w2,w2,if_neg (by simp),if_neg (by simp),if_pos w1,I];show(p.argsL [stA a] j).then _=_
  rw[J];show must l Bs _ (λk=>p.nameL 0 (.mk 7 0 0 [] [stE x] ((a::az).map stA) 0 0 0) k)=_;rw[must,<-D,if_pos w3,Fv e,h,hx,b,c,d,hea,jC,jA,jC];congr 1;simp only[jA,jB];omega
theorem rt8 (h:e.kind=8):RT l p e:=by
 obtain⟨⟨x,y,hx,hn⟩,b,c,d,E⟩:=ff8 h hf;have ht:Ai e=Ai x++Ag Iy::Wz (!Rb y.kind) (Ai y):=by rw[Fm8 h];unfold tE;rw[hx];rfl
 intro k C;rw[ht] at C⊢
 have r:=ih x (Ba (by rw[hx];simp)) k C.left;have D:=ih y (Ba (by rw[hx];simp));have h1:=C.right;have h2:At l (k+(Ai x).length+1) (Wz (!Rb y.kind) (Ai y)):=At.tail h1;have w1:isW l (k+(Ai x).length) [Iy]=true:=At.word h1;have w2:isW l (k+(Ai x).length) [Ju]=false:=Gm w1 (by decide);have key:isW l (k+(Ai x).length+1) [Bc]=true/\p.paren (k+(Ai x).length+1)= .ok (stE y) (k+(Ai x).length+1+(Wz (!Rb y.kind) (Ai y)).length):=by
  cases hb:Rb y.kind with
  |true=>
   rw[hb] at h2;have h2:At l (k+(Ai x).length+1) (Ai y):=h2;have hpr:=(D _ h2).bare hb;refine⟨?_,hpr⟩;(have I:y.kind=9\/y.kind=10:=by simpa [Rb] using hb);rcases I with h9|h9
   ·rw[Ee4 h9] at h2;exact At.word h2
   ·rw[Cp6 h9] at h2;exact At.word h2
  |false=>
   rw[hb] at h2;have h2:At l (k+(Ai x).length+1) (Ag Bc::(Ai y++ [Ag Bs])):=h2;have h3:At l (k+(Ai x).length+1+1) (Ai y++ [Ag Bs]):=At.tail h2;have h4:=h3.right;refine⟨At.word h2, ?_⟩;rw[Bw1 (At.word h2) ((D _ h3.left).full (by rw[h4.head.1];decide+kernel)) (At.word h4)];show _=Res.ok _ (_+(Ag Bc::(Ai y++ [Ag Bs])).length);congr 1;simp only[jA,jC,jB];omega
 refine .ofName ⟨C.1,C.le⟩ (Ty (by omega)) ?_;rw[r.name hn,Ai8 _ _ r.le.2,Gz w2,w2,Gm w1 (t:=Bc) (by decide),Fm9,w1,key.1,if_neg (by simp),if_neg (by simp),if_neg (by simp),if_pos (by rfl),key.2];show p.nameL 0 _ _=_;rw[Fv e,h,hx,b,c,d,E,jC,jA];congr 1;omega
theorem rt9 (h:e.kind=9):RT l p e:=by
 obtain⟨hl,ha,b,c,d⟩:=ff9 h hf;intro k C;rw[Ee4 h] at C⊢
 have h2:At l (k+1) (taE e++ [Ag Bs]):=At.tail C;have h3:=h2.right;have w3:=At.word h3;have E:=At.word C;rw[Fx] at ha;simp only[jF,decide_eq_true_eq,Bool.not_eq_true'] at ha;have I:p.paren k= .ok (stE e) (k+(Ag Bc::(taE e++ [Ag Bs])).length):=by
  cases hea:e.a with
  |nil=>rw[hea] at ha;simp at ha
  |cons a az=>
   (have D:taE e=Dw Dm ((a::az).map Hl):=by rw[taE,hea]);obtain⟨j,J,L,S,U,V⟩:=Av1 (l:=l) (f:=p.assoc) (fL:=p.assocsL) (sep:=Dm) (W:=wA) (g:=Hl) (st:=stA) (λaz k hk=>Ch6 az hk) (by decide+kernel) (b:=a) (r:=az)
    (λc hc k C M=>Fp0 (Si ha.2 c (by rw[hea];exact hc)) (λy O=>ih y (Lk (by rw[hea];exact hc) O)) C M) (by rw[<-D];exact h2.left) rfl (by rw[<-D,h3.head.1];decide+kernel) (by rw[<-D];exact Gm w3 (by decide))
   rw[Av0 E J L (by rw[<-D];exact w3),hz,Et8 (by rw[Bv4,<-hea];exact ha.1.2),Fv e,h,hl,b,c,d,hea,<-D];congr 1;simp only[jA,jC,jB];omega
 exact .of5 ⟨C.1,C.le⟩ (lv5 (by omega)) (λc=>(Tz (by omega) c).elim) (λ_=>I) λ_=>by rw[Ap3 E,I]
theorem Hi4 (h:e.kind=10):RT l p e:=by
 obtain⟨⟨x,y,z,hx⟩,b,c,d,I⟩:=Gw2 h hf;have ht:Ai e=Ag Bc::Ag wIf::(Ai x++Ag Pp::(Ai y++Ag Qv::(Ai z++ [Ag Bs]))):=by rw[Cp6 h];unfold tE;rw[hx];rfl
 intro k C;rw[ht] at C⊢
 have D:=At.word C;have h1:At l (k+1) (Ag wIf::_):=At.tail C;have h2:=At.tail h1;have h3:=h2.right;have h4:=(At.tail h3);have h5:=h4.right;have h6:=(At.tail h5);have h7:=h6.right;have J:=(ih x (Ba (by rw[hx];simp)) _ h2.left).full (by rw[h3.head.1];decide+kernel);have L:=(ih y (Ba (by rw[hx];simp)) _ h4.left).full (by rw[h5.head.1];decide+kernel);have M:=(ih z (Ba (by rw[hx];simp)) _ h6.left).full (by rw[h7.head.1];decide+kernel);have E:p.paren k= .ok (stE e) (k+(Ag Bc::Ag wIf::(Ai x++Ag Pp::(Ai y++Ag Qv::(Ai z++ [Ag Bs])))).length):=by
  rw[Ee9 C.1,Av2 D,if_pos (At.word h1),J];simp only[Bd3,Av2 (At.word h3),L,Av2 (At.word h5),M,Av2 (At.word h7)];rw[hz,Fv e,h,hx,b,c,d,I];congr 1;simp only[jA,jC,jB];omega
 exact .of5 ⟨C.1,C.le⟩ (lv5 (by omega)) (λc=>(Tz (by omega) c).elim) (λ_=>E) λ_=>by rw[Ap3 D,E]
theorem Hi5 (h:e.kind=11):RT l p e:=by
 obtain⟨⟨x,hx⟩,⟨o,ho,M⟩,b,c,d⟩:=Gw3 h hf;have ht:Ai e=(Ay o).map Ag++Ap x (Kz e):=by rw[Ds9 h,ho,jD];unfold pE tE;rw[hx];rfl
 have I:Aw e=if o=18\/o=19 then 2 else 4:=by
  unfold Aw;rw[h,ho,if_neg (by decide),if_pos rfl];rcases M with rfl|rfl|rfl|rfl<;>rfl
 have J:=ih x (Ba (by rw[hx];simp));intro k y;rw[ht] at y⊢
 have h1:=y.right;rw[jK] at h1;have hst: ∀li,li=0->Qw o li (stE x)=stE e:=λli O=>by
  rw[Qw,if_neg (by omega),Fv e,h,ho,hx,b,c,d,O];rfl
 have e1:k+((Ay o).map Ag++Ap x (Kz e)).length=k+(Ay o).length+(Ap x (Kz e)).length:=by rw[jC,jK];omega
 by_cases L:o=18\/o=19
 ·have C:Aw e=2:=by rw[I,if_pos L]
  have D:Kz e=3:=by rw[Kz,if_pos C]
  rw[D] at y h1 e1⊢
  rw[e1];obtain⟨E,q2⟩:=De5 (want:=0) (.inr (.inl ⟨by simp [Hh];omega,rfl⟩)) y (.inl rfl);refine .of2 ⟨y.1,by have:=h1.le;exact this⟩ C λhn=> ?_;rw[Bv6 y.1,E];show(p.term (k+(Ay o).length)).then _=_
  rw[Fo7 J h1 rfl (s53 hn),Ai9 h1.le hn];show p.addL (Qw o _ (stE x)) _=_;rw[hst _ (hz k)]
 ·have C:Aw e=4:=by rw[I,if_neg L]
  have D:Kz e=5:=by rw[Kz,if_neg (by omega)]
  rw[D] at y h1 e1⊢
  rw[e1];obtain⟨E,q2⟩:=De5 (want:=0) (.inr (.inr (.inr (.inr ⟨by simp [Ky];omega,rfl⟩)))) y (.inl rfl);refine .of4 ⟨y.1,by have:=h1.le;exact this⟩ C λhn=> ?_;rw[Bv7 y.1,E];show(p.primary (k+(Ay o).length)).then _=_
  rw[Hf1 J h1 rfl hn];show Res.ok (Qw o _ (stE x)) _=_;rw[hst _ (hz k)]
end
def hdW (o:Nat):List UInt8:=(Ay o).headD []
theorem Gw6: ∀o,o<18->1<=o->Ay o=hdW o::(Ay o).tail:=by decide+kernel
theorem Gh3: ∀o,o<18->1<=o->(o<3->nof w3 (Ag (hdW o)))/\(o<7->nof w5 (Ag (hdW o)))/\(7<=o->o<13->nof w2 (Ag (hdW o)))/\(13<=o->nof w1 (Ag (hdW o))):=by decide+kernel
section
variable {l:List Tok} {k k':Nat} {s:List UInt8} {p:PS} [hr:Rdr l p] {e:Ex}
theorem Gh4 {o:Nat} {ts:List Tok} (h1:1<=o) (h2:o<=17) (h:At l k ((Ay o).map Ag++ts)):tk l k=Ag (hdW o):=by
 rw[Gw6 o (by omega) h1] at h;exact(At.head h).1
theorem Et9 {o:Nat} {x y:Ex} (h1:13<=o) (h2:o<=17) (D:RT l p y) (h:At l k ((Ay o).map Ag++Ap y 1)) (E:k'=k+(Ay o).length+(Ap y 1).length) (I:nof w1 (tk l k')) (want:Nat) (hw:want=0\/want=o):
  (opF l want k Fy)=(o,k+(Ay o).length)/\p.restL o x k=p.restL o (both o x (stE y)) k':=by
 have h3:=h.right;rw[jK] at h3;have C:=Gn5 D h3 E I;have ho:o∈Fy:=by simp [Fy];omega
 have hs: ∃z j,p.simple (k+(Ay o).length)= .ok z j:=by
  rw[Bd2] at C;cases c:p.simple (k+(Ay o).length) with
  |bot=>rw[c] at C;cases C
  |fail j=>rw[c] at C;cases C
  |ok z j=>exact⟨z,j,rfl⟩
 obtain⟨z,j,hs⟩:=hs;have q: ∀want,want=0\/want=o->opF l want k Fy=(o,k+(Ay o).length):=λwant hw=>Gw1 ho h hw hs;refine⟨q want hw, ?_⟩;rw[Cq3 o x h.1,if_neg (by omega),q o (.inr rfl),if_neg (by dsimp only;omega)];have e1:((p.simple (k+(Ay o).length)).then λy k=>(p.relation y k).then λy k=>p.restL o (both o x y) k)=(Bd2 p (k+(Ay o).length)).then λy k=>p.restL o (both o x y) k:=by rw[Bd2,Bv5]
 show((p.simple (k+(Ay o).length)).then λy k=>(p.relation y k).then λy k=>p.restL o (both o x y) k)=_;rw[e1,C];rfl
variable (hz: ∀k,(tk l k).line=0) (hf:Ax e=true) (ih: ∀x∈parts e,RT l p x)
include hf ih
theorem Hi6 (h:e.kind=12):RT l p e:=by
 obtain⟨⟨x,y,hx⟩,⟨o,ho,X,Y⟩,b,c,d⟩:=Gw4 h hf;have ht:Ai e=Ap x (Gi e)++((Ay o).map Ag++Ap y (Hx e)):=by rw[Dt0 h,ho,jD];unfold pE tE;rw[hx];rfl
 have U:Aw e=if 13<=o then 0 else if 7<=o then 1 else if o<=2 then 2 else 3:=by
  unfold Aw;rw[h,ho,if_neg (by decide),if_neg (by decide),if_pos rfl]
  repeat' split
  all_goals omega
 have M:=ih x (Ba (by rw[hx];simp));have V:=ih y (Ba (by rw[hx];simp));have hst:stE e=both o (stE x) (stE y):=by
  rw[Fv e,h,ho,hx,b,c,d,both,Xb];rfl
 have g0:e.l.getD 0 ex0=x:=by rw[hx];rfl
 have O:=Gh3 o (by omega) X;intro k C;rw[ht] at C⊢
 have h1:=C.right;have D:=Gh4 X Y h1;have h2:=h1.right;rw[jK] at h2;have e1:k+(Ap x (Gi e)++((Ay o).map Ag++Ap y (Hx e))).length=k+(Ap x (Gi e)).length+(Ay o).length+(Ap y (Hx e)).length:=by
  rw[jC,jC,jK];omega
 have hle:=C.le;rw[e1] at hle⊢
 by_cases I:13<=o
 ·have hl:Aw e=0:=by rw[U,if_pos I]
  have J:Hx e=1:=by rw[Hx,hl];rfl
  have E:Gi e=if x.kind=12/\x.oper=o then 0 else 1:=by
   rw[Gi,hl,if_neg (by decide),g0,ho];by_cases cc:x.kind=12/\x.oper=o
   ·rw[if_pos cc,if_neg (by rintro⟨_,a|a⟩;exact a cc.1;exact a cc.2)]
   ·rw[if_neg cc,if_pos ⟨rfl,by by_cases Z:x.kind=12;exact .inr λa=>cc ⟨Z,a⟩;exact .inl Z⟩]
  rw[J] at h1 h2 hle⊢
  refine .of0 ⟨C.1,hle⟩ hl λhn=> ?_;rw[hst,ho,jD];have L:=λwant hw=>Et9 (x:=stE x) I Y V h1 rfl hn want hw;by_cases cc:x.kind=12/\x.oper=o
  ·rw[E,if_pos cc] at C L D⊢
   have aa:Ap x 0=Ai x:=by
    rw[Ap,decide_eq_false (by have:=(Rf x).1;omega)];rfl
   rw[aa] at C L D⊢
   have r:=M _ C.left;have ab:Aw x=0:=by
    unfold Aw;rw[cc.1,cc.2,if_neg (by decide),if_neg (by decide),if_pos rfl,if_pos (by omega)]
   rw[r.exp ab (by rw[D];exact O.2.2.2 I),cc.2,jD,(L 0 (.inl rfl)).2]
  ·rw[E,if_neg cc] at C L D⊢
   have ac:=Gn5 M C.left rfl (by rw[D];exact O.2.2.2 I);rw[Bv9 C.1,ac];show p.restL (opF l 0 _ Fy).1 (stE x) _=_;rw[(L 0 (.inl rfl)).1,(L 0 (.inl rfl)).2]
 ·by_cases W:7<=o
  ·(have hl:Aw e=1:=by rw[U,if_neg I,if_pos W]);(have J:Hx e=2:=by rw[Hx,hl];rfl);(have E:Gi e=2:=by rw[Gi,hl];rfl);rw[E] at C h1 h2 D hle⊢
   rw[J] at h1 h2 hle⊢
   refine .of1 ⟨C.1,hle⟩ hl λhn=> ?_;have s1:=Af1 M C.left rfl (by rw[D];exact O.2.2.1 W (by omega));have s2:=Af1 V h2 rfl (s2d hn);obtain⟨S,q2⟩:=De5 (want:=0) (.inl ⟨by simp [Nw];omega,rfl⟩) h1 (.inl rfl);rw[hst,Bd2,s1];show p.relation (stE x) _=_;rw[Tx _ h1.1,S,if_pos (by dsimp only;omega),s2];rfl
  ·by_cases c2:o<=2
   ·(have hl:Aw e=2:=by rw[U,if_neg I,if_neg W,if_pos c2]);(have J:Hx e=3:=by rw[Hx,hl];rfl);(have E:Gi e=2:=by rw[Gi,hl,if_neg (by decide),if_neg (by rintro⟨a,_⟩;cases a)]);rw[E] at C h1 h2 D hle⊢
    rw[J] at h1 h2 hle⊢
    refine .of2 ⟨C.1,hle⟩ hl λhn=> ?_;obtain⟨S,q2⟩:=De5 (want:=0) (.inr (.inr (.inl ⟨by simp [Yq];omega,rfl⟩))) h1 (.inl rfl);rw[hst,Gn4 M C.left rfl (by rw[D];exact O.1 (by omega)),Fo0 _ h1.1,S,if_neg (by dsimp only;omega)];(show(p.term (_+(Ay o).length)).then _=_);rw[Fo7 V h2 rfl (s53 hn),Ai9 hle hn];rfl
   ·(have hl:Aw e=3:=by rw[U,if_neg I,if_neg W,if_neg c2]);(have J:Hx e=4:=by rw[Hx,hl];rfl);(have E:Gi e=3:=by rw[Gi,hl,if_neg (by decide),if_neg (by rintro⟨a,_⟩;cases a)]);rw[E] at C h1 h2 D hle⊢
    rw[J] at h1 h2 hle⊢
    refine .of3 ⟨C.1,hle⟩ hl λhn=> ?_;obtain⟨S,q2⟩:=De5 (want:=0) (.inr (.inr (.inr (.inl ⟨by simp [Yr];omega,rfl⟩)))) h1 (.inl rfl);rw[hst,Fo7 M C.left rfl (by rw[D];exact O.2.1 (by omega)),Fo2 _ h1.1,S,if_neg (by dsimp only;omega)];(show(p.factor (_+(Ay o).length)).then _=_);rw[Hf2 V h2 rfl hn];rfl
theorem Gn6 {j:Nat} {x:Ex} {kind:Int} (M:kind=13\/kind=14) (h:e.kind=kind) (hx:(∃y z,e.l= [x,y,z])\/ ∃y,e.l= [x,y]/\Bn y=true) (b:e.oper=0) (c:e.n=0) (d:e.s= []) (I:e.a= []) (ha:At l j (Jy e)) (C:k'=j+(Jy e).length) (D:nof w2d (tk l k')):
  inK l (stE x) kind j p= .ok (stE e) k':=by
 rcases hx with⟨y,z,hx⟩|⟨y,hx,J⟩
 ·have E:=ih y (Ba (by rw[hx];simp));have L:=ih z (Ba (by rw[hx];simp));have ht:Jy e=Ap y 2++Ag Et::Ap z 2:=by unfold Jy pE tE;rw[hx];rfl
  have hst:stE e= .mk kind 0 0 [] [stE x,stE y,stE z] [] 0 0 0:=by rw[Fv e,h,hx,b,c,d,I];rfl
  rw[ht] at ha C;have h1:=ha.right;have h2:At l (j+(Ap y 2).length+1) (Ap z 2):=At.tail h1;have s1:=Af1 E ha.left rfl (by rw[h1.head.1];decide+kernel);have s2:=Af1 L h2 (k':=k') (by rw[C,jC,jA];omega) (s2d D);rw[inK,s1,Bd3,if_pos (At.word h1),s2,Bd3,hst,Xb]
 ·have E:=ih y (Ba (by rw[hx];simp));have ht:Jy e=Ai y:=by unfold Jy pE tE;rw[hx];rfl
  have hst:stE e= .mk kind 0 0 [] [stE x,stE y] [] 0 0 0:=by rw[Fv e,h,hx,b,c,d,I];rfl
  rw[ht] at ha C;subst C;have r:=E _ ha;have s1:p.simple j= .ok (stE y) (j+(Ai y).length):=by
   rw[r.simp (by rw[Vp J];decide) (s32 (s2d D)),Sz r.le.2 (s2d D)]
  rw[inK,s1,Bd3,Ho D (by decide),if_neg (by simp),Au8,J,if_pos rfl,hst,Xb]
theorem Hf4 (D:e.kind=13\/e.kind=14):RT l p e:=by
 obtain⟨E,b,c,d,I⟩:=Fo9 D hf;have hx: ∃x,(∃y z,e.l= [x,y,z])\/ ∃y,e.l= [x,y]/\Bn y=true:=by
  rcases E with⟨x,y,z,hx⟩|⟨x,y,hx⟩
  ·exact⟨x,.inl ⟨y,z,hx⟩⟩
  ·exact⟨x,.inr ⟨y,hx⟩⟩
 clear E;obtain⟨x,hx⟩:=hx;have J:e.l.getD 0 ex0=x/\0<e.l.length:=by rcases hx with⟨y,z,hx⟩|⟨y,hx,_⟩<;>(rw[hx];exact⟨rfl,by simp⟩)
 have L:=ih x (Ba (by rcases hx with⟨y,z,hx⟩|⟨y,hx,_⟩<;>(rw[hx];simp)));have hl:Aw e=1:=by unfold Aw;rw[if_pos D]
 have M:pE e 0 2=Ap x 2:=by rw[Gm8 J.2,J.1]
 intro k C;rcases D with h|h
 ·rw[Dt1 h,M] at C⊢
  have h1:=C.right;have hw:=At.word h1;have h2:At l (k+(Ap x 2).length+1) (Jy e):=At.tail h1;have e1:k+(Ap x 2++Ag wIn::Jy e).length=k+(Ap x 2).length+1+(Jy e).length:=by rw[jC,jA];omega
  rw[e1];refine .of1 ⟨C.1,h2.le⟩ hl λhn=> ?_;rw[Bd2,Af1 L C.left rfl (by rw[h1.head.1];decide+kernel),Bd3,Tx _ h1.1,Ai7 hw (by decide),if_neg (by simp),if_pos hw];exact Gn6 hf ih (.inl rfl) h hx b c d I h2 rfl hn
 ·rw[Dt2 h,M] at C⊢
  have h1:=C.right;have hw:=At.word h1;have O:isW l (k+(Ap x 2).length) [Wa,wIn]=true:=At.words (ws:= [Wa,wIn]) h1;have h2:At l (k+(Ap x 2).length+2) (Jy e):=At.tail (At.tail h1);have e1:k+(Ap x 2++Ag Wa::Ag wIn::Jy e).length=k+(Ap x 2).length+2+(Jy e).length:=by rw[jC,jA,jA];omega
  rw[e1];refine .of1 ⟨C.1,h2.le⟩ hl λhn=> ?_;rw[Bd2,Af1 L C.left rfl (by rw[h1.head.1];decide+kernel),Bd3,Tx _ h1.1,Ai7 hw (by decide),if_neg (by simp),Gm hw (t:=wIn) (by decide),if_neg (by simp),if_pos O];exact Gn6 hf ih (.inr rfl) h hx b c d I h2 rfl hn
end
theorem Hy {d:Nat} {e:Ex} (h:Dk d e=true):Ax e=true/\ ∀x∈parts e,Dk (d+1) x=true:=by
 rw[Oj,jF,jF,List.all_eq_true] at h;exact⟨h.1.2,h.2⟩
theorem Du0 {l:List Tok} {p:PS} [hr:Rdr l p] (hz: ∀k,(tk l k).line=0) (e:Ex): ∀d,Dk d e=true->RT l p e:=by
 refine Ex.ind (p:=λe=> ∀d,Dk d e=true->RT l p e) (λe ih d hv=> ?_) e;obtain⟨hf,hp⟩:=Hy hv;have y: ∀x∈parts e,RT l p x:=λx hx=>ih x hx _ (hp x hx);have W: ∀x∈parts e,Ax x=true:=λx hx=>(Hy (hp x hx)).1;by_cases C:e.kind=1
 ·exact rt1 hz hf C
 by_cases D:e.kind=2
 ·exact rt2 hz hf D
 by_cases E:e.kind=3
 ·exact rt3 hz hf E
 by_cases X:e.kind=4
 ·exact rt4 hz hf y X
 by_cases I:e.kind=5
 ·exact rt5 hz hf y I
 by_cases c6:e.kind=6
 ·exact rt6 hz hf y c6
 by_cases J:e.kind=7
 ·exact rt7 hz hf y W J
 by_cases L:e.kind=8
 ·exact rt8 hz hf y L
 by_cases M:e.kind=9
 ·exact rt9 hz hf y M
 by_cases O:e.kind=10
 ·exact Hi4 hz hf y O
 by_cases S:e.kind=11
 ·exact Hi5 hz hf y S
 by_cases U:e.kind=12
 ·exact Hi6 hf y U
 by_cases V:e.kind=13\/e.kind=14
 ·exact Hf4 hf y V
 exfalso;have:Ax e=false:=by
  unfold Ax;rw[if_neg C,if_neg D,if_neg E,if_neg (by omega),if_neg I,if_neg J,if_neg L,if_neg M,if_neg O,if_neg S,if_neg U,if_neg V]
 rw[this] at hf;cases hf
end Go.Dl
-- V2
namespace Go.Dl
open Go Go.Proofs
set_option maxRecDepth 100000
theorem lx0 {e:List Ex} {x:Ex} {r:List Ex} (h:e=x::r):(e.flatMap dEx).take 9=dEx x:=by
 rw[h,List.flatMap_cons,List.take_append_of_le_length (by rw[Af];omega),List.take_of_length_le (by rw[Af];omega)]
theorem lx1 {e:List Ex} {x y:Ex} {r:List Ex} (h:e=x::y::r):((e.flatMap dEx).drop 9).take 9=dEx y:=by
 rw[h,List.flatMap_cons,List.drop_left' (Af x)];exact lx0 rfl
theorem lx2 {e:List Ex} {x y z:Ex} {r:List Ex} (h:e=x::y::z::r):((e.flatMap dEx).drop 18).take 9=dEx z:=by
 rw[h,List.flatMap_cons,show 18=9+9 from rfl,<-List.drop_drop,List.drop_left' (Af x)];exact lx1 rfl
section
variable {G:Nat->DVal}
theorem Av3 (hG:GX G) (a b:Ex) (ha:WrC Tryz.prog G 187 [.agg (dEx a)] (Ai a)) (hb:WrC Tryz.prog G 187 [.agg (dEx b)] (Ai b)):WrC Tryz.prog G 299 [.agg (dEx a),.agg (dEx b)] (Ap a 2++Ag Et::Ap b 2):=by
 intro B r ts H Z aa hw;rw[jC,jA] at aa;refine dci Tryz.func299 Tryz.call299 ?_;simp only[go_sem,DVal.cells];intro y M;obtain⟨K,O⟩: ∃K',K'=upd H y (some (.cells (dEx a) 27)):=⟨_,rfl⟩;rw[<-O];have V:=O.symm▸Aa _ _ _;have S:=O.symm▸hw.frame M _;have n4:r≠y:=hw.ne M;have ab:B y=none:=(hw.lo M).1;simp only[go_sem,DVal.cells];intro E I;obtain⟨L,J⟩: ∃K',K'=upd K E (some (.cells (dEx b) 27)):=⟨_,rfl⟩;rw[<-J];have af:=J.symm▸Aa _ _ _;have W:=J.symm▸S.frame I _;have X:r≠E:=S.ne I;have ac:=(S.lo I).1;have Y:y≠E:=Ac I V;have ad:=J.symm▸Aj V Y;obtain⟨C,D⟩: ∃C,C=upd (upd B y (some (.cells (dEx a) 27))) E (some (.cells (dEx b) 27)):=⟨_,rfl⟩;rw[<-D] at W;have U:C r=none:=by rw[D,Ah _ _ _ _ X,Ah _ _ _ _ n4];exact Z
 have c4:=D.symm▸Aj (Aa _ _ _) Y;have c5:=D.symm▸Aa _ _ _;simp only[go_sem,ad];refine(Dr hG a 2 ha C r _ _ U (by omega) W).mono ?_;rintro _ H1 ⟨rfl,h1⟩;simp only[go_sem];intro q1 ae;simp only[go_sem];refine(Ut hG Et ae U (by simp;omega) h1).mono ?_;rintro _ H2 ⟨rfl,h2⟩;have g5:=h2.keep c5 X.symm;simp only[go_sem,g5];refine(Dr hG b 2 hb C r _ _ U (by simp;omega) h2).mono ?_;rintro _ H3 ⟨rfl,h3⟩;simp only[go_sem];refine Dj.refl ⟨rfl, ?_⟩;rw[D] at h3;have:=(h3.drop ac).drop ab;simpa using this
theorem Du1 (hG:GX G) (e x:Ex) (o:Nat) (hl:e.l= [x]) (S:e.oper=o) (aa:o<22) (hx:WrC Tryz.prog G 187 [.agg (dEx x)] (Ai x)):WrC Tryz.prog G 263 [.agg (dEx e)] ((Ay o).map Ag++Ap x (Kz e)):=by
 intro B r ts H hB E hw;rw[jC,jK] at E;have U:=lx0 hl;have hfl:=Ak Af e.l;have V:e.l.length=1:=by rw[hl];rfl
 have W:=Ao7 aa;have X:(Dr1.map dW).length=22:=rfl;refine dci Tryz.func263 Tryz.call263 ?_;simp only[go_sem,DVal.cells];intro C I;obtain⟨K,J⟩: ∃K',K'=upd H C (some (.cells (dEx e) 27)):=⟨_,rfl⟩;rw[<-J];have y:=J.symm▸Aa _ _ _;have Y:=J.symm▸hw.frame I _;have L:r≠C:=hw.ne I;have Z:B C=none:=(hw.lo I).1;have D:upd B C (some (.cells (dEx e) 27)) r=none:=by rw[Ah _ _ _ _ L];exact hB
 simp only[go_sem,y];refine(Yw G K e).mono ?_;rintro _ K1 ⟨rfl,rfl⟩;by_cases c:Aw e=2
 ·have M:Kz e=3:=by rw[Kz,if_pos c]
  rw[M] at E⊢
  simp only[go_sem,c];refine An pL5 ?_;simp only[go_sem,y];refine(Lo G K1).mono ?_;rintro _ K2 ⟨rfl,rfl⟩;simp(disch:=omega)only[go_sem,y,S,Ro,W,X,jD];refine(Lq hG (Ay o) _ r _ _ D (by rw[jK];omega) Y).mono ?_;rintro _ H1 ⟨rfl,h1⟩;have O:=h1.keep (Aa _ _ _) L.symm;simp(disch:=omega)only[go_sem,O,V,U,hfl];refine(Dr hG x _ hx _ r _ _ D (by rw[jC,jK];omega) h1).mono ?_;rintro _ H2 ⟨rfl,h2⟩;simp only[go_sem];refine Dj.refl ⟨rfl, ?_⟩;have:=h2.drop Z;rw[jO] at this;exact this
 ·have M:Kz e=5:=by rw[Kz,if_neg c]
  rw[M] at E⊢
  simp only[go_sem,c];refine An pL5 ?_;simp only[go_sem,y];refine(Lo G K1).mono ?_;rintro _ K2 ⟨rfl,rfl⟩;simp(disch:=omega)only[go_sem,y,S,Ro,W,X,jD];refine(Lq hG (Ay o) _ r _ _ D (by rw[jK];omega) Y).mono ?_;rintro _ H1 ⟨rfl,h1⟩;have O:=h1.keep (Aa _ _ _) L.symm;simp(disch:=omega)only[go_sem,O,V,U,hfl];refine(Dr hG x _ hx _ r _ _ D (by rw[jC,jK];omega) h1).mono ?_;rintro _ H2 ⟨rfl,h2⟩;simp only[go_sem];refine Dj.refl ⟨rfl, ?_⟩;have:=h2.drop Z;rw[jO] at this;exact this
theorem Du2 (hG:GX G) (e x y:Ex) (o:Nat) (hl:e.l= [x,y]) (I:e.oper=o) (ai:o<22) (hx:WrC Tryz.prog G 187 [.agg (dEx x)] (Ai x)) (Y:WrC Tryz.prog G 187 [.agg (dEx y)] (Ai y)):
  WrC Tryz.prog G 264 [.agg (dEx e)] (Ap x (Gi e)++((Ay o).map Ag++Ap y (Hx e))):=by
 intro B r ts H hB V hw;rw[jC,jC,jK] at V;have Z:=lx0 hl;have aa:=lx1 hl;have hfl:=Ak Af e.l;have J:e.l.length=2:=by rw[hl];rfl
 have ab:=Ao7 ai;have ac:(Dr1.map dW).length=22:=rfl;have al:=Rf e;have g0:e.l.getD 0 ex0=x:=by rw[hl];rfl
 have ag:(e.l.flatMap dEx)[0]? =some (.int .u8 x.kind):=by rw[hl,List.flatMap_cons,Pc];rfl
 have ah:(e.l.flatMap dEx)[1]? =some (.int .u8 x.oper):=by rw[hl,List.flatMap_cons,Pc];rfl
 refine dci Tryz.func264 Tryz.call264 ?_;simp only[go_sem,DVal.cells];intro W af;dsimp only at af;obtain⟨K,hK⟩: ∃K',K'=upd H W (some (.cells (dEx e) 27)):=⟨_,rfl⟩;rw[<-hK];have X:K W=some (.cells (dEx e) 27):=by rw[hK];exact Aa _ _ _
 have ad:WAt (upd B W (some (.cells (dEx e) 27))) r ts K:=by rw[hK];exact hw.frame af _
 have E:r≠W:=hw.ne af;have ae:B W=none:=(hw.lo af).1;have C:upd B W (some (.cells (dEx e) 27)) r=none:=by rw[Ah _ _ _ _ E];exact hB
 simp only[go_sem,X];refine(Yw G K e).mono ?_;rintro _ K1 ⟨rfl,rfl⟩;have aj:IntKind.i64.wrap (Aw e+1)=Aw e+1:=by rw[IntKind.wrap_i64];omega
 by_cases L:Aw e=1
 ·have M:Gi e=2:=by rw[Gi,if_pos L]
  have U:Hx e=2:=by rw[Hx,if_pos L]
  rw[M,U] at V⊢
  simp only[go_sem,L];simp(disch:=omega)only[go_sem,X,J,Z,hfl];refine(Dr hG x _ hx _ r _ _ C (by omega) ad).mono ?_;rintro _ H1 ⟨rfl,h1⟩;have D:=h1.keep (Aa _ _ _) E.symm;simp only[go_sem];refine An pL5 ?_;simp only[go_sem,D];refine(Lo G H1).mono ?_;rintro _ K2 ⟨rfl,rfl⟩;simp(disch:=omega)only[go_sem,D,I,Ro,ab,ac,jD];refine(Lq hG (Ay o) _ r _ _ C (by rw[jC,jK];omega) h1).mono ?_;rintro _ H3 ⟨rfl,h3⟩;have O:=h3.keep (Aa _ _ _) E.symm;simp(disch:=omega)only[go_sem,O,J,aa,hfl];refine(Dr hG y _ Y _ r _ _ C (by rw[jC,jC,jK];omega) h3).mono ?_;rintro _ H4 ⟨rfl,h4⟩;simp only[go_sem];refine Dj.refl ⟨rfl, ?_⟩;have:=h4.drop ae;rw[jO,jO] at this;exact this
 ·have U:Hx e=Aw e+1:=by rw[Hx,if_neg L]
  by_cases S:Aw e=0
  ·(have U:Hx e=1:=by rw[Hx,if_neg L,S];rfl);by_cases ck:x.kind=12
   ·by_cases co:x.oper=(o:Int)
    ·(have M:Gi e=0:=by rw[Gi,if_neg L,g0,I,if_neg (by rintro⟨_,a|a⟩;exact a ck;exact a co),S]);rw[M,U] at V⊢
     (have ak: ¬(0:Int)=1:=by decide);simp only[go_sem,S,ak];refine An pL0 ?_;simp only[go_sem,X,J,hfl,ag,ah,ck,co,I];simp(disch:=omega)only[go_sem,Z];refine(Dr hG x _ hx _ r _ _ C (by omega) ad).mono ?_;rintro _ H1 ⟨rfl,h1⟩;have D:=h1.keep (Aa _ _ _) E.symm;simp only[go_sem];refine An pL5 ?_;simp only[go_sem,D];refine(Lo G H1).mono ?_;rintro _ K2 ⟨rfl,rfl⟩;simp(disch:=omega)only[go_sem,D,I,Ro,ab,ac,jD];refine(Lq hG (Ay o) _ r _ _ C (by rw[jC,jK];omega) h1).mono ?_;rintro _ H3 ⟨rfl,h3⟩;have O:=h3.keep (Aa _ _ _) E.symm;simp(disch:=omega)only[go_sem,O,J,aa,hfl];refine(Dr hG y _ Y _ r _ _ C (by rw[jC,jC,jK];omega) h3).mono ?_;rintro _ H4 ⟨rfl,h4⟩;simp only[go_sem];refine Dj.refl ⟨rfl, ?_⟩;have:=h4.drop ae;rw[jO,jO] at this;exact this
    ·(have M:Gi e=1:=by rw[Gi,if_neg L,g0,I,if_pos ⟨S,.inr co⟩]);rw[M,U] at V⊢
     simp only[go_sem,S];refine An pL0 ?_;simp only[go_sem,X,J,hfl,ag,ah,ck,co,I];simp(disch:=omega)only[go_sem,Z];refine(Dr hG x _ hx _ r _ _ C (by omega) ad).mono ?_;rintro _ H1 ⟨rfl,h1⟩;have D:=h1.keep (Aa _ _ _) E.symm;simp only[go_sem];refine An pL5 ?_;simp only[go_sem,D];refine(Lo G H1).mono ?_;rintro _ K2 ⟨rfl,rfl⟩;simp(disch:=omega)only[go_sem,D,I,Ro,ab,ac,jD];refine(Lq hG (Ay o) _ r _ _ C (by rw[jC,jK];omega) h1).mono ?_;rintro _ H3 ⟨rfl,h3⟩;have O:=h3.keep (Aa _ _ _) E.symm;simp(disch:=omega)only[go_sem,O,J,aa,hfl];refine(Dr hG y _ Y _ r _ _ C (by rw[jC,jC,jK];omega) h3).mono ?_;rintro _ H4 ⟨rfl,h4⟩;simp only[go_sem];refine Dj.refl ⟨rfl, ?_⟩;have:=h4.drop ae;rw[jO,jO] at this;exact this
   ·(have M:Gi e=1:=by rw[Gi,if_neg L,g0,I,if_pos ⟨S,.inl ck⟩]);rw[M,U] at V⊢
    simp only[go_sem,S];refine An pL0 ?_;simp only[go_sem,X,J,hfl,ag,ck];simp(disch:=omega)only[go_sem,Z];refine(Dr hG x _ hx _ r _ _ C (by omega) ad).mono ?_;rintro _ H1 ⟨rfl,h1⟩;have D:=h1.keep (Aa _ _ _) E.symm;simp only[go_sem];refine An pL5 ?_;simp only[go_sem,D];refine(Lo G H1).mono ?_;rintro _ K2 ⟨rfl,rfl⟩;simp(disch:=omega)only[go_sem,D,I,Ro,ab,ac,jD];refine(Lq hG (Ay o) _ r _ _ C (by rw[jC,jK];omega) h1).mono ?_;rintro _ H3 ⟨rfl,h3⟩;have O:=h3.keep (Aa _ _ _) E.symm;simp(disch:=omega)only[go_sem,O,J,aa,hfl];refine(Dr hG y _ Y _ r _ _ C (by rw[jC,jC,jK];omega) h3).mono ?_;rintro _ H4 ⟨rfl,h4⟩;simp only[go_sem];refine Dj.refl ⟨rfl, ?_⟩;have:=h4.drop ae;rw[jO,jO] at this;exact this
  ·(have M:Gi e=Aw e:=by rw[Gi,if_neg L,if_neg (by rintro⟨a,_⟩;exact S a)]);rw[M,U] at V⊢
   simp only[go_sem,L,aj];refine An pL0 ?_;simp only[go_sem,X,J,hfl,S];simp(disch:=omega)only[go_sem,Z];refine(Dr hG x _ hx _ r _ _ C (by omega) ad).mono ?_;rintro _ H1 ⟨rfl,h1⟩;have D:=h1.keep (Aa _ _ _) E.symm;simp only[go_sem];refine An pL5 ?_;simp only[go_sem,D];refine(Lo G H1).mono ?_;rintro _ K2 ⟨rfl,rfl⟩;simp(disch:=omega)only[go_sem,D,I,Ro,ab,ac,jD];refine(Lq hG (Ay o) _ r _ _ C (by rw[jC,jK];omega) h1).mono ?_;rintro _ H3 ⟨rfl,h3⟩;have O:=h3.keep (Aa _ _ _) E.symm;simp(disch:=omega)only[go_sem,O,J,aa,hfl];refine(Dr hG y _ Y _ r _ _ C (by rw[jC,jC,jK];omega) h3).mono ?_;rintro _ H4 ⟨rfl,h4⟩;simp only[go_sem];refine Dj.refl ⟨rfl, ?_⟩;have:=h4.drop ae;rw[jO,jO] at this;exact this
theorem Av4 (hG:GX G) (e x:Ex) (ws:List (List UInt8)) (hl:(∃y z,e.l= [x,y,z])\/ ∃y,e.l= [x,y]) (hp: ∀y∈e.l,WrC Tryz.prog G 187 [.agg (dEx y)] (Ai y)):
  WrC Tryz.prog G 265 [.agg (dEx e),dW ws] (Ap x 2++(ws.map Ag++Jy e)):=by
 intro B r ts H Y J hw;rw[jC,jC,jK] at J;have hx:WrC Tryz.prog G 187 [.agg (dEx x)] (Ai x):=hp x (by rcases hl with⟨y,z,hl⟩|⟨y,hl⟩<;>(rw[hl];simp));have U:(e.l.flatMap dEx).take 9=dEx x:=by rcases hl with⟨y,z,hl⟩|⟨y,hl⟩<;>exact lx0 hl
 have hfl:=Ak Af e.l;refine dci Tryz.func265 Tryz.call265 ?_;simp only[go_sem,DVal.cells];intro D L;obtain⟨K,M⟩: ∃K',K'=upd H D (some (.cells (dEx e) 27)):=⟨_,rfl⟩;rw[<-M];have V:=M.symm▸Aa _ _ _;have W:=M.symm▸hw.frame L _;have O:r≠D:=hw.ne L;have X:B D=none:=(hw.lo L).1;have C:upd B D (some (.cells (dEx e) 27)) r=none:=by rw[Ah _ _ _ _ O];exact Y
 rcases hl with⟨y,z,hl⟩|⟨y,hl⟩
 ·have E:e.l.length=3:=by rw[hl];rfl
  have S:=lx1 hl;have Z:=lx2 hl;have ht:Jy e=Ap y 2++Ag Et::Ap z 2:=by unfold Jy pE tE;rw[hl];rfl
  rw[ht] at J⊢
  simp(disch:=omega)only[go_sem,V,U,hfl];refine(Dr hG x _ hx _ r _ _ C (by omega) W).mono ?_;rintro _ H1 ⟨rfl,h1⟩;simp only[go_sem];refine(Lq hG ws _ r _ _ C (by rw[jC,jK];omega) h1).mono ?_;rintro _ H2 ⟨rfl,h2⟩;have I:=h2.keep (Aa _ _ _) O.symm;simp only[go_sem,I,E];refine An pL11 ?_;simp(disch:=omega)only[go_sem,I,E,S,Z,hfl];refine(Av3 hG y z (hp y (by rw[hl];simp)) (hp z (by rw[hl];simp)) _ r _ _ C (by rw[jC,jC,jK];omega) h2).mono ?_;rintro _ H4 ⟨rfl,h4⟩;simp only[go_sem];refine Dj.refl ⟨rfl, ?_⟩;have:=h4.drop X;rw[jO,jO] at this;exact this
 ·have E:e.l.length=2:=by rw[hl];rfl
  have S:=lx1 hl;have ht:Jy e=Ai y:=by unfold Jy pE tE;rw[hl];rfl
  rw[ht] at J⊢
  simp(disch:=omega)only[go_sem,V,U,hfl];refine(Dr hG x _ hx _ r _ _ C (by omega) W).mono ?_;rintro _ H1 ⟨rfl,h1⟩;simp only[go_sem];refine(Lq hG ws _ r _ _ C (by rw[jC,jK];omega) h1).mono ?_;rintro _ H2 ⟨rfl,h2⟩;have I:=h2.keep (Aa _ _ _) O.symm;simp(disch:=omega)only[go_sem,I,E,S,hfl];refine(hp y (by rw[hl];simp) _ r _ _ C (by rw[jC,jC,jK];omega) h2).mono ?_;rintro _ H4 ⟨rfl,h4⟩;simp only[go_sem];refine Dj.refl ⟨rfl, ?_⟩;have:=h4.drop X;rw[jO,jO] at this;exact this
theorem Av5 (hG:GX G) (c:Ch) {n:Nat} (C:Cv n c=true) (hp: ∀y∈c.l,WrC Tryz.prog G 187 [.agg (dEx y)] (Ai y)):WrC Tryz.prog G 275 [.agg (dCh c)] (Da c):=by
 intro B r ts H X E hw;have hfl:=Ak Af c.l;unfold Cv at C;refine dci Tryz.func275 Tryz.call275 ?_;simp only[go_sem,DVal.cells];intro J M;obtain⟨K,O⟩: ∃K',K'=upd H J (some (.cells (dCh c) 47)):=⟨_,rfl⟩;rw[<-O];have L:=O.symm▸Aa _ _ _;have S:=O.symm▸hw.frame M _;have Y:r≠J:=hw.ne M;have U:B J=none:=(hw.lo M).1;have V:upd B J (some (.cells (dCh c) 47)) r=none:=by rw[Ah _ _ _ _ Y];exact X
 by_cases D:c.kind=1
 ·rw[if_pos D,decide_eq_true_eq] at C;obtain⟨x,hx⟩:=Fo8 C;have W:=lx0 hx;have ht:Da c=Ai x:=by rw[Ng,if_pos D,hx];rfl
  rw[ht] at E⊢
  simp(disch:=omega)only[go_sem,L,D,C,W,hfl];refine(hp x (by rw[hx];simp) _ r _ _ V E S).mono ?_;rintro _ Z ⟨rfl,h4⟩;simp only[go_sem];exact Dj.refl ⟨rfl,h4.drop U⟩
 ·rw[if_neg D] at C;by_cases I:c.kind=2
  ·rw[if_pos I,decide_eq_true_eq] at C;obtain⟨x,y,hx⟩:=Et7 C;have W:=lx0 hx;have aa:=lx1 hx;(have ht:Da c=Ap x 2++Ag Et::Ap y 2:=by rw[Ng,if_neg D,if_pos I,hx];rfl);rw[ht] at E⊢
   simp(disch:=omega)only[go_sem,L,I];refine An pL11 ?_;simp(disch:=omega)only[go_sem,L,C,W,aa,hfl];refine(Av3 hG x y (hp x (by rw[hx];simp)) (hp y (by rw[hx];simp)) _ r _ _ V E S).mono ?_;rintro _ Z ⟨rfl,h4⟩;simp only[go_sem];exact Dj.refl ⟨rfl,h4.drop U⟩
  ·(have ht:Da c= [Ag La]:=by rw[Ng,if_neg D,if_neg I]);rw[ht] at E⊢
   simp only[go_sem,L,D,I];intro q1 ab;simp only[go_sem];refine(Ut hG La ab V E S).mono ?_;rintro _ H1 ⟨rfl,h1⟩;simp only[go_sem];exact Dj.refl ⟨rfl,h1.drop U⟩
end
theorem Qc {α:Type} {l:List α} {j:Nat} (h:j<l.length):l.take (j+1)=l.take j++ [l[j]]:=by rw[List.take_add_one,List.getElem?_eq_getElem h];rfl
theorem Bd4 {α:Type} (g:α->List Tok) (s:List UInt8) (l:List α) (j:Nat) (h:j<l.length):Dw s ((l.take (j+1)).map g)=Dw s ((l.take j).map g)++((if j=0 then [] else [Ag s])++g l[j]):=by
 rw[Qc h,List.map_append,List.map_singleton];by_cases c:j=0
 ·subst c;simp [Dw]
 ·rw[Xa s _ _ (by cases l with
   |nil=>simp at h
   |cons x l=>cases j with
    |zero=>exact absurd rfl c
    |succ j=>simp),if_neg c];rfl
theorem Ch9 {α:Type} (g:α->List Tok) (s:List UInt8) (l:List α): ∀(n j:Nat),j+n<=l.length->(Dw s ((l.take j).map g)).length<=(Dw s ((l.take (j+n)).map g)).length
 | 0,j,_=>Nat.le_refl _
 |n+1,j,h=>by
  rw[<-Nat.add_assoc,Bd4 g s l (j+n) (by omega),jC];have:=Ch9 g s l n j (by omega);omega
theorem Ef1 {α:Type} (g:α->List Tok) (s:List UInt8) (l:List α) (j:Nat) (h:j<=l.length):(Dw s ((l.take j).map g)).length<=(Dw s (l.map g)).length:=by
 have:=Ch9 g s l (l.length-j) j (by omega);rw[Nat.add_sub_cancel' h,List.take_length] at this;exact this
section
variable {G:Nat->DVal}
theorem Bi4 (hG:GX G) (l:List Ch) (s:List UInt8) (aj:l.length<=1000000000) (hp: ∀c∈l,WrC Tryz.prog G 275 [.agg (dCh c)] (Da c)) (B:Ab) (r:Nat) (ts:List Tok) (H:Ab) (hB:B r=none) (ak:ts.length+(Dw s (l.map Da)).length<=1000000000) (hw:WAt B r ts H):
  Ad Tryz.prog G 274 [.optr r 0,dCl l,.str s,.func (.func 275) [.optr r 0] []] H (WQ B r (ts++Dw s (l.map Da))):=by
 refine dci Tryz.func274 Tryz.call274 ?_;simp only[go_sem,dCl];obtain⟨I,D⟩: ∃I:Nat->(Nat->DVal)->Ab->Prop,∀j env heap,I j env heap↔(env 0= .optr r 0/\env 2= .str s/\env 3= .func (.func 275) [.optr r 0] []/\env 10=dCl l/\env 11=dI l.length/\env 12=dI j/\j<=l.length/\WAt B r (ts++Dw s ((l.take j).map Da)) heap):=⟨_,λ_ _ _=>Iff.rfl⟩;refine Ea9.run I (λj=>l.length-j) 0 ((D _ _ _).2 ?_) ?_
 ·simp only[go_sem];(repeat' apply And.intro)<;>(try first|rfl|assumption|omega);simpa [Dw] using hw
 ·intro j env heap hi;obtain⟨S,U,E,V,J,L,hj,C⟩:=(D _ _ _).1 hi;by_cases M:j<l.length
  ·(have W:(j:Int)<(l.length:Int):=by omega);(have aa:IntKind.i64.wrap ((j:Int)+1)=((j+1:Nat):Int):=by rw[IntKind.wrap_i64];omega);have ab:=Bh Cn l j M;have hfl:=Ak Cn l;have y:=Bd4 Da s l j M;have hle:=Ef1 Da s l (j+1) M;have hpc:=hp l[j] (List.getElem_mem M);obtain⟨c,af⟩: ∃c,c=l[j]:=⟨_,rfl⟩;rw[<-af] at ab y hpc;rw[y,jC,jC] at hle;simp(disch:=omega)only[go_sem,V,J,L,W,dCl,ab,hfl,jD];intro O X;simp only[go_sem];obtain⟨K,Y⟩: ∃K',K'=upd heap O (some (.cells (dCh c) 47)):=⟨_,rfl⟩;rw[<-Y];have ag:=Y.symm▸Aa _ _ _;have ac:=Y.symm▸C.frame X _;have n9:r≠O:=C.ne X;have ad:B O=none:=(C.lo X).1;(have Z:upd B O (some (.cells (dCh c) 47)) r=none:=by rw[Ah _ _ _ _ n9];exact hB);by_cases c0:j=0
   ·(have ah: ¬(j:Int)>0:=by omega);(have ae: ¬(0:Int)<(j:Int):=by omega);rw[if_pos c0] at y hle;simp only[go_sem,E,ag,ah];refine(hpc _ r _ _ Z (by rw[jC];simp only[jB] at hle;omega) ac).mono ?_;rintro _ H2 ⟨rfl,h2⟩;simp only[go_sem,L];refine⟨j+1,_,Rn.refl _,(D _ _ _).2 ?_,by omega⟩;simp only[go_sem,S,U,E,V,J,aa];(repeat' apply And.intro)<;>(try first|rfl|assumption|omega);have:=h2.drop ad;rw[y,jG,<-jO];exact this
   ·(have ae:(0:Int)<(j:Int):=by omega);rw[if_neg c0] at y hle;simp only[jQ] at hle;simp only[go_sem,S,U,ae];intro q1 ai;simp only[go_sem];refine(Ut hG s ai Z (by rw[jC];omega) ac).mono ?_;rintro _ H1 ⟨rfl,h1⟩;have g1:=h1.keep (Aa _ _ _) n9.symm;simp only[go_sem,E,g1];refine(hpc _ r _ _ Z (by rw[jC,jC,jQ];omega) h1).mono ?_;rintro _ H2 ⟨rfl,h2⟩;simp only[go_sem,L];refine⟨j+1,_,Rn.refl _,(D _ _ _).2 ?_,by omega⟩;simp only[go_sem,S,U,E,V,J,aa];(repeat' apply And.intro)<;>(try first|rfl|assumption|omega);have:=h2.drop ad;rw[y,<-jO,<-jO];exact this
  ·(have:j=l.length:=by omega);subst this;(have W: ¬(l.length:Int)<(l.length:Int):=by omega);rw[List.take_length] at C;simp only[go_sem,J,L,W];exact Dj.refl ⟨rfl,C⟩
theorem Bi5 (hG:GX G) (l:List As) (s:List UInt8) (aj:l.length<=1000000000) (hp: ∀c∈l,WrC Tryz.prog G 262 [.agg (dAs c)] (Hl c)) (B:Ab) (r:Nat) (ts:List Tok) (H:Ab) (hB:B r=none) (ak:ts.length+(Dw s (l.map Hl)).length<=1000000000) (hw:WAt B r ts H):
  Ad Tryz.prog G 261 [.optr r 0,dAl l,.str s,.func (.func 262) [.optr r 0] []] H (WQ B r (ts++Dw s (l.map Hl))):=by
 refine dci Tryz.func261 Tryz.call261 ?_;simp only[go_sem,dAl];obtain⟨I,D⟩: ∃I:Nat->(Nat->DVal)->Ab->Prop,∀j env heap,I j env heap↔(env 0= .optr r 0/\env 2= .str s/\env 3= .func (.func 262) [.optr r 0] []/\env 10=dAl l/\env 11=dI l.length/\env 12=dI j/\j<=l.length/\WAt B r (ts++Dw s ((l.take j).map Hl)) heap):=⟨_,λ_ _ _=>Iff.rfl⟩;refine Ea9.run I (λj=>l.length-j) 0 ((D _ _ _).2 ?_) ?_
 ·simp only[go_sem];(repeat' apply And.intro)<;>(try first|rfl|assumption|omega);simpa [Dw] using hw
 ·intro j env heap hi;obtain⟨S,U,E,V,J,L,hj,C⟩:=(D _ _ _).1 hi;by_cases M:j<l.length
  ·(have W:(j:Int)<(l.length:Int):=by omega);(have aa:IntKind.i64.wrap ((j:Int)+1)=((j+1:Nat):Int):=by rw[IntKind.wrap_i64];omega);have ab:=Bh Cm l j M;have hfl:=Ak Cm l;have y:=Bd4 Hl s l j M;have hle:=Ef1 Hl s l (j+1) M;have hpc:=hp l[j] (List.getElem_mem M);obtain⟨c,af⟩: ∃c,c=l[j]:=⟨_,rfl⟩;rw[<-af] at ab y hpc;rw[y,jC,jC] at hle;simp(disch:=omega)only[go_sem,V,J,L,W,dAl,ab,hfl,jD];intro O X;simp only[go_sem];obtain⟨K,Y⟩: ∃K',K'=upd heap O (some (.cells (dAs c) 44)):=⟨_,rfl⟩;rw[<-Y];have ag:=Y.symm▸Aa _ _ _;have ac:=Y.symm▸C.frame X _;have n9:r≠O:=C.ne X;have ad:B O=none:=(C.lo X).1;(have Z:upd B O (some (.cells (dAs c) 44)) r=none:=by rw[Ah _ _ _ _ n9];exact hB);by_cases c0:j=0
   ·(have ah: ¬(j:Int)>0:=by omega);(have ae: ¬(0:Int)<(j:Int):=by omega);rw[if_pos c0] at y hle;simp only[go_sem,E,ag,ah];refine(hpc _ r _ _ Z (by rw[jC];simp only[jB] at hle;omega) ac).mono ?_;rintro _ H2 ⟨rfl,h2⟩;simp only[go_sem,L];refine⟨j+1,_,Rn.refl _,(D _ _ _).2 ?_,by omega⟩;simp only[go_sem,S,U,E,V,J,aa];(repeat' apply And.intro)<;>(try first|rfl|assumption|omega);have:=h2.drop ad;rw[y,jG,<-jO];exact this
   ·(have ae:(0:Int)<(j:Int):=by omega);rw[if_neg c0] at y hle;simp only[jQ] at hle;simp only[go_sem,S,U,ae];intro q1 ai;simp only[go_sem];refine(Ut hG s ai Z (by rw[jC];omega) ac).mono ?_;rintro _ H1 ⟨rfl,h1⟩;have g1:=h1.keep (Aa _ _ _) n9.symm;simp only[go_sem,E,g1];refine(hpc _ r _ _ Z (by rw[jC,jC,jQ];omega) h1).mono ?_;rintro _ H2 ⟨rfl,h2⟩;simp only[go_sem,L];refine⟨j+1,_,Rn.refl _,(D _ _ _).2 ?_,by omega⟩;simp only[go_sem,S,U,E,V,J,aa];(repeat' apply And.intro)<;>(try first|rfl|assumption|omega);have:=h2.drop ad;rw[y,<-jO,<-jO];exact this
  ·(have:j=l.length:=by omega);subst this;(have W: ¬(l.length:Int)<(l.length:Int):=by omega);rw[List.take_length] at C;simp only[go_sem,J,L,W];exact Dj.refl ⟨rfl,C⟩
end
section
variable {G:Nat->DVal}
theorem Bi6 (hG:GX G) (a:As) (D:a.c= []\/(a.c.length<=1000000000/\ ∃n,∀c∈a.c,Cv n c=true)) (hp: ∀y∈Ct a,WrC Tryz.prog G 187 [.agg (dEx y)] (Ai y)):WrC Tryz.prog G 262 [.agg (dAs a)] (Hl a):=by
 intro B r ts H X E hw;have he:=hp a.e (Mh a);have O:((dAs a).drop 1).take 9=dEx a.e:=by rw[An8,jE,jJ,List.take_of_length_le (by rw[Af];omega)]
 refine dci Tryz.func262 Tryz.call262 ?_;simp only[go_sem,DVal.cells];intro I L;obtain⟨K,M⟩: ∃K',K'=upd H I (some (.cells (dAs a) 44)):=⟨_,rfl⟩;rw[<-M];have S:=M.symm▸Aa _ _ _;have U:=M.symm▸hw.frame L _;have V:r≠I:=hw.ne L;have W:B I=none:=(hw.lo L).1;have J:upd B I (some (.cells (dAs a) 44)) r=none:=by rw[Ah _ _ _ _ V];exact X
 by_cases C:a.c= []
 ·have ht:Hl a=Ai a.e:=by rw[Rc,C];rfl
  have Y:a.c.length=0:=by rw[C];rfl
  have Z: ¬(0:Int)<((0:Nat):Int):=by omega
  rw[ht] at E⊢
  simp only[go_sem,S,Y,Z,O];refine(he _ r _ _ J E U).mono ?_;rintro _ H1 ⟨rfl,h1⟩;simp only[go_sem];exact Dj.refl ⟨rfl,h1.drop W⟩
 ·obtain⟨aa,n,ab⟩:=D.resolve_left C;have ae:0<a.c.length:=List.length_pos_iff.2 C;have ac:(0:Int)<(a.c.length:Int):=by omega
  have ht:Hl a=Dw Gp (a.c.map Da)++Ag Bp::Ai a.e:=by
   rw[Rc,if_neg];simpa using C
  rw[ht] at E⊢
  rw[jC,jA] at E;simp only[go_sem,S,ac];refine(Bi4 hG a.c Gp aa (λc D=>Av5 hG c (ab c D) λy hy=>hp y (Sg D hy)) _ r _ _ J (by omega) U).mono ?_;rintro _ H1 ⟨rfl,h1⟩;simp only[go_sem];intro q1 ad;simp only[go_sem];refine(Ut hG Bp ad J (by rw[jC];omega) h1).mono ?_;rintro _ H2 ⟨rfl,h2⟩;have g2:=h2.keep (Aa _ _ _) V.symm;simp only[go_sem,g2,O];refine(he _ r _ _ J (by rw[jC,jC,jQ];omega) h2).mono ?_;rintro _ H3 ⟨rfl,h3⟩;simp only[go_sem];refine Dj.refl ⟨rfl, ?_⟩;have:=h3.drop W;rw[jO,jO] at this;exact this
theorem Cq7 {a:As} (h:(a.c.isEmpty || Ce a.c)=true):a.c= []\/(a.c.length<=1000000000/\ ∃n,∀c∈a.c,Cv n c=true):=by
 cases hc:a.c with
 |nil=>exact .inl rfl
 |cons c r=>
  rw[hc] at h;cases r with
  |nil=>
   simp only[Ce,List.isEmpty_cons,Bool.false_or,jF,decide_eq_true_eq] at h;refine .inr ⟨by simp,1,λd hd=> ?_⟩;rw[List.mem_singleton] at hd;subst hd;rw[Cv,if_pos h.1,decide_eq_true_eq]
   match hl:d.l with
   | [x]=>rfl
   | []=>rw[hl] at h;cases h.2
   |_::_::_=>rw[hl] at h;cases h.2
  |cons d r=>simp [Ce] at h
theorem De6 {a:As} (h:(a.c.isEmpty || Cl a.c)=true):a.c= []\/(a.c.length<=1000000000/\ ∃n,∀c∈a.c,Cv n c=true):=by
 cases hc:a.c with
 |nil=>exact .inl rfl
 |cons c r=>
  rw[hc] at h;simp only[List.isEmpty_cons,Bool.false_or,Cl,jF,decide_eq_true_eq,List.all_eq_true] at h;exact .inr ⟨by omega,_,h.2⟩
def ifT (x y z:Ex):Nat->List Tok
 | 0=> []
 | 1=>Ag Bc::Ag wIf::Ai x
 | 2=>Ag Bc::Ag wIf::(Ai x++Ag Pp::Ai y)
 |_=>Ag Bc::Ag wIf::(Ai x++Ag Pp::(Ai y++Ag Qv::Ai z))
theorem Du3 (hG:GX G) (e:Ex) (hf:Ax e=true) (ih: ∀x∈parts e,WrC Tryz.prog G 187 [.agg (dEx x)] (Ai x)):WrC Tryz.prog G 187 [.agg (dEx e)] (Ai e):=by
 intro B r ts H hB D hw;have hfl:=Ak Af e.l;refine dci Tryz.func187 Tryz.call187 ?_;simp only[go_sem,DVal.cells];intro r3 ak;obtain⟨K,hK⟩: ∃K',K'=upd H r3 (some (.cells (dEx e) 27)):=⟨_,rfl⟩;rw[<-hK];have U:=hK.symm▸Aa _ _ _;have S:=hK.symm▸hw.frame ak _;have M:r≠r3:=hw.ne ak;have V:B r3=none:=(hw.lo ak).1;have E:upd B r3 (some (.cells (dEx e) 27)) r=none:=by rw[Ah _ _ _ _ M];exact hB
 simp only[go_sem,U];refine(Vk G _ e).mono ?_;rintro _ K1 ⟨rfl,rfl⟩;by_cases hk:e.kind=1
 ·have hnm:Bn e=false:=by cases h:Bn e with|false=>rfl|true=>exact(Tz (by omega) h).elim
  rw[Fm3 hk] at D⊢
  rw[hnm];simp only[go_sem,U,hk];refine An (.take 0 (.take 1 (.take 2 (.take 3 (.take 4 (.take 5 (.take 6 (.take 7 (.go 8 [4] (.go 9 [] (.take 10 (.take 11 (.go 12 [] .done))))))))))))) ?_;obtain⟨v,hv⟩:=S;have gr:=hv.keep (Aa _ _ _);simp only[go_sem,U,gr];intro r6 ap;have n6:r≠r6:=Ac ap gr;have ay:=hv.new ap (some (.cells (Cu (Dd4 e.n)) 31));simp only[go_sem,gr,n6];refine Ik.append (m:=1) ay rfl (by rw[jQ] at D;omega) λv2 H6 al=> ?_;have g6:=al.keep (Aa _ _ _);obtain⟨j1,j2⟩:=al.cell1;simp only[go_sem,g6,j1,j2];have h7:WAt (upd B r3 (some (.cells (dEx e) 27))) r (ts++ [Dd4 e.n]) (upd H6 r (some (.cells [v2] 241))):=by
   refine⟨v2, ?_⟩;have aq:=al.at (Aa _ _ _) (some (.cells [v2] 241));rw[Gt] at aq;rw[Hu,jC,jQ];exact aq
  exact Dj.refl ⟨rfl,h7.drop V⟩
 have z1:=hk;clear hk;by_cases hk:e.kind=2
 ·have hnm:Bn e=false:=by cases h:Bn e with|false=>rfl|true=>exact(Tz (by omega) h).elim
  rw[Fm4 hk] at D⊢
  rw[hnm];simp(disch:=omega)only[go_sem,U,hk];intro Y J;simp only[go_sem];refine(Ut hG Gg J E (by(try simp only[jC,jA,jB,jK]);omega) S).mono ?_;rintro _ H1 ⟨rfl,h1⟩;have W:=h1.keep (Aa _ _ _) M.symm;simp only[go_sem];refine Dj.refl ⟨rfl, ?_⟩;have:=h1.drop V
  (try simp only[jO,jI,jG] at this⊢)
  exact this
 have z2:=hk;clear hk;by_cases hk:e.kind=3
 ·have hnm:Bn e=true:=Ty (by omega);rw[Dd6 hk] at D⊢
  rw[hnm];simp(disch:=omega)only[go_sem,U,hk];refine(Ap0 G e.s _ r _ _ E D S).mono ?_;rintro _ H1 ⟨rfl,h1⟩;simp only[go_sem];refine Dj.refl ⟨rfl, ?_⟩;have:=h1.drop V
  (try simp only[jO,jI,jG] at this⊢)
  exact this
 have z3:=hk;clear hk;by_cases hk:e.kind=4
 ·obtain⟨⟨x,hx,_⟩,_⟩:=Dt9 (.inl hk) hf;have ht:Ai e=Ai x++ [Ag Ju,Eg e.s]:=by rw[Ee3 hk];unfold tE;rw[hx];rfl
  rw[ht,jC] at D;rw[ht];simp only[jA,jB] at D;have O:e.l.length=1:=by rw[hx];rfl
  have aa:=lx0 hx;have hnm:Bn e=true:=Ty (by omega);rw[hnm];simp(disch:=omega)only[go_sem,U,hk,O,hfl,aa];refine(ih x (Ba (by rw[hx];simp)) _ r _ _ E (by omega) S).mono ?_;rintro _ H1 ⟨rfl,h1⟩;have W:=h1.keep (Aa _ _ _) M.symm;simp(disch:=omega)only[go_sem,W,hk];intro Y J;simp only[go_sem];refine(Ut hG Ju J E (by(try simp only[jC]);omega) h1).mono ?_;rintro _ H2 ⟨rfl,h2⟩;have X:=h2.keep (Aa _ _ _) M.symm;simp only[go_sem,X];refine(Ap0 G e.s _ r _ _ E (by(try simp only[jC,jA,jB]);omega) h2).mono ?_;rintro _ H3 ⟨rfl,h3⟩;simp only[go_sem];refine Dj.refl ⟨rfl, ?_⟩;have:=h3.drop V
  (try simp only[jO,jI,jG] at this⊢)
  exact this
 by_cases hk:e.kind=5
 ·obtain⟨⟨x,hx,_⟩,_⟩:=ff5 hk hf;have ht:Ai e=Ai x++ [Ag Ju,Ag Ae1]:=by rw[Fm5 hk];unfold tE;rw[hx];rfl
  rw[ht,jC] at D;rw[ht];simp only[jA,jB] at D;have O:e.l.length=1:=by rw[hx];rfl
  have aa:=lx0 hx;have hnm:Bn e=true:=Ty (by omega);rw[hnm];simp(disch:=omega)only[go_sem,U,hk,O,hfl,aa];refine(ih x (Ba (by rw[hx];simp)) _ r _ _ E (by omega) S).mono ?_;rintro _ H1 ⟨rfl,h1⟩;have W:=h1.keep (Aa _ _ _) M.symm;simp(disch:=omega)only[go_sem,W,hk];intro Y J;simp only[go_sem];refine(Hi3 hG Ju Ae1 J E (by(try simp only[jC]);omega) h1).mono ?_;rintro _ H2 ⟨rfl,h2⟩;simp only[go_sem];refine Dj.refl ⟨rfl, ?_⟩;have:=h2.drop V
  (try simp only[jO] at this⊢)
  exact this
 have z5:=hk;clear hk;by_cases hk:e.kind=6
 ·obtain⟨⟨x,hx,_⟩,_⟩:=Dt9 (.inr hk) hf;have ht:Ai e=Ai x++ [Ag Iy,Eg e.s]:=by rw[Fm6 hk];unfold tE;rw[hx];rfl
  rw[ht,jC] at D;rw[ht];simp only[jA,jB] at D;have O:e.l.length=1:=by rw[hx];rfl
  have aa:=lx0 hx;have hnm:Bn e=true:=Ty (by omega);rw[hnm];simp(disch:=omega)only[go_sem,U,hk,O,hfl,aa];refine(ih x (Ba (by rw[hx];simp)) _ r _ _ E (by omega) S).mono ?_;rintro _ H1 ⟨rfl,h1⟩;have W:=h1.keep (Aa _ _ _) M.symm;simp(disch:=omega)only[go_sem,W,hk];intro Y J;simp only[go_sem];refine(Ut hG Iy J E (by(try simp only[jC]);omega) h1).mono ?_;rintro _ H2 ⟨rfl,h2⟩;have X:=h2.keep (Aa _ _ _) M.symm;simp only[go_sem,X];refine(Ap0 G e.s _ r _ _ E (by(try simp only[jC,jA,jB]);omega) h2).mono ?_;rintro _ H3 ⟨rfl,h3⟩;simp only[go_sem];refine Dj.refl ⟨rfl, ?_⟩;have:=h3.drop V
  (try simp only[jO,jI,jG] at this⊢)
  exact this
 by_cases hk:e.kind=7
 ·obtain⟨⟨x,hx,_⟩,ha,_⟩:=ff7 hk hf;have ht:Ai e=Ai x++Ag Bc::(taE e++ [Ag Bs]):=by rw[Fm7 hk];unfold tE;rw[hx];rfl
  rw[ht,jC,jA,jC] at D;rw[ht];simp only[jA,jB,taE] at D;unfold taE;have O:e.l.length=1:=by rw[hx];rfl
  rw[Jn,jF,jF,jF,decide_eq_true_eq,decide_eq_true_eq,List.all_eq_true] at ha;have aa:=lx0 hx;have hnm:Bn e=true:=Ty (by omega);rw[hnm];simp(disch:=omega)only[go_sem,U,hk,O,hfl,aa];refine(ih x (Ba (by rw[hx];simp)) _ r _ _ E (by omega) S).mono ?_;rintro _ H1 ⟨rfl,h1⟩;have W:=h1.keep (Aa _ _ _) M.symm;simp(disch:=omega)only[go_sem,W,hk];intro Y J;simp only[go_sem];refine(Ut hG Bc J E (by(try simp only[jC]);omega) h1).mono ?_;rintro _ H2 ⟨rfl,h2⟩;have X:=h2.keep (Aa _ _ _) M.symm;simp only[go_sem,X];refine(Bi5 hG e.a Dm (by omega) (λa ah=>Bi6 hG a (Cq7 (ha.2 a ah)) λy hy=>ih y (Lk ah hy)) _ r _ _ E (by(try simp only[jC,jA,jB]);omega) h2).mono ?_;rintro _ H3 ⟨rfl,h3⟩;simp only[go_sem];intro q2 am;simp only[go_sem];refine(Ut hG Bs am E (by(try simp only[jC,jA,jB]);omega) h3).mono ?_;rintro _ H4 ⟨rfl,h4⟩;have g4:=h4.keep (Aa _ _ _) M.symm;simp only[go_sem];refine Dj.refl ⟨rfl, ?_⟩;have:=h4.drop V
  (try simp only[jO,jI,jG] at this⊢)
  exact this
 have z7:=hk;clear hk;by_cases hk:e.kind=8
 ·obtain⟨⟨x,y,hx,_⟩,_⟩:=ff8 hk hf;have ht:Ai e=Ai x++Ag Iy::Wz (!Rb y.kind) (Ai y):=by rw[Fm8 hk];unfold tE;rw[hx];rfl
  rw[ht,jC,jA] at D;rw[ht];have O:e.l.length=2:=by rw[hx];rfl
  have ai:=lx1 hx;have ao:(e.l.flatMap dEx)[9]? =some (.int .u8 y.kind):=by
   rw[hx,List.flatMap_cons,List.flatMap_cons,Pc x,Pc y];rfl
  have ba:=Rf y;have aa:=lx0 hx;have hnm:Bn e=true:=Ty (by omega);rw[hnm];simp(disch:=omega)only[go_sem,U,hk,O,hfl,aa];refine(ih x (Ba (by rw[hx];simp)) _ r _ _ E (by omega) S).mono ?_;rintro _ H1 ⟨rfl,h1⟩;have W:=h1.keep (Aa _ _ _) M.symm;simp only[go_sem,W,hk];by_cases b9:y.kind=9
  ·(have hb:Wz (!Rb y.kind) (Ai y)=Ap y 0:=by rw[b9,Ap,decide_eq_false (by omega)];rfl);rw[hb] at D⊢
   simp(disch:=omega)only[go_sem,W,O,hfl,ao,b9];intro Y J;dsimp only at J;simp only[go_sem];refine(Ut hG Iy J E (by(try simp only[jC]);omega) h1).mono ?_;rintro _ H2 ⟨rfl,h2⟩;have X:=h2.keep (Aa _ _ _) M.symm;simp(disch:=omega)only[go_sem,X,O,hfl,ai];refine(Dr hG y 0 (ih y (Ba (by rw[hx];simp))) _ r _ _ E (by(try simp only[jC,jA,jB]);omega) h2).mono ?_;rintro _ H3 ⟨rfl,h3⟩;simp only[go_sem];refine Dj.refl ⟨rfl, ?_⟩;have:=h3.drop V
   (try simp only[jO,jI,jG] at this⊢)
   exact this
  ·by_cases aj:y.kind=10
   ·(have hb:Wz (!Rb y.kind) (Ai y)=Ap y 0:=by rw[aj,Ap,decide_eq_false (by omega)];rfl);rw[hb] at D⊢
    simp(disch:=omega)only[go_sem,W,O,hfl,ao,aj];intro Y J;dsimp only at J;simp only[go_sem];refine(Ut hG Iy J E (by(try simp only[jC]);omega) h1).mono ?_;rintro _ H2 ⟨rfl,h2⟩;have X:=h2.keep (Aa _ _ _) M.symm;simp(disch:=omega)only[go_sem,X,O,hfl,ai];refine(Dr hG y 0 (ih y (Ba (by rw[hx];simp))) _ r _ _ E (by(try simp only[jC,jA,jB]);omega) h2).mono ?_;rintro _ H3 ⟨rfl,h3⟩;simp only[go_sem];refine Dj.refl ⟨rfl, ?_⟩;have:=h3.drop V
    (try simp only[jO,jI,jG] at this⊢)
    exact this
   ·(have hb:Wz (!Rb y.kind) (Ai y)=Ap y 6:=by rw[Ap,decide_eq_true (by omega),Rb,decide_eq_false b9,decide_eq_false aj];rfl);rw[hb] at D⊢
    simp(disch:=omega)only[go_sem,W,O,hfl,ao,b9,aj];intro Y J;simp only[go_sem];refine(Ut hG Iy J E (by(try simp only[jC]);omega) h1).mono ?_;rintro _ H2 ⟨rfl,h2⟩;have X:=h2.keep (Aa _ _ _) M.symm;simp(disch:=omega)only[go_sem,X,O,hfl,ai];refine(Dr hG y 6 (ih y (Ba (by rw[hx];simp))) _ r _ _ E (by(try simp only[jC,jA,jB]);omega) h2).mono ?_;rintro _ H3 ⟨rfl,h3⟩;simp only[go_sem];refine Dj.refl ⟨rfl, ?_⟩;have:=h3.drop V
    (try simp only[jO,jI,jG] at this⊢)
    exact this
 have z8:=hk;clear hk;by_cases hk:e.kind=9
 ·obtain⟨hx,ha,_⟩:=ff9 hk hf;have ht:Ai e=Ag Bc::(taE e++ [Ag Bs]):=Ee4 hk;rw[ht,jA,jC] at D;rw[ht];simp only[jA,jB,taE] at D;unfold taE;have hnm:Bn e=false:=by cases h:Bn e with|false=>rfl|true=>exact(Tz (by omega) h).elim
  rw[hnm];rw[Fx] at ha;simp only[jF,decide_eq_true_eq,Bool.not_eq_true'] at ha;simp(disch:=omega)only[go_sem,U,hk];intro Y J;simp only[go_sem];refine(Ut hG Bc J E (by(try simp only[jC,jA,jB,jK]);omega) S).mono ?_;rintro _ H2 ⟨rfl,h2⟩;have X:=h2.keep (Aa _ _ _) M.symm;simp only[go_sem,X];refine(Bi5 hG e.a Dm (by omega) (λa ah=>Bi6 hG a (De6 (Si ha.2 a ah)) λy hy=>ih y (Lk ah hy)) _ r _ _ E (by(try simp only[jC,jA,jB]);omega) h2).mono ?_;rintro _ H3 ⟨rfl,h3⟩;simp only[go_sem];intro q2 am;simp only[go_sem];refine(Ut hG Bs am E (by(try simp only[jC,jA,jB]);omega) h3).mono ?_;rintro _ H4 ⟨rfl,h4⟩;simp only[go_sem];refine Dj.refl ⟨rfl, ?_⟩;have:=h4.drop V
  (try simp only[jO,jI,jG] at this⊢)
  exact this
 have z9:=hk;clear hk;by_cases hk:e.kind=10
 ·obtain⟨⟨x,y,z,hx⟩,_⟩:=Gw2 hk hf;have ht:Ai e=ifT x y z 3++ [Ag Bs]:=by rw[Cp6 hk];unfold tE;rw[hx];simp [ifT]
  have ae:(ifT x y z 1).length<=(ifT x y z 3).length/\(ifT x y z 2).length<=(ifT x y z 3).length:=by
   simp only[ifT,jA,jC];omega
  rw[ht,jC,jQ] at D;rw[ht];have O:e.l.length=3:=by rw[hx];rfl
  have a0:=lx0 hx;have ai:=lx1 hx;have a1:=lx2 hx;have hnm:Bn e=false:=by cases h:Bn e with|false=>rfl|true=>exact(Tz (by omega) h).elim
  rw[hnm];simp(disch:=omega)only[go_sem,U,hk];intro q0 hq0;obtain⟨L,hL⟩: ∃K',K'=upd K1 q0 (some (.cells [.str [105,102],.str [116,104,101,110],.str [101,108,115,101]] 9)):=⟨_,rfl⟩;rw[<-hL];have ar:=hL.symm▸S.frame hq0 _;have n0:r≠q0:=S.ne hq0;have a2:=(S.lo hq0).1;have a3:r3≠q0:=Ac hq0 U;obtain⟨C,hC⟩: ∃C,C=upd (upd B r3 (some (.cells (dEx e) 27))) q0 (some (.cells [.str [105,102],.str [116,104,101,110],.str [101,108,115,101]] 9)):=⟨_,rfl⟩;rw[<-hC] at ar;have ab:C r=none:=by rw[hC,Ah _ _ _ _ n0];exact E
  have c3:=hC.symm▸Aj (Aa _ _ _) a3;have c0:=hC.symm▸Aa _ _ _;simp only[go_sem];obtain⟨I,hI⟩: ∃I:Nat->(Nat->DVal)->Ab->Prop,∀j env heap,I j env heap↔(env 0= .optr r 0/\env 3= .optr r3 0/\env 111= .oslice 1 q0 0 3 3/\env 112=dI 3/\env 113=dI j/\j<=3/\WAt C r (ts++ifT x y z j) heap):=⟨_,λ_ _ _=>Iff.rfl⟩;refine Ea9.run I (λj=>3-j) 0 ((hI _ _ _).2 ?_) ?_
  ·simp only[go_sem];(repeat' apply And.intro)<;>(try first|rfl|assumption|omega);simpa [ifT] using ar
  ·intro j env heap hi;obtain⟨Z,e3,af,ac,ad,hj,ag⟩:=(hI _ _ _).1 hi;have g3:=ag.keep c3 M.symm;have g0:=ag.keep c0 n0.symm;(have a4:j=0\/j=1\/j=2\/j=3:=by omega);(have w1:IntKind.i64.wrap (0+1)=1:=by decide);(have w2:IntKind.i64.wrap (1+1)=2:=by decide);(have w3:IntKind.i64.wrap (2+1)=3:=by decide);rcases a4 with rfl|rfl|rfl|rfl
   ·have z0:((0:Nat):Int)=0:=rfl;simp(disch:=omega)only[go_sem,Z,af,ac,ad,g0,z0];intro p1 hp1;simp only[go_sem];refine(Ut hG Bc hp1 ab (by simp only[ifT,jH];omega) ag).mono ?_;rintro _ H1 ⟨rfl,h1⟩;simp only[go_sem,Z];intro p2 hp2;simp only[go_sem];refine(Ut hG wIf hp2 ab (by simp only[ifT,jH,jC,jA,jB] at ae D⊢;omega) h1).mono ?_;rintro _ H2 ⟨rfl,h2⟩;have f2:=h2.keep c3 M.symm;simp(disch:=omega)only[go_sem,Z,e3,f2,O,hfl,a0];refine(ih x (Ba (by rw[hx];simp)) _ r _ _ ab (by simp only[ifT,jH,jC,jA,jB] at ae D⊢;omega) h2).mono ?_;rintro _ H4 ⟨rfl,h4⟩;simp only[go_sem,ad];refine⟨1,_,Rn.refl _,(hI _ _ _).2 ?_,by omega⟩;simp only[go_sem,Z,e3,af,ac];(repeat' apply And.intro)<;>(try first|rfl|assumption|omega);simpa [ifT] using h4
   ·have z0:((1:Nat):Int)=1:=rfl;simp(disch:=omega)only[go_sem,Z,af,ac,ad,g0,z0];intro p2 hp2;simp only[go_sem];refine(Ut hG Pp hp2 ab (by simp only[ifT,jC,jA] at ae D⊢;omega) ag).mono ?_;rintro _ H2 ⟨rfl,h2⟩;have f2:=h2.keep c3 M.symm;simp(disch:=omega)only[go_sem,Z,e3,f2,O,hfl,ai];refine(ih y (Ba (by rw[hx];simp)) _ r _ _ ab (by simp only[ifT,jC,jA,jB] at ae D⊢;omega) h2).mono ?_;rintro _ H4 ⟨rfl,h4⟩;simp only[go_sem,ad];refine⟨2,_,Rn.refl _,(hI _ _ _).2 ?_,by omega⟩;simp only[go_sem,Z,e3,af,ac];(repeat' apply And.intro)<;>(try first|rfl|assumption|omega);simpa [ifT] using h4
   ·have z0:((2:Nat):Int)=2:=rfl;simp(disch:=omega)only[go_sem,Z,af,ac,ad,g0,z0];intro p2 hp2;simp only[go_sem];refine(Ut hG Qv hp2 ab (by simp only[ifT,jC,jA] at ae D⊢;omega) ag).mono ?_;rintro _ H2 ⟨rfl,h2⟩;have f2:=h2.keep c3 M.symm;simp(disch:=omega)only[go_sem,Z,e3,f2,O,hfl,a1];refine(ih z (Ba (by rw[hx];simp)) _ r _ _ ab (by simp only[ifT,jC,jA,jB] at ae D⊢;omega) h2).mono ?_;rintro _ H4 ⟨rfl,h4⟩;simp only[go_sem,ad];refine⟨3,_,Rn.refl _,(hI _ _ _).2 ?_,by omega⟩;simp only[go_sem,Z,e3,af,ac];(repeat' apply And.intro)<;>(try first|rfl|assumption|omega);simpa [ifT] using h4
   ·have z0:((3:Nat):Int)=3:=rfl;simp(disch:=omega)only[go_sem,Z,ac,ad,z0];intro p2 hp2;simp only[go_sem];refine(Ut hG Bs hp2 ab (by simp only[jC] at D⊢;omega) ag).mono ?_;rintro _ H2 ⟨rfl,h2⟩;simp only[go_sem];refine Dj.refl ⟨rfl, ?_⟩;rw[hC] at h2;have:=(h2.drop a2).drop V;rw[jO] at this;exact this
 have a5:=hk;clear hk;by_cases hk:e.kind=11
 ·obtain⟨⟨x,hx⟩,⟨o,ho,a6⟩,_⟩:=Gw3 hk hf;have ht:Ai e=(Ay o).map Ag++Ap x (Kz e):=by rw[Ds9 hk,ho,jD];unfold pE tE;rw[hx];rfl
  rw[ht] at D⊢
  have hnm:Bn e=false:=by cases h:Bn e with|false=>rfl|true=>exact(Tz (by omega) h).elim
  rw[hnm];simp(disch:=omega)only[go_sem,U,hk];refine(Du1 hG e x o hx ho (by omega) (ih x (Ba (by rw[hx];simp))) _ r _ _ E D S).mono ?_;rintro _ H1 ⟨rfl,h1⟩;simp only[go_sem];exact Dj.refl ⟨rfl,h1.drop V⟩
 have a7:=hk;clear hk;by_cases hk:e.kind=12
 ·obtain⟨⟨x,y,hx⟩,⟨o,ho,a6⟩,_⟩:=Gw4 hk hf;have ht:Ai e=Ap x (Gi e)++((Ay o).map Ag++Ap y (Hx e)):=by rw[Dt0 hk,ho,jD];unfold pE tE;rw[hx];rfl
  rw[ht] at D⊢
  have hnm:Bn e=false:=by cases h:Bn e with|false=>rfl|true=>exact(Tz (by omega) h).elim
  rw[hnm];simp(disch:=omega)only[go_sem,U,hk];refine(Du2 hG e x y o hx ho (by omega) (ih x (Ba (by rw[hx];simp))) (ih y (Ba (by rw[hx];simp))) _ r _ _ E D S).mono ?_;rintro _ H1 ⟨rfl,h1⟩;simp only[go_sem];exact Dj.refl ⟨rfl,h1.drop V⟩
 have a8:=hk;clear hk;have a9:e.kind=13\/e.kind=14:=by
  by_cases h:e.kind=13\/e.kind=14
  ·exact h
  ·exfalso;have:Ax e=false:=by
    unfold Ax;rw[if_neg z1,if_neg z2,if_neg z3,if_neg (by omega),if_neg z5,if_neg z7,if_neg z8,if_neg z9,if_neg a5,if_neg a7,if_neg a8,if_neg h]
   rw[this] at hf;cases hf
 obtain⟨au,_⟩:=Fo9 a9 hf;have hx: ∃x,(∃y z,e.l= [x,y,z])\/ ∃y,e.l= [x,y]:=by
  rcases au with⟨x,y,z,hx⟩|⟨x,y,hx,_⟩
  ·exact⟨x,.inl ⟨y,z,hx⟩⟩
  ·exact⟨x,.inr ⟨y,hx⟩⟩
 clear au;obtain⟨x,hx⟩:=hx;have g0:e.l.getD 0 ex0=x/\0<e.l.length:=by rcases hx with⟨y,z,hx⟩|⟨y,hx⟩<;>(rw[hx];exact⟨rfl,by simp⟩)
 have av:pE e 0 2=Ap x 2:=by rw[Gm8 g0.2,g0.1]
 have aw: ∀y∈e.l,WrC Tryz.prog G 187 [.agg (dEx y)] (Ai y):=λy hy=>ih y (Ba hy);have hnm:Bn e=false:=by cases h:Bn e with|false=>rfl|true=>exact(Tz (by omega) h).elim
 rw[hnm];by_cases hk:e.kind=13
 ·have ht:Ai e=Ap x 2++([wIn].map Ag++Jy e):=by rw[Dt1 hk,av];rfl
  rw[ht] at D⊢
  simp(disch:=omega)only[go_sem,U,hk];intro Y J;simp only[go_sem];refine Ad.fzA Y J ?_;simp only[fzs,fz,if_neg (S.ne J),if_pos,Co5];refine(Av4 hG e x [wIn] hx aw _ r _ _ E D S).mono ?_;rintro _ H1 ⟨rfl,h1⟩;simp only[go_sem];exact Dj.refl ⟨rfl,h1.drop V⟩
 ·have ax:e.kind=14:=by omega
  have ht:Ai e=Ap x 2++([Wa,wIn].map Ag++Jy e):=by rw[Dt2 ax,av];rfl
  rw[ht] at D⊢
  simp(disch:=omega)only[go_sem,U,ax];intro Y J;simp only[go_sem];refine Ad.fzA Y J ?_;simp only[fzs,fz,if_neg (S.ne J),if_pos,Co5];refine(Av4 hG e x [Wa,wIn] hx aw _ r _ _ E D S).mono ?_;rintro _ H1 ⟨rfl,h1⟩;simp only[go_sem];exact Dj.refl ⟨rfl,h1.drop V⟩
end
end Go.Dl
-- Si
namespace Go.Dl
open Go
set_option maxRecDepth 10000
def wt (l:List Ex):Nat:=(l.map λx=>(Ai x).length+7).sum
theorem Aj1 (l m:List Ex):wt (l++m)=wt l+wt m:=by simp [wt]
theorem Fz (x:Ex) (l:List Ex):wt (x::l)=(Ai x).length+7+wt l:=by simp [wt]
theorem Gw7:wt []=0:=rfl
theorem Mk (x:Ex) (y:Int):(Ap x y).length<=(Ai x).length+2:=by
 rw[Ap,Au3];split<;>omega
theorem Ci0 {n:Nat} {c:Ch} (h:Cv n c=true):(Da c).length+1<=wt c.l+if c.kind=3 then 2 else 0:=by
 unfold Cv at h;by_cases C:c.kind=1
 ·rw[if_pos C,decide_eq_true_eq] at h;obtain⟨x,hx⟩:=Fo8 h;rw[Ng,if_pos C,hx,Fz];show(Ai x).length+1<=_;omega
 ·rw[if_neg C] at h;by_cases D:c.kind=2
  ·rw[if_pos D,decide_eq_true_eq] at h;obtain⟨x,y,hx⟩:=Et7 h;rw[Ng,if_neg C,if_pos D,hx,Fz,Fz];show(Ap x 2++Ag Et::Ap y 2).length+1<=_;have:=Mk x 2;have:=Mk y 2;rw[jC,jA];omega
  ·rw[if_neg D] at h;simp only[jF,decide_eq_true_eq] at h;rw[Ng,if_neg C,if_neg D,if_pos h.1.1];show 1+1<=_;omega
theorem Bd5 (t:List Tok) (y:List (List Tok)):Cp7 (t::y)=t.length+1+Cp7 y:=by simp [Cp7]
theorem Bi7 {n:Nat} (y:n≠1): ∀(l:List Ch),l.length<=n->(∀c∈l,Cv n c=true)->Cp7 (l.map Da)<=wt (l.flatMap Ch.l)
 | [],_,_=>Nat.zero_le _
 |c::r,hl,h=>by
  have ih:=Bi7 y r (by rw[jA] at hl;omega) λd hd=>h d (by simp [hd]);have hc:=h c (by simp);have h1:=Ci0 hc;rw[if_neg] at h1
  ·rw[jN,Bd5,List.flatMap_cons,Aj1];omega
  ·intro C;unfold Cv at hc;rw[if_neg (by omega),if_neg (by omega)] at hc;simp only[jF,decide_eq_true_eq,jA] at hc hl;omega
theorem Ci1 {l:List Ch} (h:Cl l=true):(Dw Gp (l.map Da)).length<=wt (l.flatMap Ch.l)+2:=by
 simp only[Cl,jF,decide_eq_true_eq,List.all_eq_true] at h;have h0:=Fn3 Gp (l.map Da) (by intro e;rw[List.map_eq_nil_iff] at e;rw[e] at h;simp at h);by_cases hn:l.length=1
 ·match l,hn with
  | [c],_=>
   have h1:=Ci0 (h.2 c (by simp));(have h2:(if c.kind=3 then 2 else 0)<=2:=by split<;>omega);rw[List.map_singleton,Bd5] at h0;rw[List.map_singleton,List.flatMap_singleton];simp [Cp7] at h0;omega
 ·have:=Bi7 hn l (Nat.le_refl _) h.2;omega
theorem Cd0 {l:List Ch} (h:Ce l=true):Cl l=true:=by
 match l with
 | [c]=>
  simp only[Ce,jF,decide_eq_true_eq] at h;simp only[Cl,jQ,List.all_cons,List.all_nil,Bool.and_true,Cv,if_pos h.1]
  match hl:c.l with
  | [x]=>rfl
  | []=>rw[hl] at h;cases h.2
  |_::_::_=>rw[hl] at h;cases h.2
 | []=>cases h
 |_::_::_=>cases h
theorem Eu0 {a:As} (h:(a.c.isEmpty || Cl a.c)=true):(Hl a).length+1<=wt (Ct a):=by
 rw[Ct,Aj1,Fz,Gw7];by_cases y:a.c= []
 ·rw[Rc,y];show(Ai a.e).length+1<=_;omega
 ·have hr:Cl a.c=true:=by
   rw[Bool.or_eq_true] at h;rcases h with h|h
   ·exact absurd (List.isEmpty_iff.1 h) y
   ·exact h
  have h1:=Ci1 hr;rw[Rc,if_neg (by simpa using y),jC,jA];omega
theorem Bw3: ∀(l:List As),(∀a∈l,(a.c.isEmpty || Cl a.c)=true)->Cp7 (l.map Hl)<=wt (l.flatMap Ct)
 | [],_=>Nat.zero_le _
 |a::r,h=>by
  have ih:=Bw3 r λd hd=>h d (by simp [hd]);have h1:=Eu0 (h a (by simp));rw[jN,Bd5,List.flatMap_cons,Aj1];omega
theorem Du4 {l:List As} (h:Jn l=true): ∀a∈l,(a.c.isEmpty || Cl a.c)=true:=λa ha=>by
 rw[Jn,jF,List.all_eq_true] at h;have:=h.2 a ha;rw[Bool.or_eq_true] at this⊢
 rcases this with h1|h1
 ·exact .inl h1
 ·exact .inr (Cd0 h1)
theorem Ef2 {l:List As} (h: ∀a∈l,(a.c.isEmpty || Cl a.c)=true):(Dw Dm (l.map Hl)).length<=wt (l.flatMap Ct):=by
 have h1:=Bw3 l h;rw[Bu2];unfold Cp7 at h1;unfold Fn1;omega
theorem Ci2 (o:Nat):(Ay o).length<=2:=by
 rw[Ay,List.getD];by_cases h:o<22
 ·have: ∀i:Fin 22,((Dr1[i.1]?).getD []).length<=2:=by decide
  exact this ⟨o,h⟩
 ·rw[List.getElem?_eq_none (by have:Dr1.length=22:=rfl;omega)];decide
theorem Du5 {e:Ex} (hf:Ax e=true):(Ai e).length<=10+wt (parts e):=by
 have hpl:wt (parts e)=wt e.l+wt (e.a.flatMap Ct):=Aj1 _ _;by_cases k1:e.kind=1
 ·rw[Fm3 k1];show 1<=_;omega
 by_cases O:e.kind=2
 ·rw[Fm4 O];show 1<=_;omega
 by_cases S:e.kind=3
 ·rw[Dd6 S];show 1<=_;omega
 by_cases U:e.kind=4
 ·obtain⟨⟨x,hx,_⟩,_⟩:=Dt9 (.inl U) hf;rw[Ee3 U,hpl,hx,Fz];unfold tE;rw[hx,jC];show(Ai x).length+2<=_;omega
 by_cases C:e.kind=5
 ·obtain⟨⟨x,hx,_⟩,_⟩:=ff5 C hf;rw[Fm5 C,hpl,hx,Fz];unfold tE;rw[hx,jC];show(Ai x).length+2<=_;omega
 by_cases V:e.kind=6
 ·obtain⟨⟨x,hx,_⟩,_⟩:=Dt9 (.inr V) hf;rw[Fm6 V,hpl,hx,Fz];unfold tE;rw[hx,jC];show(Ai x).length+2<=_;omega
 by_cases D:e.kind=7
 ·obtain⟨⟨x,hx,_⟩,ha,_⟩:=ff7 D hf;have h1:=Ef2 (Du4 ha);rw[Fm7 D,hpl,hx,Fz];unfold tE taE;rw[hx,jC,jA,jC];show(Ai x).length+(_+1+1)<=_;omega
 by_cases E:e.kind=8
 ·obtain⟨⟨x,y,hx,_⟩,_⟩:=ff8 E hf;rw[Fm8 E,hpl,hx,Fz,Fz];unfold tE;rw[hx,jC,jA,Au3];show(Ai x).length+((Ai y).length+_+1)<=_;split<;>omega
 by_cases I:e.kind=9
 ·obtain⟨hx,ha,_⟩:=ff9 I hf;rw[Fx,jF] at ha;have h1:=Ef2 (λa hm=>Si ha.2 a hm);rw[Ee4 I,hpl,jA,jC];unfold taE;show _+1+1<=_;omega
 by_cases J:e.kind=10
 ·obtain⟨⟨x,y,z,hx⟩,_⟩:=Gw2 J hf;rw[Cp6 J,hpl,hx,Fz,Fz,Fz];unfold tE;rw[hx];simp only[jC,jA];show(Ai x).length+((Ai y).length+((Ai z).length+_+1)+1)+1+1<=_;simp only[jB];omega
 by_cases L:e.kind=11
 ·obtain⟨⟨x,hx⟩,⟨o,ho,_⟩,_⟩:=Gw3 L hf;have:=Ci2 e.oper.toNat;have:=Mk x (Kz e);have hp:pE e 0 (Kz e)=Ap x (Kz e):=by unfold pE tE;rw[hx];rfl
  rw[Ds9 L,hpl,hx,Fz,hp,jC,jK];omega
 by_cases M:e.kind=12
 ·obtain⟨⟨x,y,hx⟩,_⟩:=Gw4 M hf;have:=Ci2 e.oper.toNat;have:=Mk x (Gi e);have:=Mk y (Hx e);have hp:pE e 0 (Gi e)=Ap x (Gi e):=by unfold pE tE;rw[hx];rfl
  have hq:pE e 1 (Hx e)=Ap y (Hx e):=by unfold pE tE;rw[hx];rfl
  rw[Dt0 M,hpl,hx,Fz,Fz,hp,hq,jC,jC,jK];omega
 by_cases h:e.kind=13\/e.kind=14
 ·obtain⟨W,_⟩:=Fo9 h hf;have X:(pE e 0 2).length+(Jy e).length+3<=10+wt (parts e):=by
   rcases W with⟨x,y,z,hx⟩|⟨x,y,hx,_⟩
   ·have:=Mk x 2;have:=Mk y 2;have:=Mk z 2;(have hp:pE e 0 2=Ap x 2:=by unfold pE tE;rw[hx];rfl);(have hq:Jy e=Ap y 2++Ag Et::Ap z 2:=by unfold Jy pE tE;rw[hx];rfl);rw[hp,hq,hpl,hx,Fz,Fz,Fz,jC,jA];omega
   ·have:=Mk x 2;(have hp:pE e 0 2=Ap x 2:=by unfold pE tE;rw[hx];rfl);(have hq:Jy e=Ai y:=by unfold Jy pE tE;rw[hx];rfl);rw[hp,hq,hpl,hx,Fz,Fz];omega
  rcases h with k|k
  ·rw[Dt1 k,jC,jA];omega
  ·rw[Dt2 k,jC,jA,jA];omega
 exfalso;have:Ax e=false:=by
  unfold Ax;rw[if_neg k1,if_neg O,if_neg S,if_neg (by omega),if_neg C,if_neg D,if_neg E,if_neg I,if_neg J,if_neg L,if_neg M,if_neg h]
 rw[this] at hf;cases hf
theorem Hf5 {l:List Ex} (h: ∀x∈l,(Ai x).length+7<=17*Ff x):wt l<=17*Lf l:=by
 induction l with
 |nil=>exact Nat.zero_le _
 |cons x l ih=>
  have h1:=h x (by simp);have h2:=ih λy C=>h y (by simp [C]);rw[Fz,Lf,jN,List.sum_cons];unfold Lf at h2;omega
theorem Eu1 (e:Ex): ∀d,Dk d e=true->(Ai e).length+7<=17*Ff e:=by
 refine Ex.ind (p:=λe=> ∀d,Dk d e=true->(Ai e).length+7<=17*Ff e) (λe ih d hv=> ?_) e;obtain⟨hf,hp⟩:=Hy hv;have h1:=Du5 hf;have h2:=Hf5 λx hx=>ih x hx _ (hp x hx);rw[Oh e];omega
theorem Nq {e:Ex} (h:Bu e=true):(Ai e).length<=5000:=by
 rw[Bu,jF,decide_eq_true_eq] at h;have:=Eu1 e 1 h.1;omega
theorem Gw8 {l:List Ex} (h: ∀x∈l,Bu x=true):wt l<=5007*l.length:=by
 induction l with
 |nil=>exact Nat.zero_le _
 |cons x l ih=>
  have h1:=Nq (h x (by simp));have h2:=ih λy C=>h y (by simp [C]);rw[Fz,jA];omega
theorem Bd6 {l:List Ch} (h:Ia l=true):(Dw Gp (l.map Da)).length<=200000:=by
 rw[Ia,jF,List.all_eq_true] at h;have h1:=Ci1 h.1;have h2:=h.1;simp only[Cl,jF,decide_eq_true_eq,List.all_eq_true] at h2;have h3: ∀x∈l.flatMap Ch.l,Bu x=true:=λx hx=>by
  obtain⟨c,hc,hx⟩:=List.mem_flatMap.1 hx;exact List.all_eq_true.1 (h.2 c hc) x hx
 have h4:=Gw8 h3;have h5: ∀c∈l,c.l.length<=2:=λc hc=>by
  have:=h2.2 c hc;unfold Cv at this;split at this
  ·rw[decide_eq_true_eq] at this;omega
  ·split at this
   ·rw[decide_eq_true_eq] at this;omega
   ·simp only[jF,decide_eq_true_eq] at this;omega
 have h6: ∀m:List Ch,(∀c∈m,c.l.length<=2)->(m.flatMap Ch.l).length<=2*m.length:=λm=>by
  induction m with
  |nil=>intro _;exact Nat.zero_le _
  |cons c m ih=>
   intro hm;have:=hm c (by simp);have:=ih λd hd=>hm d (by simp [hd]);rw[List.flatMap_cons,jC,jA];omega
 have h7:=h6 l h5;omega
def Av6 (e:Ex):List Tok×Int:=if Bu e then(Ai e,0) else([],2)
def Lt (l:List Ch):List Tok×Int:=if Ia l then(Dw Gp (l.map Da),0) else([],2)
end Go.Dl
-- V5
namespace Go.Dl
open Go Go.Proofs
set_option maxRecDepth 100000
section
variable {G:Nat->DVal}
theorem Ci3 (hG:GX G) (e:Ex): ∀d,Dk d e=true->WrC Tryz.prog G 187 [.agg (dEx e)] (Ai e):=by
 refine Ex.ind (p:=λe=> ∀d,Dk d e=true->WrC Tryz.prog G 187 [.agg (dEx e)] (Ai e)) (λe ih d hv=> ?_) e;obtain⟨hf,hp⟩:=Hy hv;exact Du3 hG e hf λx hx=>ih x hx _ (hp x hx)
theorem Qd {e:Ex} (h:Bu e=true):Dk 1 e=true:=by
 rw[Bu,jF] at h;exact h.1
theorem WAt.start {B:Ab} {r:Nat} (hr:B r=none):WAt B r [] (upd B r (some (.cells [.nilSlice] 241))):=⟨_,.inl ⟨rfl,rfl,rfl,Sub.refl _⟩⟩
theorem WAt.cell {B H:Ab} {r:Nat} {ts:List Tok} (h:WAt B r ts H) (hr:B r=none): ∃v,H r=some (.cells [v] 241)/\Ln H v B (Be ts):=by
 obtain⟨v,h⟩:=h;exact⟨v,h.keep (Aa _ _ _),Ln.own (h.less ((Sub.refl B).up hr _))⟩
theorem De7 (hG:GX G) (H:Ab) (e:Ex) (he:Fit e):Ad Tryz.prog G 81 [.agg (dEx e)] H (Am (.tuple [Be (Av6 e).1,dI (Av6 e).2]) H):=by
 rw[Av6];refine dci Tryz.func81 Tryz.call81 ?_;simp only[go_sem,DVal.cells];intro C O;obtain⟨K,E⟩: ∃K',K'=upd H C (some (.cells (dEx e) 27)):=⟨_,rfl⟩;rw[<-E];have I:K C=some (.cells (dEx e) 27):=by rw[E];exact Aa _ _ _
 have hs:Sub H K:=by rw[E];exact(Sub.refl H).new O _
 simp only[go_sem,I];refine(Ae3 hG K e he).mono ?_;rintro _ D ⟨rfl,rfl⟩;cases hm:Bu e with
 |false=>
  simp only[go_sem];exact Ln.fin hs (Ln.tuple (.cons (Ln.nil hs) (Km.keep hs _))) ⟨rfl,rfl⟩
 |true=>
  have X:=Nq hm;simp only[go_sem];intro J y;dsimp only at y;have L:C≠J:=Ac y I;have Y:=L.symm;have hw:=WAt.start y;have S:upd D J (some (.cells [.nilSlice] 241)) C=some (.cells (dEx e) 27):=Aj I L;simp only[go_sem,S];refine(Ci3 hG e 1 (Qd hm) D J [] _ y (by simp;omega) hw).mono ?_;rintro _ H1 ⟨rfl,h1⟩;rw[jG] at h1;have U:Sub D H1:=by
   obtain⟨v,h1⟩:=h1;exact(((Sub.refl D).up y _).trans h1.sub)
  obtain⟨v,V,W⟩:=h1.cell y;simp only[go_sem,V];have M:Sub H H1:=hs.trans U;refine Ln.fin M (Ln.tuple (.cons (λw hw x hx=>Rel.lasts (Dq hs w) _ _ (W w hw x hx)) (Km.keep M _))) ⟨rfl,rfl⟩
theorem Af2 {l:List Ch} (h:Ia l=true):(∀c∈l,Cv l.length c=true/\ ∀x∈c.l,Bu x=true)/\l.length<=1000000000:=by
 rw[Ia,jF,List.all_eq_true] at h;have h2:=h.1;simp only[Cl,jF,decide_eq_true_eq,List.all_eq_true] at h2;exact⟨λc hc=>⟨h2.2 c hc,List.all_eq_true.1 (h.2 c hc)⟩,by omega⟩
theorem Av7 (hG:GX G) (H:Ab) (l:List Ch) (hb:Gq l<=1000000000000) (hk:Ts l):Ad Tryz.prog G 206 [dCl l] H (Am (.tuple [Be (Lt l).1,dI (Lt l).2]) H):=by
 rw[Lt];refine dci Tryz.func206 Tryz.call206 ?_;simp only[go_sem];refine(Nn hG H l hb hk).mono ?_;rintro _ D ⟨rfl,rfl⟩;cases hm:Ia l with
 |false=>
  simp only[go_sem];exact Ln.fin (Sub.refl _) (Ln.tuple (.cons (Ln.nil (Sub.refl _)) (Km.keep (Sub.refl _) _))) ⟨rfl,rfl⟩
 |true=>
  have O:=Bd6 hm;simp only[go_sem];intro I C;dsimp only at C;have hw:=WAt.start C;simp only[go_sem];refine(Bi4 hG l Gp (Af2 hm).2 (λc hc=>Av5 hG c ((Af2 hm).1 c hc).1 λy J=>Ci3 hG y 1 (Qd (((Af2 hm).1 c hc).2 y J))) D I [] _ C (by simp;omega) hw).mono ?_;rintro _ H1 ⟨rfl,h1⟩;rw[jG] at h1;have E:Sub D H1:=by
   obtain⟨v,h1⟩:=h1;exact(((Sub.refl D).up C _).trans h1.sub)
  obtain⟨v,L,M⟩:=h1.cell C;simp only[go_sem,L];exact Ln.fin E (Ln.tuple (.cons M (Km.keep E _))) ⟨rfl,rfl⟩
end
end Go.Dl
-- W3
namespace Go.Dl
open Go
set_option maxRecDepth 10000
def zT (ts:List Tok):Prop:= ∀t∈ts,t.line=0
theorem Fi:zT []:=λt h=>by cases h
theorem Dg {t:Tok} {ts:List Tok} (h:t.line=0) (k:zT ts):zT (t::ts):=λx hx=>by
 rcases List.mem_cons.1 hx with rfl|hx
 ·exact h
 ·exact k x hx
theorem Bl {a b:List Tok} (h:zT a) (k:zT b):zT (a++b):=λx hx=>by
 rcases List.mem_append.1 hx with hx|hx
 ·exact h x hx
 ·exact k x hx
theorem Cq8 {b:Bool} {t:List Tok} (h:zT t):zT (Wz b t):=by
 cases b with
 |false=>exact h
 |true=>exact Dg rfl (Bl h (Dg rfl Fi))
theorem De8 (ws:List (List UInt8)):zT (ws.map Ag):=λt h=>by
 obtain⟨s,_,rfl⟩:=List.mem_map.1 h;rfl
theorem Bw4 (s:List UInt8): ∀ {l:List (List Tok)},(∀t∈l,zT t)->zT (Dw s l)
 | [],_=>Fi
 | [x],h=>h x (by simp)
 |x::y::r,h=>by
  rw[Sy s x _ (by simp)];exact Bl (h x (by simp)) (Dg rfl (Bw4 s λt ht=>h t (List.mem_cons_of_mem _ ht)))
theorem Ef3 {l:List (List Tok)} (h: ∀t∈l,zT t) (i:Nat):zT (l.getD i []):=by
 rw[List.getD];cases hi:l[i]? with
 |none=>exact Fi
 |some t=>exact h t (List.mem_of_getElem? hi)
theorem Io {c:Prop} [Decidable c] {a b:List Tok} (h:zT a) (k:zT b):zT (if c then a else b):=by
 split
 ·exact h
 ·exact k
theorem Gh5 (e:Ex) {y C:List (List Tok)} (h: ∀t∈y,zT t) (k: ∀t∈C,zT t):zT (Om e y C):=by
 have g:=λi=>Ef3 h i;have p:=λi (b:Bool)=>Cq8 (b:=b) (g i);unfold Om;dsimp only
 repeat' (refine Io ?_ ?_)
 ·exact Dg rfl Fi
 ·exact Dg rfl Fi
 ·exact Dg rfl Fi
 ·exact Bl (g 0) (Dg rfl (Dg rfl Fi))
 ·exact Bl (g 0) (Dg rfl (Dg rfl Fi))
 ·exact Bl (g 0) (Dg rfl (Dg rfl Fi))
 ·exact Bl (g 0) (Dg rfl (Bl (Bw4 _ k) (Dg rfl Fi)))
 ·exact Bl (g 0) (Dg rfl (p 1 _))
 ·exact Dg rfl (Bl (Bw4 _ k) (Dg rfl Fi))
 ·exact Dg rfl (Dg rfl (Bl (g 0) (Dg rfl (Bl (g 1) (Dg rfl (Bl (g 2) (Dg rfl Fi)))))))
 ·exact Bl (De8 _) (p 0 _)
 ·exact Bl (p 0 _) (Bl (De8 _) (p 1 _))
 ·exact Bl (p 0 _) (Dg rfl (Io (Bl (p 1 _) (Dg rfl (p 2 _))) (g 1)))
 ·exact Bl (p 0 _) (Dg rfl (Dg rfl (Io (Bl (p 1 _) (Dg rfl (p 2 _))) (g 1))))
theorem Fp1 (k:Int) (l:List Ex) {y:List (List Tok)} (h: ∀t∈y,zT t):zT (Dd5 k l y):=by
 have g:=λi=>Ef3 h i;have p:=λi (b:Bool)=>Cq8 (b:=b) (g i);unfold Dd5;dsimp only
 repeat' (refine Io ?_ ?_)
 ·exact g 0
 ·exact Bl (p 0 _) (Dg rfl (p 1 _))
 ·exact Dg rfl Fi
mutual
theorem Bw5: ∀e:Ex,zT (Ai e)
 | .mk k o n s l a li en t=>by rw[Ai];exact Gh5 _ (Fp2 l) (Gn7 a)
theorem Fp2: ∀l:List Ex,∀t∈Yz l,zT t
 | []=>λt h=>by cases h
 |x::l=>λt h=>by
  rw[Yz] at h
  rcases List.mem_cons.1 h with rfl|h
  ·exact Bw5 x
  ·exact Fp2 l t h
theorem Hi7: ∀a:As,zT (Hl a)
 | .mk c e=>by
  rw[Hl,Ee2]
  split
  ·exact Bw5 e
  ·exact Bl (Bw4 _ (Gn8 c)) (Dg rfl (Bw5 e))
theorem Gn7: ∀l:List As,∀t∈Ae5 l,zT t
 | []=>λt h=>by cases h
 |x::l=>λt h=>by
  rw[Ae5] at h
  rcases List.mem_cons.1 h with rfl|h
  ·exact Hi7 x
  ·exact Gn7 l t h
theorem Hf6: ∀c:Ch,zT (Da c)
 | .mk k l=>by rw[Da];exact Fp1 _ _ (Fp2 l)
theorem Gn8: ∀l:List Ch,∀t∈Ae6 l,zT t
 | []=>λt h=>by cases h
 |x::l=>λt h=>by
  rw[Ae6] at h
  rcases List.mem_cons.1 h with rfl|h
  ·exact Hf6 x
  ·exact Gn8 l t h
end
theorem Gw9 {ts:List Tok} (h:zT ts):ts.map stT=ts:=by
 induction ts with
 |nil=>rfl
 |cons t ts ih=>
  rw[jN,ih λx hx=>h x (List.mem_cons_of_mem _ hx)];congr 1;have:=h t (by simp);cases t;simp [stT] at this⊢
  exact this.symm
theorem Fp3 {ws:List (List UInt8)} {t:Tok}:nof ws (stT t)↔nof ws t:=Iff.rfl
theorem Cq9 {α β:Type} {f:α->β} {r:Res α} {C:Res β} {y:β} {k:Nat} (h:Nt f r C) (e:C= .ok y k): ∃x,r= .ok x k/\f x=y:=by
 cases r with
 |bot=>rw[show C= .bot from h] at e;cases e
 |fail j=>rw[show C= .fail j from h] at e;cases e
 |ok x j=>
  rw[show C= .ok (f x) j from h] at e;cases e;exact⟨x,rfl,rfl⟩
section
variable {l:List Tok} {e:Ex} {k':Nat}
theorem Ef4 (j:Nat):Nt stE (We l j) (We (l.map stT) j):=by
 have h:=Gn2 (l:=l);unfold We;split
 ·exact h.expr 0
 ·exact Cz (h.simple 0) λx k=>h.relation x k
 ·exact h.simple 0
 ·exact h.term 0
 ·exact h.factor 0
 ·exact h.primary 0
 ·exact h.name 0
theorem Gx0 (r:Rd l (Q l) e 0 k') (h:nof w0 (tk l k')) (j:Nat) (y:(j:Int)<=Aw e\/j=6/\Bn e=true):We l j= .ok (stE e) k':=by
 have h1:=s10 h;have hg:=Rf e;by_cases c6:j=6
 ·subst c6;rcases y with y|⟨_,hn⟩
  ·omega
  ·show(Q l).name 0=_;rw[r.name hn,Bd1 r.le.2 (Ft h (by decide))]
 ·have y:(j:Int)<=Aw e:=y.resolve_right λx=>c6 x.1;have hc:j=0\/j=1\/j=2\/j=3\/j=4\/j=5:=by omega
  rcases hc with rfl|rfl|rfl|rfl|rfl|rfl
  ·exact r.full h
  ·exact r.rel y (sd1 h1) λ_=>h1
  ·show(Q l).simple 0=_;rw[r.simp y (s31 h1),Sz r.le.2 (Ft h (by decide))]
  ·show(Q l).term 0=_;rw[r.term y (Ft h (by decide)),Ai9 r.le.2 (s31 h1)]
  ·exact r.fac y (Ft h (by decide))
  ·exact r.prim (by omega) (Ft h (by decide))
theorem Fp4 {rest:List Tok} (hv:Dk 1 e=true) (hl:l.map stT=Ai e++rest) (y:nof w0 (tk l (Ai e).length)) (j:Nat) (C:(j:Int)<=Aw e\/j=6/\Bn e=true):
  ∃x,We l j= .ok x (Ai e).length/\stE x=stE e:=by
 have hz: ∀k,(tk (l.map stT) k).line=0:=λk=>Kg k;have D:At (l.map stT) 0 (Ai e):=⟨Nat.zero_le _,rest,by rw[jJ,hl]⟩;have r:=Du0 (p:=Q (l.map stT)) hz e 1 hv 0 D;rw[Nat.zero_add] at r;exact Cq9 (Ef4 j) (Gx0 r (by rw[Bi2];exact y) j C)
theorem Du6 {rest:List Tok} (hm:Bu e=true) (hl:l.map stT=Ai e++rest) (y:nof w0 (tk l (Ai e).length)) (j:Nat) (C:(j:Int)<=Aw e\/j=6/\Bn e=true):
  ∃x,Gj l j=(x,((Ai e).length:Int),0)/\stE x=stE e:=by
 obtain⟨x,h1,h2⟩:=Fp4 (Qd hm) hl y j C;have D: ¬((j:Int)<0\/7<=(j:Int)):=by have:=(Rf e).2;omega
 refine⟨x, ?_,h2⟩;rw[Gj,if_neg D,jD,h1];show(if Bu x=true then _ else _)=_;rw[if_pos (by rw[Jp h2,hm])]
theorem Jr {x y:Ex} (h:stE x=stE y):Ee x y=true:=(Tv x y).2 h
end
end Go.Dl
