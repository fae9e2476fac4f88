/- The data level and the contracts of the functions that are reached (part 8). -/
import Derived.Test.YtddbdpcgikmiaaaGreatDoorPkg
set_option linter.unusedSimpArgs false
set_option linter.unusedVariables false
set_option linter.unusedSectionVars false
-- Chapter 3: expressions: the plain laws, part 11: reading the tokens of an expression.
namespace Go.Dl
open Go
set_option maxRecDepth 10000
def At (l:List Tok) (k:Nat) (ts:List Tok):Prop:=k<=l.length/\ts<+:l.drop k
section
variable {l:List Tok} {k k':Nat} {s:List UInt8} {p:PS} [hr:Rdr l p]
theorem At.le {ts:List Tok} (h:At l k ts):k+ts.length<=l.length:=by
 have:=h.2.length_le;rw[List.length_drop] at this;have:=h.1;omega
theorem At.left {a b:List Tok} (h:At l k (a++b)):At l k a:=⟨h.1,(List.prefix_append a b).trans h.2⟩
theorem At.right {a b:List Tok} (h:At l k (a++b)):At l (k+a.length) b:=by
 obtain⟨r,hr⟩:=h.2;have:=h.le;rw[jC] at this;refine⟨by omega,r, ?_⟩;rw[<-List.drop_drop,<-hr,jO,List.drop_left]
theorem At.head {t:Tok} {ts:List Tok} (h:At l k (t::ts)):tk l k=t/\k<l.length:=by
 obtain⟨r,hr⟩:=h.2;have hl:=h.le;rw[jA] at hl;have hk:k<l.length:=by omega
 refine⟨?_,hk⟩;have:(l.drop k)[0]? =some t:=by rw[<-hr];rfl
 rw[List.getElem?_drop,Nat.add_zero] at this;rw[tk,List.getD,this];rfl
theorem At.tail {t:Tok} {ts:List Tok} (h:At l k (t::ts)):At l (k+1) ts:=At.right (a:= [t]) h
theorem At.word {ts:List Tok} (h:At l k (Ak s::ts)):isW l k [s]=true:=by
 rw[Af1,h.head.1];simp [Ak]
theorem At.words: ∀ {ws:List (List UInt8)} {k:Nat} {ts:List Tok},At l k (ws.map Ak++ts)->isW l k ws=true
 | [],_,_,_=>rfl
 | s::r,k,ts,h=>by
  have h1:=At.word (s:=s) h;have h2:=At.words (ws:=r) (At.tail h);rw[Af1] at h1;rw[isW,h1,h2];rfl
theorem Tg {want o:Nat} (hw:isW l k (Aq o)=true) (hwant:want=0\/want=o): ∀ {pre post:List Nat},(∀p∈pre,isW l k (Aq p)=false)->opF l want k (pre++o::post)=(o,k+(Aq o).length)
 | [],post,_=>by
  rw[jG,opF,if_pos hw,if_neg];rintro⟨h1,h2⟩;rcases hwant with h | h
  ·exact h1 h
  ·exact h2 h.symm
 | p::pre,post,h=>by
  rw[jI,opF,h p (by simp)];exact Tg hw hwant fun q hq=>h q (by simp [hq])
theorem Ga {o:Nat} {s t:List UInt8} {r:List (List UInt8)} (h:isW l k [s]=true) (e:Aq o=t::r) (hs:s≠t):isW l k (Aq o)=false:=by
 rw[e];exact Eh (Dt h hs) r
theorem Ao1 {want o:Nat} {os:List Nat} {ts:List Tok} (ho:(o∈Il/\os=Il)\/(o∈Ek/\os=Ek)\/(o∈Ok/\os=Ok)\/(o∈Ol/\os=Ol)\/(o∈Gf/\os=Gf))
  (h:At l k ((Aq o).map Ak++ts)) (hwant:want=0\/want=o):opF l want k os=(o,k+(Aq o).length)/\(Aq o).length=1:=by
 have hw:=At.words h;have key: ∀(pre post:List Nat) (s:List UInt8),os=pre++o::post->Aq o= [s]->(pre.all fun p=>(Aq p).head?.any fun t=>decide (s≠t))=true->opF l want k os=(o,k+(Aq o).length)/\(Aq o).length=1:=fun pre post s e1 e2 e3=>by
  rw[e1];refine⟨Tg hw hwant fun p hp=> ?_,by rw[e2];rfl⟩;have:=List.all_eq_true.1 e3 p hp;rw[e2] at hw;cases hp2:Aq p with
  | nil=>rw[hp2] at this;simp at this
  | cons t r=>
   rw[hp2] at this;exact Eh (Dt hw (by simpa using this)) r
 rcases ho with⟨h1,rfl⟩ | ⟨h1,rfl⟩ | ⟨h1,rfl⟩ | ⟨h1,rfl⟩ | ⟨h1,rfl⟩
 ·simp only[Il,List.mem_cons,List.not_mem_nil,or_false] at h1;rcases h1 with rfl | rfl | rfl | rfl | rfl | rfl
  ·exact key [] [11,10,9,8,7] _ rfl rfl (by decide)
  ·exact key [12] [10,9,8,7] _ rfl rfl (by decide)
  ·exact key [12,11] [9,8,7] _ rfl rfl (by decide)
  ·exact key [12,11,10] [8,7] _ rfl rfl (by decide)
  ·exact key [12,11,10,9] [7] _ rfl rfl (by decide)
  ·exact key [12,11,10,9,8] [] _ rfl rfl (by decide)
 ·simp only[Ek,List.mem_cons,List.not_mem_nil,or_false] at h1;rcases h1 with rfl | rfl
  ·exact key [] [18] _ rfl rfl (by decide)
  ·exact key [19] [] _ rfl rfl (by decide)
 ·simp only[Ok,List.mem_cons,List.not_mem_nil,or_false] at h1;rcases h1 with rfl | rfl
  ·exact key [] [1] _ rfl rfl (by decide)
  ·exact key [2] [] _ rfl rfl (by decide)
 ·simp only[Ol,List.mem_cons,List.not_mem_nil,or_false] at h1;rcases h1 with rfl | rfl | rfl | rfl
  ·exact key [] [5,4,3] _ rfl rfl (by decide)
  ·exact key [6] [4,3] _ rfl rfl (by decide)
  ·exact key [6,5] [3] _ rfl rfl (by decide)
  ·exact key [6,5,4] [] _ rfl rfl (by decide)
 ·simp only[Gf,List.mem_cons,List.not_mem_nil,or_false] at h1;rcases h1 with rfl | rfl
  ·exact key [] [20] _ rfl rfl (by decide)
  ·exact key [21] [] _ rfl rfl (by decide)
theorem Ds8 {want o:Nat} {ts:List Tok} {y:Ex} {j:Nat} (ho:o∈De) (h:At l k ((Aq o).map Ak++ts)) (hwant:want=0\/want=o) (hs:p.simple (k+(Aq o).length)= .ok y j):opF l want k De=(o,k+(Aq o).length):=by
 have hw:=At.words h;simp only[De,List.mem_cons,List.not_mem_nil,or_false] at ho;rcases ho with rfl | rfl | rfl | rfl | rfl
 ·exact Tg hw hwant (pre:= []) (post:= [16,15,14,13]) (by simp)
 ·have h1:isW l k [Bc6]=true:=Cv2 hw rfl;refine Tg hw hwant (pre:= [17]) (post:= [15,14,13]) fun p hp=> ?_;simp only[List.mem_cons,List.not_mem_nil,or_false] at hp;subst hp;exact Ga h1 rfl (by decide)
 ·refine Tg hw hwant (pre:= [17,16]) (post:= [14,13]) fun p hp=> ?_;simp only[List.mem_cons,List.not_mem_nil,or_false] at hp;rcases hp with rfl | rfl
  ·exact Ga (s:=Dg4) hw rfl (by decide)
  ·exact Ga (s:=Dg4) hw rfl (by decide)
 ·have h3:isW l (k+1) [Ki]=false:=Xb hs (by decide);refine Tg hw hwant (pre:= [17,16,15]) (post:= [13]) fun p hp=> ?_;simp only[List.mem_cons,List.not_mem_nil,or_false] at hp;rcases hp with rfl | rfl | rfl
  ·show isW l k [wOr,Ki]=false;rw[Cv1,h3,Bool.and_false]
  ·exact Ga (s:=wOr) hw rfl (by decide)
  ·exact Ga (s:=wOr) hw rfl (by decide)
 ·have h3:isW l (k+1) [Jl]=false:=Xb hs (by decide);refine Tg hw hwant (pre:= [17,16,15,14]) (post:= []) fun p hp=> ?_;simp only[List.mem_cons,List.not_mem_nil,or_false] at hp;rcases hp with rfl | rfl | rfl | rfl
  ·exact Ga (s:=Bc6) hw rfl (by decide)
  ·show isW l k [Bc6,Jl]=false;rw[Cv1,h3,Bool.and_false]
  ·exact Ga (s:=Bc6) hw rfl (by decide)
  ·exact Ga (s:=Bc6) hw rfl (by decide)
theorem lv5 {e:Ex} (h:1<=e.kind/\e.kind<=10):Ao e=5:=by unfold Ao;rw[if_neg (by omega),if_neg (by omega),if_neg (by omega)]
theorem Qu {e:Ex} {n:Int} (h:Ao e=n) (hn:n≠5):Kk e.kind=true->False:=fun c=>hn (h.symm.trans (lv5 (by rw[Kk,Bool.or_eq_true,decide_eq_true_eq,decide_eq_true_eq] at c;omega)))
structure Rd (l:List Tok) (p:PS) (e:Ex) (k k':Nat):Prop where
 le:k<=l.length/\k'<=l.length
 name:Bg e=true->p.name k=p.nameL 0 (stE e) k'
 bare:Kk e.kind=true->p.paren k= .ok (stE e) k'
 prim:Ao e=5->nof w5 (tk l k')->p.primary k= .ok (stE e) k'
 fac:4<=Ao e->nof w5 (tk l k')->p.factor k= .ok (stE e) k'
 term:3<=Ao e->nof w5 (tk l k')->p.term k=p.mulL (stE e) k'
 simp:2<=Ao e->nof w3 (tk l k')->p.simple k=p.addL (stE e) k'
 rel:1<=Ao e->nof w2d (tk l k')->(Ao e≠1->nof w1 (tk l k'))->Xe p k= .ok (stE e) k'
 exp:Ao e=0->nof w1 (tk l k')->p.expr k=p.restL e.oper.toNat (stE e) k'
theorem s53 {t:Tok} (h:nof w3 t):nof w5 t:=Ig h (by decide)
theorem s31 {t:Tok} (h:nof w1 t):nof w3 t:=Ig h (by decide)
theorem s32 {t:Tok} (h:nof w2 t):nof w3 t:=Ig h (by decide)
theorem s2d {t:Tok} (h:nof w2d t):nof w2 t:=Ig h (by decide)
theorem sd1 {t:Tok} (h:nof w1 t):nof w2d t:=Ig h (by decide)
theorem s10 {t:Tok} (h:nof w0 t):nof w1 t:=Ig h (by decide)
theorem Nm {e:Ex} {n:Int} (h:Ao e=n) (hn:n≠5):Bg e=true->False:=fun c=>hn (h.symm.trans (Qr c))
theorem Rd.of1 {e:Ex} (hk:k<=l.length/\k'<=l.length) (hl:Ao e=1) (h:nof w2d (tk l k')->Xe p k= .ok (stE e) k'):Rd l p e k k':=
 ⟨hk,fun c=>(Nm hl (by decide) c).elim,fun c=>(Qu hl (by decide) c).elim,fun c=>by omega,fun c=>by omega,fun c=>by omega,fun c=>by omega,fun _ a _=>h a,fun c=>by omega⟩
theorem Rd.of0 {e:Ex} (hk:k<=l.length/\k'<=l.length) (hl:Ao e=0) (h:nof w1 (tk l k')->p.expr k=p.restL e.oper.toNat (stE e) k'):Rd l p e k k':=
 ⟨hk,fun c=>(Nm hl (by decide) c).elim,fun c=>(Qu hl (by decide) c).elim,fun c=>by omega,fun c=>by omega,fun c=>by omega,fun c=>by omega,fun c=>by omega,fun _=>h⟩
theorem Rd.of2 {e:Ex} (hk:k<=l.length/\k'<=l.length) (hl:Ao e=2) (h:nof w3 (tk l k')->p.simple k=p.addL (stE e) k'):Rd l p e k k':=
 ⟨hk,fun c=>(Nm hl (by decide) c).elim,fun c=>(Qu hl (by decide) c).elim,fun c=>by omega,fun c=>by omega,fun c=>by omega,fun _=>h,fun _ _ a=>Iz hk.2 (h (s31 (a (by omega)))) (a (by omega)),fun c=>by omega⟩
theorem Rd.of3 {e:Ex} (hk:k<=l.length/\k'<=l.length) (hl:Ao e=3) (h:nof w5 (tk l k')->p.term k=p.mulL (stE e) k'):Rd l p e k k':=
 have h2:nof w3 (tk l k')->p.simple k=p.addL (stE e) k':=fun a=>Hm hk.1 hk.2 (h (s53 a)) a
 ⟨hk,fun c=>(Nm hl (by decide) c).elim,fun c=>(Qu hl (by decide) c).elim,fun c=>by omega,fun c=>by omega,fun _=>h,fun _=>h2,fun _ _ a=>Iz hk.2 (h2 (s31 (a (by omega)))) (a (by omega)),fun c=>by omega⟩
theorem Rd.of4 {e:Ex} (hk:k<=l.length/\k'<=l.length) (hl:Ao e=4) (h:nof w5 (tk l k')->p.factor k= .ok (stE e) k'):Rd l p e k k':=
 have h3:nof w5 (tk l k')->p.term k=p.mulL (stE e) k':=fun a=>Iy hk.1 (h a)
 have h2:nof w3 (tk l k')->p.simple k=p.addL (stE e) k':=fun a=>Hm hk.1 hk.2 (h3 (s53 a)) a
 ⟨hk,fun c=>(Nm hl (by decide) c).elim,fun c=>(Qu hl (by decide) c).elim,fun c=>by omega,fun _=>h,fun _=>h3,fun _=>h2,fun _ _ a=>Iz hk.2 (h2 (s31 (a (by omega)))) (a (by omega)),fun c=>by omega⟩
theorem Rd.of5 {e:Ex} (hk:k<=l.length/\k'<=l.length) (hl:Ao e=5) (hn:Bg e=true->p.name k=p.nameL 0 (stE e) k') (hb:Kk e.kind=true->p.paren k= .ok (stE e) k') (h:nof w5 (tk l k')->p.primary k= .ok (stE e) k'):Rd l p e k k':=
 have h4:nof w5 (tk l k')->p.factor k= .ok (stE e) k':=fun a=>Ix hk.1 (h a)
 have h3:nof w5 (tk l k')->p.term k=p.mulL (stE e) k':=fun a=>Iy hk.1 (h4 a)
 have h2:nof w3 (tk l k')->p.simple k=p.addL (stE e) k':=fun a=>Hm hk.1 hk.2 (h3 (s53 a)) a
 ⟨hk,hn,hb,fun _=>h,fun _=>h4,fun _=>h3,fun _=>h2,fun _ _ a=>Iz hk.2 (h2 (s31 (a (by omega)))) (a (by omega)),fun c=>by omega⟩
theorem Rd.ofName {e:Ex} (hk:k<=l.length/\k'<=l.length) (hl:Bg e=true) (hn:p.name k=p.nameL 0 (stE e) k'):Rd l p e k k':=
 .of5 hk (Qr hl) (fun _=>hn) (fun c=>by
  rw[Kk,Bool.or_eq_true,decide_eq_true_eq,decide_eq_true_eq] at c;rw[Bg,jF,decide_eq_true_eq,decide_eq_true_eq] at hl;omega) fun a=>by
  rw[An9 hk.2 a] at hn;have:(tk l k).kind=1:=by
   rw[Au8 hk.1,Fs] at hn;split at hn
   ·assumption
   ·cases hn
  rw[Ao0 hk.1 this,hn]
theorem Rd.full {e:Ex} (r:Rd l p e k k') (h:nof w0 (tk l k')):p.expr k= .ok (stE e) k':=by
 have hg:=(Qq e).1;by_cases c:Ao e=0
 ·rw[r.exp c (s10 h),Te r.le.2 h]
 ·rw[Ah0 r.le.1,r.rel (by omega) (sd1 (s10 h)) fun _=>s10 h];exact Te r.le.2 h
def RT (l:List Tok) (p:PS) (e:Ex):Prop:= ∀k,At l k (Ag e)->Rd l p e k (k+(Ag e).length)
theorem Qv {e:Ex} {lv:Int} (R:RT l p e) (h:At l k (Ay e lv)) (hk':k'=k+(Ay e lv).length):(Ao e<lv/\p.primary k= .ok (stE e) k')\/(lv<=Ao e/\Rd l p e k k'):=by
 subst hk';unfold Ay at h⊢
 by_cases c:Ao e<lv
 ·refine .inl ⟨c, ?_⟩;rw[decide_eq_true c] at h⊢
  have h1:At l (k+1) (Ag e++ [Ak Cb]):=At.tail h;have h2:=h1.right;have hs:=At.word h2;have r:=R _ h1.left;have he:=r.full (by rw[h2.head.1];decide+kernel);rw[Ow (At.word h),Tf (At.word h) he hs];simp only[Po,if_true,jA,jC,jB];congr 1;omega
 ·refine .inr ⟨by omega, ?_⟩;rw[decide_eq_false c] at h⊢
  exact R _ h
section
variable {e:Ex} (R:RT l p e)
include R
theorem Dx6 (h:At l k (Ay e 5)) (hk':k'=k+(Ay e 5).length) (hn:nof w5 (tk l k')):p.primary k= .ok (stE e) k':=by
 rcases Qv R h hk' with⟨_,h1⟩ | ⟨h1,r⟩
 ·exact h1
 ·exact r.prim (by have:=(Qq e).2;omega) hn
theorem Dx7 (h:At l k (Ay e 4)) (hk':k'=k+(Ay e 4).length) (hn:nof w5 (tk l k')):p.factor k= .ok (stE e) k':=by
 rcases Qv R h hk' with⟨_,h1⟩ | ⟨h1,r⟩
 ·exact Ix h.1 h1
 ·exact r.fac h1 hn
theorem Cx2 (h:At l k (Ay e 3)) (hk':k'=k+(Ay e 3).length) (hn:nof w5 (tk l k')):p.term k=p.mulL (stE e) k':=by
 rcases Qv R h hk' with⟨_,h1⟩ | ⟨h1,r⟩
 ·exact Iy h.1 (Ix h.1 h1)
 ·exact r.term h1 hn
theorem Dm8 (h:At l k (Ay e 2)) (hk':k'=k+(Ay e 2).length) (hn:nof w3 (tk l k')):p.simple k=p.addL (stE e) k':=by
 rcases Qv R h hk' with⟨_,h1⟩ | ⟨h1,r⟩
 ·exact Hm h.1 (by have:=h.le;omega) (Iy h.1 (Ix h.1 h1)) hn
 ·exact r.simp h1 hn
theorem Qw (h:At l k (Ay e 2)) (hk':k'=k+(Ay e 2).length) (hn:nof w2 (tk l k')):p.simple k= .ok (stE e) k':=by
 rw[Dm8 R h hk' (s32 hn),Xd (by have:=h.le;omega) hn]
theorem Dm9 (h:At l k (Ay e 1)) (hk':k'=k+(Ay e 1).length) (hn:nof w1 (tk l k')):Xe p k= .ok (stE e) k':=by
 rcases Qv R h hk' with⟨_,h1⟩ | ⟨h1,r⟩
 ·have hk2:k'<=l.length:=by have:=h.le;omega
  exact Iz hk2 (Hm h.1 hk2 (Iy h.1 (Ix h.1 h1)) (s31 hn)) hn
 ·exact r.rel h1 (sd1 hn) fun _=>hn
end
end
end Go.Dl

-- Chapter 3: expressions: the plain laws, part 12: the tokens of an expression are read as that expression.
namespace Go.Dl
open Go
set_option maxRecDepth 10000
theorem Cx3 {l:List Ex} (h:l.length=1): ∃x,l= [x]:=by
 match l,h with
 | [x],_=>exact⟨x,rfl⟩
theorem Ci2 {l:List Ex} (h:l.length=2): ∃x y,l= [x,y]:=by
 match l,h with
 | [x,y],_=>exact⟨x,y,rfl⟩
theorem Dx8 {l:List Ex} (h:l.length=3): ∃x y z,l= [x,y,z]:=by
 match l,h with
 | [x,y,z],_=>exact⟨x,y,z,rfl⟩
theorem Au9 {e:Ex} (h:Ge e 1=true): ∃x,e.l= [x]/\Bg x=true:=by
 rw[Ge,jF,decide_eq_true_eq] at h;obtain⟨x,hx⟩:=Cx3 h.1;rw[hx] at h;exact⟨x,hx,h.2⟩
theorem Di4 {e:Ex} (h:Ge e 2=true): ∃x y,e.l= [x,y]/\Bg x=true:=by
 rw[Ge,jF,decide_eq_true_eq] at h;obtain⟨x,y,hx⟩:=Ci2 h.1;rw[hx] at h;exact⟨x,y,hx,h.2⟩
section
variable {e:Ex}
theorem ff1 (h:e.kind=1) (hf:Au e=true):e.l= []/\e.oper=0/\e.s= []/\e.a= []:=by
 have:Au e=(e.l.isEmpty&&decide (0<=e.n)&&decide (e.n<=2147483647)&&zO e&&zS e&&zA e):=by unfold Au;rw[h];rfl
 rw[this] at hf;simp only[jF,zO,zS,zA,decide_eq_true_eq,List.isEmpty_iff] at hf;exact⟨hf.1.1.1.1.1,hf.1.1.2,hf.1.2,hf.2⟩
theorem ff2 (h:e.kind=2) (hf:Au e=true):e.l= []/\e.oper=0/\e.n=0/\e.s= []/\e.a= []:=by
 have:Au e=(e.l.isEmpty&&zO e&&zN e&&zS e&&zA e):=by unfold Au;rw[h];rfl
 rw[this] at hf;simp only[jF,zO,zN,zS,zA,decide_eq_true_eq,List.isEmpty_iff] at hf;exact⟨hf.1.1.1.1,hf.1.1.1.2,hf.1.1.2,hf.1.2,hf.2⟩
theorem ff3 (h:e.kind=3) (hf:Au e=true):e.l= []/\e.oper=0/\e.n=0/\e.a= []:=by
 have:Au e=(e.l.isEmpty&&Pb e.s&&zO e&&zN e&&zA e):=by unfold Au;rw[h];rfl
 rw[this] at hf;simp only[jF,zO,zN,zA,decide_eq_true_eq,List.isEmpty_iff] at hf;exact⟨hf.1.1.1.1,hf.1.1.2,hf.1.2,hf.2⟩
theorem Ci3 (h:e.kind=4\/e.kind=6) (hf:Au e=true):(∃x,e.l= [x]/\Bg x=true)/\e.oper=0/\e.n=0/\e.a= []:=by
 have:Au e=(Ge e 1&&Pb e.s&&zO e&&zN e&&zA e):=by rcases h with h | h<;>(unfold Au;rw[h];rfl)
 rw[this] at hf;simp only[jF,zO,zN,zA,decide_eq_true_eq,List.isEmpty_iff] at hf;exact⟨Au9 hf.1.1.1.1,hf.1.1.2,hf.1.2,hf.2⟩
theorem ff5 (h:e.kind=5) (hf:Au e=true):(∃x,e.l= [x]/\Bg x=true)/\e.oper=0/\e.n=0/\e.s= []/\e.a= []:=by
 have:Au e=(Ge e 1&&zO e&&zN e&&zS e&&zA e):=by unfold Au;rw[h];rfl
 rw[this] at hf;simp only[jF,zO,zN,zS,zA,decide_eq_true_eq,List.isEmpty_iff] at hf;exact⟨Au9 hf.1.1.1.1,hf.1.1.1.2,hf.1.1.2,hf.1.2,hf.2⟩
theorem ff7 (h:e.kind=7) (hf:Au e=true):(∃x,e.l= [x]/\Bg x=true)/\Ii e.a=true/\e.oper=0/\e.n=0/\e.s= []:=by
 have:Au e=(Ge e 1&&Ii e.a&&zO e&&zN e&&zS e):=by unfold Au;rw[h];rfl
 rw[this] at hf;simp only[jF,zO,zN,zS,decide_eq_true_eq] at hf;exact⟨Au9 hf.1.1.1.1,hf.1.1.1.2,hf.1.1.2,hf.1.2,hf.2⟩
theorem ff8 (h:e.kind=8) (hf:Au e=true):(∃x y,e.l= [x,y]/\Bg x=true)/\e.oper=0/\e.n=0/\e.s= []/\e.a= []:=by
 have:Au e=(Ge e 2&&zO e&&zN e&&zS e&&zA e):=by unfold Au;rw[h];rfl
 rw[this] at hf;simp only[jF,zO,zN,zS,zA,decide_eq_true_eq,List.isEmpty_iff] at hf;exact⟨Di4 hf.1.1.1.1,hf.1.1.1.2,hf.1.1.2,hf.1.2,hf.2⟩
theorem ff9 (h:e.kind=9) (hf:Au e=true):e.l= []/\Fk e.a=true/\e.oper=0/\e.n=0/\e.s= []:=by
 have:Au e=(e.l.isEmpty&&Fk e.a&&zO e&&zN e&&zS e):=by unfold Au;rw[h];rfl
 rw[this] at hf;simp only[jF,zO,zN,zS,decide_eq_true_eq,List.isEmpty_iff] at hf;exact⟨hf.1.1.1.1,hf.1.1.1.2,hf.1.1.2,hf.1.2,hf.2⟩
theorem Ds9 (h:e.kind=10) (hf:Au e=true):(∃x y z,e.l= [x,y,z])/\e.oper=0/\e.n=0/\e.s= []/\e.a= []:=by
 have:Au e=(decide (e.l.length=3)&&zO e&&zN e&&zS e&&zA e):=by unfold Au;rw[h];rfl
 rw[this] at hf;simp only[jF,zO,zN,zS,zA,decide_eq_true_eq,List.isEmpty_iff] at hf;exact⟨Dx8 hf.1.1.1.1,hf.1.1.1.2,hf.1.1.2,hf.1.2,hf.2⟩
theorem Dt0 (h:e.kind=11) (hf:Au e=true):(∃x,e.l= [x])/\(∃o:Nat,e.oper=o/\(o=18\/o=19\/o=20\/o=21))/\e.n=0/\e.s= []/\e.a= []:=by
 have:Au e=(decide (e.l.length=1)&&decide (18<=e.oper)&&decide (e.oper<=21)&&zN e&&zS e&&zA e):=by unfold Au;rw[h];rfl
 rw[this] at hf;simp only[jF,zN,zS,zA,decide_eq_true_eq,List.isEmpty_iff] at hf;exact⟨Cx3 hf.1.1.1.1.1,⟨e.oper.toNat,by omega,by omega⟩,hf.1.1.2,hf.1.2,hf.2⟩
theorem Dt1 (h:e.kind=12) (hf:Au e=true):(∃x y,e.l= [x,y])/\(∃o:Nat,e.oper=o/\1<=o/\o<=17)/\e.n=0/\e.s= []/\e.a= []:=by
 have:Au e=(decide (e.l.length=2)&&decide (1<=e.oper)&&decide (e.oper<=17)&&zN e&&zS e&&zA e):=by unfold Au;rw[h];rfl
 rw[this] at hf;simp only[jF,zN,zS,zA,decide_eq_true_eq,List.isEmpty_iff] at hf;exact⟨Ci2 hf.1.1.1.1.1,⟨e.oper.toNat,by omega,by omega,by omega⟩,hf.1.1.2,hf.1.2,hf.2⟩
theorem Cx4 (h:e.kind=13\/e.kind=14) (hf:Au e=true):((∃x y z,e.l= [x,y,z])\/ ∃x y,e.l= [x,y]/\Bg y=true)/\e.oper=0/\e.n=0/\e.s= []/\e.a= []:=by
 have:Au e=((decide (e.l.length=3) || decide (e.l.length=2)&&Bg (e.l.getD 1 ex0))&&zO e&&zN e&&zS e&&zA e):=by rcases h with h | h<;>(unfold Au;rw[h];rfl)
 rw[this] at hf;simp only[jF,Bool.or_eq_true,zO,zN,zS,zA,decide_eq_true_eq,List.isEmpty_iff] at hf;refine⟨?_,hf.1.1.1.2,hf.1.1.2,hf.1.2,hf.2⟩;rcases hf.1.1.1.1 with h3 | h2
 ·exact .inl (Dx8 h3)
 ·obtain⟨x,y,hx⟩:=Ci2 h2.1;rw[hx] at h2;exact .inr ⟨x,y,hx,h2.2⟩
theorem Pe (h:3<=e.kind/\e.kind<=8):Bg e=true:=by rw[Bg,decide_eq_true h.1,decide_eq_true h.2];rfl
theorem Md (h:e.kind<3\/8<e.kind):Bg e=true->False:=fun c=>by
 rw[Bg,jF,decide_eq_true_eq,decide_eq_true_eq] at c;omega
end
theorem Ao2 (s:List UInt8): ∀(x:List Tok) (xs:List (List Tok)),Fo s (x::xs)=x++xs.flatMap fun t=>Ak s::t
 | x,[]=>by simp [Fo]
 | x,y::ys=>by rw[Rj s x _ (by simp),Ao2 s y ys,List.flatMap_cons];simp
section
variable {l:List Tok} {k k':Nat} {s:List UInt8} {p:PS} [hr:Rdr l p]
theorem Bw8 {α β:Type} {f:Nat->Res α} {fL:List α->Nat->Res (List α)} {sep:List UInt8} {W:List (List UInt8)} {g:β->List Tok} {st:β->α}
  (hL: ∀az k,k<=l.length->fL az k=if isW l k [sep] then(f (k+1)).then fun a k=>fL (az++ [a]) k else .ok az k) (hsep:nof W (Ak sep)):
  ∀(bs:List β) (acc:List α) (k:Nat),(∀b∈bs,∀k,At l k (g b)->nof W (tk l (k+(g b).length))->f k= .ok (st b) (k+(g b).length))->At l k (bs.flatMap fun b=>Ak sep::g b)->
   nof W (tk l (k+(bs.flatMap fun b=>Ak sep::g b).length))->isW l (k+(bs.flatMap fun b=>Ak sep::g b).length) [sep]=false->fL acc k= .ok (acc++bs.map st) (k+(bs.flatMap fun b=>Ak sep::g b).length)
 | [],acc,k,_,ha,_,hn=>by
  rw[List.flatMap_nil,jB,Nat.add_zero] at hn⊢
  rw[hL acc k ha.1,hn,jP,jH];rfl
 | b::r,acc,k,he,ha,hw,hn=>by
  rw[List.flatMap_cons] at ha hw hn⊢
  have e1:k+(Ak sep::g b++r.flatMap fun b=>Ak sep::g b).length=k+1+(g b).length+(r.flatMap fun b=>Ak sep::g b).length:=by
   rw[jC,jA];omega
  rw[e1] at hw hn⊢
  have h1:At l (k+1) (g b++r.flatMap fun b=>Ak sep::g b):=At.tail ha;have h2:=h1.right;have hf:nof W (tk l (k+1+(g b).length)):=by
   cases r with
   | nil=>simpa using hw
   | cons c r'=>
    rw[List.flatMap_cons] at h2;rw[(At.head h2).1];exact hsep
  rw[hL acc k ha.1,if_pos (At.word ha),he b (by simp) _ h1.left hf];show fL (acc++ [st b]) _=_;rw[Bw8 hL hsep r (acc++ [st b]) _ (fun c hc=>he c (by simp [hc])) h2 hw hn];simp
theorem Ah2 {α β:Type} {f:Nat->Res α} {fL:List α->Nat->Res (List α)} {sep:List UInt8} {W:List (List UInt8)} {g:β->List Tok} {st:β->α}
  (hL: ∀az k,k<=l.length->fL az k=if isW l k [sep] then(f (k+1)).then fun a k=>fL (az++ [a]) k else .ok az k) (hsep:nof W (Ak sep))
  {b:β} {r:List β} (he: ∀c∈b::r,∀k,At l k (g c)->nof W (tk l (k+(g c).length))->f k= .ok (st c) (k+(g c).length)) (ha:At l k (Fo sep ((b::r).map g)))
  (hk':k'=k+(Fo sep ((b::r).map g)).length) (hw:nof W (tk l k')) (hn:isW l k' [sep]=false):
  ∃j,f k= .ok (st b) j/\fL [st b] j= .ok ((b::r).map st) k'/\j<=l.length/\(r≠ []->isW l j [sep]=true)/\(r= []->j=k'):=by
 have e1:Fo sep ((b::r).map g)=g b++r.flatMap fun c=>Ak sep::g c:=by
  rw[jN,Ao2,Ou]
 rw[e1] at ha hk';rw[jC,<-Nat.add_assoc] at hk';have h2:=ha.right;have hf:nof W (tk l (k+(g b).length)):=by
  cases r with
  | nil=>rw[List.flatMap_nil,jB,Nat.add_zero] at hk';rw[<-hk'];exact hw
  | cons c r'=>
   rw[List.flatMap_cons] at h2;rw[(At.head h2).1];exact hsep
 refine⟨_,he b (by simp) k ha.left hf, ?_,h2.1,fun hr=> ?_,fun hr=> ?_⟩
 ·subst hk';rw[Bw8 hL hsep r [st b] _ (fun c hc=>he c (by simp [hc])) h2 hw hn];rfl
 ·cases r with
  | nil=>exact absurd rfl hr
  | cons c r'=>
   rw[List.flatMap_cons] at h2;exact At.word h2
 ·subst hr;rw[hk',List.flatMap_nil,jB,Nat.add_zero]
def wA:List (List UInt8):=w0++ [Bd,Fl]
theorem Ah3 {x:Ex} (h:x.kind=3) (hf:Au x=true):stE x= .mk 3 0 0 x.s [] [] 0 0 0:=by
 obtain⟨a,b,c,d⟩:=ff3 h hf;rw[Dg,h,a,b,c,d];rfl
theorem Dt2 (hz: ∀k,(tk l k).line=0) {a:As} (ha:(a.c.isEmpty || Cn a.c)=true) (hp: ∀x∈Ct a,Au x=true/\RT l p x) (h:At l k (Ey a)) (hn:nof wA (tk l (k+(Ey a).length))):
  p.arg k= .ok (stA a) (k+(Ey a).length):=by
 obtain⟨he1,he2⟩:=hp a.e (Jd a)
 rw[Td]
 by_cases c0:a.c= []
 ·rw[Kl,c0,List.isEmpty_nil,if_pos rfl] at h hn⊢
  exact Cx1 h.1 ((he2 _ h).full (Ig hn (by decide))) (Fb hn (by decide) [])
 ·obtain⟨c,hc⟩: ∃c,a.c= [c]/\c.kind=1/\ ∃x,c.l= [x]/\x.kind=3:=by
   match hcc:a.c,c0 with
   | [c],_=>
    rw[hcc] at ha
    simp only[Cn,List.isEmpty_cons,Bool.false_or,jF,decide_eq_true_eq] at ha
    refine⟨c,rfl,ha.1, ?_⟩
    match hl:c.l with
    | [x]=>rw[hl] at ha;exact⟨x,rfl,by simpa using ha.2⟩
    | []=>rw[hl] at ha;cases ha.2
    | _::_::_=>rw[hl] at ha;cases ha.2
   | c::d::r,_=>rw[hcc] at ha;simp [Cn] at ha
  obtain⟨hc,hk1,x,hx,hx3⟩:=hc
  have hpx:=hp x (Ky (c:=c) (by rw[hc];simp) (by rw[hx];simp))
  have ht:Ey a=Jm x.s::Ak Bd::Ag a.e:=by
   rw[Kl,hc]
   show Es c++_=_
   rw[Ia,if_pos hk1,hx,List.map_singleton]
   show Ag x++_=_
   rw[Bf1 hx3];rfl
  rw[ht] at h hn⊢
  have h1:At l (k+1) (Ak Bd::Ag a.e):=At.tail h
  have h2:At l (k+2) (Ag a.e):=At.tail h1
  have e1:k+(Jm x.s::Ak Bd::Ag a.e).length=k+2+(Ag a.e).length:=by simp only[jA];omega
  rw[e1] at hn⊢
  rw[Dm7 h.1,h.head.1,if_pos ⟨rfl,At.word h1⟩,(he2 _ h2).full (Ig hn (by decide))]
  show Res.ok _ _=_
  rw[hc,List.map_singleton,Ag1,hk1,hx,List.map_singleton,Ah3 hx3 hpx.1];rfl
theorem Ci4 {n:Nat} {c:Ch} (hc:Dp n c=true) (hp: ∀x∈c.l,RT l p x) (h:At l k (Es c)) (hn:nof w0 (tk l (k+(Es c).length))):p.choice k= .ok (stC c) (k+(Es c).length):=by
 rw[Ag1];unfold Dp at hc;by_cases c1:c.kind=1
 ·rw[if_pos c1,decide_eq_true_eq] at hc;obtain⟨x,hx⟩:=Cx3 hc;have ht:Es c=Ag x:=by rw[Ia,if_pos c1,hx];rfl
  rw[ht] at h hn⊢
  rw[Yi h.1 ((hp x (by rw[hx];simp) _ h).full hn) (Fb hn (by decide) []),c1,hx];rfl
 ·rw[if_neg c1] at hc;by_cases c2:c.kind=2
  ·rw[if_pos c2,decide_eq_true_eq] at hc;obtain⟨x,y,hx⟩:=Ci2 hc;have ht:Es c=Ay x 2++Ak Ee::Ay y 2:=by rw[Ia,if_neg c1,if_pos c2,hx];rfl
   rw[ht] at h hn⊢
   have h1:=h.right;have h2:At l (k+(Ay x 2).length+1) (Ay y 2):=At.tail h1;have e1:k+(Ay x 2++Ak Ee::Ay y 2).length=k+(Ay x 2).length+1+(Ay y 2).length:=by rw[jC,jA];omega
   rw[e1] at hn⊢
   have s1:=Qw (hp x (by rw[hx];simp)) h.left rfl (by rw[h1.head.1];decide+kernel);have s2:=Qw (hp y (by rw[hx];simp)) h2 rfl (Ig hn (by decide));rw[Uz h.1,Xb s1 (s:=Gn) (by decide),s1];show(if isW l _ [Ee] then _ else _)=_;rw[if_pos (At.word h1),s2,c2,hx];rfl
  ·rw[if_neg c2] at hc;simp only[jF,decide_eq_true_eq] at hc;have ht:Es c= [Ak Gn]:=by rw[Ia,if_neg c1,if_neg c2]
   rw[ht] at h hn⊢
   rw[Uz h.1,if_pos (At.word h),hc.1.1,List.length_eq_zero_iff.1 hc.1.2];rfl
theorem Cx5 {a:As} (ha:(a.c.isEmpty || Ck a.c)=true) (hp: ∀x∈Ct a,RT l p x) (h:At l k (Ey a)) (hn:nof wA (tk l (k+(Ey a).length))):
  p.assoc k= .ok (stA a) (k+(Ey a).length):=by
 have he:=hp a.e (Jd a);rw[Td];cases hc:a.c with
 | nil=>
  rw[Kl,hc,List.isEmpty_nil,if_pos rfl] at h hn⊢
  exact Ah1 h.1 ((he _ h).full (Ig hn (by decide))) (Fb hn (by decide) []) (Fb hn (by decide) []) (Fb hn (by decide) [])
 | cons c r=>
  rw[hc] at ha;simp only[List.isEmpty_cons,Bool.false_or,Ck,jF,decide_eq_true_eq,List.all_eq_true] at ha;have ht:Ey a=Fo Fl ((c::r).map Es)++Ak Bd::Ag a.e:=by rw[Kl,hc,List.isEmpty_cons,if_neg (by simp)]
  rw[ht] at h hn⊢
  have h1:=h.right;have h2:At l (k+(Fo Fl ((c::r).map Es)).length+1) (Ag a.e):=At.tail h1;have e1:k+(Fo Fl ((c::r).map Es)++Ak Bd::Ag a.e).length=k+(Fo Fl ((c::r).map Es)).length+1+(Ag a.e).length:=by rw[jC,jA];omega
  rw[e1] at hn⊢
  have hex:=(he _ h2).full (Ig hn (by decide));have hw:=At.word h1;obtain⟨j,g1,g2,g3,g4,g5⟩:=Ah2 (l:=l) (f:=p.choice) (fL:=p.choicesL) (sep:=Fl) (W:=w0) (g:=Es) (st:=stC) (fun az k hk=>Bq4 az hk) (by decide+kernel) (b:=c) (r:=r)
   (fun d hd k hat hno=>Ci4 (ha.2 d hd) (fun x hx=>hp x (Ky (c:=d) (by rw[hc];exact hd) hx)) hat hno) h.left rfl (by rw[h1.head.1];decide+kernel) (Dt hw (by decide))
  rw[Au7 h.1,g1];show(if _ then _ else _)=_;rw[if_neg,Uw]
  ·by_cases c3:c.kind=3
   ·have hr0:r= []:=by
     have:=ha.2 c (by simp);unfold Dp at this;rw[if_neg (by omega),if_neg (by omega)] at this;simp only[jF,decide_eq_true_eq,jA] at this;exact List.length_eq_zero_iff.1 (by omega)
    rw[if_pos c3,g5 hr0,Cx,if_pos hw,hex,hr0];rfl
   ·rw[if_neg c3,g2];show Cx l Bd _ (fun k=>(p.expr k).then fun e k=>Res.ok (As.mk ((c::r).map stC) e) k)=_;rw[Cx,if_pos hw,hex];rfl
  ·rintro⟨_,b1,b2⟩;cases r with
   | nil=>rw[g5 rfl,hw] at b2;cases b2
   | cons d r'=>rw[g4 (by simp)] at b1;cases b1
end
end Go.Dl

-- Chapter 3: expressions: the plain laws, part 13: the tokens of an expression are read as that expression: each kind.
namespace Go.Dl
open Go
set_option maxRecDepth 10000
theorem Ci5 {az:List As} (h:Mu az=false) (li:Int):Ac9 li az= .mk 9 0 0 [] [] az li 0 0:=by
 match az,h with
 | [],_=>rfl
 | [x],h=>
  show(if x.c= [] then x.e else _)=_
  rw[if_neg]
  intro c
  simp [Mu,c] at h
 | _::_::_,_=>rfl
theorem La: ∀ {l:List As},Ew l=true-> ∀a∈l,(a.c.isEmpty || Ck a.c)=true
 | [],_,a,h=>by cases h
 | b::r,h,a,hm=>by
  rw[Ew,jF] at h;rcases List.mem_cons.1 hm with rfl | hm
  ·have:=h.1;rw[Bool.or_eq_true] at this⊢
   rcases this with h1 | h1
   ·exact .inl h1
   ·rw[jF] at h1;exact .inr h1.1
  ·exact La h.2 a hm
theorem Xf {α β:Type} (x:α) (k:Nat) (f:α->Nat->Res β):(Res.ok x k).then f=f x k:=rfl
theorem Vb {l:List Tok} {α:Type} {s:List UInt8} {k:Nat} {f:Nat->Res α} (h:isW l k [s]=true):Cx l s k f=f (k+1):=by rw[Cx,if_pos h]
section
variable {l:List Tok} {k k':Nat} {s:List UInt8} {p:PS} [hr:Rdr l p] {e:Ex}
variable (hz: ∀k,(tk l k).line=0) (hf:Au e=true) (ih: ∀x∈parts e,RT l p x)
include hf hz
theorem rt1 (h:e.kind=1):RT l p e:=by
 obtain⟨a,b,c,d⟩:=ff1 h hf;intro k hat;rw[Cu4 h] at hat⊢
 refine .of5 ⟨hat.1,hat.le⟩ (lv5 (by omega)) (fun c=>(Md (by omega) c).elim) (fun c=>by rw[h] at c;cases c) fun _=> ?_;have ht:=hat.head.1;rw[Nl hat.1,ht,if_pos (show(Bf0 e.n).kind=3 from rfl),Dg,h,a,b,c,d];rfl
theorem rt2 (h:e.kind=2):RT l p e:=by
 obtain⟨a,b,c,d,d2⟩:=ff2 h hf;intro k hat;rw[Cu5 h] at hat⊢
 refine .of5 ⟨hat.1,hat.le⟩ (lv5 (by omega)) (fun c=>(Md (by omega) c).elim) (fun c=>by rw[h] at c;cases c) fun _=> ?_;have hw:=At.word hat;rw[Nl hat.1,if_neg (Fx hw).2.1,if_pos hw,hz,Dg,h,a,b,c,d,d2];rfl
theorem rt3 (h:e.kind=3):RT l p e:=by
 intro k hat;rw[Bf1 h] at hat⊢
 refine .ofName ⟨hat.1,hat.le⟩ (Pe (by omega)) ?_;have ht:=hat.head.1;rw[Au8 hat.1,Fs,if_pos (by rw[ht];rfl),hz,ht,Ah3 h hf];rfl
include ih
theorem rt4 (h:e.kind=4):RT l p e:=by
 obtain⟨⟨x,hx,hn⟩,b,c,d⟩:=Ci3 (.inl h) hf;have ht:Ag e=Ag x++ [Ak Ik,Jm e.s]:=by rw[Cu6 h];unfold tE;rw[hx];rfl
 intro k hat;rw[ht] at hat⊢
 have r:=ih x (Ar (by rw[hx];simp)) k hat.left;have h1:=hat.right;have h2:At l (k+(Ag x).length+1) [Jm e.s]:=At.tail h1;have h3:=h2.head.1;have w1:isW l (k+(Ag x).length) [Ik]=true:=At.word h1;have w4:isW l (k+(Ag x).length+1) [Ql]=false:=Fb (ws:= [Ql]) (by rw[h3];exact Ag8 (.inl rfl)) (by simp) [];refine .ofName ⟨hat.1,hat.le⟩ (Pe (by omega)) ?_;rw[r.name hn,Rl _ _ r.le.2,Cv1 (s:=Ik) (t:=Ql),w4,Bool.and_false,if_neg (by simp),if_pos w1,Fs,if_pos (by rw[h3];rfl),h3,Dg e,h,hx,b,c,d,jC];rfl
theorem rt5 (h:e.kind=5):RT l p e:=by
 obtain⟨⟨x,hx,hn⟩,b,c,d,d2⟩:=ff5 h hf;have ht:Ag e=Ag x++ [Ak Ik,Ak Ql]:=by rw[Cu7 h];unfold tE;rw[hx];rfl
 intro k hat;rw[ht] at hat⊢
 have r:=ih x (Ar (by rw[hx];simp)) k hat.left;have w1:isW l (k+(Ag x).length) [Ik,Ql]=true:=At.words (ws:= [Ik,Ql]) (ts:= []) hat.right;refine .ofName ⟨hat.1,hat.le⟩ (Pe (by omega)) ?_;rw[r.name hn,Rl _ _ r.le.2,if_pos w1,Dg e,h,hx,b,c,d,d2,jC];rfl
theorem rt6 (h:e.kind=6):RT l p e:=by
 obtain⟨⟨x,hx,hn⟩,b,c,d⟩:=Ci3 (.inr h) hf;have ht:Ag e=Ag x++ [Ak Fm,Jm e.s]:=by rw[Cu8 h];unfold tE;rw[hx];rfl
 intro k hat;rw[ht] at hat⊢
 have r:=ih x (Ar (by rw[hx];simp)) k hat.left;have h1:=hat.right;have h2:At l (k+(Ag x).length+1) [Jm e.s]:=At.tail h1;have h3:=h2.head.1;have w1:isW l (k+(Ag x).length) [Fm]=true:=At.word h1;have w2:isW l (k+(Ag x).length) [Ik]=false:=Dt w1 (by decide);have w4:isW l (k+(Ag x).length+1) [Br]=false:=Fb (ws:= [Br]) (by rw[h3];exact Ag8 (.inl rfl)) (by simp) [];refine .ofName ⟨hat.1,hat.le⟩ (Pe (by omega)) ?_;rw[r.name hn,Rl _ _ r.le.2,Eh w2,w2,Dt w1 (t:=Br) (by decide),Cv1 (s:=Fm) (t:=Br),w4,Bool.and_false,if_neg (by simp),if_neg (by simp),if_neg (by simp),if_neg (by simp),if_pos w1,Fs,if_pos (by rw[h3];rfl),h3,Dg e,h,hx,b,c,d,jC];rfl
theorem rt7 (hv: ∀x∈parts e,Au x=true) (h:e.kind=7):RT l p e:=by
 obtain⟨⟨x,hx,hn⟩,ha,b,c,d⟩:=ff7 h hf;have ht:Ag e=Ag x++Ak Br::(taE e++ [Ak Cb]):=by rw[Cu9 h];unfold tE;rw[hx];rfl
 intro k hat;rw[ht] at hat⊢
 have r:=ih x (Ar (by rw[hx];simp)) k hat.left;have h1:=hat.right;have h2:At l (k+(Ag x).length+1) (taE e++ [Ak Cb]):=At.tail h1;have h3:=h2.right;have w1:isW l (k+(Ag x).length) [Br]=true:=At.word h1;have w2:isW l (k+(Ag x).length) [Ik]=false:=Dt w1 (by decide);have w3:=At.word h3;rw[Ii,jF,jF,jF,decide_eq_true_eq,decide_eq_true_eq,List.all_eq_true] at ha;refine .ofName ⟨hat.1,hat.le⟩ (Pe (by omega)) ?_;cases hea:e.a with
 | nil=>rw[hea] at ha;simp at ha
 | cons a az=>
  have hta:taE e=Fo Gv ((a::az).map Ey):=by rw[taE,hea]
  obtain⟨j,g1,g2,g3,g4,g5⟩:=Ah2 (l:=l) (f:=p.arg) (fL:=p.argsL) (sep:=Gv) (W:=wA) (g:=Ey) (st:=stA) (fun az k hk=>Di1 az hk) (by decide+kernel) (b:=a) (r:=az)
   (fun c hc k hat hno=>Dt2 hz (ha.2 c (by rw[hea];exact hc)) (fun y hy=>⟨hv y (Gt (by rw[hea];exact hc) hy),ih y (Gt (by rw[hea];exact hc) hy)⟩) hat hno) (by rw[<-hta];exact h2.left) rfl (by rw[<-hta,h3.head.1];decide+kernel) (by rw[<-hta];exact Dt w3 (by decide))
  rw[r.name hn,Rl _ _ r.le.2,Eh w2,w2,if_neg (by simp),if_neg (by simp),if_pos w1,g1];show(p.argsL [stA a] j).then _=_
  rw[g2];show Cx l Cb _ (fun k=>p.nameL 0 (.mk 7 0 0 [] [stE x] ((a::az).map stA) 0 0 0) k)=_;rw[Cx,<-hta,if_pos w3,Dg e,h,hx,b,c,d,hea,jC,jA,jC];congr 1;simp only[jA,jB];omega
theorem rt8 (h:e.kind=8):RT l p e:=by
 obtain⟨⟨x,y,hx,hn⟩,b,c,d,d2⟩:=ff8 h hf;have ht:Ag e=Ag x++Ak Fm::Po (!Kk y.kind) (Ag y):=by rw[Cv0 h];unfold tE;rw[hx];rfl
 intro k hat;rw[ht] at hat⊢
 have r:=ih x (Ar (by rw[hx];simp)) k hat.left;have hy:=ih y (Ar (by rw[hx];simp));have h1:=hat.right;have h2:At l (k+(Ag x).length+1) (Po (!Kk y.kind) (Ag y)):=At.tail h1;have w1:isW l (k+(Ag x).length) [Fm]=true:=At.word h1;have w2:isW l (k+(Ag x).length) [Ik]=false:=Dt w1 (by decide);have key:isW l (k+(Ag x).length+1) [Br]=true/\p.paren (k+(Ag x).length+1)= .ok (stE y) (k+(Ag x).length+1+(Po (!Kk y.kind) (Ag y)).length):=by
  cases hb:Kk y.kind with
  | true=>
   rw[hb] at h2;have h2:At l (k+(Ag x).length+1) (Ag y):=h2;have hpr:=(hy _ h2).bare hb;refine⟨?_,hpr⟩;have hy5:y.kind=9\/y.kind=10:=by simpa [Kk] using hb
   rcases hy5 with h9 | h9
   ·rw[Bw1 h9] at h2;exact At.word h2
   ·rw[Au1 h9] at h2;exact At.word h2
  | false=>
   rw[hb] at h2;have h2:At l (k+(Ag x).length+1) (Ak Br::(Ag y++ [Ak Cb])):=h2;have h3:At l (k+(Ag x).length+1+1) (Ag y++ [Ak Cb]):=At.tail h2;have h4:=h3.right;refine⟨At.word h2, ?_⟩;rw[Tf (At.word h2) ((hy _ h3.left).full (by rw[h4.head.1];decide+kernel)) (At.word h4)];show _=Res.ok _ (_+(Ak Br::(Ag y++ [Ak Cb])).length);congr 1;simp only[jA,jC,jB];omega
 refine .ofName ⟨hat.1,hat.le⟩ (Pe (by omega)) ?_;rw[r.name hn,Rl _ _ r.le.2,Eh w2,w2,Dt w1 (t:=Br) (by decide),Cv1,w1,key.1,if_neg (by simp),if_neg (by simp),if_neg (by simp),if_pos (by rfl),key.2];show p.nameL 0 _ _=_;rw[Dg e,h,hx,b,c,d,d2,jC,jA];congr 1;omega
theorem rt9 (h:e.kind=9):RT l p e:=by
 obtain⟨hl,ha,b,c,d⟩:=ff9 h hf;intro k hat;rw[Bw1 h] at hat⊢
 have h2:At l (k+1) (taE e++ [Ak Cb]):=At.tail hat;have h3:=h2.right;have w3:=At.word h3;have w0':=At.word hat;rw[Fk] at ha;simp only[jF,decide_eq_true_eq,Bool.not_eq_true'] at ha;have hpar:p.paren k= .ok (stE e) (k+(Ak Br::(taE e++ [Ak Cb])).length):=by
  cases hea:e.a with
  | nil=>rw[hea] at ha;simp at ha
  | cons a az=>
   have hta:taE e=Fo Gv ((a::az).map Ey):=by rw[taE,hea]
   obtain⟨j,g1,g2,g3,g4,g5⟩:=Ah2 (l:=l) (f:=p.assoc) (fL:=p.assocsL) (sep:=Gv) (W:=wA) (g:=Ey) (st:=stA) (fun az k hk=>An8 az hk) (by decide+kernel) (b:=a) (r:=az)
    (fun c hc k hat hno=>Cx5 (La ha.2 c (by rw[hea];exact hc)) (fun y hy=>ih y (Gt (by rw[hea];exact hc) hy)) hat hno) (by rw[<-hta];exact h2.left) rfl (by rw[<-hta,h3.head.1];decide+kernel) (by rw[<-hta];exact Dt w3 (by decide))
   rw[Va w0' g1 g2 (by rw[<-hta];exact w3),hz,Ci5 (by rw[Ag6,<-hea];exact ha.1.2),Dg e,h,hl,b,c,d,hea,<-hta];congr 1;simp only[jA,jC,jB];omega
 exact .of5 ⟨hat.1,hat.le⟩ (lv5 (by omega)) (fun c=>(Md (by omega) c).elim) (fun _=>hpar) fun _=>by rw[Ow w0',hpar]
theorem Dz4 (h:e.kind=10):RT l p e:=by
 obtain⟨⟨x,y,z,hx⟩,b,c,d,d2⟩:=Ds9 h hf;have ht:Ag e=Ak Br::Ak wIf::(Ag x++Ak Jl::(Ag y++Ak Ki::(Ag z++ [Ak Cb]))):=by rw[Au1 h];unfold tE;rw[hx];rfl
 intro k hat;rw[ht] at hat⊢
 have w0':=At.word hat;have h1:At l (k+1) (Ak wIf::_):=At.tail hat;have h2:=At.tail h1;have h3:=h2.right;have h4:=(At.tail h3);have h5:=h4.right;have h6:=(At.tail h5);have h7:=h6.right;have r1:=(ih x (Ar (by rw[hx];simp)) _ h2.left).full (by rw[h3.head.1];decide+kernel);have r2:=(ih y (Ar (by rw[hx];simp)) _ h4.left).full (by rw[h5.head.1];decide+kernel);have r3:=(ih z (Ar (by rw[hx];simp)) _ h6.left).full (by rw[h7.head.1];decide+kernel);have hpar:p.paren k= .ok (stE e) (k+(Ak Br::Ak wIf::(Ag x++Ak Jl::(Ag y++Ak Ki::(Ag z++ [Ak Cb])))).length):=by
  rw[Bw7 hat.1,Vb w0',if_pos (At.word h1),r1];simp only[Xf,Vb (At.word h3),r2,Vb (At.word h5),r3,Vb (At.word h7)];rw[hz,Dg e,h,hx,b,c,d,d2];congr 1;simp only[jA,jC,jB];omega
 exact .of5 ⟨hat.1,hat.le⟩ (lv5 (by omega)) (fun c=>(Md (by omega) c).elim) (fun _=>hpar) fun _=>by rw[Ow w0',hpar]
theorem Dz5 (h:e.kind=11):RT l p e:=by
 obtain⟨⟨x,hx⟩,⟨o,ho,ho2⟩,b,c,d⟩:=Dt0 h hf;have ht:Ag e=(Aq o).map Ak++Ay x (Gl e):=by rw[Bp7 h,ho,jD];unfold pE tE;rw[hx];rfl
 have hlv:Ao e=if o=18\/o=19 then 2 else 4:=by
  unfold Ao;rw[h,ho,if_neg (by decide),if_pos rfl];rcases ho2 with rfl | rfl | rfl | rfl<;>rfl
 have hR:=ih x (Ar (by rw[hx];simp));intro k hat;rw[ht] at hat⊢
 have h1:=hat.right;rw[jK] at h1;have hst: ∀li,li=0->Jv o li (stE x)=stE e:=fun li hli=>by
  rw[Jv,if_neg (by omega),Dg e,h,ho,hx,b,c,d,hli];rfl
 have e1:k+((Aq o).map Ak++Ay x (Gl e)).length=k+(Aq o).length+(Ay x (Gl e)).length:=by rw[jC,jK];omega
 by_cases c1:o=18\/o=19
 ·have hl2:Ao e=2:=by rw[hlv,if_pos c1]
  have hM:Gl e=3:=by rw[Gl,if_pos hl2]
  rw[hM] at hat h1 e1⊢
  rw[e1];obtain⟨q1,q2⟩:=Ao1 (want:=0) (.inr (.inl ⟨by simp [Ek];omega,rfl⟩)) hat (.inl rfl);refine .of2 ⟨hat.1,by have:=h1.le;exact this⟩ hl2 fun hn=> ?_;rw[Ag9 hat.1,q1];show(p.term (k+(Aq o).length)).then _=_
  rw[Cx2 hR h1 rfl (s53 hn),Xc h1.le hn];show p.addL (Jv o _ (stE x)) _=_;rw[hst _ (hz k)]
 ·have hl2:Ao e=4:=by rw[hlv,if_neg c1]
  have hM:Gl e=5:=by rw[Gl,if_neg (by omega)]
  rw[hM] at hat h1 e1⊢
  rw[e1];obtain⟨q1,q2⟩:=Ao1 (want:=0) (.inr (.inr (.inr (.inr ⟨by simp [Gf];omega,rfl⟩)))) hat (.inl rfl);refine .of4 ⟨hat.1,by have:=h1.le;exact this⟩ hl2 fun hn=> ?_;rw[Uy hat.1,q1];show(p.primary (k+(Aq o).length)).then _=_
  rw[Dx6 hR h1 rfl hn];show Res.ok (Jv o _ (stE x)) _=_;rw[hst _ (hz k)]
end
end Go.Dl

-- Chapter 3: expressions: the plain laws, part 14: the tokens of an expression are read as that expression: operators, membership; all.
namespace Go.Dl
open Go
set_option maxRecDepth 10000
def hdW (o:Nat):List UInt8:=(Aq o).headD []
theorem Dt3: ∀o,o<18->1<=o->Aq o=hdW o::(Aq o).tail:=by decide+kernel
theorem Di5: ∀o,o<18->1<=o->(o<3->nof w3 (Ak (hdW o)))/\(o<7->nof w5 (Ak (hdW o)))/\(7<=o->o<13->nof w2 (Ak (hdW o)))/\(13<=o->nof w1 (Ak (hdW o))):=by decide+kernel
section
variable {l:List Tok} {k k':Nat} {s:List UInt8} {p:PS} [hr:Rdr l p] {e:Ex}
theorem Di6 {o:Nat} {ts:List Tok} (h1:1<=o) (h2:o<=17) (h:At l k ((Aq o).map Ak++ts)):tk l k=Ak (hdW o):=by
 rw[Dt3 o (by omega) h1] at h;exact(At.head h).1
theorem Ci6 {o:Nat} {x y:Ex} (h1:13<=o) (h2:o<=17) (hR:RT l p y) (h:At l k ((Aq o).map Ak++Ay y 1)) (hk':k'=k+(Aq o).length+(Ay y 1).length) (hn:nof w1 (tk l k')) (want:Nat) (hw:want=0\/want=o):
  (opF l want k De)=(o,k+(Aq o).length)/\p.restL o x k=p.restL o (both o x (stE y)) k':=by
 have h3:=h.right;rw[jK] at h3;have hrel:=Dm9 hR h3 hk' hn;have ho:o∈De:=by simp [De];omega
 have hs: ∃z j,p.simple (k+(Aq o).length)= .ok z j:=by
  rw[Xe] at hrel;cases c:p.simple (k+(Aq o).length) with
  | bot=>rw[c] at hrel;cases hrel
  | fail j=>rw[c] at hrel;cases hrel
  | ok z j=>exact⟨z,j,rfl⟩
 obtain⟨z,j,hs⟩:=hs;have q: ∀want,want=0\/want=o->opF l want k De=(o,k+(Aq o).length):=fun want hw=>Ds8 ho h hw hs;refine⟨q want hw, ?_⟩;rw[Au6 o x h.1,if_neg (by omega),q o (.inr rfl),if_neg (by dsimp only;omega)];have e1:((p.simple (k+(Aq o).length)).then fun y k=>(p.relation y k).then fun y k=>p.restL o (both o x y) k)=(Xe p (k+(Aq o).length)).then fun y k=>p.restL o (both o x y) k:=by rw[Xe,Ag7]
 show((p.simple (k+(Aq o).length)).then fun y k=>(p.relation y k).then fun y k=>p.restL o (both o x y) k)=_;rw[e1,hrel];rfl
variable (hz: ∀k,(tk l k).line=0) (hf:Au e=true) (ih: ∀x∈parts e,RT l p x)
include hf ih
theorem Dz6 (h:e.kind=12):RT l p e:=by
 obtain⟨⟨x,y,hx⟩,⟨o,ho,ho1,ho2⟩,b,c,d⟩:=Dt1 h hf;have ht:Ag e=Ay x (Dq e)++((Aq o).map Ak++Ay y (Eu e)):=by rw[Bp8 h,ho,jD];unfold pE tE;rw[hx];rfl
 have hlv:Ao e=if 13<=o then 0 else if 7<=o then 1 else if o<=2 then 2 else 3:=by
  unfold Ao;rw[h,ho,if_neg (by decide),if_neg (by decide),if_pos rfl]
  repeat' split
  all_goals omega
 have hX:=ih x (Ar (by rw[hx];simp));have hY:=ih y (Ar (by rw[hx];simp));have hst:stE e=both o (stE x) (stE y):=by
  rw[Dg e,h,ho,hx,b,c,d,both,Nk];rfl
 have g0:e.l.getD 0 ex0=x:=by rw[hx];rfl
 have hwn:=Di5 o (by omega) ho1;intro k hat;rw[ht] at hat⊢
 have h1:=hat.right;have hhd:=Di6 ho1 ho2 h1;have h2:=h1.right;rw[jK] at h2;have e1:k+(Ay x (Dq e)++((Aq o).map Ak++Ay y (Eu e))).length=k+(Ay x (Dq e)).length+(Aq o).length+(Ay y (Eu e)).length:=by
  rw[jC,jC,jK];omega
 have hle:=hat.le;rw[e1] at hle⊢
 by_cases c13:13<=o
 ·have hl:Ao e=0:=by rw[hlv,if_pos c13]
  have hR:Eu e=1:=by rw[Eu,hl];rfl
  have hL:Dq e=if x.kind=12/\x.oper=o then 0 else 1:=by
   rw[Dq,hl,if_neg (by decide),g0,ho];by_cases cc:x.kind=12/\x.oper=o
   ·rw[if_pos cc,if_neg (by rintro⟨_,a | a⟩;exact a cc.1;exact a cc.2)]
   ·rw[if_neg cc,if_pos ⟨rfl,by by_cases c1:x.kind=12;exact .inr fun a=>cc ⟨c1,a⟩;exact .inl c1⟩]
  rw[hR] at h1 h2 hle⊢
  refine .of0 ⟨hat.1,hle⟩ hl fun hn=> ?_;rw[hst,ho,jD];have hr1:=fun want hw=>Ci6 (x:=stE x) c13 ho2 hY h1 rfl hn want hw;by_cases cc:x.kind=12/\x.oper=o
  ·rw[hL,if_pos cc] at hat hr1 hhd⊢
   have hpx:Ay x 0=Ag x:=by
    rw[Ay,decide_eq_false (by have:=(Qq x).1;omega)];rfl
   rw[hpx] at hat hr1 hhd⊢
   have r:=hX _ hat.left;have hlx:Ao x=0:=by
    unfold Ao;rw[cc.1,cc.2,if_neg (by decide),if_neg (by decide),if_pos rfl,if_pos (by omega)]
   rw[r.exp hlx (by rw[hhd];exact hwn.2.2.2 c13),cc.2,jD,(hr1 0 (.inl rfl)).2]
  ·rw[hL,if_neg cc] at hat hr1 hhd⊢
   have hrel:=Dm9 hX hat.left rfl (by rw[hhd];exact hwn.2.2.2 c13);rw[Ah0 hat.1,hrel];show p.restL (opF l 0 _ De).1 (stE x) _=_;rw[(hr1 0 (.inl rfl)).1,(hr1 0 (.inl rfl)).2]
 ·by_cases c7:7<=o
  ·have hl:Ao e=1:=by rw[hlv,if_neg c13,if_pos c7]
   have hR:Eu e=2:=by rw[Eu,hl];rfl
   have hL:Dq e=2:=by rw[Dq,hl];rfl
   rw[hL] at hat h1 h2 hhd hle⊢
   rw[hR] at h1 h2 hle⊢
   refine .of1 ⟨hat.1,hle⟩ hl fun hn=> ?_;have s1:=Qw hX hat.left rfl (by rw[hhd];exact hwn.2.2.1 c7 (by omega));have s2:=Qw hY h2 rfl (s2d hn);obtain⟨q1,q2⟩:=Ao1 (want:=0) (.inl ⟨by simp [Il];omega,rfl⟩) h1 (.inl rfl);rw[hst,Xe,s1];show p.relation (stE x) _=_;rw[Mc _ h1.1,q1,if_pos (by dsimp only;omega),s2];rfl
  ·by_cases c2:o<=2
   ·have hl:Ao e=2:=by rw[hlv,if_neg c13,if_neg c7,if_pos c2]
    have hR:Eu e=3:=by rw[Eu,hl];rfl
    have hL:Dq e=2:=by rw[Dq,hl,if_neg (by decide),if_neg (by rintro⟨a,_⟩;cases a)]
    rw[hL] at hat h1 h2 hhd hle⊢
    rw[hR] at h1 h2 hle⊢
    refine .of2 ⟨hat.1,hle⟩ hl fun hn=> ?_;obtain⟨q1,q2⟩:=Ao1 (want:=0) (.inr (.inr (.inl ⟨by simp [Ok];omega,rfl⟩))) h1 (.inl rfl);rw[hst,Dm8 hX hat.left rfl (by rw[hhd];exact hwn.1 (by omega)),Cw5 _ h1.1,q1,if_neg (by dsimp only;omega)];show(p.term (_+(Aq o).length)).then _=_
    rw[Cx2 hY h2 rfl (s53 hn),Xc hle hn];rfl
   ·have hl:Ao e=3:=by rw[hlv,if_neg c13,if_neg c7,if_neg c2]
    have hR:Eu e=4:=by rw[Eu,hl];rfl
    have hL:Dq e=3:=by rw[Dq,hl,if_neg (by decide),if_neg (by rintro⟨a,_⟩;cases a)]
    rw[hL] at hat h1 h2 hhd hle⊢
    rw[hR] at h1 h2 hle⊢
    refine .of3 ⟨hat.1,hle⟩ hl fun hn=> ?_;obtain⟨q1,q2⟩:=Ao1 (want:=0) (.inr (.inr (.inr (.inl ⟨by simp [Ol];omega,rfl⟩)))) h1 (.inl rfl);rw[hst,Cx2 hX hat.left rfl (by rw[hhd];exact hwn.2.1 (by omega)),Cw7 _ h1.1,q1,if_neg (by dsimp only;omega)];show(p.factor (_+(Aq o).length)).then _=_
    rw[Dx7 hY h2 rfl hn];rfl
theorem Dn0 {j:Nat} {x:Ex} {kind:Int} (hkd:kind=13\/kind=14) (h:e.kind=kind) (hx:(∃y z,e.l= [x,y,z])\/ ∃y,e.l= [x,y]/\Bg y=true) (b:e.oper=0) (c:e.n=0) (d:e.s= []) (d2:e.a= []) (ha:At l j (Fz e)) (hk':k'=j+(Fz e).length) (hn:nof w2d (tk l k')):
  inK l (stE x) kind j p= .ok (stE e) k':=by
 rcases hx with⟨y,z,hx⟩ | ⟨y,hx,hny⟩
 ·have hY:=ih y (Ar (by rw[hx];simp));have hZ:=ih z (Ar (by rw[hx];simp));have ht:Fz e=Ay y 2++Ak Ee::Ay z 2:=by unfold Fz pE tE;rw[hx];rfl
  have hst:stE e= .mk kind 0 0 [] [stE x,stE y,stE z] [] 0 0 0:=by rw[Dg e,h,hx,b,c,d,d2];rfl
  rw[ht] at ha hk';have h1:=ha.right;have h2:At l (j+(Ay y 2).length+1) (Ay z 2):=At.tail h1;have s1:=Qw hY ha.left rfl (by rw[h1.head.1];decide+kernel);have s2:=Qw hZ h2 (k':=k') (by rw[hk',jC,jA];omega) (s2d hn);rw[inK,s1,Xf,if_pos (At.word h1),s2,Xf,hst,Nk]
 ·have hY:=ih y (Ar (by rw[hx];simp));have ht:Fz e=Ag y:=by unfold Fz pE tE;rw[hx];rfl
  have hst:stE e= .mk kind 0 0 [] [stE x,stE y] [] 0 0 0:=by rw[Dg e,h,hx,b,c,d,d2];rfl
  rw[ht] at ha hk';subst hk';have r:=hY _ ha;have s1:p.simple j= .ok (stE y) (j+(Ag y).length):=by
   rw[r.simp (by rw[Qr hny];decide) (s32 (s2d hn)),Xd r.le.2 (s2d hn)]
  rw[inK,s1,Xf,Fb hn (by decide),if_neg (by simp),Ux,hny,if_pos rfl,hst,Nk]
theorem Dx9 (hkd:e.kind=13\/e.kind=14):RT l p e:=by
 obtain⟨hx',b,c,d,d2⟩:=Cx4 hkd hf;have hx: ∃x,(∃y z,e.l= [x,y,z])\/ ∃y,e.l= [x,y]/\Bg y=true:=by
  rcases hx' with⟨x,y,z,hx⟩ | ⟨x,y,hx⟩
  ·exact⟨x, .inl ⟨y,z,hx⟩⟩
  ·exact⟨x, .inr ⟨y,hx⟩⟩
 clear hx';obtain⟨x,hx⟩:=hx;have g0:e.l.getD 0 ex0=x/\0<e.l.length:=by rcases hx with⟨y,z,hx⟩ | ⟨y,hx,_⟩<;>(rw[hx];exact⟨rfl,by simp⟩)
 have hX:=ih x (Ar (by rcases hx with⟨y,z,hx⟩ | ⟨y,hx,_⟩<;>(rw[hx];simp)));have hl:Ao e=1:=by unfold Ao;rw[if_pos hkd]
 have hp0:pE e 0 2=Ay x 2:=by rw[Dm3 g0.2,g0.1]
 intro k hat;rcases hkd with h | h
 ·rw[Bp9 h,hp0] at hat⊢
  have h1:=hat.right;have hw:=At.word h1;have h2:At l (k+(Ay x 2).length+1) (Fz e):=At.tail h1;have e1:k+(Ay x 2++Ak wIn::Fz e).length=k+(Ay x 2).length+1+(Fz e).length:=by rw[jC,jA];omega
  rw[e1];refine .of1 ⟨hat.1,h2.le⟩ hl fun hn=> ?_;rw[Xe,Qw hX hat.left rfl (by rw[h1.head.1];decide+kernel),Xf,Mc _ h1.1,Rk hw (by decide),if_neg (by simp),if_pos hw];exact Dn0 hf ih (.inl rfl) h hx b c d d2 h2 rfl hn
 ·rw[Bq0 h,hp0] at hat⊢
  have h1:=hat.right;have hw:=At.word h1;have hw2:isW l (k+(Ay x 2).length) [Lz,wIn]=true:=At.words (ws:= [Lz,wIn]) h1;have h2:At l (k+(Ay x 2).length+2) (Fz e):=At.tail (At.tail h1);have e1:k+(Ay x 2++Ak Lz::Ak wIn::Fz e).length=k+(Ay x 2).length+2+(Fz e).length:=by rw[jC,jA,jA];omega
  rw[e1];refine .of1 ⟨hat.1,h2.le⟩ hl fun hn=> ?_;rw[Xe,Qw hX hat.left rfl (by rw[h1.head.1];decide+kernel),Xf,Mc _ h1.1,Rk hw (by decide),if_neg (by simp),Dt hw (t:=wIn) (by decide),if_neg (by simp),if_pos hw2];exact Dn0 hf ih (.inr rfl) h hx b c d d2 h2 rfl hn
end
theorem Lb {d:Nat} {e:Ex} (h:Ed d e=true):Au e=true/\ ∀x∈parts e,Ed (d+1) x=true:=by
 rw[Lh,jF,jF,List.all_eq_true] at h;exact⟨h.1.2,h.2⟩
theorem Dt4 {l:List Tok} {p:PS} [hr:Rdr l p] (hz: ∀k,(tk l k).line=0) (e:Ex): ∀d,Ed d e=true->RT l p e:=by
 refine Ex.ind (p:=fun e=> ∀d,Ed d e=true->RT l p e) (fun e ih d hv=> ?_) e;obtain⟨hf,hp⟩:=Lb hv;have ih': ∀x∈parts e,RT l p x:=fun x hx=>ih x hx _ (hp x hx);have hvp: ∀x∈parts e,Au x=true:=fun x hx=>(Lb (hp x hx)).1;by_cases c1:e.kind=1
 ·exact rt1 hz hf c1
 by_cases c2:e.kind=2
 ·exact rt2 hz hf c2
 by_cases c3:e.kind=3
 ·exact rt3 hz hf c3
 by_cases c4:e.kind=4
 ·exact rt4 hz hf ih' c4
 by_cases c5:e.kind=5
 ·exact rt5 hz hf ih' c5
 by_cases c6:e.kind=6
 ·exact rt6 hz hf ih' c6
 by_cases c7:e.kind=7
 ·exact rt7 hz hf ih' hvp c7
 by_cases c8:e.kind=8
 ·exact rt8 hz hf ih' c8
 by_cases c9:e.kind=9
 ·exact rt9 hz hf ih' c9
 by_cases c10:e.kind=10
 ·exact Dz4 hz hf ih' c10
 by_cases c11:e.kind=11
 ·exact Dz5 hz hf ih' c11
 by_cases c12:e.kind=12
 ·exact Dz6 hf ih' c12
 by_cases c13:e.kind=13\/e.kind=14
 ·exact Dx9 hf ih' c13
 exfalso;have:Au e=false:=by
  unfold Au;rw[if_neg c1,if_neg c2,if_neg c3,if_neg (by omega),if_neg c5,if_neg c7,if_neg c8,if_neg c9,if_neg c10,if_neg c11,if_neg c12,if_neg c13]
 rw[this] at hf;cases hf
end Go.Dl

-- Chapter 3: the package's writer: bounds, operators, membership, choices.
namespace Go.Dl
open Go Go.Proofs
set_option maxRecDepth 100000
theorem lx0 {e:List Ex} {x:Ex} {r:List Ex} (h:e=x::r):(e.flatMap dEx).take 9=dEx x:=by
 rw[h,List.flatMap_cons,List.take_append_of_le_length (by rw[Ai];omega),List.take_of_length_le (by rw[Ai];omega)]
theorem lx1 {e:List Ex} {x y:Ex} {r:List Ex} (h:e=x::y::r):((e.flatMap dEx).drop 9).take 9=dEx y:=by
 rw[h,List.flatMap_cons,List.drop_left' (Ai x)];exact lx0 rfl
theorem lx2 {e:List Ex} {x y z:Ex} {r:List Ex} (h:e=x::y::z::r):((e.flatMap dEx).drop 18).take 9=dEx z:=by
 rw[h,List.flatMap_cons,show 18=9+9 from rfl,<-List.drop_drop,List.drop_left' (Ai x)];exact lx1 rfl
section
variable {G:Nat->DVal}
set_option maxHeartbeats 4000000 in
theorem Vc (hG:GX G) (a b:Ex) (ha:WrC Tryz.prog G 187 [.agg (dEx a)] (Ag a)) (hb:WrC Tryz.prog G 187 [.agg (dEx b)] (Ag b)):WrC Tryz.prog G 299 [.agg (dEx a), .agg (dEx b)] (Ay a 2++Ak Ee::Ay b 2):=by
 intro B r ts H hB hlen hw;rw[jC,jA] at hlen;refine Ac Tryz.func299 Tryz.call299 rfl (by kernel_rfl) ?_;simp(disch:=omega)only[go_sem,DVal.cells];intro r4 hr4;dsimp only at hr4;obtain⟨K,hK⟩: ∃K',K'=upd H r4 (some (.cells (dEx a) 27)):=⟨_,rfl⟩;rw[<-hK];have gr4:K r4=some (.cells (dEx a) 27):=by rw[hK];exact Aa _ _ _
 have hwK:WAt (upd B r4 (some (.cells (dEx a) 27))) r ts K:=by rw[hK];exact hw.frame hr4 _
 have n4:r≠r4:=hw.ne hr4;have hB4:B r4=none:=(hw.lo hr4).1;simp(disch:=omega)only[go_sem,DVal.cells];intro r5 hr5;dsimp only at hr5;obtain⟨L,hL⟩: ∃K',K'=upd K r5 (some (.cells (dEx b) 27)):=⟨_,rfl⟩;rw[<-hL];have gr5:L r5=some (.cells (dEx b) 27):=by rw[hL];exact Aa _ _ _
 have hwL:WAt (upd (upd B r4 (some (.cells (dEx a) 27))) r5 (some (.cells (dEx b) 27))) r ts L:=by rw[hL];exact hwK.frame hr5 _
 have n5:r≠r5:=hwK.ne hr5;have hB5:=(hwK.lo hr5).1;have n45:r4≠r5:=Ad hr5 gr4;have gr4':L r4=some (.cells (dEx a) 27):=by rw[hL];exact Af gr4 n45
 obtain⟨C,hC⟩: ∃C,C=upd (upd B r4 (some (.cells (dEx a) 27))) r5 (some (.cells (dEx b) 27)):=⟨_,rfl⟩;rw[<-hC] at hwL;have hCr:C r=none:=by rw[hC,Aj _ _ _ _ n5,Aj _ _ _ _ n4];exact hB
 have c4:C r4=some (.cells (dEx a) 27):=by rw[hC];exact Af (Aa _ _ _) n45
 have c5:C r5=some (.cells (dEx b) 27):=by rw[hC];exact Aa _ _ _
 simp(disch:=omega)only[go_sem,gr4'];refine(Cc hG a 2 ha C r _ _ hCr (by omega) hwL).mono ?_;rintro _ H1 ⟨rfl,h1⟩;simp(disch:=omega)only[go_sem];intro q1 hq1;dsimp only at hq1;simp(disch:=omega)only[go_sem];refine(Mh hG Ee hq1 hCr (by simp;omega) h1).mono ?_;rintro _ H2 ⟨rfl,h2⟩;have g5:=h2.keep c5 n5.symm;simp(disch:=omega)only[go_sem,g5];refine(Cc hG b 2 hb C r _ _ hCr (by simp;omega) h2).mono ?_;rintro _ H3 ⟨rfl,h3⟩;simp(disch:=omega)only[go_sem];refine Pl.refl ⟨rfl, ?_⟩;rw[hC] at h3;have:=(h3.drop hB5).drop hB4;simpa using this
set_option maxHeartbeats 4000000 in
theorem Bq7 (hG:GX G) (e x:Ex) (o:Nat) (hl:e.l= [x]) (ho:e.oper=o) (ho2:o<22) (hx:WrC Tryz.prog G 187 [.agg (dEx x)] (Ag x)):WrC Tryz.prog G 263 [.agg (dEx e)] ((Aq o).map Ak++Ay x (Gl e)):=by
 intro B r ts H hB hlen hw;rw[jC,jK] at hlen;have hl0:=lx0 hl;have hfl:=Bl Ai e.l;have hll:e.l.length=1:=by rw[hl];rfl
 have hwo:=Sx ho2;have hwl:(Cs4.map dW).length=22:=rfl;refine Ac Tryz.func263 Tryz.call263 rfl (by kernel_rfl) ?_;simp(disch:=omega)only[go_sem,DVal.cells];intro r3 hr3;dsimp only at hr3;obtain⟨K,hK⟩: ∃K',K'=upd H r3 (some (.cells (dEx e) 27)):=⟨_,rfl⟩;rw[<-hK];have gr3:K r3=some (.cells (dEx e) 27):=by rw[hK];exact Aa _ _ _
 have hwK:WAt (upd B r3 (some (.cells (dEx e) 27))) r ts K:=by rw[hK];exact hw.frame hr3 _
 have n3:r≠r3:=hw.ne hr3;have hB3:B r3=none:=(hw.lo hr3).1;have hBK:upd B r3 (some (.cells (dEx e) 27)) r=none:=by rw[Aj _ _ _ _ n3];exact hB
 simp(disch:=omega)only[go_sem,gr3];refine(Jz G K e).mono ?_;rintro _ K1 ⟨rfl,rfl⟩;by_cases c:Ao e=2
 ·have hM:Gl e=3:=by rw[Gl,if_pos c]
  rw[hM] at hlen⊢
  simp(disch:=omega)only[go_sem,c];refine Am (by kernel_rfl) pL1 (by kernel_rfl) ?_;simp(disch:=omega)only[go_sem,gr3];refine(Gw G K1).mono ?_;rintro _ K2 ⟨rfl,rfl⟩;simp(disch:=omega)only[go_sem,gr3,ho,Jf,hwo,hwl,jD];refine(Gy hG (Aq o) _ r _ _ hBK (by rw[jK];omega) hwK).mono ?_;rintro _ H1 ⟨rfl,h1⟩;have g3:=h1.keep (Aa _ _ _) n3.symm;simp(disch:=omega)only[go_sem,g3,hll,hl0,hfl];refine(Cc hG x _ hx _ r _ _ hBK (by rw[jC,jK];omega) h1).mono ?_;rintro _ H2 ⟨rfl,h2⟩;simp(disch:=omega)only[go_sem];refine Pl.refl ⟨rfl, ?_⟩;have:=h2.drop hB3;rw[jO] at this;exact this
 ·have hM:Gl e=5:=by rw[Gl,if_neg c]
  rw[hM] at hlen⊢
  simp(disch:=omega)only[go_sem,c];refine Am (by kernel_rfl) pL1 (by kernel_rfl) ?_;simp(disch:=omega)only[go_sem,gr3];refine(Gw G K1).mono ?_;rintro _ K2 ⟨rfl,rfl⟩;simp(disch:=omega)only[go_sem,gr3,ho,Jf,hwo,hwl,jD];refine(Gy hG (Aq o) _ r _ _ hBK (by rw[jK];omega) hwK).mono ?_;rintro _ H1 ⟨rfl,h1⟩;have g3:=h1.keep (Aa _ _ _) n3.symm;simp(disch:=omega)only[go_sem,g3,hll,hl0,hfl];refine(Cc hG x _ hx _ r _ _ hBK (by rw[jC,jK];omega) h1).mono ?_;rintro _ H2 ⟨rfl,h2⟩;simp(disch:=omega)only[go_sem];refine Pl.refl ⟨rfl, ?_⟩;have:=h2.drop hB3;rw[jO] at this;exact this
set_option maxHeartbeats 4000000 in
theorem Bq8 (hG:GX G) (e x y:Ex) (o:Nat) (hl:e.l= [x,y]) (ho:e.oper=o) (ho2:o<22) (hx:WrC Tryz.prog G 187 [.agg (dEx x)] (Ag x)) (hy:WrC Tryz.prog G 187 [.agg (dEx y)] (Ag y)):
  WrC Tryz.prog G 264 [.agg (dEx e)] (Ay x (Dq e)++((Aq o).map Ak++Ay y (Eu e))):=by
 intro B r ts H hB hlen hw;rw[jC,jC,jK] at hlen;have hl0:=lx0 hl;have hl1:=lx1 hl;have hfl:=Bl Ai e.l;have hll:e.l.length=2:=by rw[hl];rfl
 have hwo:=Sx ho2;have hwl:(Cs4.map dW).length=22:=rfl;have hlv:=Qq e;have g0:e.l.getD 0 ex0=x:=by rw[hl];rfl
 have hx0:(e.l.flatMap dEx)[0]? =some (.int .u8 x.kind):=by rw[hl,List.flatMap_cons,Jw];rfl
 have hx1:(e.l.flatMap dEx)[1]? =some (.int .u8 x.oper):=by rw[hl,List.flatMap_cons,Jw];rfl
 refine Ac Tryz.func264 Tryz.call264 rfl (by kernel_rfl) ?_;simp(disch:=omega)only[go_sem,DVal.cells];intro r3 hr3;dsimp only at hr3;obtain⟨K,hK⟩: ∃K',K'=upd H r3 (some (.cells (dEx e) 27)):=⟨_,rfl⟩;rw[<-hK];have gr3:K r3=some (.cells (dEx e) 27):=by rw[hK];exact Aa _ _ _
 have hwK:WAt (upd B r3 (some (.cells (dEx e) 27))) r ts K:=by rw[hK];exact hw.frame hr3 _
 have n3:r≠r3:=hw.ne hr3;have hB3:B r3=none:=(hw.lo hr3).1;have hBK:upd B r3 (some (.cells (dEx e) 27)) r=none:=by rw[Aj _ _ _ _ n3];exact hB
 simp(disch:=omega)only[go_sem,gr3];refine(Jz G K e).mono ?_;rintro _ K1 ⟨rfl,rfl⟩;have hwl1:IntKind.i64.wrap (Ao e+1)=Ao e+1:=by rw[IntKind.wrap_i64];omega
 by_cases c1:Ao e=1
 ·have hL:Dq e=2:=by rw[Dq,if_pos c1]
  have hR:Eu e=2:=by rw[Eu,if_pos c1]
  rw[hL,hR] at hlen⊢
  simp(disch:=omega)only[go_sem,c1,hwl1];simp(disch:=omega)only[go_sem,gr3,hll,hl0,hfl];refine(Cc hG x _ hx _ r _ _ hBK (by omega) hwK).mono ?_;rintro _ H1 ⟨rfl,h1⟩;have g3:=h1.keep (Aa _ _ _) n3.symm;simp(disch:=omega)only[go_sem];refine Am (by kernel_rfl) pL1 (by kernel_rfl) ?_;simp(disch:=omega)only[go_sem,g3];refine(Gw G H1).mono ?_;rintro _ K2 ⟨rfl,rfl⟩;simp(disch:=omega)only[go_sem,g3,ho,Jf,hwo,hwl,jD];refine(Gy hG (Aq o) _ r _ _ hBK (by rw[jC,jK];omega) h1).mono ?_;rintro _ H3 ⟨rfl,h3⟩;have g3':=h3.keep (Aa _ _ _) n3.symm;simp(disch:=omega)only[go_sem,g3',hll,hl1,hfl];refine(Cc hG y _ hy _ r _ _ hBK (by rw[jC,jC,jK];omega) h3).mono ?_;rintro _ H4 ⟨rfl,h4⟩;simp(disch:=omega)only[go_sem];refine Pl.refl ⟨rfl, ?_⟩;have:=h4.drop hB3;rw[jO,jO] at this;exact this
 ·have hR:Eu e=Ao e+1:=by rw[Eu,if_neg c1]
  by_cases c0:Ao e=0
  ·have hR:Eu e=1:=by rw[Eu,if_neg c1,c0];rfl
   by_cases ck:x.kind=12
   ·by_cases co:x.oper=(o:Int)
    ·have hL:Dq e=0:=by rw[Dq,if_neg c1,g0,ho,if_neg (by rintro⟨_,a | a⟩;exact a ck;exact a co),c0]
     rw[hL,hR] at hlen⊢
     have c01: ¬(0:Int)=1:=by decide
     simp(disch:=omega)only[go_sem,c0,hwl1,c01];refine Am (by kernel_rfl) pL0 (by kernel_rfl) ?_;simp(disch:=omega)only[go_sem,gr3,hll,hfl,hx0,hx1,ck,co,ho];simp(disch:=omega)only[go_sem,gr3,hll,hl0,hfl];refine(Cc hG x _ hx _ r _ _ hBK (by omega) hwK).mono ?_;rintro _ H1 ⟨rfl,h1⟩;have g3:=h1.keep (Aa _ _ _) n3.symm;simp(disch:=omega)only[go_sem];refine Am (by kernel_rfl) pL1 (by kernel_rfl) ?_;simp(disch:=omega)only[go_sem,g3];refine(Gw G H1).mono ?_;rintro _ K2 ⟨rfl,rfl⟩;simp(disch:=omega)only[go_sem,g3,ho,Jf,hwo,hwl,jD];refine(Gy hG (Aq o) _ r _ _ hBK (by rw[jC,jK];omega) h1).mono ?_;rintro _ H3 ⟨rfl,h3⟩;have g3':=h3.keep (Aa _ _ _) n3.symm;simp(disch:=omega)only[go_sem,g3',hll,hl1,hfl];refine(Cc hG y _ hy _ r _ _ hBK (by rw[jC,jC,jK];omega) h3).mono ?_;rintro _ H4 ⟨rfl,h4⟩;simp(disch:=omega)only[go_sem];refine Pl.refl ⟨rfl, ?_⟩;have:=h4.drop hB3;rw[jO,jO] at this;exact this
    ·have hL:Dq e=1:=by rw[Dq,if_neg c1,g0,ho,if_pos ⟨c0, .inr co⟩]
     rw[hL,hR] at hlen⊢
     simp(disch:=omega)only[go_sem,c0,hwl1];refine Am (by kernel_rfl) pL0 (by kernel_rfl) ?_;simp(disch:=omega)only[go_sem,gr3,hll,hfl,hx0,hx1,ck,co,ho];simp(disch:=omega)only[go_sem,gr3,hll,hl0,hfl];refine(Cc hG x _ hx _ r _ _ hBK (by omega) hwK).mono ?_;rintro _ H1 ⟨rfl,h1⟩;have g3:=h1.keep (Aa _ _ _) n3.symm;simp(disch:=omega)only[go_sem];refine Am (by kernel_rfl) pL1 (by kernel_rfl) ?_;simp(disch:=omega)only[go_sem,g3];refine(Gw G H1).mono ?_;rintro _ K2 ⟨rfl,rfl⟩;simp(disch:=omega)only[go_sem,g3,ho,Jf,hwo,hwl,jD];refine(Gy hG (Aq o) _ r _ _ hBK (by rw[jC,jK];omega) h1).mono ?_;rintro _ H3 ⟨rfl,h3⟩;have g3':=h3.keep (Aa _ _ _) n3.symm;simp(disch:=omega)only[go_sem,g3',hll,hl1,hfl];refine(Cc hG y _ hy _ r _ _ hBK (by rw[jC,jC,jK];omega) h3).mono ?_;rintro _ H4 ⟨rfl,h4⟩;simp(disch:=omega)only[go_sem];refine Pl.refl ⟨rfl, ?_⟩;have:=h4.drop hB3;rw[jO,jO] at this;exact this
   ·have hL:Dq e=1:=by rw[Dq,if_neg c1,g0,ho,if_pos ⟨c0, .inl ck⟩]
    rw[hL,hR] at hlen⊢
    simp(disch:=omega)only[go_sem,c0,hwl1];refine Am (by kernel_rfl) pL0 (by kernel_rfl) ?_;simp(disch:=omega)only[go_sem,gr3,hll,hfl,hx0,hx1,ck,ho];simp(disch:=omega)only[go_sem,gr3,hll,hl0,hfl];refine(Cc hG x _ hx _ r _ _ hBK (by omega) hwK).mono ?_;rintro _ H1 ⟨rfl,h1⟩;have g3:=h1.keep (Aa _ _ _) n3.symm;simp(disch:=omega)only[go_sem];refine Am (by kernel_rfl) pL1 (by kernel_rfl) ?_;simp(disch:=omega)only[go_sem,g3];refine(Gw G H1).mono ?_;rintro _ K2 ⟨rfl,rfl⟩;simp(disch:=omega)only[go_sem,g3,ho,Jf,hwo,hwl,jD];refine(Gy hG (Aq o) _ r _ _ hBK (by rw[jC,jK];omega) h1).mono ?_;rintro _ H3 ⟨rfl,h3⟩;have g3':=h3.keep (Aa _ _ _) n3.symm;simp(disch:=omega)only[go_sem,g3',hll,hl1,hfl];refine(Cc hG y _ hy _ r _ _ hBK (by rw[jC,jC,jK];omega) h3).mono ?_;rintro _ H4 ⟨rfl,h4⟩;simp(disch:=omega)only[go_sem];refine Pl.refl ⟨rfl, ?_⟩;have:=h4.drop hB3;rw[jO,jO] at this;exact this
  ·have hL:Dq e=Ao e:=by rw[Dq,if_neg c1,if_neg (by rintro⟨a,_⟩;exact c0 a)]
   rw[hL,hR] at hlen⊢
   simp(disch:=omega)only[go_sem,c0,c1,hwl1];refine Am (by kernel_rfl) pL0 (by kernel_rfl) ?_;simp(disch:=omega)only[go_sem,gr3,hll,hfl,hx0,hx1,ho,c0];simp(disch:=omega)only[go_sem,gr3,hll,hl0,hfl];refine(Cc hG x _ hx _ r _ _ hBK (by omega) hwK).mono ?_;rintro _ H1 ⟨rfl,h1⟩;have g3:=h1.keep (Aa _ _ _) n3.symm;simp(disch:=omega)only[go_sem];refine Am (by kernel_rfl) pL1 (by kernel_rfl) ?_;simp(disch:=omega)only[go_sem,g3];refine(Gw G H1).mono ?_;rintro _ K2 ⟨rfl,rfl⟩;simp(disch:=omega)only[go_sem,g3,ho,Jf,hwo,hwl,jD];refine(Gy hG (Aq o) _ r _ _ hBK (by rw[jC,jK];omega) h1).mono ?_;rintro _ H3 ⟨rfl,h3⟩;have g3':=h3.keep (Aa _ _ _) n3.symm;simp(disch:=omega)only[go_sem,g3',hll,hl1,hfl];refine(Cc hG y _ hy _ r _ _ hBK (by rw[jC,jC,jK];omega) h3).mono ?_;rintro _ H4 ⟨rfl,h4⟩;simp(disch:=omega)only[go_sem];refine Pl.refl ⟨rfl, ?_⟩;have:=h4.drop hB3;rw[jO,jO] at this;exact this
set_option maxHeartbeats 4000000 in
theorem Vd (hG:GX G) (e x:Ex) (ws:List (List UInt8)) (hl:(∃y z,e.l= [x,y,z])\/ ∃y,e.l= [x,y]) (hp: ∀y∈e.l,WrC Tryz.prog G 187 [.agg (dEx y)] (Ag y)):
  WrC Tryz.prog G 265 [.agg (dEx e),dW ws] (Ay x 2++(ws.map Ak++Fz e)):=by
 intro B r ts H hB hlen hw;rw[jC,jC,jK] at hlen;have hx:WrC Tryz.prog G 187 [.agg (dEx x)] (Ag x):=hp x (by rcases hl with⟨y,z,hl⟩ | ⟨y,hl⟩<;>(rw[hl];simp));have hl0:(e.l.flatMap dEx).take 9=dEx x:=by rcases hl with⟨y,z,hl⟩ | ⟨y,hl⟩<;>exact lx0 hl
 have hfl:=Bl Ai e.l;have hlp:0<e.l.length:=by rcases hl with⟨y,z,hl⟩ | ⟨y,hl⟩<;>(rw[hl];simp)
 refine Ac Tryz.func265 Tryz.call265 rfl (by kernel_rfl) ?_;simp(disch:=omega)only[go_sem,DVal.cells];intro r4 hr4;dsimp only at hr4;obtain⟨K,hK⟩: ∃K',K'=upd H r4 (some (.cells (dEx e) 27)):=⟨_,rfl⟩;rw[<-hK];have gr4:K r4=some (.cells (dEx e) 27):=by rw[hK];exact Aa _ _ _
 have hwK:WAt (upd B r4 (some (.cells (dEx e) 27))) r ts K:=by rw[hK];exact hw.frame hr4 _
 have n4:r≠r4:=hw.ne hr4;have hB4:B r4=none:=(hw.lo hr4).1;have hBK:upd B r4 (some (.cells (dEx e) 27)) r=none:=by rw[Aj _ _ _ _ n4];exact hB
 rcases hl with⟨y,z,hl⟩ | ⟨y,hl⟩
 ·have hll:e.l.length=3:=by rw[hl];rfl
  have hl1:=lx1 hl;have hl2:=lx2 hl;have ht:Fz e=Ay y 2++Ak Ee::Ay z 2:=by unfold Fz pE tE;rw[hl];rfl
  rw[ht] at hlen⊢
  simp(disch:=omega)only[go_sem,gr4,hl0,hfl,hlp];refine(Cc hG x _ hx _ r _ _ hBK (by omega) hwK).mono ?_;rintro _ H1 ⟨rfl,h1⟩;simp(disch:=omega)only[go_sem];refine(Gy hG ws _ r _ _ hBK (by rw[jC,jK];omega) h1).mono ?_;rintro _ H2 ⟨rfl,h2⟩;have g2:=h2.keep (Aa _ _ _) n4.symm;simp(disch:=omega)only[go_sem,g2,hll];refine Am (by kernel_rfl) pL8 (by kernel_rfl) ?_;simp(disch:=omega)only[go_sem,g2,hll,hl1,hl2,hfl];refine(Vc hG y z (hp y (by rw[hl];simp)) (hp z (by rw[hl];simp)) _ r _ _ hBK (by rw[jC,jC,jK];omega) h2).mono ?_;rintro _ H4 ⟨rfl,h4⟩;simp(disch:=omega)only[go_sem];refine Pl.refl ⟨rfl, ?_⟩;have:=h4.drop hB4;rw[jO,jO] at this;exact this
 ·have hll:e.l.length=2:=by rw[hl];rfl
  have hl1:=lx1 hl;have ht:Fz e=Ag y:=by unfold Fz pE tE;rw[hl];rfl
  rw[ht] at hlen⊢
  simp(disch:=omega)only[go_sem,gr4,hl0,hfl,hlp];refine(Cc hG x _ hx _ r _ _ hBK (by omega) hwK).mono ?_;rintro _ H1 ⟨rfl,h1⟩;simp(disch:=omega)only[go_sem];refine(Gy hG ws _ r _ _ hBK (by rw[jC,jK];omega) h1).mono ?_;rintro _ H2 ⟨rfl,h2⟩;have g2:=h2.keep (Aa _ _ _) n4.symm;simp(disch:=omega)only[go_sem,g2,hll,hl1,hfl];refine(hp y (by rw[hl];simp) _ r _ _ hBK (by rw[jC,jC,jK];omega) h2).mono ?_;rintro _ H4 ⟨rfl,h4⟩;simp(disch:=omega)only[go_sem];refine Pl.refl ⟨rfl, ?_⟩;have:=h4.drop hB4;rw[jO,jO] at this;exact this
set_option maxHeartbeats 4000000 in
theorem Av0 (hG:GX G) (c:Ch) {n:Nat} (hc:Dp n c=true) (hp: ∀y∈c.l,WrC Tryz.prog G 187 [.agg (dEx y)] (Ag y)):WrC Tryz.prog G 275 [.agg (dCh c)] (Es c):=by
 intro B r ts H hB hlen hw;have hfl:=Bl Ai c.l;unfold Dp at hc;refine Ac Tryz.func275 Tryz.call275 rfl (by kernel_rfl) ?_;simp(disch:=omega)only[go_sem,DVal.cells];intro r3 hr3;dsimp only at hr3;obtain⟨K,hK⟩: ∃K',K'=upd H r3 (some (.cells (dCh c) 47)):=⟨_,rfl⟩;rw[<-hK];have gr3:K r3=some (.cells (dCh c) 47):=by rw[hK];exact Aa _ _ _
 have hwK:WAt (upd B r3 (some (.cells (dCh c) 47))) r ts K:=by rw[hK];exact hw.frame hr3 _
 have n3:r≠r3:=hw.ne hr3;have hB3:B r3=none:=(hw.lo hr3).1;have hBK:upd B r3 (some (.cells (dCh c) 47)) r=none:=by rw[Aj _ _ _ _ n3];exact hB
 by_cases c1:c.kind=1
 ·rw[if_pos c1,decide_eq_true_eq] at hc;obtain⟨x,hx⟩:=Cx3 hc;have hl0:=lx0 hx;have ht:Es c=Ag x:=by rw[Ia,if_pos c1,hx];rfl
  rw[ht] at hlen⊢
  simp(disch:=omega)only[go_sem,gr3,c1,hc,hl0,hfl];refine(hp x (by rw[hx];simp) _ r _ _ hBK hlen hwK).mono ?_;rintro _ H4 ⟨rfl,h4⟩;simp(disch:=omega)only[go_sem];exact Pl.refl ⟨rfl,h4.drop hB3⟩
 ·rw[if_neg c1] at hc;by_cases c2:c.kind=2
  ·rw[if_pos c2,decide_eq_true_eq] at hc;obtain⟨x,y,hx⟩:=Ci2 hc;have hl0:=lx0 hx;have hl1:=lx1 hx;have ht:Es c=Ay x 2++Ak Ee::Ay y 2:=by rw[Ia,if_neg c1,if_pos c2,hx];rfl
   rw[ht] at hlen⊢
   simp(disch:=omega)only[go_sem,gr3,c2];refine Am (by kernel_rfl) pL8 (by kernel_rfl) ?_;simp(disch:=omega)only[go_sem,gr3,hc,hl0,hl1,hfl];refine(Vc hG x y (hp x (by rw[hx];simp)) (hp y (by rw[hx];simp)) _ r _ _ hBK hlen hwK).mono ?_;rintro _ H4 ⟨rfl,h4⟩;simp(disch:=omega)only[go_sem];exact Pl.refl ⟨rfl,h4.drop hB3⟩
  ·have ht:Es c= [Ak Gn]:=by rw[Ia,if_neg c1,if_neg c2]
   rw[ht] at hlen⊢
   simp(disch:=omega)only[go_sem,gr3,c1,c2];intro q1 hq1;dsimp only at hq1;simp(disch:=omega)only[go_sem];refine(Mh hG Gn hq1 hBK hlen hwK).mono ?_;rintro _ H1 ⟨rfl,h1⟩;simp(disch:=omega)only[go_sem];exact Pl.refl ⟨rfl,h1.drop hB3⟩
end
end Go.Dl

-- Chapter 3: the package's writer: lists, associations.
namespace Go.Dl
open Go Go.Proofs
set_option maxRecDepth 100000
theorem Ci7 {α:Type} {l:List α} {j:Nat} (h:j<l.length):l.take (j+1)=l.take j++ [l[j]]:=by rw[List.take_add_one,List.getElem?_eq_getElem h];rfl
theorem Xg {α:Type} (g:α->List Tok) (s:List UInt8) (l:List α) (j:Nat) (h:j<l.length):Fo s ((l.take (j+1)).map g)=Fo s ((l.take j).map g)++((if j=0 then [] else [Ak s])++g l[j]):=by
 rw[Ci7 h,List.map_append,List.map_singleton];by_cases c:j=0
 ·subst c;simp [Fo]
 ·rw[An4 s _ _ (by cases l with
   | nil=>simp at h
   | cons x l=>cases j with
    | zero=>exact absurd rfl c
    | succ j=>simp),if_neg c];rfl
theorem Ao3 {α:Type} (g:α->List Tok) (s:List UInt8) (l:List α): ∀(n j:Nat),j+n<=l.length->(Fo s ((l.take j).map g)).length<=(Fo s ((l.take (j+n)).map g)).length
 | 0,j,_=>Nat.le_refl _
 | n+1,j,h=>by
  rw[<-Nat.add_assoc,Xg g s l (j+n) (by omega),jC];have:=Ao3 g s l n j (by omega);omega
theorem Bw9 {α:Type} (g:α->List Tok) (s:List UInt8) (l:List α) (j:Nat) (h:j<=l.length):(Fo s ((l.take j).map g)).length<=(Fo s (l.map g)).length:=by
 have:=Ao3 g s l (l.length-j) j (by omega);rw[Nat.add_sub_cancel' h,List.take_length] at this;exact this
section
variable {G:Nat->DVal}
set_option maxHeartbeats 4000000 in
theorem Bf9 (hG:GX G) (l:List Ch) (s:List UInt8) (hll:l.length<=1000000000) (hp: ∀c∈l,WrC Tryz.prog G 275 [.agg (dCh c)] (Es c)) (B:Ab) (r:Nat) (ts:List Tok) (H:Ab) (hB:B r=none) (hlen:ts.length+(Fo s (l.map Es)).length<=1000000000) (hw:WAt B r ts H):
  Ae Tryz.prog G 274 [.optr r 0,dCl l, .str s, .func (.func 275) [.optr r 0] []] H (WQ B r (ts++Fo s (l.map Es))):=by
 refine Ac Tryz.func274 Tryz.call274 rfl (by kernel_rfl) ?_;simp(disch:=omega)only[go_sem,dCl];obtain⟨I,hI⟩: ∃I:Nat->(Nat->DVal)->Ab->Prop,∀j env heap,I j env heap↔(env 0= .optr r 0/\env 2= .str s/\env 3= .func (.func 275) [.optr r 0] []/\env 10=dCl l/\env 11=dI l.length/\env 12=dI j/\j<=l.length/\WAt B r (ts++Fo s ((l.take j).map Es)) heap):=⟨_,fun _ _ _=>Iff.rfl⟩;refine Bt4.run I (fun j=>l.length-j) 0 ((hI _ _ _).2 ?_) ?_
 ·simp(disch:=omega)only[go_sem];(repeat' apply And.intro)<;>(try first | rfl | assumption | omega);simpa [Fo] using hw
 ·intro j env heap hi;obtain⟨e0,e2,e3,e10,e11,e12,hj,hwj⟩:=(hI _ _ _).1 hi;by_cases hlt:j<l.length
  ·have hlt':(j:Int)<(l.length:Int):=by omega
   have hw1:IntKind.i64.wrap ((j:Int)+1)=((j+1:Nat):Int):=by rw[IntKind.wrap_i64];omega
   have hget:=Dc Ea l j hlt;have hfl:=Bl Ea l;have htk:=Xg Es s l j hlt;have hle:=Bw9 Es s l (j+1) hlt;have hpc:=hp l[j] (List.getElem_mem hlt);obtain⟨c,hce⟩: ∃c,c=l[j]:=⟨_,rfl⟩;rw[<-hce] at hget htk hpc;rw[htk,jC,jC] at hle;simp(disch:=omega)only[go_sem,e0,e2,e3,e10,e11,e12,hlt',dCl,hget,hfl,jD];intro r9 hr9;dsimp only at hr9;simp(disch:=omega)only[go_sem,e0,e2,e3,e10,e11,e12];obtain⟨K,hK⟩: ∃K',K'=upd heap r9 (some (.cells (dCh c) 47)):=⟨_,rfl⟩;rw[<-hK];have gr9:K r9=some (.cells (dCh c) 47):=by rw[hK];exact Aa _ _ _
   have hwK:WAt (upd B r9 (some (.cells (dCh c) 47))) r (ts++Fo s ((l.take j).map Es)) K:=by rw[hK];exact hwj.frame hr9 _
   have n9:r≠r9:=hwj.ne hr9;have hB9:B r9=none:=(hwj.lo hr9).1;have hBK:upd B r9 (some (.cells (dCh c) 47)) r=none:=by rw[Aj _ _ _ _ n9];exact hB
   by_cases c0:j=0
   ·have c0': ¬(j:Int)>0:=by omega
    have c0'': ¬(0:Int)<(j:Int):=by omega
    rw[if_pos c0] at htk hle;simp(disch:=omega)only[go_sem,e0,e2,e3,e10,e11,e12,gr9,c0',c0''];refine(hpc _ r _ _ hBK (by rw[jC];simp only[jB] at hle;omega) hwK).mono ?_;rintro _ H2 ⟨rfl,h2⟩;simp(disch:=omega)only[go_sem,e0,e2,e3,e10,e11,e12];refine⟨j+1,_,Lq.refl _,(hI _ _ _).2 ?_,by omega⟩;simp(disch:=omega)only[go_sem,e0,e2,e3,e10,e11,e12,hw1];(repeat' apply And.intro)<;>(try first | rfl | assumption | omega);have:=h2.drop hB9;rw[htk,jG,<-jO];exact this
   ·have c0'':(0:Int)<(j:Int):=by omega
    rw[if_neg c0] at htk hle;simp only[jQ] at hle;simp(disch:=omega)only[go_sem,e0,e2,e3,e10,e11,e12,gr9,c0''];intro q1 hq1;dsimp only at hq1;simp(disch:=omega)only[go_sem,e0,e2,e3,e10,e11,e12];refine(Mh hG s hq1 hBK (by rw[jC];omega) hwK).mono ?_;rintro _ H1 ⟨rfl,h1⟩;have g1:=h1.keep (Aa _ _ _) n9.symm;simp(disch:=omega)only[go_sem,e0,e2,e3,e10,e11,e12,g1];refine(hpc _ r _ _ hBK (by rw[jC,jC,jQ];omega) h1).mono ?_;rintro _ H2 ⟨rfl,h2⟩;simp(disch:=omega)only[go_sem,e0,e2,e3,e10,e11,e12];refine⟨j+1,_,Lq.refl _,(hI _ _ _).2 ?_,by omega⟩;simp(disch:=omega)only[go_sem,e0,e2,e3,e10,e11,e12,hw1];(repeat' apply And.intro)<;>(try first | rfl | assumption | omega);have:=h2.drop hB9;rw[htk,<-jO,<-jO];exact this
  ·have:j=l.length:=by omega
   subst this;have hlt': ¬(l.length:Int)<(l.length:Int):=by omega
   rw[List.take_length] at hwj;simp(disch:=omega)only[go_sem,e0,e2,e3,e10,e11,e12,hlt'];exact Pl.refl ⟨rfl,hwj⟩
set_option maxHeartbeats 4000000 in
theorem Yj (hG:GX G) (l:List As) (s:List UInt8) (hll:l.length<=1000000000) (hp: ∀c∈l,WrC Tryz.prog G 262 [.agg (dAs c)] (Ey c)) (B:Ab) (r:Nat) (ts:List Tok) (H:Ab) (hB:B r=none) (hlen:ts.length+(Fo s (l.map Ey)).length<=1000000000) (hw:WAt B r ts H):
  Ae Tryz.prog G 261 [.optr r 0,dAl l, .str s, .func (.func 262) [.optr r 0] []] H (WQ B r (ts++Fo s (l.map Ey))):=by
 refine Ac Tryz.func261 Tryz.call261 rfl (by kernel_rfl) ?_;simp(disch:=omega)only[go_sem,dAl];obtain⟨I,hI⟩: ∃I:Nat->(Nat->DVal)->Ab->Prop,∀j env heap,I j env heap↔(env 0= .optr r 0/\env 2= .str s/\env 3= .func (.func 262) [.optr r 0] []/\env 10=dAl l/\env 11=dI l.length/\env 12=dI j/\j<=l.length/\WAt B r (ts++Fo s ((l.take j).map Ey)) heap):=⟨_,fun _ _ _=>Iff.rfl⟩;refine Bt4.run I (fun j=>l.length-j) 0 ((hI _ _ _).2 ?_) ?_
 ·simp(disch:=omega)only[go_sem];(repeat' apply And.intro)<;>(try first | rfl | assumption | omega);simpa [Fo] using hw
 ·intro j env heap hi;obtain⟨e0,e2,e3,e10,e11,e12,hj,hwj⟩:=(hI _ _ _).1 hi;by_cases hlt:j<l.length
  ·have hlt':(j:Int)<(l.length:Int):=by omega
   have hw1:IntKind.i64.wrap ((j:Int)+1)=((j+1:Nat):Int):=by rw[IntKind.wrap_i64];omega
   have hget:=Dc Dr l j hlt;have hfl:=Bl Dr l;have htk:=Xg Ey s l j hlt;have hle:=Bw9 Ey s l (j+1) hlt;have hpc:=hp l[j] (List.getElem_mem hlt);obtain⟨c,hce⟩: ∃c,c=l[j]:=⟨_,rfl⟩;rw[<-hce] at hget htk hpc;rw[htk,jC,jC] at hle;simp(disch:=omega)only[go_sem,e0,e2,e3,e10,e11,e12,hlt',dAl,hget,hfl,jD];intro r9 hr9;dsimp only at hr9;simp(disch:=omega)only[go_sem,e0,e2,e3,e10,e11,e12];obtain⟨K,hK⟩: ∃K',K'=upd heap r9 (some (.cells (dAs c) 44)):=⟨_,rfl⟩;rw[<-hK];have gr9:K r9=some (.cells (dAs c) 44):=by rw[hK];exact Aa _ _ _
   have hwK:WAt (upd B r9 (some (.cells (dAs c) 44))) r (ts++Fo s ((l.take j).map Ey)) K:=by rw[hK];exact hwj.frame hr9 _
   have n9:r≠r9:=hwj.ne hr9;have hB9:B r9=none:=(hwj.lo hr9).1;have hBK:upd B r9 (some (.cells (dAs c) 44)) r=none:=by rw[Aj _ _ _ _ n9];exact hB
   by_cases c0:j=0
   ·have c0': ¬(j:Int)>0:=by omega
    have c0'': ¬(0:Int)<(j:Int):=by omega
    rw[if_pos c0] at htk hle;simp(disch:=omega)only[go_sem,e0,e2,e3,e10,e11,e12,gr9,c0',c0''];refine(hpc _ r _ _ hBK (by rw[jC];simp only[jB] at hle;omega) hwK).mono ?_;rintro _ H2 ⟨rfl,h2⟩;simp(disch:=omega)only[go_sem,e0,e2,e3,e10,e11,e12];refine⟨j+1,_,Lq.refl _,(hI _ _ _).2 ?_,by omega⟩;simp(disch:=omega)only[go_sem,e0,e2,e3,e10,e11,e12,hw1];(repeat' apply And.intro)<;>(try first | rfl | assumption | omega);have:=h2.drop hB9;rw[htk,jG,<-jO];exact this
   ·have c0'':(0:Int)<(j:Int):=by omega
    rw[if_neg c0] at htk hle;simp only[jQ] at hle;simp(disch:=omega)only[go_sem,e0,e2,e3,e10,e11,e12,gr9,c0''];intro q1 hq1;dsimp only at hq1;simp(disch:=omega)only[go_sem,e0,e2,e3,e10,e11,e12];refine(Mh hG s hq1 hBK (by rw[jC];omega) hwK).mono ?_;rintro _ H1 ⟨rfl,h1⟩;have g1:=h1.keep (Aa _ _ _) n9.symm;simp(disch:=omega)only[go_sem,e0,e2,e3,e10,e11,e12,g1];refine(hpc _ r _ _ hBK (by rw[jC,jC,jQ];omega) h1).mono ?_;rintro _ H2 ⟨rfl,h2⟩;simp(disch:=omega)only[go_sem,e0,e2,e3,e10,e11,e12];refine⟨j+1,_,Lq.refl _,(hI _ _ _).2 ?_,by omega⟩;simp(disch:=omega)only[go_sem,e0,e2,e3,e10,e11,e12,hw1];(repeat' apply And.intro)<;>(try first | rfl | assumption | omega);have:=h2.drop hB9;rw[htk,<-jO,<-jO];exact this
  ·have:j=l.length:=by omega
   subst this;have hlt': ¬(l.length:Int)<(l.length:Int):=by omega
   rw[List.take_length] at hwj;simp(disch:=omega)only[go_sem,e0,e2,e3,e10,e11,e12,hlt'];exact Pl.refl ⟨rfl,hwj⟩
end
end Go.Dl

-- Chapter 3: the package's writer: associations; all expressions.
namespace Go.Dl
open Go Go.Proofs
set_option maxRecDepth 100000
section
variable {G:Nat->DVal}
set_option maxHeartbeats 4000000 in
theorem Yk (hG:GX G) (a:As) (hc:a.c= []\/(a.c.length<=1000000000/\ ∃n,∀c∈a.c,Dp n c=true)) (hp: ∀y∈Ct a,WrC Tryz.prog G 187 [.agg (dEx y)] (Ag y)):WrC Tryz.prog G 262 [.agg (dAs a)] (Ey a):=by
 intro B r ts H hB hlen hw;have he:=hp a.e (Jd a);have hae:((dAs a).drop 1).take 9=dEx a.e:=by rw[Sr,jE,jJ,List.take_of_length_le (by rw[Ai];omega)]
 refine Ac Tryz.func262 Tryz.call262 rfl (by kernel_rfl) ?_;simp(disch:=omega)only[go_sem,DVal.cells];intro r3 hr3;dsimp only at hr3;obtain⟨K,hK⟩: ∃K',K'=upd H r3 (some (.cells (dAs a) 44)):=⟨_,rfl⟩;rw[<-hK];have gr3:K r3=some (.cells (dAs a) 44):=by rw[hK];exact Aa _ _ _
 have hwK:WAt (upd B r3 (some (.cells (dAs a) 44))) r ts K:=by rw[hK];exact hw.frame hr3 _
 have n3:r≠r3:=hw.ne hr3;have hB3:B r3=none:=(hw.lo hr3).1;have hBK:upd B r3 (some (.cells (dAs a) 44)) r=none:=by rw[Aj _ _ _ _ n3];exact hB
 by_cases c0:a.c= []
 ·have ht:Ey a=Ag a.e:=by rw[Kl,c0];rfl
  have hll:a.c.length=0:=by rw[c0];rfl
  have c0': ¬(0:Int)<((0:Nat):Int):=by omega
  rw[ht] at hlen⊢
  simp(disch:=omega)only[go_sem,gr3,hll,c0',hae];refine(he _ r _ _ hBK hlen hwK).mono ?_;rintro _ H1 ⟨rfl,h1⟩;simp(disch:=omega)only[go_sem];exact Pl.refl ⟨rfl,h1.drop hB3⟩
 ·obtain⟨hcl,n,hcr⟩:=hc.resolve_left c0;have hlp:0<a.c.length:=List.length_pos_iff.2 c0;have hlp':(0:Int)<(a.c.length:Int):=by omega
  have ht:Ey a=Fo Fl (a.c.map Es)++Ak Bd::Ag a.e:=by
   rw[Kl,if_neg];simpa using c0
  rw[ht] at hlen⊢
  rw[jC,jA] at hlen;simp(disch:=omega)only[go_sem,gr3,hlp'];refine(Bf9 hG a.c Fl hcl (fun c hc=>Av0 hG c (hcr c hc) fun y hy=>hp y (Ky hc hy)) _ r _ _ hBK (by omega) hwK).mono ?_;rintro _ H1 ⟨rfl,h1⟩;simp(disch:=omega)only[go_sem];intro q1 hq1;dsimp only at hq1;simp(disch:=omega)only[go_sem];refine(Mh hG Bd hq1 hBK (by rw[jC];omega) h1).mono ?_;rintro _ H2 ⟨rfl,h2⟩;have g2:=h2.keep (Aa _ _ _) n3.symm;simp(disch:=omega)only[go_sem,g2,hae];refine(he _ r _ _ hBK (by rw[jC,jC,jQ];omega) h2).mono ?_;rintro _ H3 ⟨rfl,h3⟩;simp(disch:=omega)only[go_sem];refine Pl.refl ⟨rfl, ?_⟩;have:=h3.drop hB3;rw[jO,jO] at this;exact this
theorem Av1 {a:As} (h:(a.c.isEmpty || Cn a.c)=true):a.c= []\/(a.c.length<=1000000000/\ ∃n,∀c∈a.c,Dp n c=true):=by
 cases hc:a.c with
 | nil=>exact .inl rfl
 | cons c r=>
  rw[hc] at h
  cases r with
  | nil=>
   simp only[Cn,List.isEmpty_cons,Bool.false_or,jF,decide_eq_true_eq] at h
   refine .inr ⟨by simp,1,fun d hd=> ?_⟩
   rw[List.mem_singleton] at hd
   subst hd
   rw[Dp,if_pos h.1,decide_eq_true_eq]
   match hl:d.l with
   | [x]=>rfl
   | []=>rw[hl] at h;cases h.2
   | _::_::_=>rw[hl] at h;cases h.2
  | cons d r=>simp [Cn] at h
theorem Bg0 {a:As} (h:(a.c.isEmpty || Ck a.c)=true):a.c= []\/(a.c.length<=1000000000/\ ∃n,∀c∈a.c,Dp n c=true):=by
 cases hc:a.c with
 | nil=>exact .inl rfl
 | cons c r=>
  rw[hc] at h;simp only[List.isEmpty_cons,Bool.false_or,Ck,jF,decide_eq_true_eq,List.all_eq_true] at h;exact .inr ⟨by omega,_,h.2⟩
def ifT (x y z:Ex):Nat->List Tok
 | 0=> []
 | 1=>Ak Br::Ak wIf::Ag x
 | 2=>Ak Br::Ak wIf::(Ag x++Ak Jl::Ag y)
 | _=>Ak Br::Ak wIf::(Ag x++Ak Jl::(Ag y++Ak Ki::Ag z))
set_option maxHeartbeats 8000000 in
theorem Bq9 (hG:GX G) (e:Ex) (hf:Au e=true) (ih: ∀x∈parts e,WrC Tryz.prog G 187 [.agg (dEx x)] (Ag x)):WrC Tryz.prog G 187 [.agg (dEx e)] (Ag e):=by
 intro B r ts H hB hlen hw;have hfl:=Bl Ai e.l;refine Ac Tryz.func187 Tryz.call187 rfl (by kernel_rfl) ?_;simp(disch:=omega)only[go_sem,DVal.cells];intro r3 hr3;dsimp only at hr3;obtain⟨K,hK⟩: ∃K',K'=upd H r3 (some (.cells (dEx e) 27)):=⟨_,rfl⟩;rw[<-hK];have gr3:K r3=some (.cells (dEx e) 27):=by rw[hK];exact Aa _ _ _
 have hwK:WAt (upd B r3 (some (.cells (dEx e) 27))) r ts K:=by rw[hK];exact hw.frame hr3 _
 have n3:r≠r3:=hw.ne hr3;have hB3:B r3=none:=(hw.lo hr3).1;have hBK:upd B r3 (some (.cells (dEx e) 27)) r=none:=by rw[Aj _ _ _ _ n3];exact hB
 simp(disch:=omega)only[go_sem,gr3];refine(Ef G _ e).mono ?_;rintro _ K1 ⟨rfl,rfl⟩;by_cases hk:e.kind=1
 ·have hnm:Bg e=false:=by cases h:Bg e with | false=>rfl | true=>exact(Md (by omega) h).elim
  rw[Cu4 hk] at hlen⊢
  rw[hnm];simp(disch:=omega)only[go_sem,gr3,hk];refine Am (by kernel_rfl) (.take 0 (.take 1 (.take 2 (.take 3 (.take 4 (.take 5 (.take 6 (.take 7 (.go 8 [4] (.go 9 [] (.take 10 (.take 11 (.go 12 [] .done))))))))))))) (by kernel_rfl) ?_;obtain⟨v,hv⟩:=hwK;have gr:=hv.keep (Aa _ _ _);simp(disch:=omega)only[go_sem,gr3,gr];intro r6 hr6;dsimp only at hr6;have n6:r≠r6:=Ad hr6 gr;have m6:=n6.symm;have hv6:=hv.new hr6 (some (.cells (Dw (Bf0 e.n)) 31));simp(disch:=omega)only[go_sem,gr,n6,m6];refine Er.append (m:=1) hv6 rfl (by rw[jQ] at hlen;omega) fun v2 H6 hv2=> ?_;have g6:=hv2.keep (Aa _ _ _);obtain⟨j1,j2⟩:=hv2.cell1;simp(disch:=omega)only[go_sem,g6,j1,j2];have h7:WAt (upd B r3 (some (.cells (dEx e) 27))) r (ts++ [Bf0 e.n]) (upd H6 r (some (.cells [v2] 241))):=by
   refine⟨v2, ?_⟩;have hv3:=hv2.at (Aa _ _ _) (some (.cells [v2] 241));rw[Gm] at hv3;rw[Ot,jC,jQ];exact hv3
  exact Pl.refl ⟨rfl,h7.drop hB3⟩
 have z1:=hk;clear hk;by_cases hk:e.kind=2
 ·have hnm:Bg e=false:=by cases h:Bg e with | false=>rfl | true=>exact(Md (by omega) h).elim
  rw[Cu5 hk] at hlen⊢
  rw[hnm];simp(disch:=omega)only[go_sem,gr3,hk];intro q1 hq1;dsimp only at hq1;simp(disch:=omega)only[go_sem,hk];refine(Mh hG Mv hq1 hBK (by(try simp only[jC,jA,jB,jK]);omega) hwK).mono ?_;rintro _ H1 ⟨rfl,h1⟩;have g1:=h1.keep (Aa _ _ _) n3.symm;simp(disch:=omega)only[go_sem];refine Pl.refl ⟨rfl, ?_⟩;have:=h1.drop hB3
  (try simp only[jO,jI,jG] at this⊢)
  exact this
 have z2:=hk;clear hk;by_cases hk:e.kind=3
 ·have hnm:Bg e=true:=Pe (by omega);rw[Bf1 hk] at hlen⊢
  rw[hnm];simp(disch:=omega)only[go_sem,gr3,hk];refine(Tc G e.s _ r _ _ hBK hlen hwK).mono ?_;rintro _ H1 ⟨rfl,h1⟩;simp(disch:=omega)only[go_sem];refine Pl.refl ⟨rfl, ?_⟩;have:=h1.drop hB3
  (try simp only[jO,jI,jG] at this⊢)
  exact this
 have z3:=hk;clear hk;by_cases hk:e.kind=4
 ·obtain⟨⟨x,hx,_⟩,_⟩:=Ci3 (.inl hk) hf;have ht:Ag e=Ag x++ [Ak Ik,Jm e.s]:=by rw[Cu6 hk];unfold tE;rw[hx];rfl
  rw[ht,jC] at hlen;rw[ht];simp only[jA,jB] at hlen;have hll:e.l.length=1:=by rw[hx];rfl
  have hfx:=lx0 hx;have hnm:Bg e=true:=Pe (by omega);rw[hnm];simp(disch:=omega)only[go_sem,gr3,hk,hll,hfl,hfx];refine(ih x (Ar (by rw[hx];simp)) _ r _ _ hBK (by omega) hwK).mono ?_;rintro _ H1 ⟨rfl,h1⟩;have g1:=h1.keep (Aa _ _ _) n3.symm;simp(disch:=omega)only[go_sem,g1,hk];intro q1 hq1;dsimp only at hq1;simp(disch:=omega)only[go_sem,hk];refine(Mh hG Ik hq1 hBK (by(try simp only[jC,jA,jB,jK]);omega) h1).mono ?_;rintro _ H2 ⟨rfl,h2⟩;have g2:=h2.keep (Aa _ _ _) n3.symm;simp(disch:=omega)only[go_sem,g2];refine(Tc G e.s _ r _ _ hBK (by(try simp only[jC,jA,jB,jK]);omega) h2).mono ?_;rintro _ H3 ⟨rfl,h3⟩;simp(disch:=omega)only[go_sem];refine Pl.refl ⟨rfl, ?_⟩;have:=h3.drop hB3
  (try simp only[jO,jI,jG] at this⊢)
  exact this
 have z4:=hk;clear hk;by_cases hk:e.kind=5
 ·obtain⟨⟨x,hx,_⟩,_⟩:=ff5 hk hf;have ht:Ag e=Ag x++ [Ak Ik,Ak Ql]:=by rw[Cu7 hk];unfold tE;rw[hx];rfl
  rw[ht,jC] at hlen;rw[ht];simp only[jA,jB] at hlen;have hll:e.l.length=1:=by rw[hx];rfl
  have hfx:=lx0 hx;have hnm:Bg e=true:=Pe (by omega);rw[hnm];simp(disch:=omega)only[go_sem,gr3,hk,hll,hfl,hfx];refine(ih x (Ar (by rw[hx];simp)) _ r _ _ hBK (by omega) hwK).mono ?_;rintro _ H1 ⟨rfl,h1⟩;have g1:=h1.keep (Aa _ _ _) n3.symm;simp(disch:=omega)only[go_sem,g1,hk];intro q1 hq1;dsimp only at hq1;simp(disch:=omega)only[go_sem];refine(Dz3 hG Ik Ql hq1 hBK (by(try simp only[jC,jA,jB,jK]);omega) h1).mono ?_;rintro _ H2 ⟨rfl,h2⟩;simp(disch:=omega)only[go_sem];refine Pl.refl ⟨rfl, ?_⟩;have:=h2.drop hB3
  (try simp only[jO,jI,jG] at this⊢)
  exact this
 have z5:=hk;clear hk;by_cases hk:e.kind=6
 ·obtain⟨⟨x,hx,_⟩,_⟩:=Ci3 (.inr hk) hf;have ht:Ag e=Ag x++ [Ak Fm,Jm e.s]:=by rw[Cu8 hk];unfold tE;rw[hx];rfl
  rw[ht,jC] at hlen;rw[ht];simp only[jA,jB] at hlen;have hll:e.l.length=1:=by rw[hx];rfl
  have hfx:=lx0 hx;have hnm:Bg e=true:=Pe (by omega);rw[hnm];simp(disch:=omega)only[go_sem,gr3,hk,hll,hfl,hfx];refine(ih x (Ar (by rw[hx];simp)) _ r _ _ hBK (by omega) hwK).mono ?_;rintro _ H1 ⟨rfl,h1⟩;have g1:=h1.keep (Aa _ _ _) n3.symm;simp(disch:=omega)only[go_sem,g1,hk];intro q1 hq1;dsimp only at hq1;simp(disch:=omega)only[go_sem,hk];refine(Mh hG Fm hq1 hBK (by(try simp only[jC,jA,jB,jK]);omega) h1).mono ?_;rintro _ H2 ⟨rfl,h2⟩;have g2:=h2.keep (Aa _ _ _) n3.symm;simp(disch:=omega)only[go_sem,g2];refine(Tc G e.s _ r _ _ hBK (by(try simp only[jC,jA,jB,jK]);omega) h2).mono ?_;rintro _ H3 ⟨rfl,h3⟩;simp(disch:=omega)only[go_sem];refine Pl.refl ⟨rfl, ?_⟩;have:=h3.drop hB3
  (try simp only[jO,jI,jG] at this⊢)
  exact this
 have z6:=hk;clear hk;by_cases hk:e.kind=7
 ·obtain⟨⟨x,hx,_⟩,ha,_⟩:=ff7 hk hf;have ht:Ag e=Ag x++Ak Br::(taE e++ [Ak Cb]):=by rw[Cu9 hk];unfold tE;rw[hx];rfl
  rw[ht,jC,jA,jC] at hlen;rw[ht];simp only[jA,jB,taE] at hlen;unfold taE;have hll:e.l.length=1:=by rw[hx];rfl
  rw[Ii,jF,jF,jF,decide_eq_true_eq,decide_eq_true_eq,List.all_eq_true] at ha;have hfx:=lx0 hx;have hnm:Bg e=true:=Pe (by omega);rw[hnm];simp(disch:=omega)only[go_sem,gr3,hk,hll,hfl,hfx];refine(ih x (Ar (by rw[hx];simp)) _ r _ _ hBK (by omega) hwK).mono ?_;rintro _ H1 ⟨rfl,h1⟩;have g1:=h1.keep (Aa _ _ _) n3.symm;simp(disch:=omega)only[go_sem,g1,hk];intro q1 hq1;dsimp only at hq1;simp(disch:=omega)only[go_sem,hk];refine(Mh hG Br hq1 hBK (by(try simp only[jC,jA,jB,jK]);omega) h1).mono ?_;rintro _ H2 ⟨rfl,h2⟩;have g2:=h2.keep (Aa _ _ _) n3.symm;simp(disch:=omega)only[go_sem,g2];refine(Yj hG e.a Gv (by omega) (fun a hma=>Yk hG a (Av1 (ha.2 a hma)) fun y hy=>ih y (Gt hma hy)) _ r _ _ hBK (by(try simp only[jC,jA,jB,jK]);omega) h2).mono ?_;rintro _ H3 ⟨rfl,h3⟩;simp(disch:=omega)only[go_sem];intro q2 hq2;dsimp only at hq2;simp(disch:=omega)only[go_sem,hk];refine(Mh hG Cb hq2 hBK (by(try simp only[jC,jA,jB,jK]);omega) h3).mono ?_;rintro _ H4 ⟨rfl,h4⟩;have g4:=h4.keep (Aa _ _ _) n3.symm;simp(disch:=omega)only[go_sem];refine Pl.refl ⟨rfl, ?_⟩;have:=h4.drop hB3
  (try simp only[jO,jI,jG] at this⊢)
  exact this
 have z7:=hk;clear hk;by_cases hk:e.kind=8
 ·obtain⟨⟨x,y,hx,_⟩,_⟩:=ff8 hk hf;have ht:Ag e=Ag x++Ak Fm::Po (!Kk y.kind) (Ag y):=by rw[Cv0 hk];unfold tE;rw[hx];rfl
  rw[ht,jC,jA] at hlen;rw[ht];have hll:e.l.length=2:=by rw[hx];rfl
  have hl1:=lx1 hx;have hy0:(e.l.flatMap dEx)[9]? =some (.int .u8 y.kind):=by
   rw[hx,List.flatMap_cons,List.flatMap_cons,Jw x,Jw y];rfl
  have hyl:=Qq y;have hfx:=lx0 hx;have hnm:Bg e=true:=Pe (by omega);rw[hnm];simp(disch:=omega)only[go_sem,gr3,hk,hll,hfl,hfx];refine(ih x (Ar (by rw[hx];simp)) _ r _ _ hBK (by omega) hwK).mono ?_;rintro _ H1 ⟨rfl,h1⟩;have g1:=h1.keep (Aa _ _ _) n3.symm;simp(disch:=omega)only[go_sem,g1,hk];by_cases b9:y.kind=9
  ·have hb:Po (!Kk y.kind) (Ag y)=Ay y 0:=by rw[b9,Ay,decide_eq_false (by omega)];rfl
   rw[hb] at hlen⊢
   simp(disch:=omega)only[go_sem,g1,hll,hfl,hy0,b9];intro q1 hq1;dsimp only at hq1;simp(disch:=omega)only[go_sem,hk];refine(Mh hG Fm hq1 hBK (by(try simp only[jC,jA,jB,jK]);omega) h1).mono ?_;rintro _ H2 ⟨rfl,h2⟩;have g2:=h2.keep (Aa _ _ _) n3.symm;simp(disch:=omega)only[go_sem,g2,hll,hfl,hl1];refine(Cc hG y 0 (ih y (Ar (by rw[hx];simp))) _ r _ _ hBK (by(try simp only[jC,jA,jB,jK]);omega) h2).mono ?_;rintro _ H3 ⟨rfl,h3⟩;simp(disch:=omega)only[go_sem];refine Pl.refl ⟨rfl, ?_⟩;have:=h3.drop hB3
   (try simp only[jO,jI,jG] at this⊢)
   exact this
  ·by_cases b10:y.kind=10
   ·have hb:Po (!Kk y.kind) (Ag y)=Ay y 0:=by rw[b10,Ay,decide_eq_false (by omega)];rfl
    rw[hb] at hlen⊢
    simp(disch:=omega)only[go_sem,g1,hll,hfl,hy0,b10];intro q1 hq1;dsimp only at hq1;simp(disch:=omega)only[go_sem,hk];refine(Mh hG Fm hq1 hBK (by(try simp only[jC,jA,jB,jK]);omega) h1).mono ?_;rintro _ H2 ⟨rfl,h2⟩;have g2:=h2.keep (Aa _ _ _) n3.symm;simp(disch:=omega)only[go_sem,g2,hll,hfl,hl1];refine(Cc hG y 0 (ih y (Ar (by rw[hx];simp))) _ r _ _ hBK (by(try simp only[jC,jA,jB,jK]);omega) h2).mono ?_;rintro _ H3 ⟨rfl,h3⟩;simp(disch:=omega)only[go_sem];refine Pl.refl ⟨rfl, ?_⟩;have:=h3.drop hB3
    (try simp only[jO,jI,jG] at this⊢)
    exact this
   ·have hb:Po (!Kk y.kind) (Ag y)=Ay y 6:=by rw[Ay,decide_eq_true (by omega),Kk,decide_eq_false b9,decide_eq_false b10];rfl
    rw[hb] at hlen⊢
    simp(disch:=omega)only[go_sem,g1,hll,hfl,hy0,b9,b10];intro q1 hq1;dsimp only at hq1;simp(disch:=omega)only[go_sem,hk];refine(Mh hG Fm hq1 hBK (by(try simp only[jC,jA,jB,jK]);omega) h1).mono ?_;rintro _ H2 ⟨rfl,h2⟩;have g2:=h2.keep (Aa _ _ _) n3.symm;simp(disch:=omega)only[go_sem,g2,hll,hfl,hl1];refine(Cc hG y 6 (ih y (Ar (by rw[hx];simp))) _ r _ _ hBK (by(try simp only[jC,jA,jB,jK]);omega) h2).mono ?_;rintro _ H3 ⟨rfl,h3⟩;simp(disch:=omega)only[go_sem];refine Pl.refl ⟨rfl, ?_⟩;have:=h3.drop hB3
    (try simp only[jO,jI,jG] at this⊢)
    exact this
 have z8:=hk;clear hk;by_cases hk:e.kind=9
 ·obtain⟨hx,ha,_⟩:=ff9 hk hf;have ht:Ag e=Ak Br::(taE e++ [Ak Cb]):=Bw1 hk;rw[ht,jA,jC] at hlen;rw[ht];simp only[jA,jB,taE] at hlen;unfold taE;have hnm:Bg e=false:=by cases h:Bg e with | false=>rfl | true=>exact(Md (by omega) h).elim
  rw[hnm];rw[Fk] at ha;simp only[jF,decide_eq_true_eq,Bool.not_eq_true'] at ha;simp(disch:=omega)only[go_sem,gr3,hk];intro q1 hq1;dsimp only at hq1;simp(disch:=omega)only[go_sem,hk];refine(Mh hG Br hq1 hBK (by(try simp only[jC,jA,jB,jK]);omega) hwK).mono ?_;rintro _ H2 ⟨rfl,h2⟩;have g2:=h2.keep (Aa _ _ _) n3.symm;simp(disch:=omega)only[go_sem,g2];refine(Yj hG e.a Gv (by omega) (fun a hma=>Yk hG a (Bg0 (La ha.2 a hma)) fun y hy=>ih y (Gt hma hy)) _ r _ _ hBK (by(try simp only[jC,jA,jB,jK]);omega) h2).mono ?_;rintro _ H3 ⟨rfl,h3⟩;simp(disch:=omega)only[go_sem];intro q2 hq2;dsimp only at hq2;simp(disch:=omega)only[go_sem,hk];refine(Mh hG Cb hq2 hBK (by(try simp only[jC,jA,jB,jK]);omega) h3).mono ?_;rintro _ H4 ⟨rfl,h4⟩;have g4:=h4.keep (Aa _ _ _) n3.symm;simp(disch:=omega)only[go_sem];refine Pl.refl ⟨rfl, ?_⟩;have:=h4.drop hB3
  (try simp only[jO,jI,jG] at this⊢)
  exact this
 have z9:=hk;clear hk;by_cases hk:e.kind=10
 ·obtain⟨⟨x,y,z,hx⟩,_⟩:=Ds9 hk hf;have ht:Ag e=ifT x y z 3++ [Ak Cb]:=by rw[Au1 hk];unfold tE;rw[hx];simp [ifT]
  have hle3:(ifT x y z 1).length<=(ifT x y z 3).length/\(ifT x y z 2).length<=(ifT x y z 3).length:=by
   simp only[ifT,jA,jC];omega
  rw[ht,jC,jQ] at hlen;rw[ht];have hll:e.l.length=3:=by rw[hx];rfl
  have hl0:=lx0 hx;have hl1:=lx1 hx;have hl2:=lx2 hx;have hnm:Bg e=false:=by cases h:Bg e with | false=>rfl | true=>exact(Md (by omega) h).elim
  rw[hnm];simp(disch:=omega)only[go_sem,gr3,hk];intro q0 hq0;dsimp only at hq0;obtain⟨L,hL⟩: ∃K',K'=upd K1 q0 (some (.cells [.str [105,102], .str [116,104,101,110], .str [101,108,115,101]] 9)):=⟨_,rfl⟩;rw[<-hL];have hwL:WAt (upd (upd B r3 (some (.cells (dEx e) 27))) q0 (some (.cells [.str [105,102], .str [116,104,101,110], .str [101,108,115,101]] 9))) r ts L:=by rw[hL];exact hwK.frame hq0 _
  have n0:r≠q0:=hwK.ne hq0;have hB0:=(hwK.lo hq0).1;have n30:r3≠q0:=Ad hq0 gr3;obtain⟨C,hC⟩: ∃C,C=upd (upd B r3 (some (.cells (dEx e) 27))) q0 (some (.cells [.str [105,102], .str [116,104,101,110], .str [101,108,115,101]] 9)):=⟨_,rfl⟩;rw[<-hC] at hwL;have hCr:C r=none:=by rw[hC,Aj _ _ _ _ n0];exact hBK
  have c3:C r3=some (.cells (dEx e) 27):=by rw[hC];exact Af (Aa _ _ _) n30
  have c0:C q0=some (.cells [.str [105,102], .str [116,104,101,110], .str [101,108,115,101]] 9):=by rw[hC];exact Aa _ _ _
  simp(disch:=omega)only[go_sem];obtain⟨I,hI⟩: ∃I:Nat->(Nat->DVal)->Ab->Prop,∀j env heap,I j env heap↔(env 0= .optr r 0/\env 3= .optr r3 0/\env 111= .oslice 1 q0 0 3 3/\env 112=dI 3/\env 113=dI j/\j<=3/\WAt C r (ts++ifT x y z j) heap):=⟨_,fun _ _ _=>Iff.rfl⟩;refine Bt4.run I (fun j=>3-j) 0 ((hI _ _ _).2 ?_) ?_
  ·simp(disch:=omega)only[go_sem];(repeat' apply And.intro)<;>(try first | rfl | assumption | omega);simpa [ifT] using hwL
  ·intro j env heap hi;obtain⟨e0,e3,e111,e112,e113,hj,hwj⟩:=(hI _ _ _).1 hi;have g3:=hwj.keep c3 n3.symm;have g0:=hwj.keep c0 n0.symm;have hj':j=0\/j=1\/j=2\/j=3:=by omega
   have w1:IntKind.i64.wrap (0+1)=1:=by decide
   have w2:IntKind.i64.wrap (1+1)=2:=by decide
   have w3:IntKind.i64.wrap (2+1)=3:=by decide
   rcases hj' with rfl | rfl | rfl | rfl
   ·have z0:((0:Nat):Int)=0:=rfl;simp(disch:=omega)only[go_sem,e0,e3,e111,e112,e113,g0,z0];intro p1 hp1;dsimp only at hp1;simp(disch:=omega)only[go_sem,e0,e3,e111,e112,e113];refine(Mh hG Br hp1 hCr (by simp only[ifT,jH];omega) hwj).mono ?_;rintro _ H1 ⟨rfl,h1⟩;have f1:=h1.keep c3 n3.symm;simp(disch:=omega)only[go_sem,e0,e3,e111,e112,e113,f1];intro p2 hp2;dsimp only at hp2;simp(disch:=omega)only[go_sem,e0,e3,e111,e112,e113];refine(Mh hG wIf hp2 hCr (by simp only[ifT,jH,jC,jA,jB] at hle3 hlen⊢;omega) h1).mono ?_;rintro _ H2 ⟨rfl,h2⟩;have f2:=h2.keep c3 n3.symm;simp(disch:=omega)only[go_sem,e0,e3,e111,e112,e113,f2,hll,hfl,hl0];refine(ih x (Ar (by rw[hx];simp)) _ r _ _ hCr (by simp only[ifT,jH,jC,jA,jB] at hle3 hlen⊢;omega) h2).mono ?_;rintro _ H4 ⟨rfl,h4⟩;simp(disch:=omega)only[go_sem,e0,e3,e111,e112,e113];refine⟨1,_,Lq.refl _,(hI _ _ _).2 ?_,by omega⟩;simp(disch:=omega)only[go_sem,e0,e3,e111,e112,e113,w1];(repeat' apply And.intro)<;>(try first | rfl | assumption | omega);simpa [ifT] using h4
   ·have z0:((1:Nat):Int)=1:=rfl;simp(disch:=omega)only[go_sem,e0,e3,e111,e112,e113,g0,z0];intro p2 hp2;dsimp only at hp2;simp(disch:=omega)only[go_sem,e0,e3,e111,e112,e113];refine(Mh hG Jl hp2 hCr (by simp only[ifT,jH,jC,jA,jB] at hle3 hlen⊢;omega) hwj).mono ?_;rintro _ H2 ⟨rfl,h2⟩;have f2:=h2.keep c3 n3.symm;simp(disch:=omega)only[go_sem,e0,e3,e111,e112,e113,f2,hll,hfl,hl1];refine(ih y (Ar (by rw[hx];simp)) _ r _ _ hCr (by simp only[ifT,jH,jC,jA,jB] at hle3 hlen⊢;omega) h2).mono ?_;rintro _ H4 ⟨rfl,h4⟩;simp(disch:=omega)only[go_sem,e0,e3,e111,e112,e113];refine⟨2,_,Lq.refl _,(hI _ _ _).2 ?_,by omega⟩;simp(disch:=omega)only[go_sem,e0,e3,e111,e112,e113,w2];(repeat' apply And.intro)<;>(try first | rfl | assumption | omega);simpa [ifT] using h4
   ·have z0:((2:Nat):Int)=2:=rfl;simp(disch:=omega)only[go_sem,e0,e3,e111,e112,e113,g0,z0];intro p2 hp2;dsimp only at hp2;simp(disch:=omega)only[go_sem,e0,e3,e111,e112,e113];refine(Mh hG Ki hp2 hCr (by simp only[ifT,jH,jC,jA,jB] at hle3 hlen⊢;omega) hwj).mono ?_;rintro _ H2 ⟨rfl,h2⟩;have f2:=h2.keep c3 n3.symm;simp(disch:=omega)only[go_sem,e0,e3,e111,e112,e113,f2,hll,hfl,hl2];refine(ih z (Ar (by rw[hx];simp)) _ r _ _ hCr (by simp only[ifT,jH,jC,jA,jB] at hle3 hlen⊢;omega) h2).mono ?_;rintro _ H4 ⟨rfl,h4⟩;simp(disch:=omega)only[go_sem,e0,e3,e111,e112,e113];refine⟨3,_,Lq.refl _,(hI _ _ _).2 ?_,by omega⟩;simp(disch:=omega)only[go_sem,e0,e3,e111,e112,e113,w3];(repeat' apply And.intro)<;>(try first | rfl | assumption | omega);simpa [ifT] using h4
   ·have z0:((3:Nat):Int)=3:=rfl;simp(disch:=omega)only[go_sem,e0,e3,e111,e112,e113,g0,z0];intro p2 hp2;dsimp only at hp2;simp(disch:=omega)only[go_sem,e0,e3,e111,e112,e113];refine(Mh hG Cb hp2 hCr (by simp only[jC] at hlen⊢;omega) hwj).mono ?_;rintro _ H2 ⟨rfl,h2⟩;simp(disch:=omega)only[go_sem,e0];refine Pl.refl ⟨rfl, ?_⟩;rw[hC] at h2;have:=(h2.drop hB0).drop hB3;rw[jO] at this;exact this
 have z10:=hk;clear hk;by_cases hk:e.kind=11
 ·obtain⟨⟨x,hx⟩,⟨o,ho,ho2⟩,_⟩:=Dt0 hk hf;have ht:Ag e=(Aq o).map Ak++Ay x (Gl e):=by rw[Bp7 hk,ho,jD];unfold pE tE;rw[hx];rfl
  rw[ht] at hlen⊢
  have hnm:Bg e=false:=by cases h:Bg e with | false=>rfl | true=>exact(Md (by omega) h).elim
  rw[hnm];simp(disch:=omega)only[go_sem,gr3,hk];refine(Bq7 hG e x o hx ho (by omega) (ih x (Ar (by rw[hx];simp))) _ r _ _ hBK hlen hwK).mono ?_;rintro _ H1 ⟨rfl,h1⟩;simp(disch:=omega)only[go_sem];exact Pl.refl ⟨rfl,h1.drop hB3⟩
 have z11:=hk;clear hk;by_cases hk:e.kind=12
 ·obtain⟨⟨x,y,hx⟩,⟨o,ho,ho2⟩,_⟩:=Dt1 hk hf;have ht:Ag e=Ay x (Dq e)++((Aq o).map Ak++Ay y (Eu e)):=by rw[Bp8 hk,ho,jD];unfold pE tE;rw[hx];rfl
  rw[ht] at hlen⊢
  have hnm:Bg e=false:=by cases h:Bg e with | false=>rfl | true=>exact(Md (by omega) h).elim
  rw[hnm];simp(disch:=omega)only[go_sem,gr3,hk];refine(Bq8 hG e x y o hx ho (by omega) (ih x (Ar (by rw[hx];simp))) (ih y (Ar (by rw[hx];simp))) _ r _ _ hBK hlen hwK).mono ?_;rintro _ H1 ⟨rfl,h1⟩;simp(disch:=omega)only[go_sem];exact Pl.refl ⟨rfl,h1.drop hB3⟩
 have z12:=hk;clear hk;have hkd:e.kind=13\/e.kind=14:=by
  by_cases h:e.kind=13\/e.kind=14
  ·exact h
  ·exfalso;have:Au e=false:=by
    unfold Au;rw[if_neg z1,if_neg z2,if_neg z3,if_neg (by omega),if_neg z5,if_neg z7,if_neg z8,if_neg z9,if_neg z10,if_neg z11,if_neg z12,if_neg h]
   rw[this] at hf;cases hf
 obtain⟨hx',_⟩:=Cx4 hkd hf;have hx: ∃x,(∃y z,e.l= [x,y,z])\/ ∃y,e.l= [x,y]:=by
  rcases hx' with⟨x,y,z,hx⟩ | ⟨x,y,hx,_⟩
  ·exact⟨x, .inl ⟨y,z,hx⟩⟩
  ·exact⟨x, .inr ⟨y,hx⟩⟩
 clear hx';obtain⟨x,hx⟩:=hx;have g0:e.l.getD 0 ex0=x/\0<e.l.length:=by rcases hx with⟨y,z,hx⟩ | ⟨y,hx⟩<;>(rw[hx];exact⟨rfl,by simp⟩)
 have hp0:pE e 0 2=Ay x 2:=by rw[Dm3 g0.2,g0.1]
 have hihl: ∀y∈e.l,WrC Tryz.prog G 187 [.agg (dEx y)] (Ag y):=fun y hy=>ih y (Ar hy);have hnm:Bg e=false:=by cases h:Bg e with | false=>rfl | true=>exact(Md (by omega) h).elim
 rw[hnm];by_cases hk:e.kind=13
 ·have ht:Ag e=Ay x 2++([wIn].map Ak++Fz e):=by rw[Bp9 hk,hp0];rfl
  rw[ht] at hlen⊢
  simp(disch:=omega)only[go_sem,gr3,hk];intro q1 hq1;dsimp only at hq1;simp(disch:=omega)only[go_sem];refine Ae.fzA q1 hq1 ?_;simp only[fzs,fz,if_neg (hwK.ne hq1),if_pos,At4];refine(Vd hG e x [wIn] hx hihl _ r _ _ hBK hlen hwK).mono ?_;rintro _ H1 ⟨rfl,h1⟩;simp(disch:=omega)only[go_sem];exact Pl.refl ⟨rfl,h1.drop hB3⟩
 ·have hk14:e.kind=14:=by omega
  have ht:Ag e=Ay x 2++([Lz,wIn].map Ak++Fz e):=by rw[Bq0 hk14,hp0];rfl
  rw[ht] at hlen⊢
  simp(disch:=omega)only[go_sem,gr3,hk14];intro q1 hq1;dsimp only at hq1;simp(disch:=omega)only[go_sem];refine Ae.fzA q1 hq1 ?_;simp only[fzs,fz,if_neg (hwK.ne hq1),if_pos,At4];refine(Vd hG e x [Lz,wIn] hx hihl _ r _ _ hBK hlen hwK).mono ?_;rintro _ H1 ⟨rfl,h1⟩;simp(disch:=omega)only[go_sem];exact Pl.refl ⟨rfl,h1.drop hB3⟩
end
end Go.Dl

-- Chapter 3: expressions: the plain laws, part 15: how many tokens an expression has.
namespace Go.Dl
open Go
set_option maxRecDepth 10000
def wt (l:List Ex):Nat:=(l.map fun x=>(Ag x).length+7).sum
theorem Rm (l m:List Ex):wt (l++m)=wt l+wt m:=by simp [wt]
theorem Du (x:Ex) (l:List Ex):wt (x::l)=(Ag x).length+7+wt l:=by simp [wt]
theorem Dt5:wt []=0:=rfl
theorem Ho (x:Ex) (lv:Int):(Ay x lv).length<=(Ag x).length+2:=by
 rw[Ay,Bf2];split<;>omega
theorem Ao4 {n:Nat} {c:Ch} (h:Dp n c=true):(Es c).length+1<=wt c.l+if c.kind=3 then 2 else 0:=by
 unfold Dp at h;by_cases c1:c.kind=1
 ·rw[if_pos c1,decide_eq_true_eq] at h;obtain⟨x,hx⟩:=Cx3 h;rw[Ia,if_pos c1,hx,Du];show(Ag x).length+1<=_;omega
 ·rw[if_neg c1] at h;by_cases c2:c.kind=2
  ·rw[if_pos c2,decide_eq_true_eq] at h;obtain⟨x,y,hx⟩:=Ci2 h;rw[Ia,if_neg c1,if_pos c2,hx,Du,Du];show(Ay x 2++Ak Ee::Ay y 2).length+1<=_;have:=Ho x 2;have:=Ho y 2;rw[jC,jA];omega
  ·rw[if_neg c2] at h;simp only[jF,decide_eq_true_eq] at h;rw[Ia,if_neg c1,if_neg c2,if_pos h.1.1];show 1+1<=_;omega
theorem Xh (t:List Tok) (ta:List (List Tok)):Au2 (t::ta)=t.length+1+Au2 ta:=by simp [Au2]
theorem Yl {n:Nat} (hn:n≠1): ∀(l:List Ch),l.length<=n->(∀c∈l,Dp n c=true)->Au2 (l.map Es)<=wt (l.flatMap Ch.l)
 | [],_,_=>Nat.zero_le _
 | c::r,hl,h=>by
  have ih:=Yl hn r (by rw[jA] at hl;omega) fun d hd=>h d (by simp [hd]);have hc:=h c (by simp);have h1:=Ao4 hc;rw[if_neg] at h1
  ·rw[jN,Xh,List.flatMap_cons,Rm];omega
  ·intro c3;unfold Dp at hc;rw[if_neg (by omega),if_neg (by omega)] at hc;simp only[jF,decide_eq_true_eq,jA] at hc hl;omega
theorem Ci8 {l:List Ch} (h:Ck l=true):(Fo Fl (l.map Es)).length<=wt (l.flatMap Ch.l)+2:=by
 simp only[Ck,jF,decide_eq_true_eq,List.all_eq_true] at h
 have h0:=Cv5 Fl (l.map Es) (by intro e;rw[List.map_eq_nil_iff] at e;rw[e] at h;simp at h)
 by_cases hn:l.length=1
 ·match l,hn with
  | [c],_=>
   have h1:=Ao4 (h.2 c (by simp))
   have h2:(if c.kind=3 then 2 else 0)<=2:=by split<;>omega
   rw[List.map_singleton,Xh] at h0
   rw[List.map_singleton,List.flatMap_singleton]
   simp [Au2] at h0
   omega
 ·have:=Yl hn l (Nat.le_refl _) h.2
  omega
theorem Ak0 {l:List Ch} (h:Cn l=true):Ck l=true:=by
 match l with
 | [c]=>
  simp only[Cn,jF,decide_eq_true_eq] at h
  simp only[Ck,jQ,List.all_cons,List.all_nil,Bool.and_true,Dp,if_pos h.1]
  match hl:c.l with
  | [x]=>rfl
  | []=>rw[hl] at h;cases h.2
  | _::_::_=>rw[hl] at h;cases h.2
 | []=>cases h
 | _::_::_=>cases h
theorem Ci9 {a:As} (h:(a.c.isEmpty || Ck a.c)=true):(Ey a).length+1<=wt (Ct a):=by
 rw[Ct,Rm,Du,Dt5];by_cases c0:a.c= []
 ·rw[Kl,c0];show(Ag a.e).length+1<=_;omega
 ·have hr:Ck a.c=true:=by
   rw[Bool.or_eq_true] at h;rcases h with h | h
   ·exact absurd (List.isEmpty_iff.1 h) c0
   ·exact h
  have h1:=Ci8 hr;rw[Kl,if_neg (by simpa using c0),jC,jA];omega
theorem Ah4: ∀(l:List As),(∀a∈l,(a.c.isEmpty || Ck a.c)=true)->Au2 (l.map Ey)<=wt (l.flatMap Ct)
 | [],_=>Nat.zero_le _
 | a::r,h=>by
  have ih:=Ah4 r fun d hd=>h d (by simp [hd]);have h1:=Ci9 (h a (by simp));rw[jN,Xh,List.flatMap_cons,Rm];omega
theorem Br0 {l:List As} (h:Ii l=true): ∀a∈l,(a.c.isEmpty || Ck a.c)=true:=fun a ha=>by
 rw[Ii,jF,List.all_eq_true] at h;have:=h.2 a ha;rw[Bool.or_eq_true] at this⊢
 rcases this with h1 | h1
 ·exact .inl h1
 ·exact .inr (Ak0 h1)
theorem Bx0 {l:List As} (h: ∀a∈l,(a.c.isEmpty || Ck a.c)=true):(Fo Gv (l.map Ey)).length<=wt (l.flatMap Ct):=by
 have h1:=Ah4 l h;rw[Af3];unfold Au2 at h1;unfold Cv3;omega
theorem Ao5 (o:Nat):(Aq o).length<=2:=by
 rw[Aq,List.getD];by_cases h:o<22
 ·have: ∀i:Fin 22,((Cs4[i.1]?).getD []).length<=2:=by decide
  exact this ⟨o,h⟩
 ·rw[List.getElem?_eq_none (by have:Cs4.length=22:=rfl;omega)];decide
theorem Br1 {e:Ex} (hf:Au e=true):(Ag e).length<=10+wt (parts e):=by
 have hpl:wt (parts e)=wt e.l+wt (e.a.flatMap Ct):=Rm _ _;by_cases k1:e.kind=1
 ·rw[Cu4 k1];show 1<=_;omega
 by_cases k2:e.kind=2
 ·rw[Cu5 k2];show 1<=_;omega
 by_cases k3:e.kind=3
 ·rw[Bf1 k3];show 1<=_;omega
 by_cases k4:e.kind=4
 ·obtain⟨⟨x,hx,_⟩,_⟩:=Ci3 (.inl k4) hf;rw[Cu6 k4,hpl,hx,Du];unfold tE;rw[hx,jC];show(Ag x).length+2<=_;omega
 by_cases k5:e.kind=5
 ·obtain⟨⟨x,hx,_⟩,_⟩:=ff5 k5 hf;rw[Cu7 k5,hpl,hx,Du];unfold tE;rw[hx,jC];show(Ag x).length+2<=_;omega
 by_cases k6:e.kind=6
 ·obtain⟨⟨x,hx,_⟩,_⟩:=Ci3 (.inr k6) hf;rw[Cu8 k6,hpl,hx,Du];unfold tE;rw[hx,jC];show(Ag x).length+2<=_;omega
 by_cases k7:e.kind=7
 ·obtain⟨⟨x,hx,_⟩,ha,_⟩:=ff7 k7 hf;have h1:=Bx0 (Br0 ha);rw[Cu9 k7,hpl,hx,Du];unfold tE taE;rw[hx,jC,jA,jC];show(Ag x).length+(_+1+1)<=_;omega
 by_cases k8:e.kind=8
 ·obtain⟨⟨x,y,hx,_⟩,_⟩:=ff8 k8 hf;rw[Cv0 k8,hpl,hx,Du,Du];unfold tE;rw[hx,jC,jA,Bf2];show(Ag x).length+((Ag y).length+_+1)<=_;split<;>omega
 by_cases k9:e.kind=9
 ·obtain⟨hx,ha,_⟩:=ff9 k9 hf;rw[Fk,jF] at ha;have h1:=Bx0 (fun a hm=>La ha.2 a hm);rw[Bw1 k9,hpl,jA,jC];unfold taE;show _+1+1<=_;omega
 by_cases k10:e.kind=10
 ·obtain⟨⟨x,y,z,hx⟩,_⟩:=Ds9 k10 hf;rw[Au1 k10,hpl,hx,Du,Du,Du];unfold tE;rw[hx];simp only[jC,jA];show(Ag x).length+((Ag y).length+((Ag z).length+_+1)+1)+1+1<=_;simp only[jB];omega
 by_cases k11:e.kind=11
 ·obtain⟨⟨x,hx⟩,⟨o,ho,_⟩,_⟩:=Dt0 k11 hf;have:=Ao5 e.oper.toNat;have:=Ho x (Gl e);have hp:pE e 0 (Gl e)=Ay x (Gl e):=by unfold pE tE;rw[hx];rfl
  rw[Bp7 k11,hpl,hx,Du,hp,jC,jK];omega
 by_cases k12:e.kind=12
 ·obtain⟨⟨x,y,hx⟩,_⟩:=Dt1 k12 hf;have:=Ao5 e.oper.toNat;have:=Ho x (Dq e);have:=Ho y (Eu e);have hp:pE e 0 (Dq e)=Ay x (Dq e):=by unfold pE tE;rw[hx];rfl
  have hq:pE e 1 (Eu e)=Ay y (Eu e):=by unfold pE tE;rw[hx];rfl
  rw[Bp8 k12,hpl,hx,Du,Du,hp,hq,jC,jC,jK];omega
 by_cases h:e.kind=13\/e.kind=14
 ·obtain⟨hx',_⟩:=Cx4 h hf;have hT:(pE e 0 2).length+(Fz e).length+3<=10+wt (parts e):=by
   rcases hx' with⟨x,y,z,hx⟩ | ⟨x,y,hx,_⟩
   ·have:=Ho x 2;have:=Ho y 2;have:=Ho z 2;have hp:pE e 0 2=Ay x 2:=by unfold pE tE;rw[hx];rfl
    have hq:Fz e=Ay y 2++Ak Ee::Ay z 2:=by unfold Fz pE tE;rw[hx];rfl
    rw[hp,hq,hpl,hx,Du,Du,Du,jC,jA];omega
   ·have:=Ho x 2;have hp:pE e 0 2=Ay x 2:=by unfold pE tE;rw[hx];rfl
    have hq:Fz e=Ag y:=by unfold Fz pE tE;rw[hx];rfl
    rw[hp,hq,hpl,hx,Du,Du];omega
  rcases h with k | k
  ·rw[Bp9 k,jC,jA];omega
  ·rw[Bq0 k,jC,jA,jA];omega
 exfalso;have:Au e=false:=by
  unfold Au;rw[if_neg k1,if_neg k2,if_neg k3,if_neg (by omega),if_neg k5,if_neg k7,if_neg k8,if_neg k9,if_neg k10,if_neg k11,if_neg k12,if_neg h]
 rw[this] at hf;cases hf
theorem Dy0 {l:List Ex} (h: ∀x∈l,(Ag x).length+7<=17*Ev x):wt l<=17*Hl l:=by
 induction l with
 | nil=>exact Nat.zero_le _
 | cons x l ih=>
  have h1:=h x (by simp);have h2:=ih fun y hy=>h y (by simp [hy]);rw[Du,Hl,jN,List.sum_cons];unfold Hl at h2;omega
theorem Cj0 (e:Ex): ∀d,Ed d e=true->(Ag e).length+7<=17*Ev e:=by
 refine Ex.ind (p:=fun e=> ∀d,Ed d e=true->(Ag e).length+7<=17*Ev e) (fun e ih d hv=> ?_) e;obtain⟨hf,hp⟩:=Lb hv;have h1:=Br1 hf;have h2:=Dy0 fun x hx=>ih x hx _ (hp x hx);rw[Lg e];omega
theorem Di7 {e:Ex} (h:Hz e=true):(Ag e).length<=5000:=by
 rw[Hz,jF,decide_eq_true_eq] at h;have:=Cj0 e 1 h.1;omega
def Ve (e:Ex):List Tok×Int:=if Hz e then(Ag e,0) else([],2)
end Go.Dl

-- Chapter 3: the package's Tokens, ArgTokens, ChoiceTokens.
namespace Go.Dl
open Go Go.Proofs
set_option maxRecDepth 100000
section
variable {G:Nat->DVal}
theorem Cj1 (hG:GX G) (e:Ex): ∀d,Ed d e=true->WrC Tryz.prog G 187 [.agg (dEx e)] (Ag e):=by
 refine Ex.ind (p:=fun e=> ∀d,Ed d e=true->WrC Tryz.prog G 187 [.agg (dEx e)] (Ag e)) (fun e ih d hv=> ?_) e;obtain⟨hf,hp⟩:=Lb hv;exact Bq9 hG e hf fun x hx=>ih x hx _ (hp x hx)
theorem Cj2 {e:Ex} (h:Hz e=true):Ed 1 e=true:=by
 rw[Hz,jF] at h;exact h.1
theorem WAt.start {B:Ab} {r:Nat} (hr:B r=none):WAt B r [] (upd B r (some (.cells [.nilSlice] 241))):=⟨_, .inl ⟨rfl,rfl,rfl,Sub.refl _⟩⟩
theorem WAt.cell {B H:Ab} {r:Nat} {ts:List Tok} (h:WAt B r ts H) (hr:B r=none): ∃v,H r=some (.cells [v] 241)/\Fc H v B (Dd ts):=by
 obtain⟨v,h⟩:=h;exact⟨v,h.keep (Aa _ _ _),Fc.own (h.less ((Sub.refl B).up hr _))⟩
set_option maxHeartbeats 4000000 in
theorem Qy (hG:GX G) (H:Ab) (e:Ex) (he:Fit e):Ae Tryz.prog G 81 [.agg (dEx e)] H (Bo (.tuple [Dd (Ve e).1,dI (Ve e).2]) H):=by
 rw[Ve];refine Ac Tryz.func81 Tryz.call81 rfl (by kernel_rfl) ?_;simp(disch:=omega)only[go_sem,DVal.cells];intro r1 hr1;dsimp only at hr1;obtain⟨K,hK⟩: ∃K',K'=upd H r1 (some (.cells (dEx e) 27)):=⟨_,rfl⟩;rw[<-hK];have gr1:K r1=some (.cells (dEx e) 27):=by rw[hK];exact Aa _ _ _
 have hs:Sub H K:=by rw[hK];exact(Sub.refl H).new hr1 _
 simp(disch:=omega)only[go_sem,gr1];refine(Eg hG K e he).mono ?_;rintro _ K1 ⟨rfl,rfl⟩;cases hm:Hz e with
 | false=>
  simp(disch:=omega)only[go_sem];exact Fc.fin hs (Fc.tuple (.cons (Fc.nil hs) (Df.keep hs _))) ⟨rfl,rfl⟩
 | true=>
  have hlen:=Di7 hm;simp(disch:=omega)only[go_sem];intro r2 hr2;dsimp only at hr2;have n12:r1≠r2:=Ad hr2 gr1;have m12:=n12.symm;have hw:=WAt.start hr2;have g1:upd K1 r2 (some (.cells [.nilSlice] 241)) r1=some (.cells (dEx e) 27):=Af gr1 n12;simp(disch:=omega)only[go_sem,g1];refine(Cj1 hG e 1 (Cj2 hm) K1 r2 [] _ hr2 (by simp;omega) hw).mono ?_;rintro _ H1 ⟨rfl,h1⟩;rw[jG] at h1;have hs1:Sub K1 H1:=by
   obtain⟨v,h1⟩:=h1;exact(((Sub.refl K1).up hr2 _).trans h1.sub)
  obtain⟨v,hv1,hv2⟩:=h1.cell hr2;simp(disch:=omega)only[go_sem,hv1];have hsf:Sub H H1:=hs.trans hs1;refine Fc.fin hsf (Fc.tuple (.cons (fun w hw x hx=>Rel.lasts (Hh hs w) _ _ (hv2 w hw x hx)) (Df.keep hsf _))) ⟨rfl,rfl⟩
end
end Go.Dl
