/- The data level and the contracts of the functions that are reached (part 8). -/
import Derived.Test.YtddbdpcgikmiaaaGreatDoorPng
set_option linter.unusedSimpArgs false
set_option linter.unusedVariables false
set_option linter.unusedSectionVars false
-- Chapter 3: expressions: the plain laws, 
namespace Go.Dl
open Go
set_option maxRecDepth 10000
def hdW (o:Nat):List UInt8:=(Bd o).headD []
theorem Gf7: ∀o,o<18->1<=o->Bd o=hdW o::(Bd o).tail:=by decide+kernel
theorem Fq7: ∀o,o<18->1<=o->(o<3->nof w3 (Ah (hdW o)))/\(o<7->nof w5 (Ah (hdW o)))/\(7<=o->o<13->nof w2 (Ah (hdW o)))/\(13<=o->nof w1 (Ah (hdW o))):=by decide+kernel
section
variable {l:List Tok} {k k':Nat} {s:List UInt8} {p:PS} [hr:Rdr l p] {e:Ex}
theorem Fq8 {o:Nat} {ts:List Tok} (h1:1<=o) (h2:o<=17) (h:At l k ((Bd o).map Ah++ts)):tk l k=Ah (hdW o):=by
 rw[Gf7 o (by omega) h1] at h;exact(At.head h).1
theorem Ef4 {o:Nat} {x y:Ex} (h1:13<=o) (h2:o<=17) (D:RT l p y) (h:At l k ((Bd o).map Ah++Ay y 1)) (E:k'=k+(Bd o).length+(Ay y 1).length) (I:nof w1 (tk l k')) (want:Nat) (hw:want=0\/want=o):
  (opF l want k Fp)=(o,k+(Bd o).length)/\p.restL o x k=p.restL o (both o x (stE y)) k':=by
 have h3:=h.right;rw[jK] at h3;have C:=Fx8 D h3 E I;have ho:o∈Fp:=by simp [Fp];omega
 have hs: ∃z j,p.simple (k+(Bd o).length)= .ok z j:=by
  rw[Aw7] at C;cases c:p.simple (k+(Bd o).length) with
  | bot=>rw[c] at C;cases C
  | fail j=>rw[c] at C;cases C
  | ok z j=>exact⟨z,j,rfl⟩
 obtain⟨z,j,hs⟩:=hs;have q: ∀want,want=0\/want=o->opF l want k Fp=(o,k+(Bd o).length):=fun want hw=>Gf2 ho h hw hs;refine⟨q want hw, ?_⟩;rw[Cg2 o x h.1,if_neg (by omega),q o (.inr rfl),if_neg (by dsimp only;omega)];have e1:((p.simple (k+(Bd o).length)).then fun y k=>(p.relation y k).then fun y k=>p.restL o (both o x y) k)=(Aw7 p (k+(Bd o).length)).then fun y k=>p.restL o (both o x y) k:=by rw[Aw7,Bn8]
 show((p.simple (k+(Bd o).length)).then fun y k=>(p.relation y k).then fun y k=>p.restL o (both o x y) k)=_;rw[e1,C];rfl
variable (hz: ∀k,(tk l k).line=0) (hf:Bc e=true) (ih: ∀x∈parts e,RT l p x)
include hf ih
theorem Gq5 (h:e.kind=12):RT l p e:=by
 obtain⟨⟨x,y,hx⟩,⟨o,ho,X,Y⟩,b,c,d⟩:=Gf5 h hf;have ht:Am e=Ay x (Fw e)++((Bd o).map Ah++Ay y (Hs e)):=by rw[Dg4 h,ho,jD];unfold pE tE;rw[hx];rfl
 have U:Ba e=if 13<=o then 0 else if 7<=o then 1 else if o<=2 then 2 else 3:=by
  unfold Ba;rw[h,ho,if_neg (by decide),if_neg (by decide),if_pos rfl]
  repeat' split
  all_goals omega
 have M:=ih x (Be (by rw[hx];simp));have V:=ih y (Be (by rw[hx];simp));have hst:stE e=both o (stE x) (stE y):=by
  rw[Fd e,h,ho,hx,b,c,d,both,Vz];rfl
 have g0:e.l.getD 0 ex0=x:=by rw[hx];rfl
 have O:=Fq7 o (by omega) X;intro k C;rw[ht] at C⊢
 have h1:=C.right;have D:=Fq8 X Y h1;have h2:=h1.right;rw[jK] at h2;have e1:k+(Ay x (Fw e)++((Bd o).map Ah++Ay y (Hs e))).length=k+(Ay x (Fw e)).length+(Bd o).length+(Ay y (Hs e)).length:=by
  rw[jC,jC,jK];omega
 have hle:=C.le;rw[e1] at hle⊢
 by_cases I:13<=o
 ·have hl:Ba e=0:=by rw[U,if_pos I]
  have J:Hs e=1:=by rw[Hs,hl];rfl
  have E:Fw e=if x.kind=12/\x.oper=o then 0 else 1:=by
   rw[Fw,hl,if_neg (by decide),g0,ho];by_cases cc:x.kind=12/\x.oper=o
   ·rw[if_pos cc,if_neg (by rintro⟨_,a | a⟩;exact a cc.1;exact a cc.2)]
   ·rw[if_neg cc,if_pos ⟨rfl,by by_cases Z:x.kind=12;exact .inr fun a=>cc ⟨Z,a⟩;exact .inl Z⟩]
  rw[J] at h1 h2 hle⊢
  refine .of0 ⟨C.1,hle⟩ hl fun hn=> ?_;rw[hst,ho,jD];have L:=fun want hw=>Ef4 (x:=stE x) I Y V h1 rfl hn want hw;by_cases cc:x.kind=12/\x.oper=o
  ·rw[E,if_pos cc] at C L D⊢
   have aa:Ay x 0=Am x:=by
    rw[Ay,decide_eq_false (by have:=(Qv x).1;omega)];rfl
   rw[aa] at C L D⊢
   have r:=M _ C.left;have ab:Ba x=0:=by
    unfold Ba;rw[cc.1,cc.2,if_neg (by decide),if_neg (by decide),if_pos rfl,if_pos (by omega)]
   rw[r.exp ab (by rw[D];exact O.2.2.2 I),cc.2,jD,(L 0 (.inl rfl)).2]
  ·rw[E,if_neg cc] at C L D⊢
   have ac:=Fx8 M C.left rfl (by rw[D];exact O.2.2.2 I);rw[Bo2 C.1,ac];show p.restL (opF l 0 _ Fp).1 (stE x) _=_;rw[(L 0 (.inl rfl)).1,(L 0 (.inl rfl)).2]
 ·by_cases W:7<=o
  ·have hl:Ba e=1:=by rw[U,if_neg I,if_pos W]
   have J:Hs e=2:=by rw[Hs,hl];rfl
   have E:Fw e=2:=by rw[Fw,hl];rfl
   rw[E] at C h1 h2 D hle⊢
   rw[J] at h1 h2 hle⊢
   refine .of1 ⟨C.1,hle⟩ hl fun hn=> ?_;have s1:=Zz M C.left rfl (by rw[D];exact O.2.2.1 W (by omega));have s2:=Zz V h2 rfl (s2d hn);obtain⟨S,q2⟩:=Ct3 (want:=0) (.inl ⟨by simp [Nv];omega,rfl⟩) h1 (.inl rfl);rw[hst,Aw7,s1];show p.relation (stE x) _=_;rw[Ti _ h1.1,S,if_pos (by dsimp only;omega),s2];rfl
  ·by_cases c2:o<=2
   ·have hl:Ba e=2:=by rw[U,if_neg I,if_neg W,if_pos c2]
    have J:Hs e=3:=by rw[Hs,hl];rfl
    have E:Fw e=2:=by rw[Fw,hl,if_neg (by decide),if_neg (by rintro⟨a,_⟩;cases a)]
    rw[E] at C h1 h2 D hle⊢
    rw[J] at h1 h2 hle⊢
    refine .of2 ⟨C.1,hle⟩ hl fun hn=> ?_;obtain⟨S,q2⟩:=Ct3 (want:=0) (.inr (.inr (.inl ⟨by simp [Xd];omega,rfl⟩))) h1 (.inl rfl);rw[hst,Fx7 M C.left rfl (by rw[D];exact O.1 (by omega)),Ez0 _ h1.1,S,if_neg (by dsimp only;omega)];show(p.term (_+(Bd o).length)).then _=_
    rw[Ez7 V h2 rfl (s53 hn),Ad3 hle hn];rfl
   ·have hl:Ba e=3:=by rw[U,if_neg I,if_neg W,if_neg c2]
    have J:Hs e=4:=by rw[Hs,hl];rfl
    have E:Fw e=3:=by rw[Fw,hl,if_neg (by decide),if_neg (by rintro⟨a,_⟩;cases a)]
    rw[E] at C h1 h2 D hle⊢
    rw[J] at h1 h2 hle⊢
    refine .of3 ⟨C.1,hle⟩ hl fun hn=> ?_;obtain⟨S,q2⟩:=Ct3 (want:=0) (.inr (.inr (.inr (.inl ⟨by simp [Xe];omega,rfl⟩)))) h1 (.inl rfl);rw[hst,Ez7 M C.left rfl (by rw[D];exact O.2.1 (by omega)),Ez2 _ h1.1,S,if_neg (by dsimp only;omega)];show(p.factor (_+(Bd o).length)).then _=_
    rw[Gn5 V h2 rfl hn];rfl
theorem Fx9 {j:Nat} {x:Ex} {kind:Int} (M:kind=13\/kind=14) (h:e.kind=kind) (hx:(∃y z,e.l= [x,y,z])\/ ∃y,e.l= [x,y]/\Cd y=true) (b:e.oper=0) (c:e.n=0) (d:e.s= []) (I:e.a= []) (ha:At l j (Kb e)) (C:k'=j+(Kb e).length) (D:nof w2d (tk l k')):
  inK l (stE x) kind j p= .ok (stE e) k':=by
 rcases hx with⟨y,z,hx⟩ | ⟨y,hx,J⟩
 ·have E:=ih y (Be (by rw[hx];simp));have L:=ih z (Be (by rw[hx];simp));have ht:Kb e=Ay y 2++Ah Ev::Ay z 2:=by unfold Kb pE tE;rw[hx];rfl
  have hst:stE e= .mk kind 0 0 [] [stE x,stE y,stE z] [] 0 0 0:=by rw[Fd e,h,hx,b,c,d,I];rfl
  rw[ht] at ha C;have h1:=ha.right;have h2:At l (j+(Ay y 2).length+1) (Ay z 2):=At.tail h1;have s1:=Zz E ha.left rfl (by rw[h1.head.1];decide+kernel);have s2:=Zz L h2 (k':=k') (by rw[C,jC,jA];omega) (s2d D);rw[inK,s1,Aw8,if_pos (At.word h1),s2,Aw8,hst,Vz]
 ·have E:=ih y (Be (by rw[hx];simp));have ht:Kb e=Am y:=by unfold Kb pE tE;rw[hx];rfl
  have hst:stE e= .mk kind 0 0 [] [stE x,stE y] [] 0 0 0:=by rw[Fd e,h,hx,b,c,d,I];rfl
  rw[ht] at ha C;subst C;have r:=E _ ha;have s1:p.simple j= .ok (stE y) (j+(Am y).length):=by
   rw[r.simp (by rw[Zv J];decide) (s32 (s2d D)),So r.le.2 (s2d D)]
  rw[inK,s1,Aw8,Gz D (by decide),if_neg (by simp),An9,J,if_pos rfl,hst,Vz]
theorem Gn7 (D:e.kind=13\/e.kind=14):RT l p e:=by
 obtain⟨E,b,c,d,I⟩:=Ez9 D hf;have hx: ∃x,(∃y z,e.l= [x,y,z])\/ ∃y,e.l= [x,y]/\Cd y=true:=by
  rcases E with⟨x,y,z,hx⟩ | ⟨x,y,hx⟩
  ·exact⟨x, .inl ⟨y,z,hx⟩⟩
  ·exact⟨x, .inr ⟨y,hx⟩⟩
 clear E;obtain⟨x,hx⟩:=hx;have J:e.l.getD 0 ex0=x/\0<e.l.length:=by rcases hx with⟨y,z,hx⟩ | ⟨y,hx,_⟩<;>(rw[hx];exact⟨rfl,by simp⟩)
 have L:=ih x (Be (by rcases hx with⟨y,z,hx⟩ | ⟨y,hx,_⟩<;>(rw[hx];simp)));have hl:Ba e=1:=by unfold Ba;rw[if_pos D]
 have M:pE e 0 2=Ay x 2:=by rw[Fx1 J.2,J.1]
 intro k C;rcases D with h | h
 ·rw[Dg5 h,M] at C⊢
  have h1:=C.right;have hw:=At.word h1;have h2:At l (k+(Ay x 2).length+1) (Kb e):=At.tail h1;have e1:k+(Ay x 2++Ah wIn::Kb e).length=k+(Ay x 2).length+1+(Kb e).length:=by rw[jC,jA];omega
  rw[e1];refine .of1 ⟨C.1,h2.le⟩ hl fun hn=> ?_;rw[Aw7,Zz L C.left rfl (by rw[h1.head.1];decide+kernel),Aw8,Ti _ h1.1,Ad1 hw (by decide),if_neg (by simp),if_pos hw];exact Fx9 hf ih (.inl rfl) h hx b c d I h2 rfl hn
 ·rw[Dg6 h,M] at C⊢
  have h1:=C.right;have hw:=At.word h1;have O:isW l (k+(Ay x 2).length) [Ve,wIn]=true:=At.words (ws:= [Ve,wIn]) h1;have h2:At l (k+(Ay x 2).length+2) (Kb e):=At.tail (At.tail h1);have e1:k+(Ay x 2++Ah Ve::Ah wIn::Kb e).length=k+(Ay x 2).length+2+(Kb e).length:=by rw[jC,jA,jA];omega
  rw[e1];refine .of1 ⟨C.1,h2.le⟩ hl fun hn=> ?_;rw[Aw7,Zz L C.left rfl (by rw[h1.head.1];decide+kernel),Aw8,Ti _ h1.1,Ad1 hw (by decide),if_neg (by simp),Ga hw (t:=wIn) (by decide),if_neg (by simp),if_pos O];exact Fx9 hf ih (.inr rfl) h hx b c d I h2 rfl hn
end
theorem Is {d:Nat} {e:Ex} (h:Fc d e=true):Bc e=true/\ ∀x∈parts e,Fc (d+1) x=true:=by
 rw[Py,jF,jF,List.all_eq_true] at h;exact⟨h.1.2,h.2⟩
theorem Dh4 {l:List Tok} {p:PS} [hr:Rdr l p] (hz: ∀k,(tk l k).line=0) (e:Ex): ∀d,Fc d e=true->RT l p e:=by
 refine Ex.ind (p:=fun e=> ∀d,Fc d e=true->RT l p e) (fun e ih d hv=> ?_) e;obtain⟨hf,hp⟩:=Is hv;have h: ∀x∈parts e,RT l p x:=fun x hx=>ih x hx _ (hp x hx);have V: ∀x∈parts e,Bc x=true:=fun x hx=>(Is (hp x hx)).1;by_cases y:e.kind=1
 ·exact rt1 hz hf y
 by_cases C:e.kind=2
 ·exact rt2 hz hf C
 by_cases D:e.kind=3
 ·exact rt3 hz hf D
 by_cases W:e.kind=4
 ·exact rt4 hz hf h W
 by_cases E:e.kind=5
 ·exact rt5 hz hf h E
 by_cases X:e.kind=6
 ·exact rt6 hz hf h X
 by_cases I:e.kind=7
 ·exact rt7 hz hf h V I
 by_cases J:e.kind=8
 ·exact rt8 hz hf h J
 by_cases L:e.kind=9
 ·exact rt9 hz hf h L
 by_cases M:e.kind=10
 ·exact Gq3 hz hf h M
 by_cases O:e.kind=11
 ·exact Gq4 hz hf h O
 by_cases S:e.kind=12
 ·exact Gq5 hf h S
 by_cases U:e.kind=13\/e.kind=14
 ·exact Gn7 hf h U
 exfalso;have:Bc e=false:=by
  unfold Bc;rw[if_neg y,if_neg C,if_neg D,if_neg (by omega),if_neg E,if_neg I,if_neg J,if_neg L,if_neg M,if_neg O,if_neg S,if_neg U]
 rw[this] at hf;cases hf
end Go.Dl
-- Chapter 3: the package's writer: bounds,
namespace Go.Dl
open Go Go.Proofs
set_option maxRecDepth 100000
theorem lx0 {e:List Ex} {x:Ex} {r:List Ex} (h:e=x::r):(e.flatMap dEx).take 9=dEx x:=by
 rw[h,List.flatMap_cons,List.take_append_of_le_length (by rw[Ad];omega),List.take_of_length_le (by rw[Ad];omega)]
theorem lx1 {e:List Ex} {x y:Ex} {r:List Ex} (h:e=x::y::r):((e.flatMap dEx).drop 9).take 9=dEx y:=by
 rw[h,List.flatMap_cons,List.drop_left' (Ad x)];exact lx0 rfl
theorem lx2 {e:List Ex} {x y z:Ex} {r:List Ex} (h:e=x::y::z::r):((e.flatMap dEx).drop 18).take 9=dEx z:=by
 rw[h,List.flatMap_cons,show 18=9+9 from rfl,<-List.drop_drop,List.drop_left' (Ad x)];exact lx1 rfl
section
variable {G:Nat->DVal}
set_option maxHeartbeats 4000000 in
theorem Ao4 (hG:GX G) (a b:Ex) (ha:WrC Tryz.prog G 187 [.agg (dEx a)] (Am a)) (hb:WrC Tryz.prog G 187 [.agg (dEx b)] (Am b)):WrC Tryz.prog G 299 [.agg (dEx a), .agg (dEx b)] (Ay a 2++Ah Ev::Ay b 2):=by
 intro B r ts H Z aa hw;rw[jC,jA] at aa;refine Ab Tryz.func299 Tryz.call299 rfl (by kernel_rfl) ?_;simp(disch:=omega)only[go_sem,DVal.cells];intro h I;dsimp only at I;obtain⟨K,M⟩: ∃K',K'=upd H h (some (.cells (dEx a) 27)):=⟨_,rfl⟩;rw[<-M];have U:K h=some (.cells (dEx a) 27):=by rw[M];exact Aa _ _ _
 have O:WAt (upd B h (some (.cells (dEx a) 27))) r ts K:=by rw[M];exact hw.frame I _
 have n4:r≠h:=hw.ne I;have ab:B h=none:=(hw.lo I).1;simp(disch:=omega)only[go_sem,DVal.cells];intro y D;dsimp only at D;obtain⟨L,J⟩: ∃K',K'=upd K y (some (.cells (dEx b) 27)):=⟨_,rfl⟩;rw[<-J];have ae:L y=some (.cells (dEx b) 27):=by rw[J];exact Aa _ _ _
 have V:WAt (upd (upd B h (some (.cells (dEx a) 27))) y (some (.cells (dEx b) 27))) r ts L:=by rw[J];exact O.frame D _
 have W:r≠y:=O.ne D;have ac:=(O.lo D).1;have X:h≠y:=Ae D U;have ad:L h=some (.cells (dEx a) 27):=by rw[J];exact An U X
 obtain⟨C,E⟩: ∃C,C=upd (upd B h (some (.cells (dEx a) 27))) y (some (.cells (dEx b) 27)):=⟨_,rfl⟩;rw[<-E] at V;have S:C r=none:=by rw[E,Ak _ _ _ _ W,Ak _ _ _ _ n4];exact Z
 have c4:C h=some (.cells (dEx a) 27):=by rw[E];exact An (Aa _ _ _) X
 have c5:C y=some (.cells (dEx b) 27):=by rw[E];exact Aa _ _ _
 simp(disch:=omega)only[go_sem,ad];refine(Dm hG a 2 ha C r _ _ S (by omega) V).mono ?_;rintro _ H1 ⟨rfl,h1⟩;simp(disch:=omega)only[go_sem];intro q1 Y;dsimp only at Y;simp(disch:=omega)only[go_sem];refine(Ty hG Ev Y S (by simp;omega) h1).mono ?_;rintro _ H2 ⟨rfl,h2⟩;have g5:=h2.keep c5 W.symm;simp(disch:=omega)only[go_sem,g5];refine(Dm hG b 2 hb C r _ _ S (by simp;omega) h2).mono ?_;rintro _ H3 ⟨rfl,h3⟩;simp(disch:=omega)only[go_sem];refine Es.refl ⟨rfl, ?_⟩;rw[E] at h3;have:=(h3.drop ac).drop ab;simpa using this
set_option maxHeartbeats 4000000 in
theorem Dh5 (hG:GX G) (e x:Ex) (o:Nat) (hl:e.l= [x]) (O:e.oper=o) (aa:o<22) (hx:WrC Tryz.prog G 187 [.agg (dEx x)] (Am x)):WrC Tryz.prog G 263 [.agg (dEx e)] ((Bd o).map Ah++Ay x (Lb e)):=by
 intro B r ts H hB E hw;rw[jC,jK] at E;have S:=lx0 hl;have hfl:=Ax Ad e.l;have U:e.l.length=1:=by rw[hl];rfl
 have V:=Ah2 aa;have W:(Eu8.map dW).length=22:=rfl;refine Ab Tryz.func263 Tryz.call263 rfl (by kernel_rfl) ?_;simp(disch:=omega)only[go_sem,DVal.cells];intro h C;dsimp only at C;obtain⟨K,I⟩: ∃K',K'=upd H h (some (.cells (dEx e) 27)):=⟨_,rfl⟩;rw[<-I];have y:K h=some (.cells (dEx e) 27):=by rw[I];exact Aa _ _ _
 have X:WAt (upd B h (some (.cells (dEx e) 27))) r ts K:=by rw[I];exact hw.frame C _
 have J:r≠h:=hw.ne C;have Y:B h=none:=(hw.lo C).1;have D:upd B h (some (.cells (dEx e) 27)) r=none:=by rw[Ak _ _ _ _ J];exact hB
 simp(disch:=omega)only[go_sem,y];refine(Xi G K e).mono ?_;rintro _ Z ⟨rfl,rfl⟩;by_cases c:Ba e=2
 ·have L:Lb e=3:=by rw[Lb,if_pos c]
  rw[L] at E⊢
  simp(disch:=omega)only[go_sem,c];refine Aj (by kernel_rfl) pL8 (by kernel_rfl) ?_;simp(disch:=omega)only[go_sem,y];refine(Lu G Z).mono ?_;rintro _ K2 ⟨rfl,rfl⟩;simp(disch:=omega)only[go_sem,y,O,Oy,V,W,jD];refine(Lw hG (Bd o) _ r _ _ D (by rw[jK];omega) X).mono ?_;rintro _ H1 ⟨rfl,h1⟩;have M:=h1.keep (Aa _ _ _) J.symm;simp(disch:=omega)only[go_sem,M,U,S,hfl];refine(Dm hG x _ hx _ r _ _ D (by rw[jC,jK];omega) h1).mono ?_;rintro _ H2 ⟨rfl,h2⟩;simp(disch:=omega)only[go_sem];refine Es.refl ⟨rfl, ?_⟩;have:=h2.drop Y;rw[jO] at this;exact this
 ·have L:Lb e=5:=by rw[Lb,if_neg c]
  rw[L] at E⊢
  simp(disch:=omega)only[go_sem,c];refine Aj (by kernel_rfl) pL8 (by kernel_rfl) ?_;simp(disch:=omega)only[go_sem,y];refine(Lu G Z).mono ?_;rintro _ K2 ⟨rfl,rfl⟩;simp(disch:=omega)only[go_sem,y,O,Oy,V,W,jD];refine(Lw hG (Bd o) _ r _ _ D (by rw[jK];omega) X).mono ?_;rintro _ H1 ⟨rfl,h1⟩;have M:=h1.keep (Aa _ _ _) J.symm;simp(disch:=omega)only[go_sem,M,U,S,hfl];refine(Dm hG x _ hx _ r _ _ D (by rw[jC,jK];omega) h1).mono ?_;rintro _ H2 ⟨rfl,h2⟩;simp(disch:=omega)only[go_sem];refine Es.refl ⟨rfl, ?_⟩;have:=h2.drop Y;rw[jO] at this;exact this
set_option maxHeartbeats 4000000 in
theorem Dh6 (hG:GX G) (e x y:Ex) (o:Nat) (hl:e.l= [x,y]) (E:e.oper=o) (ai:o<22) (hx:WrC Tryz.prog G 187 [.agg (dEx x)] (Am x)) (X:WrC Tryz.prog G 187 [.agg (dEx y)] (Am y)):
  WrC Tryz.prog G 264 [.agg (dEx e)] (Ay x (Fw e)++((Bd o).map Ah++Ay y (Hs e))):=by
 intro B r ts H hB V hw;rw[jC,jC,jK] at V;have Y:=lx0 hl;have Z:=lx1 hl;have hfl:=Ax Ad e.l;have C:e.l.length=2:=by rw[hl];rfl
 have aa:=Ah2 ai;have ab:(Eu8.map dW).length=22:=rfl;have ak:=Qv e;have g0:e.l.getD 0 ex0=x:=by rw[hl];rfl
 have af:(e.l.flatMap dEx)[0]? =some (.int .u8 x.kind):=by rw[hl,List.flatMap_cons,Ox];rfl
 have ag:(e.l.flatMap dEx)[1]? =some (.int .u8 x.oper):=by rw[hl,List.flatMap_cons,Ox];rfl
 refine Ab Tryz.func264 Tryz.call264 rfl (by kernel_rfl) ?_;simp(disch:=omega)only[go_sem,DVal.cells];intro W ah;dsimp only at ah;obtain⟨K,hK⟩: ∃K',K'=upd H W (some (.cells (dEx e) 27)):=⟨_,rfl⟩;rw[<-hK];have J:K W=some (.cells (dEx e) 27):=by rw[hK];exact Aa _ _ _
 have ac:WAt (upd B W (some (.cells (dEx e) 27))) r ts K:=by rw[hK];exact hw.frame ah _
 have I:r≠W:=hw.ne ah;have ad:B W=none:=(hw.lo ah).1;have h:upd B W (some (.cells (dEx e) 27)) r=none:=by rw[Ak _ _ _ _ I];exact hB
 simp(disch:=omega)only[go_sem,J];refine(Xi G K e).mono ?_;rintro _ K1 ⟨rfl,rfl⟩;have ae:IntKind.i64.wrap (Ba e+1)=Ba e+1:=by rw[IntKind.wrap_i64];omega
 by_cases L:Ba e=1
 ·have O:Fw e=2:=by rw[Fw,if_pos L]
  have U:Hs e=2:=by rw[Hs,if_pos L]
  rw[O,U] at V⊢
  simp(disch:=omega)only[go_sem,L,ae];simp(disch:=omega)only[go_sem,J,C,Y,hfl];refine(Dm hG x _ hx _ r _ _ h (by omega) ac).mono ?_;rintro _ H1 ⟨rfl,h1⟩;have D:=h1.keep (Aa _ _ _) I.symm;simp(disch:=omega)only[go_sem];refine Aj (by kernel_rfl) pL8 (by kernel_rfl) ?_;simp(disch:=omega)only[go_sem,D];refine(Lu G H1).mono ?_;rintro _ K2 ⟨rfl,rfl⟩;simp(disch:=omega)only[go_sem,D,E,Oy,aa,ab,jD];refine(Lw hG (Bd o) _ r _ _ h (by rw[jC,jK];omega) h1).mono ?_;rintro _ H3 ⟨rfl,h3⟩;have S:=h3.keep (Aa _ _ _) I.symm;simp(disch:=omega)only[go_sem,S,C,Z,hfl];refine(Dm hG y _ X _ r _ _ h (by rw[jC,jC,jK];omega) h3).mono ?_;rintro _ H4 ⟨rfl,h4⟩;simp(disch:=omega)only[go_sem];refine Es.refl ⟨rfl, ?_⟩;have:=h4.drop ad;rw[jO,jO] at this;exact this
 ·have U:Hs e=Ba e+1:=by rw[Hs,if_neg L]
  by_cases M:Ba e=0
  ·have U:Hs e=1:=by rw[Hs,if_neg L,M];rfl
   by_cases ck:x.kind=12
   ·by_cases co:x.oper=(o:Int)
    ·have O:Fw e=0:=by rw[Fw,if_neg L,g0,E,if_neg (by rintro⟨_,a | a⟩;exact a ck;exact a co),M]
     rw[O,U] at V⊢
     have aj: ¬(0:Int)=1:=by decide
     simp(disch:=omega)only[go_sem,M,ae,aj];refine Aj (by kernel_rfl) pL3 (by kernel_rfl) ?_;simp(disch:=omega)only[go_sem,J,C,hfl,af,ag,ck,co,E];simp(disch:=omega)only[go_sem,J,C,Y,hfl];refine(Dm hG x _ hx _ r _ _ h (by omega) ac).mono ?_;rintro _ H1 ⟨rfl,h1⟩;have D:=h1.keep (Aa _ _ _) I.symm;simp(disch:=omega)only[go_sem];refine Aj (by kernel_rfl) pL8 (by kernel_rfl) ?_;simp(disch:=omega)only[go_sem,D];refine(Lu G H1).mono ?_;rintro _ K2 ⟨rfl,rfl⟩;simp(disch:=omega)only[go_sem,D,E,Oy,aa,ab,jD];refine(Lw hG (Bd o) _ r _ _ h (by rw[jC,jK];omega) h1).mono ?_;rintro _ H3 ⟨rfl,h3⟩;have S:=h3.keep (Aa _ _ _) I.symm;simp(disch:=omega)only[go_sem,S,C,Z,hfl];refine(Dm hG y _ X _ r _ _ h (by rw[jC,jC,jK];omega) h3).mono ?_;rintro _ H4 ⟨rfl,h4⟩;simp(disch:=omega)only[go_sem];refine Es.refl ⟨rfl, ?_⟩;have:=h4.drop ad;rw[jO,jO] at this;exact this
    ·have O:Fw e=1:=by rw[Fw,if_neg L,g0,E,if_pos ⟨M, .inr co⟩]
     rw[O,U] at V⊢
     simp(disch:=omega)only[go_sem,M,ae];refine Aj (by kernel_rfl) pL3 (by kernel_rfl) ?_;simp(disch:=omega)only[go_sem,J,C,hfl,af,ag,ck,co,E];simp(disch:=omega)only[go_sem,J,C,Y,hfl];refine(Dm hG x _ hx _ r _ _ h (by omega) ac).mono ?_;rintro _ H1 ⟨rfl,h1⟩;have D:=h1.keep (Aa _ _ _) I.symm;simp(disch:=omega)only[go_sem];refine Aj (by kernel_rfl) pL8 (by kernel_rfl) ?_;simp(disch:=omega)only[go_sem,D];refine(Lu G H1).mono ?_;rintro _ K2 ⟨rfl,rfl⟩;simp(disch:=omega)only[go_sem,D,E,Oy,aa,ab,jD];refine(Lw hG (Bd o) _ r _ _ h (by rw[jC,jK];omega) h1).mono ?_;rintro _ H3 ⟨rfl,h3⟩;have S:=h3.keep (Aa _ _ _) I.symm;simp(disch:=omega)only[go_sem,S,C,Z,hfl];refine(Dm hG y _ X _ r _ _ h (by rw[jC,jC,jK];omega) h3).mono ?_;rintro _ H4 ⟨rfl,h4⟩;simp(disch:=omega)only[go_sem];refine Es.refl ⟨rfl, ?_⟩;have:=h4.drop ad;rw[jO,jO] at this;exact this
   ·have O:Fw e=1:=by rw[Fw,if_neg L,g0,E,if_pos ⟨M, .inl ck⟩]
    rw[O,U] at V⊢
    simp(disch:=omega)only[go_sem,M,ae];refine Aj (by kernel_rfl) pL3 (by kernel_rfl) ?_;simp(disch:=omega)only[go_sem,J,C,hfl,af,ag,ck,E];simp(disch:=omega)only[go_sem,J,C,Y,hfl];refine(Dm hG x _ hx _ r _ _ h (by omega) ac).mono ?_;rintro _ H1 ⟨rfl,h1⟩;have D:=h1.keep (Aa _ _ _) I.symm;simp(disch:=omega)only[go_sem];refine Aj (by kernel_rfl) pL8 (by kernel_rfl) ?_;simp(disch:=omega)only[go_sem,D];refine(Lu G H1).mono ?_;rintro _ K2 ⟨rfl,rfl⟩;simp(disch:=omega)only[go_sem,D,E,Oy,aa,ab,jD];refine(Lw hG (Bd o) _ r _ _ h (by rw[jC,jK];omega) h1).mono ?_;rintro _ H3 ⟨rfl,h3⟩;have S:=h3.keep (Aa _ _ _) I.symm;simp(disch:=omega)only[go_sem,S,C,Z,hfl];refine(Dm hG y _ X _ r _ _ h (by rw[jC,jC,jK];omega) h3).mono ?_;rintro _ H4 ⟨rfl,h4⟩;simp(disch:=omega)only[go_sem];refine Es.refl ⟨rfl, ?_⟩;have:=h4.drop ad;rw[jO,jO] at this;exact this
  ·have O:Fw e=Ba e:=by rw[Fw,if_neg L,if_neg (by rintro⟨a,_⟩;exact M a)]
   rw[O,U] at V⊢
   simp(disch:=omega)only[go_sem,M,L,ae];refine Aj (by kernel_rfl) pL3 (by kernel_rfl) ?_;simp(disch:=omega)only[go_sem,J,C,hfl,af,ag,E,M];simp(disch:=omega)only[go_sem,J,C,Y,hfl];refine(Dm hG x _ hx _ r _ _ h (by omega) ac).mono ?_;rintro _ H1 ⟨rfl,h1⟩;have D:=h1.keep (Aa _ _ _) I.symm;simp(disch:=omega)only[go_sem];refine Aj (by kernel_rfl) pL8 (by kernel_rfl) ?_;simp(disch:=omega)only[go_sem,D];refine(Lu G H1).mono ?_;rintro _ K2 ⟨rfl,rfl⟩;simp(disch:=omega)only[go_sem,D,E,Oy,aa,ab,jD];refine(Lw hG (Bd o) _ r _ _ h (by rw[jC,jK];omega) h1).mono ?_;rintro _ H3 ⟨rfl,h3⟩;have S:=h3.keep (Aa _ _ _) I.symm;simp(disch:=omega)only[go_sem,S,C,Z,hfl];refine(Dm hG y _ X _ r _ _ h (by rw[jC,jC,jK];omega) h3).mono ?_;rintro _ H4 ⟨rfl,h4⟩;simp(disch:=omega)only[go_sem];refine Es.refl ⟨rfl, ?_⟩;have:=h4.drop ad;rw[jO,jO] at this;exact this
set_option maxHeartbeats 4000000 in
theorem Ao5 (hG:GX G) (e x:Ex) (ws:List (List UInt8)) (hl:(∃y z,e.l= [x,y,z])\/ ∃y,e.l= [x,y]) (hp: ∀y∈e.l,WrC Tryz.prog G 187 [.agg (dEx y)] (Am y)):
  WrC Tryz.prog G 265 [.agg (dEx e),dW ws] (Ay x 2++(ws.map Ah++Kb e)):=by
 intro B r ts H Y J hw;rw[jC,jC,jK] at J;have hx:WrC Tryz.prog G 187 [.agg (dEx x)] (Am x):=hp x (by rcases hl with⟨y,z,hl⟩ | ⟨y,hl⟩<;>(rw[hl];simp));have S:(e.l.flatMap dEx).take 9=dEx x:=by rcases hl with⟨y,z,hl⟩ | ⟨y,hl⟩<;>exact lx0 hl
 have hfl:=Ax Ad e.l;have U:0<e.l.length:=by rcases hl with⟨y,z,hl⟩ | ⟨y,hl⟩<;>(rw[hl];simp)
 refine Ab Tryz.func265 Tryz.call265 rfl (by kernel_rfl) ?_;simp(disch:=omega)only[go_sem,DVal.cells];intro h D;dsimp only at D;obtain⟨K,L⟩: ∃K',K'=upd H h (some (.cells (dEx e) 27)):=⟨_,rfl⟩;rw[<-L];have V:K h=some (.cells (dEx e) 27):=by rw[L];exact Aa _ _ _
 have W:WAt (upd B h (some (.cells (dEx e) 27))) r ts K:=by rw[L];exact hw.frame D _
 have M:r≠h:=hw.ne D;have X:B h=none:=(hw.lo D).1;have C:upd B h (some (.cells (dEx e) 27)) r=none:=by rw[Ak _ _ _ _ M];exact Y
 rcases hl with⟨y,z,hl⟩ | ⟨y,hl⟩
 ·have E:e.l.length=3:=by rw[hl];rfl
  have O:=lx1 hl;have Z:=lx2 hl;have ht:Kb e=Ay y 2++Ah Ev::Ay z 2:=by unfold Kb pE tE;rw[hl];rfl
  rw[ht] at J⊢
  simp(disch:=omega)only[go_sem,V,S,hfl,U];refine(Dm hG x _ hx _ r _ _ C (by omega) W).mono ?_;rintro _ H1 ⟨rfl,h1⟩;simp(disch:=omega)only[go_sem];refine(Lw hG ws _ r _ _ C (by rw[jC,jK];omega) h1).mono ?_;rintro _ H2 ⟨rfl,h2⟩;have I:=h2.keep (Aa _ _ _) M.symm;simp(disch:=omega)only[go_sem,I,E];refine Aj (by kernel_rfl) pL13 (by kernel_rfl) ?_;simp(disch:=omega)only[go_sem,I,E,O,Z,hfl];refine(Ao4 hG y z (hp y (by rw[hl];simp)) (hp z (by rw[hl];simp)) _ r _ _ C (by rw[jC,jC,jK];omega) h2).mono ?_;rintro _ H4 ⟨rfl,h4⟩;simp(disch:=omega)only[go_sem];refine Es.refl ⟨rfl, ?_⟩;have:=h4.drop X;rw[jO,jO] at this;exact this
 ·have E:e.l.length=2:=by rw[hl];rfl
  have O:=lx1 hl;have ht:Kb e=Am y:=by unfold Kb pE tE;rw[hl];rfl
  rw[ht] at J⊢
  simp(disch:=omega)only[go_sem,V,S,hfl,U];refine(Dm hG x _ hx _ r _ _ C (by omega) W).mono ?_;rintro _ H1 ⟨rfl,h1⟩;simp(disch:=omega)only[go_sem];refine(Lw hG ws _ r _ _ C (by rw[jC,jK];omega) h1).mono ?_;rintro _ H2 ⟨rfl,h2⟩;have I:=h2.keep (Aa _ _ _) M.symm;simp(disch:=omega)only[go_sem,I,E,O,hfl];refine(hp y (by rw[hl];simp) _ r _ _ C (by rw[jC,jC,jK];omega) h2).mono ?_;rintro _ H4 ⟨rfl,h4⟩;simp(disch:=omega)only[go_sem];refine Es.refl ⟨rfl, ?_⟩;have:=h4.drop X;rw[jO,jO] at this;exact this
set_option maxHeartbeats 4000000 in
theorem Ao6 (hG:GX G) (c:Ch) {n:Nat} (h:Fj n c=true) (hp: ∀y∈c.l,WrC Tryz.prog G 187 [.agg (dEx y)] (Am y)):WrC Tryz.prog G 275 [.agg (dCh c)] (Dw c):=by
 intro B r ts H X D hw;have hfl:=Ax Ad c.l;unfold Fj at h;refine Ab Tryz.func275 Tryz.call275 rfl (by kernel_rfl) ?_;simp(disch:=omega)only[go_sem,DVal.cells];intro E J;dsimp only at J;obtain⟨K,M⟩: ∃K',K'=upd H E (some (.cells (dCh c) 47)):=⟨_,rfl⟩;rw[<-M];have L:K E=some (.cells (dCh c) 47):=by rw[M];exact Aa _ _ _
 have O:WAt (upd B E (some (.cells (dCh c) 47))) r ts K:=by rw[M];exact hw.frame J _
 have Y:r≠E:=hw.ne J;have S:B E=none:=(hw.lo J).1;have U:upd B E (some (.cells (dCh c) 47)) r=none:=by rw[Ak _ _ _ _ Y];exact X
 by_cases C:c.kind=1
 ·rw[if_pos C,decide_eq_true_eq] at h;obtain⟨x,hx⟩:=Ez8 h;have V:=lx0 hx;have ht:Dw c=Am x:=by rw[Ng,if_pos C,hx];rfl
  rw[ht] at D⊢
  simp(disch:=omega)only[go_sem,L,C,h,V,hfl];refine(hp x (by rw[hx];simp) _ r _ _ U D O).mono ?_;rintro _ Z ⟨rfl,h4⟩;simp(disch:=omega)only[go_sem];exact Es.refl ⟨rfl,h4.drop S⟩
 ·rw[if_neg C] at h;by_cases I:c.kind=2
  ·rw[if_pos I,decide_eq_true_eq] at h;obtain⟨x,y,hx⟩:=Ef2 h;have V:=lx0 hx;have aa:=lx1 hx;have ht:Dw c=Ay x 2++Ah Ev::Ay y 2:=by rw[Ng,if_neg C,if_pos I,hx];rfl
   rw[ht] at D⊢
   simp(disch:=omega)only[go_sem,L,I];refine Aj (by kernel_rfl) pL13 (by kernel_rfl) ?_;simp(disch:=omega)only[go_sem,L,h,V,aa,hfl];refine(Ao4 hG x y (hp x (by rw[hx];simp)) (hp y (by rw[hx];simp)) _ r _ _ U D O).mono ?_;rintro _ Z ⟨rfl,h4⟩;simp(disch:=omega)only[go_sem];exact Es.refl ⟨rfl,h4.drop S⟩
  ·have ht:Dw c= [Ah Lf]:=by rw[Ng,if_neg C,if_neg I]
   rw[ht] at D⊢
   simp(disch:=omega)only[go_sem,L,C,I];intro q1 W;dsimp only at W;simp(disch:=omega)only[go_sem];refine(Ty hG Lf W U D O).mono ?_;rintro _ H1 ⟨rfl,h1⟩;simp(disch:=omega)only[go_sem];exact Es.refl ⟨rfl,h1.drop S⟩
end
theorem Qa {α:Type} {l:List α} {j:Nat} (h:j<l.length):l.take (j+1)=l.take j++ [l[j]]:=by rw[List.take_add_one,List.getElem?_eq_getElem h];rfl
theorem Aw9 {α:Type} (g:α->List Tok) (s:List UInt8) (l:List α) (j:Nat) (h:j<l.length):Ef s ((l.take (j+1)).map g)=Ef s ((l.take j).map g)++((if j=0 then [] else [Ah s])++g l[j]):=by
 rw[Qa h,List.map_append,List.map_singleton];by_cases c:j=0
 ·subst c;simp [Ef]
 ·rw[Ad0 s _ _ (by cases l with
   | nil=>simp at h
   | cons x l=>cases j with
    | zero=>exact absurd rfl c
    | succ j=>simp),if_neg c];rfl
theorem By4 {α:Type} (g:α->List Tok) (s:List UInt8) (l:List α): ∀(n j:Nat),j+n<=l.length->(Ef s ((l.take j).map g)).length<=(Ef s ((l.take (j+n)).map g)).length
 | 0,j,_=>Nat.le_refl _
 | n+1,j,h=>by
  rw[<-Nat.add_assoc,Aw9 g s l (j+n) (by omega),jC];have:=By4 g s l n j (by omega);omega
theorem Dr0 {α:Type} (g:α->List Tok) (s:List UInt8) (l:List α) (j:Nat) (h:j<=l.length):(Ef s ((l.take j).map g)).length<=(Ef s (l.map g)).length:=by
 have:=By4 g s l (l.length-j) j (by omega);rw[Nat.add_sub_cancel' h,List.take_length] at this;exact this
section
variable {G:Nat->DVal}
set_option maxHeartbeats 4000000 in
theorem Ba4 (hG:GX G) (l:List Ch) (s:List UInt8) (ai:l.length<=1000000000) (hp: ∀c∈l,WrC Tryz.prog G 275 [.agg (dCh c)] (Dw c)) (B:Ac) (r:Nat) (ts:List Tok) (H:Ac) (hB:B r=none) (aj:ts.length+(Ef s (l.map Dw)).length<=1000000000) (hw:WAt B r ts H):
  Af Tryz.prog G 274 [.optr r 0,dCl l, .str s, .func (.func 275) [.optr r 0] []] H (WQ B r (ts++Ef s (l.map Dw))):=by
 refine Ab Tryz.func274 Tryz.call274 rfl (by kernel_rfl) ?_;simp(disch:=omega)only[go_sem,dCl];obtain⟨I,S⟩: ∃I:Nat->(Nat->DVal)->Ac->Prop,∀j env heap,I j env heap↔(env 0= .optr r 0/\env 2= .str s/\env 3= .func (.func 275) [.optr r 0] []/\env 10=dCl l/\env 11=dI l.length/\env 12=dI j/\j<=l.length/\WAt B r (ts++Ef s ((l.take j).map Dw)) heap):=⟨_,fun _ _ _=>Iff.rfl⟩;refine Dn5.run I (fun j=>l.length-j) 0 ((S _ _ _).2 ?_) ?_
 ·simp(disch:=omega)only[go_sem];(repeat' apply And.intro)<;>(try first | rfl | assumption | omega);simpa [Ef] using hw
 ·intro j env heap hi;obtain⟨h,y,C,D,E,J,hj,O⟩:=(S _ _ _).1 hi;by_cases U:j<l.length
  ·have W:(j:Int)<(l.length:Int):=by omega
   have aa:IntKind.i64.wrap ((j:Int)+1)=((j+1:Nat):Int):=by rw[IntKind.wrap_i64];omega
   have ab:=Cu Gh l j U;have hfl:=Ax Gh l;have L:=Aw9 Dw s l j U;have hle:=Dr0 Dw s l (j+1) U;have hpc:=hp l[j] (List.getElem_mem U);obtain⟨c,ag⟩: ∃c,c=l[j]:=⟨_,rfl⟩;rw[<-ag] at ab L hpc;rw[L,jC,jC] at hle;simp(disch:=omega)only[go_sem,h,y,C,D,E,J,W,dCl,ab,hfl,jD];intro M V;dsimp only at V;simp(disch:=omega)only[go_sem,h,y,C,D,E,J];obtain⟨K,X⟩: ∃K',K'=upd heap M (some (.cells (dCh c) 47)):=⟨_,rfl⟩;rw[<-X];have ac:K M=some (.cells (dCh c) 47):=by rw[X];exact Aa _ _ _
   have ad:WAt (upd B M (some (.cells (dCh c) 47))) r (ts++Ef s ((l.take j).map Dw)) K:=by rw[X];exact O.frame V _
   have n9:r≠M:=O.ne V;have ae:B M=none:=(O.lo V).1;have Y:upd B M (some (.cells (dCh c) 47)) r=none:=by rw[Ak _ _ _ _ n9];exact hB
   by_cases c0:j=0
   ·have ah: ¬(j:Int)>0:=by omega
    have Z: ¬(0:Int)<(j:Int):=by omega
    rw[if_pos c0] at L hle;simp(disch:=omega)only[go_sem,h,y,C,D,E,J,ac,ah,Z];refine(hpc _ r _ _ Y (by rw[jC];simp only[jB] at hle;omega) ad).mono ?_;rintro _ H2 ⟨rfl,h2⟩;simp(disch:=omega)only[go_sem,h,y,C,D,E,J];refine⟨j+1,_,Ri.refl _,(S _ _ _).2 ?_,by omega⟩;simp(disch:=omega)only[go_sem,h,y,C,D,E,J,aa];(repeat' apply And.intro)<;>(try first | rfl | assumption | omega);have:=h2.drop ae;rw[L,jG,<-jO];exact this
   ·have Z:(0:Int)<(j:Int):=by omega
    rw[if_neg c0] at L hle;simp only[jQ] at hle;simp(disch:=omega)only[go_sem,h,y,C,D,E,J,ac,Z];intro q1 af;dsimp only at af;simp(disch:=omega)only[go_sem,h,y,C,D,E,J];refine(Ty hG s af Y (by rw[jC];omega) ad).mono ?_;rintro _ H1 ⟨rfl,h1⟩;have g1:=h1.keep (Aa _ _ _) n9.symm;simp(disch:=omega)only[go_sem,h,y,C,D,E,J,g1];refine(hpc _ r _ _ Y (by rw[jC,jC,jQ];omega) h1).mono ?_;rintro _ H2 ⟨rfl,h2⟩;simp(disch:=omega)only[go_sem,h,y,C,D,E,J];refine⟨j+1,_,Ri.refl _,(S _ _ _).2 ?_,by omega⟩;simp(disch:=omega)only[go_sem,h,y,C,D,E,J,aa];(repeat' apply And.intro)<;>(try first | rfl | assumption | omega);have:=h2.drop ae;rw[L,<-jO,<-jO];exact this
  ·have:j=l.length:=by omega
   subst this;have W: ¬(l.length:Int)<(l.length:Int):=by omega
   rw[List.take_length] at O;simp(disch:=omega)only[go_sem,h,y,C,D,E,J,W];exact Es.refl ⟨rfl,O⟩
set_option maxHeartbeats 4000000 in
theorem Ba5 (hG:GX G) (l:List As) (s:List UInt8) (ai:l.length<=1000000000) (hp: ∀c∈l,WrC Tryz.prog G 262 [.agg (dAs c)] (Hz c)) (B:Ac) (r:Nat) (ts:List Tok) (H:Ac) (hB:B r=none) (aj:ts.length+(Ef s (l.map Hz)).length<=1000000000) (hw:WAt B r ts H):
  Af Tryz.prog G 261 [.optr r 0,dAl l, .str s, .func (.func 262) [.optr r 0] []] H (WQ B r (ts++Ef s (l.map Hz))):=by
 refine Ab Tryz.func261 Tryz.call261 rfl (by kernel_rfl) ?_;simp(disch:=omega)only[go_sem,dAl];obtain⟨I,S⟩: ∃I:Nat->(Nat->DVal)->Ac->Prop,∀j env heap,I j env heap↔(env 0= .optr r 0/\env 2= .str s/\env 3= .func (.func 262) [.optr r 0] []/\env 10=dAl l/\env 11=dI l.length/\env 12=dI j/\j<=l.length/\WAt B r (ts++Ef s ((l.take j).map Hz)) heap):=⟨_,fun _ _ _=>Iff.rfl⟩;refine Dn5.run I (fun j=>l.length-j) 0 ((S _ _ _).2 ?_) ?_
 ·simp(disch:=omega)only[go_sem];(repeat' apply And.intro)<;>(try first | rfl | assumption | omega);simpa [Ef] using hw
 ·intro j env heap hi;obtain⟨h,y,C,D,E,J,hj,O⟩:=(S _ _ _).1 hi;by_cases U:j<l.length
  ·have W:(j:Int)<(l.length:Int):=by omega
   have aa:IntKind.i64.wrap ((j:Int)+1)=((j+1:Nat):Int):=by rw[IntKind.wrap_i64];omega
   have ab:=Cu Fz l j U;have hfl:=Ax Fz l;have L:=Aw9 Hz s l j U;have hle:=Dr0 Hz s l (j+1) U;have hpc:=hp l[j] (List.getElem_mem U);obtain⟨c,ag⟩: ∃c,c=l[j]:=⟨_,rfl⟩;rw[<-ag] at ab L hpc;rw[L,jC,jC] at hle;simp(disch:=omega)only[go_sem,h,y,C,D,E,J,W,dAl,ab,hfl,jD];intro M V;dsimp only at V;simp(disch:=omega)only[go_sem,h,y,C,D,E,J];obtain⟨K,X⟩: ∃K',K'=upd heap M (some (.cells (dAs c) 44)):=⟨_,rfl⟩;rw[<-X];have ac:K M=some (.cells (dAs c) 44):=by rw[X];exact Aa _ _ _
   have ad:WAt (upd B M (some (.cells (dAs c) 44))) r (ts++Ef s ((l.take j).map Hz)) K:=by rw[X];exact O.frame V _
   have n9:r≠M:=O.ne V;have ae:B M=none:=(O.lo V).1;have Y:upd B M (some (.cells (dAs c) 44)) r=none:=by rw[Ak _ _ _ _ n9];exact hB
   by_cases c0:j=0
   ·have ah: ¬(j:Int)>0:=by omega
    have Z: ¬(0:Int)<(j:Int):=by omega
    rw[if_pos c0] at L hle;simp(disch:=omega)only[go_sem,h,y,C,D,E,J,ac,ah,Z];refine(hpc _ r _ _ Y (by rw[jC];simp only[jB] at hle;omega) ad).mono ?_;rintro _ H2 ⟨rfl,h2⟩;simp(disch:=omega)only[go_sem,h,y,C,D,E,J];refine⟨j+1,_,Ri.refl _,(S _ _ _).2 ?_,by omega⟩;simp(disch:=omega)only[go_sem,h,y,C,D,E,J,aa];(repeat' apply And.intro)<;>(try first | rfl | assumption | omega);have:=h2.drop ae;rw[L,jG,<-jO];exact this
   ·have Z:(0:Int)<(j:Int):=by omega
    rw[if_neg c0] at L hle;simp only[jQ] at hle;simp(disch:=omega)only[go_sem,h,y,C,D,E,J,ac,Z];intro q1 af;dsimp only at af;simp(disch:=omega)only[go_sem,h,y,C,D,E,J];refine(Ty hG s af Y (by rw[jC];omega) ad).mono ?_;rintro _ H1 ⟨rfl,h1⟩;have g1:=h1.keep (Aa _ _ _) n9.symm;simp(disch:=omega)only[go_sem,h,y,C,D,E,J,g1];refine(hpc _ r _ _ Y (by rw[jC,jC,jQ];omega) h1).mono ?_;rintro _ H2 ⟨rfl,h2⟩;simp(disch:=omega)only[go_sem,h,y,C,D,E,J];refine⟨j+1,_,Ri.refl _,(S _ _ _).2 ?_,by omega⟩;simp(disch:=omega)only[go_sem,h,y,C,D,E,J,aa];(repeat' apply And.intro)<;>(try first | rfl | assumption | omega);have:=h2.drop ae;rw[L,<-jO,<-jO];exact this
  ·have:j=l.length:=by omega
   subst this;have W: ¬(l.length:Int)<(l.length:Int):=by omega
   rw[List.take_length] at O;simp(disch:=omega)only[go_sem,h,y,C,D,E,J,W];exact Es.refl ⟨rfl,O⟩
end
section
variable {G:Nat->DVal}
set_option maxHeartbeats 4000000 in
theorem Ba6 (hG:GX G) (a:As) (D:a.c= []\/(a.c.length<=1000000000/\ ∃n,∀c∈a.c,Fj n c=true)) (hp: ∀y∈Fb a,WrC Tryz.prog G 187 [.agg (dEx y)] (Am y)):WrC Tryz.prog G 262 [.agg (dAs a)] (Hz a):=by
 intro B r ts H X E hw;have he:=hp a.e (Ow a);have M:((dAs a).drop 1).take 9=dEx a.e:=by rw[Au5,jE,jJ,List.take_of_length_le (by rw[Ad];omega)]
 refine Ab Tryz.func262 Tryz.call262 rfl (by kernel_rfl) ?_;simp(disch:=omega)only[go_sem,DVal.cells];intro h I;dsimp only at I;obtain⟨K,L⟩: ∃K',K'=upd H h (some (.cells (dAs a) 44)):=⟨_,rfl⟩;rw[<-L];have O:K h=some (.cells (dAs a) 44):=by rw[L];exact Aa _ _ _
 have S:WAt (upd B h (some (.cells (dAs a) 44))) r ts K:=by rw[L];exact hw.frame I _
 have U:r≠h:=hw.ne I;have V:B h=none:=(hw.lo I).1;have J:upd B h (some (.cells (dAs a) 44)) r=none:=by rw[Ak _ _ _ _ U];exact X
 by_cases C:a.c= []
 ·have ht:Hz a=Am a.e:=by rw[Qu,C];rfl
  have Y:a.c.length=0:=by rw[C];rfl
  have Z: ¬(0:Int)<((0:Nat):Int):=by omega
  rw[ht] at E⊢
  simp(disch:=omega)only[go_sem,O,Y,Z,M];refine(he _ r _ _ J E S).mono ?_;rintro _ H1 ⟨rfl,h1⟩;simp(disch:=omega)only[go_sem];exact Es.refl ⟨rfl,h1.drop V⟩
 ·obtain⟨aa,n,ab⟩:=D.resolve_left C;have ad:0<a.c.length:=List.length_pos_iff.2 C;have ac:(0:Int)<(a.c.length:Int):=by omega
  have ht:Hz a=Ef Gl (a.c.map Dw)++Ah Bn::Am a.e:=by
   rw[Qu,if_neg];simpa using C
  rw[ht] at E⊢
  rw[jC,jA] at E;simp(disch:=omega)only[go_sem,O,ac];refine(Ba4 hG a.c Gl aa (fun c D=>Ao6 hG c (ab c D) fun y hy=>hp y (Sa D hy)) _ r _ _ J (by omega) S).mono ?_;rintro _ H1 ⟨rfl,h1⟩;simp(disch:=omega)only[go_sem];intro q1 W;dsimp only at W;simp(disch:=omega)only[go_sem];refine(Ty hG Bn W J (by rw[jC];omega) h1).mono ?_;rintro _ H2 ⟨rfl,h2⟩;have g2:=h2.keep (Aa _ _ _) U.symm;simp(disch:=omega)only[go_sem,g2,M];refine(he _ r _ _ J (by rw[jC,jC,jQ];omega) h2).mono ?_;rintro _ H3 ⟨rfl,h3⟩;simp(disch:=omega)only[go_sem];refine Es.refl ⟨rfl, ?_⟩;have:=h3.drop V;rw[jO,jO] at this;exact this
theorem Cg6 {a:As} (h:(a.c.isEmpty || Eu a.c)=true):a.c= []\/(a.c.length<=1000000000/\ ∃n,∀c∈a.c,Fj n c=true):=by
 cases hc:a.c with
 | nil=>exact .inl rfl
 | cons c r=>
  rw[hc] at h
  cases r with
  | nil=>
   simp only[Eu,List.isEmpty_cons,Bool.false_or,jF,decide_eq_true_eq] at h
   refine .inr ⟨by simp,1,fun d hd=> ?_⟩
   rw[List.mem_singleton] at hd
   subst hd
   rw[Fj,if_pos h.1,decide_eq_true_eq]
   match hl:d.l with
   | [x]=>rfl
   | []=>rw[hl] at h;cases h.2
   | _::_::_=>rw[hl] at h;cases h.2
  | cons d r=>simp [Eu] at h
theorem Ct4 {a:As} (h:(a.c.isEmpty || Dk a.c)=true):a.c= []\/(a.c.length<=1000000000/\ ∃n,∀c∈a.c,Fj n c=true):=by
 cases hc:a.c with
 | nil=>exact .inl rfl
 | cons c r=>
  rw[hc] at h;simp only[List.isEmpty_cons,Bool.false_or,Dk,jF,decide_eq_true_eq,List.all_eq_true] at h;exact .inr ⟨by omega,_,h.2⟩
def ifT (x y z:Ex):Nat->List Tok
 | 0=> []
 | 1=>Ah Bi::Ah wIf::Am x
 | 2=>Ah Bi::Ah wIf::(Am x++Ah Pm::Am y)
 | _=>Ah Bi::Ah wIf::(Am x++Ah Pm::(Am y++Ah Qp::Am z))
set_option maxHeartbeats 8000000 in
theorem Dh7 (hG:GX G) (e:Ex) (hf:Bc e=true) (ih: ∀x∈parts e,WrC Tryz.prog G 187 [.agg (dEx x)] (Am x)):WrC Tryz.prog G 187 [.agg (dEx e)] (Am e):=by
 intro B r ts H hB D hw;have hfl:=Ax Ad e.l;refine Ab Tryz.func187 Tryz.call187 rfl (by kernel_rfl) ?_;simp(disch:=omega)only[go_sem,DVal.cells];intro r3 aj;dsimp only at aj;obtain⟨K,hK⟩: ∃K',K'=upd H r3 (some (.cells (dEx e) 27)):=⟨_,rfl⟩;rw[<-hK];have aa:K r3=some (.cells (dEx e) 27):=by rw[hK];exact Aa _ _ _
 have Z:WAt (upd B r3 (some (.cells (dEx e) 27))) r ts K:=by rw[hK];exact hw.frame aj _
 have O:r≠r3:=hw.ne aj;have ab:B r3=none:=(hw.lo aj).1;have J:upd B r3 (some (.cells (dEx e) 27)) r=none:=by rw[Ak _ _ _ _ O];exact hB
 simp(disch:=omega)only[go_sem,aa];refine(Us G _ e).mono ?_;rintro _ K1 ⟨rfl,rfl⟩;by_cases hk:e.kind=1
 ·have M:Cd e=false:=by cases h:Cd e with | false=>rfl | true=>exact(Tj (by omega) h).elim
  rw[Ex3 hk] at D⊢
  rw[M];simp(disch:=omega)only[go_sem,aa,hk];refine Aj (by kernel_rfl) (.take 0 (.take 1 (.take 2 (.take 3 (.take 4 (.take 5 (.take 6 (.take 7 (.go 8 [4] (.go 9 [] (.take 10 (.take 11 (.go 12 [] .done))))))))))))) (by kernel_rfl) ?_;obtain⟨v,hv⟩:=Z;have gr:=hv.keep (Aa _ _ _);simp(disch:=omega)only[go_sem,aa,gr];intro r6 al;dsimp only at al;have n6:r≠r6:=Ae al gr;have m6:=n6.symm;have ax:=hv.new al (some (.cells (Cy (Cs3 e.n)) 31));simp(disch:=omega)only[go_sem,gr,n6,m6];refine Jf.append (m:=1) ax rfl (by rw[jQ] at D;omega) fun v2 H6 am=> ?_;have g6:=am.keep (Aa _ _ _);obtain⟨j1,j2⟩:=am.cell1;simp(disch:=omega)only[go_sem,g6,j1,j2];have h7:WAt (upd B r3 (some (.cells (dEx e) 27))) r (ts++ [Cs3 e.n]) (upd H6 r (some (.cells [v2] 241))):=by
   refine⟨v2, ?_⟩;have ap:=am.at (Aa _ _ _) (some (.cells [v2] 241));rw[Fy] at ap;rw[Hl,jC,jQ];exact ap
  exact Es.refl ⟨rfl,h7.drop ab⟩
 have z1:=hk;clear hk;by_cases hk:e.kind=2
 ·have M:Cd e=false:=by cases h:Cd e with | false=>rfl | true=>exact(Tj (by omega) h).elim
  rw[Ex4 hk] at D⊢
  rw[M];simp(disch:=omega)only[go_sem,aa,hk];intro q1 E;dsimp only at E;simp(disch:=omega)only[go_sem,hk];refine(Ty hG Ez E J (by(try simp only[jC,jA,jB,jK]);omega) Z).mono ?_;rintro _ H1 ⟨rfl,h1⟩;have g1:=h1.keep (Aa _ _ _) O.symm;simp(disch:=omega)only[go_sem];refine Es.refl ⟨rfl, ?_⟩;have:=h1.drop ab
  (try simp only[jO,jI,jG] at this⊢)
  exact this
 have z2:=hk;clear hk;by_cases hk:e.kind=3
 ·have M:Cd e=true:=Yd (by omega);rw[Cs4 hk] at D⊢
  rw[M];simp(disch:=omega)only[go_sem,aa,hk];refine(Ah5 G e.s _ r _ _ J D Z).mono ?_;rintro _ H1 ⟨rfl,h1⟩;simp(disch:=omega)only[go_sem];refine Es.refl ⟨rfl, ?_⟩;have:=h1.drop ab
  (try simp only[jO,jI,jG] at this⊢)
  exact this
 have z3:=hk;clear hk;by_cases hk:e.kind=4
 ·obtain⟨⟨x,hx,_⟩,_⟩:=Dh3 (.inl hk) hf;have ht:Am e=Am x++ [Ah Jl,Ci e.s]:=by rw[Dq2 hk];unfold tE;rw[hx];rfl
  rw[ht,jC] at D;rw[ht];simp only[jA,jB] at D;have U:e.l.length=1:=by rw[hx];rfl
  have ac:=lx0 hx;have M:Cd e=true:=Yd (by omega);rw[M];simp(disch:=omega)only[go_sem,aa,hk,U,hfl,ac];refine(ih x (Be (by rw[hx];simp)) _ r _ _ J (by omega) Z).mono ?_;rintro _ H1 ⟨rfl,h1⟩;have g1:=h1.keep (Aa _ _ _) O.symm;simp(disch:=omega)only[go_sem,g1,hk];intro q1 E;dsimp only at E;simp(disch:=omega)only[go_sem,hk];refine(Ty hG Jl E J (by(try simp only[jC,jA,jB,jK]);omega) h1).mono ?_;rintro _ H2 ⟨rfl,h2⟩;have g2:=h2.keep (Aa _ _ _) O.symm;simp(disch:=omega)only[go_sem,g2];refine(Ah5 G e.s _ r _ _ J (by(try simp only[jC,jA,jB,jK]);omega) h2).mono ?_;rintro _ H3 ⟨rfl,h3⟩;simp(disch:=omega)only[go_sem];refine Es.refl ⟨rfl, ?_⟩;have:=h3.drop ab
  (try simp only[jO,jI,jG] at this⊢)
  exact this
 have z4:=hk;clear hk;by_cases hk:e.kind=5
 ·obtain⟨⟨x,hx,_⟩,_⟩:=ff5 hk hf;have ht:Am e=Am x++ [Ah Jl,Ah Zr]:=by rw[Ex5 hk];unfold tE;rw[hx];rfl
  rw[ht,jC] at D;rw[ht];simp only[jA,jB] at D;have U:e.l.length=1:=by rw[hx];rfl
  have ac:=lx0 hx;have M:Cd e=true:=Yd (by omega);rw[M];simp(disch:=omega)only[go_sem,aa,hk,U,hfl,ac];refine(ih x (Be (by rw[hx];simp)) _ r _ _ J (by omega) Z).mono ?_;rintro _ H1 ⟨rfl,h1⟩;have g1:=h1.keep (Aa _ _ _) O.symm;simp(disch:=omega)only[go_sem,g1,hk];intro q1 E;dsimp only at E;simp(disch:=omega)only[go_sem];refine(Gq2 hG Jl Zr E J (by(try simp only[jC,jA,jB,jK]);omega) h1).mono ?_;rintro _ H2 ⟨rfl,h2⟩;simp(disch:=omega)only[go_sem];refine Es.refl ⟨rfl, ?_⟩;have:=h2.drop ab
  (try simp only[jO,jI,jG] at this⊢)
  exact this
 have z5:=hk;clear hk;by_cases hk:e.kind=6
 ·obtain⟨⟨x,hx,_⟩,_⟩:=Dh3 (.inr hk) hf;have ht:Am e=Am x++ [Ah Iq,Ci e.s]:=by rw[Ex6 hk];unfold tE;rw[hx];rfl
  rw[ht,jC] at D;rw[ht];simp only[jA,jB] at D;have U:e.l.length=1:=by rw[hx];rfl
  have ac:=lx0 hx;have M:Cd e=true:=Yd (by omega);rw[M];simp(disch:=omega)only[go_sem,aa,hk,U,hfl,ac];refine(ih x (Be (by rw[hx];simp)) _ r _ _ J (by omega) Z).mono ?_;rintro _ H1 ⟨rfl,h1⟩;have g1:=h1.keep (Aa _ _ _) O.symm;simp(disch:=omega)only[go_sem,g1,hk];intro q1 E;dsimp only at E;simp(disch:=omega)only[go_sem,hk];refine(Ty hG Iq E J (by(try simp only[jC,jA,jB,jK]);omega) h1).mono ?_;rintro _ H2 ⟨rfl,h2⟩;have g2:=h2.keep (Aa _ _ _) O.symm;simp(disch:=omega)only[go_sem,g2];refine(Ah5 G e.s _ r _ _ J (by(try simp only[jC,jA,jB,jK]);omega) h2).mono ?_;rintro _ H3 ⟨rfl,h3⟩;simp(disch:=omega)only[go_sem];refine Es.refl ⟨rfl, ?_⟩;have:=h3.drop ab
  (try simp only[jO,jI,jG] at this⊢)
  exact this
 have z6:=hk;clear hk;by_cases hk:e.kind=7
 ·obtain⟨⟨x,hx,_⟩,ha,_⟩:=ff7 hk hf;have ht:Am e=Am x++Ah Bi::(taE e++ [Ah Bt]):=by rw[Ex7 hk];unfold tE;rw[hx];rfl
  rw[ht,jC,jA,jC] at D;rw[ht];simp only[jA,jB,taE] at D;unfold taE;have U:e.l.length=1:=by rw[hx];rfl
  rw[Ns,jF,jF,jF,decide_eq_true_eq,decide_eq_true_eq,List.all_eq_true] at ha;have ac:=lx0 hx;have M:Cd e=true:=Yd (by omega);rw[M];simp(disch:=omega)only[go_sem,aa,hk,U,hfl,ac];refine(ih x (Be (by rw[hx];simp)) _ r _ _ J (by omega) Z).mono ?_;rintro _ H1 ⟨rfl,h1⟩;have g1:=h1.keep (Aa _ _ _) O.symm;simp(disch:=omega)only[go_sem,g1,hk];intro q1 E;dsimp only at E;simp(disch:=omega)only[go_sem,hk];refine(Ty hG Bi E J (by(try simp only[jC,jA,jB,jK]);omega) h1).mono ?_;rintro _ H2 ⟨rfl,h2⟩;have g2:=h2.keep (Aa _ _ _) O.symm;simp(disch:=omega)only[go_sem,g2];refine(Ba5 hG e.a Dh (by omega) (fun a ag=>Ba6 hG a (Cg6 (ha.2 a ag)) fun y hy=>ih y (Lq ag hy)) _ r _ _ J (by(try simp only[jC,jA,jB,jK]);omega) h2).mono ?_;rintro _ H3 ⟨rfl,h3⟩;simp(disch:=omega)only[go_sem];intro q2 ah;dsimp only at ah;simp(disch:=omega)only[go_sem,hk];refine(Ty hG Bt ah J (by(try simp only[jC,jA,jB,jK]);omega) h3).mono ?_;rintro _ H4 ⟨rfl,h4⟩;have g4:=h4.keep (Aa _ _ _) O.symm;simp(disch:=omega)only[go_sem];refine Es.refl ⟨rfl, ?_⟩;have:=h4.drop ab
  (try simp only[jO,jI,jG] at this⊢)
  exact this
 have z7:=hk;clear hk;by_cases hk:e.kind=8
 ·obtain⟨⟨x,y,hx,_⟩,_⟩:=ff8 hk hf;have ht:Am e=Am x++Ah Iq::Yq (!Qt y.kind) (Am y):=by rw[Ex8 hk];unfold tE;rw[hx];rfl
  rw[ht,jC,jA] at D;rw[ht];have U:e.l.length=2:=by rw[hx];rfl
  have ai:=lx1 hx;have ao:(e.l.flatMap dEx)[9]? =some (.int .u8 y.kind):=by
   rw[hx,List.flatMap_cons,List.flatMap_cons,Ox x,Ox y];rfl
  have a9:=Qv y;have ac:=lx0 hx;have M:Cd e=true:=Yd (by omega);rw[M];simp(disch:=omega)only[go_sem,aa,hk,U,hfl,ac];refine(ih x (Be (by rw[hx];simp)) _ r _ _ J (by omega) Z).mono ?_;rintro _ H1 ⟨rfl,h1⟩;have g1:=h1.keep (Aa _ _ _) O.symm;simp(disch:=omega)only[go_sem,g1,hk];by_cases b9:y.kind=9
  ·have hb:Yq (!Qt y.kind) (Am y)=Ay y 0:=by rw[b9,Ay,decide_eq_false (by omega)];rfl
   rw[hb] at D⊢
   simp(disch:=omega)only[go_sem,g1,U,hfl,ao,b9];intro q1 E;dsimp only at E;simp(disch:=omega)only[go_sem,hk];refine(Ty hG Iq E J (by(try simp only[jC,jA,jB,jK]);omega) h1).mono ?_;rintro _ H2 ⟨rfl,h2⟩;have g2:=h2.keep (Aa _ _ _) O.symm;simp(disch:=omega)only[go_sem,g2,U,hfl,ai];refine(Dm hG y 0 (ih y (Be (by rw[hx];simp))) _ r _ _ J (by(try simp only[jC,jA,jB,jK]);omega) h2).mono ?_;rintro _ H3 ⟨rfl,h3⟩;simp(disch:=omega)only[go_sem];refine Es.refl ⟨rfl, ?_⟩;have:=h3.drop ab
   (try simp only[jO,jI,jG] at this⊢)
   exact this
  ·by_cases ak:y.kind=10
   ·have hb:Yq (!Qt y.kind) (Am y)=Ay y 0:=by rw[ak,Ay,decide_eq_false (by omega)];rfl
    rw[hb] at D⊢
    simp(disch:=omega)only[go_sem,g1,U,hfl,ao,ak];intro q1 E;dsimp only at E;simp(disch:=omega)only[go_sem,hk];refine(Ty hG Iq E J (by(try simp only[jC,jA,jB,jK]);omega) h1).mono ?_;rintro _ H2 ⟨rfl,h2⟩;have g2:=h2.keep (Aa _ _ _) O.symm;simp(disch:=omega)only[go_sem,g2,U,hfl,ai];refine(Dm hG y 0 (ih y (Be (by rw[hx];simp))) _ r _ _ J (by(try simp only[jC,jA,jB,jK]);omega) h2).mono ?_;rintro _ H3 ⟨rfl,h3⟩;simp(disch:=omega)only[go_sem];refine Es.refl ⟨rfl, ?_⟩;have:=h3.drop ab
    (try simp only[jO,jI,jG] at this⊢)
    exact this
   ·have hb:Yq (!Qt y.kind) (Am y)=Ay y 6:=by rw[Ay,decide_eq_true (by omega),Qt,decide_eq_false b9,decide_eq_false ak];rfl
    rw[hb] at D⊢
    simp(disch:=omega)only[go_sem,g1,U,hfl,ao,b9,ak];intro q1 E;dsimp only at E;simp(disch:=omega)only[go_sem,hk];refine(Ty hG Iq E J (by(try simp only[jC,jA,jB,jK]);omega) h1).mono ?_;rintro _ H2 ⟨rfl,h2⟩;have g2:=h2.keep (Aa _ _ _) O.symm;simp(disch:=omega)only[go_sem,g2,U,hfl,ai];refine(Dm hG y 6 (ih y (Be (by rw[hx];simp))) _ r _ _ J (by(try simp only[jC,jA,jB,jK]);omega) h2).mono ?_;rintro _ H3 ⟨rfl,h3⟩;simp(disch:=omega)only[go_sem];refine Es.refl ⟨rfl, ?_⟩;have:=h3.drop ab
    (try simp only[jO,jI,jG] at this⊢)
    exact this
 have z8:=hk;clear hk;by_cases hk:e.kind=9
 ·obtain⟨hx,ha,_⟩:=ff9 hk hf;have ht:Am e=Ah Bi::(taE e++ [Ah Bt]):=Dq3 hk;rw[ht,jA,jC] at D;rw[ht];simp only[jA,jB,taE] at D;unfold taE;have M:Cd e=false:=by cases h:Cd e with | false=>rfl | true=>exact(Tj (by omega) h).elim
  rw[M];rw[Ip] at ha;simp only[jF,decide_eq_true_eq,Bool.not_eq_true'] at ha;simp(disch:=omega)only[go_sem,aa,hk];intro q1 E;dsimp only at E;simp(disch:=omega)only[go_sem,hk];refine(Ty hG Bi E J (by(try simp only[jC,jA,jB,jK]);omega) Z).mono ?_;rintro _ H2 ⟨rfl,h2⟩;have g2:=h2.keep (Aa _ _ _) O.symm;simp(disch:=omega)only[go_sem,g2];refine(Ba5 hG e.a Dh (by omega) (fun a ag=>Ba6 hG a (Ct4 (Sb ha.2 a ag)) fun y hy=>ih y (Lq ag hy)) _ r _ _ J (by(try simp only[jC,jA,jB,jK]);omega) h2).mono ?_;rintro _ H3 ⟨rfl,h3⟩;simp(disch:=omega)only[go_sem];intro q2 ah;dsimp only at ah;simp(disch:=omega)only[go_sem,hk];refine(Ty hG Bt ah J (by(try simp only[jC,jA,jB,jK]);omega) h3).mono ?_;rintro _ H4 ⟨rfl,h4⟩;have g4:=h4.keep (Aa _ _ _) O.symm;simp(disch:=omega)only[go_sem];refine Es.refl ⟨rfl, ?_⟩;have:=h4.drop ab
  (try simp only[jO,jI,jG] at this⊢)
  exact this
 have z9:=hk;clear hk;by_cases hk:e.kind=10
 ·obtain⟨⟨x,y,z,hx⟩,_⟩:=Gf3 hk hf;have ht:Am e=ifT x y z 3++ [Ah Bt]:=by rw[Cf5 hk];unfold tE;rw[hx];simp [ifT]
  have ae:(ifT x y z 1).length<=(ifT x y z 3).length/\(ifT x y z 2).length<=(ifT x y z 3).length:=by
   simp only[ifT,jA,jC];omega
  rw[ht,jC,jQ] at D;rw[ht];have U:e.l.length=3:=by rw[hx];rfl
  have ay:=lx0 hx;have ai:=lx1 hx;have a0:=lx2 hx;have M:Cd e=false:=by cases h:Cd e with | false=>rfl | true=>exact(Tj (by omega) h).elim
  rw[M];simp(disch:=omega)only[go_sem,aa,hk];intro q0 hq0;dsimp only at hq0;obtain⟨L,hL⟩: ∃K',K'=upd K1 q0 (some (.cells [.str [105,102], .str [116,104,101,110], .str [101,108,115,101]] 9)):=⟨_,rfl⟩;rw[<-hL];have aq:WAt (upd (upd B r3 (some (.cells (dEx e) 27))) q0 (some (.cells [.str [105,102], .str [116,104,101,110], .str [101,108,115,101]] 9))) r ts L:=by rw[hL];exact Z.frame hq0 _
  have n0:r≠q0:=Z.ne hq0;have a1:=(Z.lo hq0).1;have a2:r3≠q0:=Ae hq0 aa;obtain⟨C,hC⟩: ∃C,C=upd (upd B r3 (some (.cells (dEx e) 27))) q0 (some (.cells [.str [105,102], .str [116,104,101,110], .str [101,108,115,101]] 9)):=⟨_,rfl⟩;rw[<-hC] at aq;have ad:C r=none:=by rw[hC,Ak _ _ _ _ n0];exact J
  have c3:C r3=some (.cells (dEx e) 27):=by rw[hC];exact An (Aa _ _ _) a2
  have c0:C q0=some (.cells [.str [105,102], .str [116,104,101,110], .str [101,108,115,101]] 9):=by rw[hC];exact Aa _ _ _
  simp(disch:=omega)only[go_sem];obtain⟨I,hI⟩: ∃I:Nat->(Nat->DVal)->Ac->Prop,∀j env heap,I j env heap↔(env 0= .optr r 0/\env 3= .optr r3 0/\env 111= .oslice 1 q0 0 3 3/\env 112=dI 3/\env 113=dI j/\j<=3/\WAt C r (ts++ifT x y z j) heap):=⟨_,fun _ _ _=>Iff.rfl⟩;refine Dn5.run I (fun j=>3-j) 0 ((hI _ _ _).2 ?_) ?_
  ·simp(disch:=omega)only[go_sem];(repeat' apply And.intro)<;>(try first | rfl | assumption | omega);simpa [ifT] using aq
  ·intro j env heap hi;obtain⟨S,V,W,X,Y,hj,af⟩:=(hI _ _ _).1 hi;have g3:=af.keep c3 O.symm;have g0:=af.keep c0 n0.symm;have a3:j=0\/j=1\/j=2\/j=3:=by omega
   have w1:IntKind.i64.wrap (0+1)=1:=by decide
   have w2:IntKind.i64.wrap (1+1)=2:=by decide
   have w3:IntKind.i64.wrap (2+1)=3:=by decide
   rcases a3 with rfl | rfl | rfl | rfl
   ·have z0:((0:Nat):Int)=0:=rfl;simp(disch:=omega)only[go_sem,S,V,W,X,Y,g0,z0];intro p1 hp1;dsimp only at hp1;simp(disch:=omega)only[go_sem,S,V,W,X,Y];refine(Ty hG Bi hp1 ad (by simp only[ifT,jH];omega) af).mono ?_;rintro _ H1 ⟨rfl,h1⟩;have f1:=h1.keep c3 O.symm;simp(disch:=omega)only[go_sem,S,V,W,X,Y,f1];intro p2 hp2;dsimp only at hp2;simp(disch:=omega)only[go_sem,S,V,W,X,Y];refine(Ty hG wIf hp2 ad (by simp only[ifT,jH,jC,jA,jB] at ae D⊢;omega) h1).mono ?_;rintro _ H2 ⟨rfl,h2⟩;have f2:=h2.keep c3 O.symm;simp(disch:=omega)only[go_sem,S,V,W,X,Y,f2,U,hfl,ay];refine(ih x (Be (by rw[hx];simp)) _ r _ _ ad (by simp only[ifT,jH,jC,jA,jB] at ae D⊢;omega) h2).mono ?_;rintro _ H4 ⟨rfl,h4⟩;simp(disch:=omega)only[go_sem,S,V,W,X,Y];refine⟨1,_,Ri.refl _,(hI _ _ _).2 ?_,by omega⟩;simp(disch:=omega)only[go_sem,S,V,W,X,Y,w1];(repeat' apply And.intro)<;>(try first | rfl | assumption | omega);simpa [ifT] using h4
   ·have z0:((1:Nat):Int)=1:=rfl;simp(disch:=omega)only[go_sem,S,V,W,X,Y,g0,z0];intro p2 hp2;dsimp only at hp2;simp(disch:=omega)only[go_sem,S,V,W,X,Y];refine(Ty hG Pm hp2 ad (by simp only[ifT,jH,jC,jA,jB] at ae D⊢;omega) af).mono ?_;rintro _ H2 ⟨rfl,h2⟩;have f2:=h2.keep c3 O.symm;simp(disch:=omega)only[go_sem,S,V,W,X,Y,f2,U,hfl,ai];refine(ih y (Be (by rw[hx];simp)) _ r _ _ ad (by simp only[ifT,jH,jC,jA,jB] at ae D⊢;omega) h2).mono ?_;rintro _ H4 ⟨rfl,h4⟩;simp(disch:=omega)only[go_sem,S,V,W,X,Y];refine⟨2,_,Ri.refl _,(hI _ _ _).2 ?_,by omega⟩;simp(disch:=omega)only[go_sem,S,V,W,X,Y,w2];(repeat' apply And.intro)<;>(try first | rfl | assumption | omega);simpa [ifT] using h4
   ·have z0:((2:Nat):Int)=2:=rfl;simp(disch:=omega)only[go_sem,S,V,W,X,Y,g0,z0];intro p2 hp2;dsimp only at hp2;simp(disch:=omega)only[go_sem,S,V,W,X,Y];refine(Ty hG Qp hp2 ad (by simp only[ifT,jH,jC,jA,jB] at ae D⊢;omega) af).mono ?_;rintro _ H2 ⟨rfl,h2⟩;have f2:=h2.keep c3 O.symm;simp(disch:=omega)only[go_sem,S,V,W,X,Y,f2,U,hfl,a0];refine(ih z (Be (by rw[hx];simp)) _ r _ _ ad (by simp only[ifT,jH,jC,jA,jB] at ae D⊢;omega) h2).mono ?_;rintro _ H4 ⟨rfl,h4⟩;simp(disch:=omega)only[go_sem,S,V,W,X,Y];refine⟨3,_,Ri.refl _,(hI _ _ _).2 ?_,by omega⟩;simp(disch:=omega)only[go_sem,S,V,W,X,Y,w3];(repeat' apply And.intro)<;>(try first | rfl | assumption | omega);simpa [ifT] using h4
   ·have z0:((3:Nat):Int)=3:=rfl;simp(disch:=omega)only[go_sem,S,V,W,X,Y,g0,z0];intro p2 hp2;dsimp only at hp2;simp(disch:=omega)only[go_sem,S,V,W,X,Y];refine(Ty hG Bt hp2 ad (by simp only[jC] at D⊢;omega) af).mono ?_;rintro _ H2 ⟨rfl,h2⟩;simp(disch:=omega)only[go_sem,S];refine Es.refl ⟨rfl, ?_⟩;rw[hC] at h2;have:=(h2.drop a1).drop ab;rw[jO] at this;exact this
 have a4:=hk;clear hk;by_cases hk:e.kind=11
 ·obtain⟨⟨x,hx⟩,⟨o,ho,a5⟩,_⟩:=Gf4 hk hf;have ht:Am e=(Bd o).map Ah++Ay x (Lb e):=by rw[Dg3 hk,ho,jD];unfold pE tE;rw[hx];rfl
  rw[ht] at D⊢
  have M:Cd e=false:=by cases h:Cd e with | false=>rfl | true=>exact(Tj (by omega) h).elim
  rw[M];simp(disch:=omega)only[go_sem,aa,hk];refine(Dh5 hG e x o hx ho (by omega) (ih x (Be (by rw[hx];simp))) _ r _ _ J D Z).mono ?_;rintro _ H1 ⟨rfl,h1⟩;simp(disch:=omega)only[go_sem];exact Es.refl ⟨rfl,h1.drop ab⟩
 have a6:=hk;clear hk;by_cases hk:e.kind=12
 ·obtain⟨⟨x,y,hx⟩,⟨o,ho,a5⟩,_⟩:=Gf5 hk hf;have ht:Am e=Ay x (Fw e)++((Bd o).map Ah++Ay y (Hs e)):=by rw[Dg4 hk,ho,jD];unfold pE tE;rw[hx];rfl
  rw[ht] at D⊢
  have M:Cd e=false:=by cases h:Cd e with | false=>rfl | true=>exact(Tj (by omega) h).elim
  rw[M];simp(disch:=omega)only[go_sem,aa,hk];refine(Dh6 hG e x y o hx ho (by omega) (ih x (Be (by rw[hx];simp))) (ih y (Be (by rw[hx];simp))) _ r _ _ J D Z).mono ?_;rintro _ H1 ⟨rfl,h1⟩;simp(disch:=omega)only[go_sem];exact Es.refl ⟨rfl,h1.drop ab⟩
 have a7:=hk;clear hk;have a8:e.kind=13\/e.kind=14:=by
  by_cases h:e.kind=13\/e.kind=14
  ·exact h
  ·exfalso;have:Bc e=false:=by
    unfold Bc;rw[if_neg z1,if_neg z2,if_neg z3,if_neg (by omega),if_neg z5,if_neg z7,if_neg z8,if_neg z9,if_neg a4,if_neg a6,if_neg a7,if_neg h]
   rw[this] at hf;cases hf
 obtain⟨ar,_⟩:=Ez9 a8 hf;have hx: ∃x,(∃y z,e.l= [x,y,z])\/ ∃y,e.l= [x,y]:=by
  rcases ar with⟨x,y,z,hx⟩ | ⟨x,y,hx,_⟩
  ·exact⟨x, .inl ⟨y,z,hx⟩⟩
  ·exact⟨x, .inr ⟨y,hx⟩⟩
 clear ar;obtain⟨x,hx⟩:=hx;have g0:e.l.getD 0 ex0=x/\0<e.l.length:=by rcases hx with⟨y,z,hx⟩ | ⟨y,hx⟩<;>(rw[hx];exact⟨rfl,by simp⟩)
 have au:pE e 0 2=Ay x 2:=by rw[Fx1 g0.2,g0.1]
 have av: ∀y∈e.l,WrC Tryz.prog G 187 [.agg (dEx y)] (Am y):=fun y hy=>ih y (Be hy);have M:Cd e=false:=by cases h:Cd e with | false=>rfl | true=>exact(Tj (by omega) h).elim
 rw[M];by_cases hk:e.kind=13
 ·have ht:Am e=Ay x 2++([wIn].map Ah++Kb e):=by rw[Dg5 hk,au];rfl
  rw[ht] at D⊢
  simp(disch:=omega)only[go_sem,aa,hk];intro q1 E;dsimp only at E;simp(disch:=omega)only[go_sem];refine Af.fzA q1 E ?_;simp only[fzs,fz,if_neg (Z.ne E),if_pos,Ce5];refine(Ao5 hG e x [wIn] hx av _ r _ _ J D Z).mono ?_;rintro _ H1 ⟨rfl,h1⟩;simp(disch:=omega)only[go_sem];exact Es.refl ⟨rfl,h1.drop ab⟩
 ·have aw:e.kind=14:=by omega
  have ht:Am e=Ay x 2++([Ve,wIn].map Ah++Kb e):=by rw[Dg6 aw,au];rfl
  rw[ht] at D⊢
  simp(disch:=omega)only[go_sem,aa,aw];intro q1 E;dsimp only at E;simp(disch:=omega)only[go_sem];refine Af.fzA q1 E ?_;simp only[fzs,fz,if_neg (Z.ne E),if_pos,Ce5];refine(Ao5 hG e x [Ve,wIn] hx av _ r _ _ J D Z).mono ?_;rintro _ H1 ⟨rfl,h1⟩;simp(disch:=omega)only[go_sem];exact Es.refl ⟨rfl,h1.drop ab⟩
end
end Go.Dl
-- Chapter 3: expressions: the plain laws, 
namespace Go.Dl
open Go
set_option maxRecDepth 10000
def wt (l:List Ex):Nat:=(l.map fun x=>(Am x).length+7).sum
theorem Ad5 (l m:List Ex):wt (l++m)=wt l+wt m:=by simp [wt]
theorem Fq (x:Ex) (l:List Ex):wt (x::l)=(Am x).length+7+wt l:=by simp [wt]
theorem Gf8:wt []=0:=rfl
theorem Mj (x:Ex) (h:Int):(Ay x h).length<=(Am x).length+2:=by
 rw[Ay,An4];split<;>omega
theorem By5 {n:Nat} {c:Ch} (h:Fj n c=true):(Dw c).length+1<=wt c.l+if c.kind=3 then 2 else 0:=by
 unfold Fj at h;by_cases C:c.kind=1
 ·rw[if_pos C,decide_eq_true_eq] at h;obtain⟨x,hx⟩:=Ez8 h;rw[Ng,if_pos C,hx,Fq];show(Am x).length+1<=_;omega
 ·rw[if_neg C] at h;by_cases D:c.kind=2
  ·rw[if_pos D,decide_eq_true_eq] at h;obtain⟨x,y,hx⟩:=Ef2 h;rw[Ng,if_neg C,if_pos D,hx,Fq,Fq];show(Ay x 2++Ah Ev::Ay y 2).length+1<=_;have:=Mj x 2;have:=Mj y 2;rw[jC,jA];omega
  ·rw[if_neg D] at h;simp only[jF,decide_eq_true_eq] at h;rw[Ng,if_neg C,if_neg D,if_pos h.1.1];show 1+1<=_;omega
theorem Ax0 (t:List Tok) (h:List (List Tok)):Cf6 (t::h)=t.length+1+Cf6 h:=by simp [Cf6]
theorem Ba7 {n:Nat} (y:n≠1): ∀(l:List Ch),l.length<=n->(∀c∈l,Fj n c=true)->Cf6 (l.map Dw)<=wt (l.flatMap Ch.l)
 | [],_,_=>Nat.zero_le _
 | c::r,hl,h=>by
  have ih:=Ba7 y r (by rw[jA] at hl;omega) fun d hd=>h d (by simp [hd]);have hc:=h c (by simp);have h1:=By5 hc;rw[if_neg] at h1
  ·rw[jN,Ax0,List.flatMap_cons,Ad5];omega
  ·intro C;unfold Fj at hc;rw[if_neg (by omega),if_neg (by omega)] at hc;simp only[jF,decide_eq_true_eq,jA] at hc hl;omega
theorem By6 {l:List Ch} (h:Dk l=true):(Ef Gl (l.map Dw)).length<=wt (l.flatMap Ch.l)+2:=by
 simp only[Dk,jF,decide_eq_true_eq,List.all_eq_true] at h
 have h0:=Ey3 Gl (l.map Dw) (by intro e;rw[List.map_eq_nil_iff] at e;rw[e] at h;simp at h)
 by_cases hn:l.length=1
 ·match l,hn with
  | [c],_=>
   have h1:=By5 (h.2 c (by simp))
   have h2:(if c.kind=3 then 2 else 0)<=2:=by split<;>omega
   rw[List.map_singleton,Ax0] at h0
   rw[List.map_singleton,List.flatMap_singleton]
   simp [Cf6] at h0
   omega
 ·have:=Ba7 hn l (Nat.le_refl _) h.2
  omega
theorem Bt9 {l:List Ch} (h:Eu l=true):Dk l=true:=by
 match l with
 | [c]=>
  simp only[Eu,jF,decide_eq_true_eq] at h
  simp only[Dk,jQ,List.all_cons,List.all_nil,Bool.and_true,Fj,if_pos h.1]
  match hl:c.l with
  | [x]=>rfl
  | []=>rw[hl] at h;cases h.2
  | _::_::_=>rw[hl] at h;cases h.2
 | []=>cases h
 | _::_::_=>cases h
theorem Ef5 {a:As} (h:(a.c.isEmpty || Dk a.c)=true):(Hz a).length+1<=wt (Fb a):=by
 rw[Fb,Ad5,Fq,Gf8];by_cases y:a.c= []
 ·rw[Qu,y];show(Am a.e).length+1<=_;omega
 ·have hr:Dk a.c=true:=by
   rw[Bool.or_eq_true] at h;rcases h with h | h
   ·exact absurd (List.isEmpty_iff.1 h) y
   ·exact h
  have h1:=By6 hr;rw[Qu,if_neg (by simpa using y),jC,jA];omega
theorem Bo6: ∀(l:List As),(∀a∈l,(a.c.isEmpty || Dk a.c)=true)->Cf6 (l.map Hz)<=wt (l.flatMap Fb)
 | [],_=>Nat.zero_le _
 | a::r,h=>by
  have ih:=Bo6 r fun d hd=>h d (by simp [hd]);have h1:=Ef5 (h a (by simp));rw[jN,Ax0,List.flatMap_cons,Ad5];omega
theorem Dh8 {l:List As} (h:Ns l=true): ∀a∈l,(a.c.isEmpty || Dk a.c)=true:=fun a ha=>by
 rw[Ns,jF,List.all_eq_true] at h;have:=h.2 a ha;rw[Bool.or_eq_true] at this⊢
 rcases this with h1 | h1
 ·exact .inl h1
 ·exact .inr (Bt9 h1)
theorem Dr1 {l:List As} (h: ∀a∈l,(a.c.isEmpty || Dk a.c)=true):(Ef Dh (l.map Hz)).length<=wt (l.flatMap Fb):=by
 have h1:=Bo6 l h;rw[Bm4];unfold Cf6 at h1;unfold Ey1;omega
theorem By7 (o:Nat):(Bd o).length<=2:=by
 rw[Bd,List.getD];by_cases h:o<22
 ·have: ∀i:Fin 22,((Eu8[i.1]?).getD []).length<=2:=by decide
  exact this ⟨o,h⟩
 ·rw[List.getElem?_eq_none (by have:Eu8.length=22:=rfl;omega)];decide
theorem Dh9 {e:Ex} (hf:Bc e=true):(Am e).length<=10+wt (parts e):=by
 have hpl:wt (parts e)=wt e.l+wt (e.a.flatMap Fb):=Ad5 _ _;by_cases k1:e.kind=1
 ·rw[Ex3 k1];show 1<=_;omega
 by_cases O:e.kind=2
 ·rw[Ex4 O];show 1<=_;omega
 by_cases S:e.kind=3
 ·rw[Cs4 S];show 1<=_;omega
 by_cases U:e.kind=4
 ·obtain⟨⟨x,hx,_⟩,_⟩:=Dh3 (.inl U) hf;rw[Dq2 U,hpl,hx,Fq];unfold tE;rw[hx,jC];show(Am x).length+2<=_;omega
 by_cases C:e.kind=5
 ·obtain⟨⟨x,hx,_⟩,_⟩:=ff5 C hf;rw[Ex5 C,hpl,hx,Fq];unfold tE;rw[hx,jC];show(Am x).length+2<=_;omega
 by_cases V:e.kind=6
 ·obtain⟨⟨x,hx,_⟩,_⟩:=Dh3 (.inr V) hf;rw[Ex6 V,hpl,hx,Fq];unfold tE;rw[hx,jC];show(Am x).length+2<=_;omega
 by_cases D:e.kind=7
 ·obtain⟨⟨x,hx,_⟩,ha,_⟩:=ff7 D hf;have h1:=Dr1 (Dh8 ha);rw[Ex7 D,hpl,hx,Fq];unfold tE taE;rw[hx,jC,jA,jC];show(Am x).length+(_+1+1)<=_;omega
 by_cases E:e.kind=8
 ·obtain⟨⟨x,y,hx,_⟩,_⟩:=ff8 E hf;rw[Ex8 E,hpl,hx,Fq,Fq];unfold tE;rw[hx,jC,jA,An4];show(Am x).length+((Am y).length+_+1)<=_;split<;>omega
 by_cases I:e.kind=9
 ·obtain⟨hx,ha,_⟩:=ff9 I hf;rw[Ip,jF] at ha;have h1:=Dr1 (fun a hm=>Sb ha.2 a hm);rw[Dq3 I,hpl,jA,jC];unfold taE;show _+1+1<=_;omega
 by_cases J:e.kind=10
 ·obtain⟨⟨x,y,z,hx⟩,_⟩:=Gf3 J hf;rw[Cf5 J,hpl,hx,Fq,Fq,Fq];unfold tE;rw[hx];simp only[jC,jA];show(Am x).length+((Am y).length+((Am z).length+_+1)+1)+1+1<=_;simp only[jB];omega
 by_cases L:e.kind=11
 ·obtain⟨⟨x,hx⟩,⟨o,ho,_⟩,_⟩:=Gf4 L hf;have:=By7 e.oper.toNat;have:=Mj x (Lb e);have hp:pE e 0 (Lb e)=Ay x (Lb e):=by unfold pE tE;rw[hx];rfl
  rw[Dg3 L,hpl,hx,Fq,hp,jC,jK];omega
 by_cases M:e.kind=12
 ·obtain⟨⟨x,y,hx⟩,_⟩:=Gf5 M hf;have:=By7 e.oper.toNat;have:=Mj x (Fw e);have:=Mj y (Hs e);have hp:pE e 0 (Fw e)=Ay x (Fw e):=by unfold pE tE;rw[hx];rfl
  have hq:pE e 1 (Hs e)=Ay y (Hs e):=by unfold pE tE;rw[hx];rfl
  rw[Dg4 M,hpl,hx,Fq,Fq,hp,hq,jC,jC,jK];omega
 by_cases h:e.kind=13\/e.kind=14
 ·obtain⟨W,_⟩:=Ez9 h hf;have X:(pE e 0 2).length+(Kb e).length+3<=10+wt (parts e):=by
   rcases W with⟨x,y,z,hx⟩ | ⟨x,y,hx,_⟩
   ·have:=Mj x 2;have:=Mj y 2;have:=Mj z 2;have hp:pE e 0 2=Ay x 2:=by unfold pE tE;rw[hx];rfl
    have hq:Kb e=Ay y 2++Ah Ev::Ay z 2:=by unfold Kb pE tE;rw[hx];rfl
    rw[hp,hq,hpl,hx,Fq,Fq,Fq,jC,jA];omega
   ·have:=Mj x 2;have hp:pE e 0 2=Ay x 2:=by unfold pE tE;rw[hx];rfl
    have hq:Kb e=Am y:=by unfold Kb pE tE;rw[hx];rfl
    rw[hp,hq,hpl,hx,Fq,Fq];omega
  rcases h with k | k
  ·rw[Dg5 k,jC,jA];omega
  ·rw[Dg6 k,jC,jA,jA];omega
 exfalso;have:Bc e=false:=by
  unfold Bc;rw[if_neg k1,if_neg O,if_neg S,if_neg (by omega),if_neg C,if_neg D,if_neg E,if_neg I,if_neg J,if_neg L,if_neg M,if_neg h]
 rw[this] at hf;cases hf
theorem Gn8 {l:List Ex} (h: ∀x∈l,(Am x).length+7<=17*Hx x):wt l<=17*Pg l:=by
 induction l with
 | nil=>exact Nat.zero_le _
 | cons x l ih=>
  have h1:=h x (by simp);have h2:=ih fun y C=>h y (by simp [C]);rw[Fq,Pg,jN,List.sum_cons];unfold Pg at h2;omega
theorem Ef6 (e:Ex): ∀d,Fc d e=true->(Am e).length+7<=17*Hx e:=by
 refine Ex.ind (p:=fun e=> ∀d,Fc d e=true->(Am e).length+7<=17*Hx e) (fun e ih d hv=> ?_) e;obtain⟨hf,hp⟩:=Is hv;have h1:=Dh9 hf;have h2:=Gn8 fun x hx=>ih x hx _ (hp x hx);rw[Sl e];omega
theorem Qi {e:Ex} (h:Cg e=true):(Am e).length<=5000:=by
 rw[Cg,jF,decide_eq_true_eq] at h;have:=Ef6 e 1 h.1;omega
theorem Gf9 {l:List Ex} (h: ∀x∈l,Cg x=true):wt l<=5007*l.length:=by
 induction l with
 | nil=>exact Nat.zero_le _
 | cons x l ih=>
  have h1:=Qi (h x (by simp));have h2:=ih fun y C=>h y (by simp [C]);rw[Fq,jA];omega
theorem By8 {l:List Ch} (h:Kp l=true):(Ef Gl (l.map Dw)).length<=1000000:=by
 rw[Kp,jF,List.all_eq_true] at h;have h1:=By6 h.1;have h2:=h.1;simp only[Dk,jF,decide_eq_true_eq,List.all_eq_true] at h2;have h3: ∀x∈l.flatMap Ch.l,Cg x=true:=fun x hx=>by
  obtain⟨c,hc,hx⟩:=List.mem_flatMap.1 hx;exact List.all_eq_true.1 (h.2 c hc) x hx
 have h4:=Gf9 h3;have h5: ∀c∈l,c.l.length<=2:=fun c hc=>by
  have:=h2.2 c hc;unfold Fj at this;split at this
  ·rw[decide_eq_true_eq] at this;omega
  ·split at this
   ·rw[decide_eq_true_eq] at this;omega
   ·simp only[jF,decide_eq_true_eq] at this;omega
 have h6: ∀m:List Ch,(∀c∈m,c.l.length<=2)->(m.flatMap Ch.l).length<=2*m.length:=fun m=>by
  induction m with
  | nil=>intro _;exact Nat.zero_le _
  | cons c m ih=>
   intro hm;have:=hm c (by simp);have:=ih fun d hd=>hm d (by simp [hd]);rw[List.flatMap_cons,jC,jA];omega
 have h7:=h6 l h5;omega
def Ao7 (e:Ex):List Tok×Int:=if Cg e then(Am e,0) else([],2)
def Kt (l:List Ch):List Tok×Int:=if Kp l then(Ef Gl (l.map Dw),0) else([],2)
end Go.Dl
-- Chapter 3: the package's Tokens, ArgToke
namespace Go.Dl
open Go Go.Proofs
set_option maxRecDepth 100000
section
variable {G:Nat->DVal}
theorem By9 (hG:GX G) (e:Ex): ∀d,Fc d e=true->WrC Tryz.prog G 187 [.agg (dEx e)] (Am e):=by
 refine Ex.ind (p:=fun e=> ∀d,Fc d e=true->WrC Tryz.prog G 187 [.agg (dEx e)] (Am e)) (fun e ih d hv=> ?_) e;obtain⟨hf,hp⟩:=Is hv;exact Dh7 hG e hf fun x hx=>ih x hx _ (hp x hx)
theorem Qb {e:Ex} (h:Cg e=true):Fc 1 e=true:=by
 rw[Cg,jF] at h;exact h.1
theorem WAt.start {B:Ac} {r:Nat} (hr:B r=none):WAt B r [] (upd B r (some (.cells [.nilSlice] 241))):=⟨_, .inl ⟨rfl,rfl,rfl,Sub.refl _⟩⟩
theorem WAt.cell {B H:Ac} {r:Nat} {ts:List Tok} (h:WAt B r ts H) (hr:B r=none): ∃v,H r=some (.cells [v] 241)/\Lt H v B (Bh ts):=by
 obtain⟨v,h⟩:=h;exact⟨v,h.keep (Aa _ _ _),Lt.own (h.less ((Sub.refl B).up hr _))⟩
set_option maxHeartbeats 4000000 in
theorem Ct5 (hG:GX G) (H:Ac) (e:Ex) (he:Fit e):Af Tryz.prog G 81 [.agg (dEx e)] H (Au (.tuple [Bh (Ao7 e).1,dI (Ao7 e).2]) H):=by
 rw[Ao7];refine Ab Tryz.func81 Tryz.call81 rfl (by kernel_rfl) ?_;simp(disch:=omega)only[go_sem,DVal.cells];intro y J;dsimp only at J;obtain⟨K,D⟩: ∃K',K'=upd H y (some (.cells (dEx e) 27)):=⟨_,rfl⟩;rw[<-D];have E:K y=some (.cells (dEx e) 27):=by rw[D];exact Aa _ _ _
 have hs:Sub H K:=by rw[D];exact(Sub.refl H).new J _
 simp(disch:=omega)only[go_sem,E];refine(Zt hG K e he).mono ?_;rintro _ C ⟨rfl,rfl⟩;cases hm:Cg e with
 | false=>
  simp(disch:=omega)only[go_sem];exact Lt.fin hs (Lt.tuple (.cons (Lt.nil hs) (Kq.keep hs _))) ⟨rfl,rfl⟩
 | true=>
  have W:=Qi hm;simp(disch:=omega)only[go_sem];intro I h;dsimp only at h;have L:y≠I:=Ae h E;have X:=L.symm;have hw:=WAt.start h;have O:upd C I (some (.cells [.nilSlice] 241)) y=some (.cells (dEx e) 27):=An E L;simp(disch:=omega)only[go_sem,O];refine(By9 hG e 1 (Qb hm) C I [] _ h (by simp;omega) hw).mono ?_;rintro _ H1 ⟨rfl,h1⟩;rw[jG] at h1;have S:Sub C H1:=by
   obtain⟨v,h1⟩:=h1;exact(((Sub.refl C).up h _).trans h1.sub)
  obtain⟨v,U,V⟩:=h1.cell h;simp(disch:=omega)only[go_sem,U];have M:Sub H H1:=hs.trans S;refine Lt.fin M (Lt.tuple (.cons (fun w hw x hx=>Rel.lasts (Er hs w) _ _ (V w hw x hx)) (Kq.keep M _))) ⟨rfl,rfl⟩
theorem Aa0 {l:List Ch} (h:Kp l=true):(∀c∈l,Fj l.length c=true/\ ∀x∈c.l,Cg x=true)/\l.length<=1000000000:=by
 rw[Kp,jF,List.all_eq_true] at h;have h2:=h.1;simp only[Dk,jF,decide_eq_true_eq,List.all_eq_true] at h2;exact⟨fun c hc=>⟨h2.2 c hc,List.all_eq_true.1 (h.2 c hc)⟩,by omega⟩
set_option maxHeartbeats 4000000 in
theorem Uv (hG:GX G) (H:Ac) (l:List Ch) (hb:Jm l<=1000000000000) (hk:Yp l):Af Tryz.prog G 206 [dCl l] H (Au (.tuple [Bh (Kt l).1,dI (Kt l).2]) H):=by
 rw[Kt];refine Ab Tryz.func206 Tryz.call206 rfl (by kernel_rfl) ?_;simp(disch:=omega)only[go_sem];refine(Nm hG H l hb hk).mono ?_;rintro _ C ⟨rfl,rfl⟩;cases hm:Kp l with
 | false=>
  simp(disch:=omega)only[go_sem];exact Lt.fin (Sub.refl _) (Lt.tuple (.cons (Lt.nil (Sub.refl _)) (Kq.keep (Sub.refl _) _))) ⟨rfl,rfl⟩
 | true=>
  have M:=By8 hm;simp(disch:=omega)only[go_sem];intro E h;dsimp only at h;have hw:=WAt.start h;simp(disch:=omega)only[go_sem];refine(Ba4 hG l Gl (Aa0 hm).2 (fun c hc=>Ao6 hG c ((Aa0 hm).1 c hc).1 fun y I=>By9 hG y 1 (Qb (((Aa0 hm).1 c hc).2 y I))) C E [] _ h (by simp;omega) hw).mono ?_;rintro _ H1 ⟨rfl,h1⟩;rw[jG] at h1;have D:Sub C H1:=by
   obtain⟨v,h1⟩:=h1;exact(((Sub.refl C).up h _).trans h1.sub)
  obtain⟨v,J,L⟩:=h1.cell h;simp(disch:=omega)only[go_sem,J];exact Lt.fin D (Lt.tuple (.cons L (Kq.keep D _))) ⟨rfl,rfl⟩
end
end Go.Dl
-- Chapter 3: what Front answers to the tok
namespace Go.Dl
open Go
set_option maxRecDepth 10000
theorem Fa1 {ws:List (List UInt8)} {t:Tok}:nof ws (stT t)↔nof ws t:=Iff.rfl
theorem Cg7 {α β:Type} {f:α->β} {r:Res α} {C:Res β} {y:β} {k:Nat} (h:Nt f r C) (e:C= .ok y k): ∃x,r= .ok x k/\f x=y:=by
 cases r with
 | bot=>rw[show C= .bot from h] at e;cases e
 | fail j=>rw[show C= .fail j from h] at e;cases e
 | ok x j=>
  rw[show C= .ok (f x) j from h] at e;cases e;exact⟨x,rfl,rfl⟩
section
variable {l:List Tok} {e:Ex} {k':Nat}
theorem Dr2 (j:Nat):Nt stE (Vg l j) (Vg (l.map stT) j):=by
 have h:=Fx5 (l:=l);unfold Vg;split
 ·exact h.expr 0
 ·exact Dc (h.simple 0) fun x k=>h.relation x k
 ·exact h.simple 0
 ·exact h.term 0
 ·exact h.factor 0
 ·exact h.primary 0
 ·exact h.name 0
theorem Gg0 (r:Rd l (Q l) e 0 k') (h:nof w0 (tk l k')) (j:Nat) (y:(j:Int)<=Ba e\/j=6/\Cd e=true):Vg l j= .ok (stE e) k':=by
 have h1:=s10 h;have hg:=Qv e;by_cases C:j=6
 ·subst C;rcases y with y | ⟨_,hn⟩
  ·omega
  ·show(Q l).name 0=_;rw[r.name hn,Aw6 r.le.2 (Gy h (by decide))]
 ·have y:(j:Int)<=Ba e:=y.resolve_right fun x=>C x.1;have hc:j=0\/j=1\/j=2\/j=3\/j=4\/j=5:=by omega
  rcases hc with rfl | rfl | rfl | rfl | rfl | rfl
  ·exact r.full h
  ·exact r.rel y (sd1 h1) fun _=>h1
  ·show(Q l).simple 0=_;rw[r.simp y (s31 h1),So r.le.2 (Gy h (by decide))]
  ·show(Q l).term 0=_;rw[r.term y (Gy h (by decide)),Ad3 r.le.2 (s31 h1)]
  ·exact r.fac y (Gy h (by decide))
  ·exact r.prim (by omega) (Gy h (by decide))
theorem Fa2 {rest:List Tok} (hv:Fc 1 e=true) (hl:l.map stT=Am e++rest) (h:nof w0 (tk l (Am e).length)) (j:Nat) (y:(j:Int)<=Ba e\/j=6/\Cd e=true):
  ∃x,Vg l j= .ok x (Am e).length/\stE x=stE e:=by
 have hz: ∀k,(tk (l.map stT) k).line=0:=fun k=>Kj k;have C:At (l.map stT) 0 (Am e):=⟨Nat.zero_le _,rest,by rw[jJ,hl]⟩;have r:=Dh4 (p:=Q (l.map stT)) hz e 1 hv 0 C;rw[Nat.zero_add] at r;exact Cg7 (Dr2 j) (Gg0 r (by rw[Ba2];exact h) j y)
theorem Di0 {rest:List Tok} (hm:Cg e=true) (hl:l.map stT=Am e++rest) (h:nof w0 (tk l (Am e).length)) (j:Nat) (y:(j:Int)<=Ba e\/j=6/\Cd e=true):
  ∃x,Fx l j=(x,((Am e).length:Int),0)/\stE x=stE e:=by
 obtain⟨x,h1,h2⟩:=Fa2 (Qb hm) hl h j y;have C: ¬((j:Int)<0\/7<=(j:Int)):=by have:=(Qv e).2;omega
 refine⟨x, ?_,h2⟩;rw[Fx,if_neg C,jD,h1];show(if Cg x=true then _ else _)=_;rw[if_pos (by rw[Jn h2,hm])]
end
end Go.Dl
-- The reference of chapter 2: tokens of a 
namespace Go.Dl
open Go Go.Proofs Go.RowKit
set_option maxRecDepth 100000
def Ax1 (w:List UInt8):Int:=match Bc4 w with | some v=>(v:Int) | none=> -1
theorem Ef7 {w:List UInt8} (h: ¬w.length<=10):Ax1 w= -1:=by rw[Ax1,Bc4,if_neg (fun x=>h x.1)]
theorem Fa3 {w:List UInt8} (h:w.all Eh=false):Ax1 w= -1:=by rw[Ax1,Bc4,if_neg (fun x=>by rw[h] at x;cases x.2.1)]
theorem Fa4 {w:List UInt8} (h: ¬Tx w<=2147483647):Ax1 w= -1:=by rw[Ax1,Bc4,if_neg (fun x=>h x.2.2)]
theorem Fq9 {w:List UInt8} (h1:w.length<=10) (h2:w.all Eh=true) (h3:Tx w<=2147483647):Ax1 w=(Tx w:Int):=by rw[Ax1,Bc4,if_pos ⟨h1,h2,h3⟩]
theorem Ef8 (s:List UInt8):s.take (Et s).length=Et s:=(List.prefix_iff_eq_take.1 (List.takeWhile_prefix _)).symm
def Ao8 (s w:List UInt8):Bool:=decide (w.length<=s.length)&&decide (s.take w.length=w)
theorem Fa5 {k:Nat} {w:List UInt8} (h:Vu[k]? =some w):(k<7/\ ∃p∈Rr,w= [p.1,p.2])\/(7<=k/\ ∃a∈Ae8,w= [a]):=by
 have e:Vu=Rr.map (fun p=> [p.1,p.2])++Ae8.map (fun a=> [a]):=by decide
 rw[e,List.getElem?_append] at h;split at h
 ·rename_i hk
  rw[List.getElem?_map,Option.map_eq_some_iff] at h;obtain⟨p,hp,rfl⟩:=h;exact .inl ⟨hk,p,List.mem_of_getElem? hp,rfl⟩
 ·rename_i hk
  rw[List.getElem?_map,Option.map_eq_some_iff] at h;obtain⟨a,ha,rfl⟩:=h;exact .inr ⟨by simpa [Rr] using hk,a,List.mem_of_getElem? ha,rfl⟩
theorem Ct6 {k:Nat} (hk:7<=k): ∀p∈Rr,[p.1,p.2]∈Vu.take k:=fun p hp=>by
 have h7: ∀p∈Rr,[p.1,p.2]∈Vu.take 7:=by decide+kernel
 exact(List.take_sublist_take_left (l:=Vu) hk).subset (h7 p hp)
theorem Gn9 {a b:UInt8} {r:List UInt8}:Ao8 (a::b::r) [a,b]=true:=by
 rw[Ao8,jF,decide_eq_true_eq,decide_eq_true_eq];exact⟨by simp,rfl⟩
theorem Fr0 {s w:List UInt8} {k:Nat} (hk:Vu[k]? =some w) (hp:Ao8 s w=true) (h: ∀u∈Vu.take k,Ao8 s u=false):Nq s=w.length:=by
 rw[Ao8,jF,decide_eq_true_eq,decide_eq_true_eq] at hp
 obtain⟨h1,h2⟩:=hp
 rcases Fa5 hk with⟨_,p,hp,rfl⟩ | ⟨h7,a,ha,rfl⟩
 ·match s,h1,h2 with
  | a::b::r,_,h2=>
   have e: [a,b]= [p.1,p.2]:=h2
   cases e
   show(if(p.1,p.2)∈Rr then 2 else _)=2
   rw[if_pos hp]
 ·match s,h1,h2 with
  | x::r,_,h2=>
   have e: [x]= [a]:=h2
   cases e
   rw[Bw6 a r (fun b r' e hm=>by
    subst e
    have:=h _ (Ct6 h7 _ hm)
    rw[Gn9] at this;cases this),if_pos ha];rfl
theorem Fa6 {s:List UInt8} (h: ∀u∈Vu,Ao8 s u=false):Nq s=0:=by
 match s with
 | []=>rfl
 | x::r=>
  rw[Bw6 x r (fun b r' e hm=>by
   subst e
   have:=h _ (List.mem_of_mem_take (Ct6 (Nat.le_refl 7) _ hm))
   rw[Gn9] at this;cases this),if_neg]
  intro hx
  have h1: ∀a∈Ae8,[a]∈Vu:=by decide+kernel
  have:=h _ (h1 x hx)
  simp [Ao8] at this
section
variable {G:Nat->DVal} {H:Ac}
theorem Ct7 (G:Nat->DVal) (H:Ac) (s:List UInt8) (hs:s.length<=1000000000):Af Tryz.prog G 244 [.str s] H (Au (dI (Et s).length) H):=by
 refine Ab Tryz.func244 Tryz.call244 rfl (by kernel_rfl) ?_;simp(disch:=omega)only[go_sem];obtain⟨I,C⟩: ∃I:Nat->(Nat->DVal)->Ac->Prop,∀k env heap,I k env heap↔(env 0= .str s/\env 3=dI k/\k<=s.length/\(s.take k).all Ea=true/\heap=H):=⟨_,fun _ _ _=>Iff.rfl⟩;refine Dn5.run I (fun k=>s.length-k) 0 ((C _ _ _).2 ?_) ?_
 ·simp(disch:=omega)only[go_sem];(repeat' apply And.intro)<;>(try first | rfl | assumption | omega)
 ·intro k env heap hi;obtain⟨h,y,hk,hw,rfl⟩:=(C _ _ _).1 hi;by_cases D:k<s.length
  ·have E:(k:Int)<(s.length:Int):=by omega
   have hg:s[k]? =some s[k]:=List.getElem?_eq_getElem D;have J:IntKind.i64.wrap ((k:Int)+1)=((k+1:Nat):Int):=by rw[IntKind.wrap_i64];omega
   simp(disch:=omega)only[go_sem,h,y,E,hg,jD];refine(Bj2 G _ s[k]).mono ?_;rintro _ H1 ⟨rfl,rfl⟩;cases hb:Ea s[k] with
   | true=>
    simp(disch:=omega)only[go_sem,h,y];refine⟨k+1,_,Ri.refl _,(C _ _ _).2 ?_,by omega⟩;simp(disch:=omega)only[go_sem,h,y,J];(repeat' apply And.intro)<;>(try first | rfl | assumption | omega);rw[List.take_add_one,hg,List.all_append,hw];simpa using hb
   | false=>
    simp(disch:=omega)only[go_sem,h,y];exact Es.refl ⟨by rw[Dp0 hw hg hb,List.length_take,Nat.min_eq_left (by omega)],rfl⟩
  ·have:k=s.length:=by omega
   subst this;simp(disch:=omega)only[go_sem,h,y];rw[List.take_length] at hw;exact Es.refl ⟨by rw[Zn s hw],rfl⟩
theorem Ef9 (G:Nat->DVal) (H:Ac) (w:List UInt8):Af Tryz.prog G 246 [.str w] H (Au (dI (Ax1 w)) H):=by
 refine Ab Tryz.func246 Tryz.call246 rfl (by kernel_rfl) ?_;by_cases hl:w.length<=10
 ·have D: ¬(10:Int)<(w.length:Int):=by omega
  simp(disch:=omega)only[go_sem,D];obtain⟨I,E⟩: ∃I:Nat->(Nat->DVal)->Ac->Prop,∀k env heap,I k env heap↔(env 0= .str w/\env 3=dI (Tx (w.take k))/\env 4=dI k/\k<=w.length/\(w.take k).all Eh=true/\Tx (w.take k)<10^k/\heap=H):=⟨_,fun _ _ _=>Iff.rfl⟩;refine Dn5.run I (fun k=>w.length-k) 0 ((E _ _ _).2 ?_) ?_
  ·simp(disch:=omega)only[go_sem];(repeat' apply And.intro)<;>(try first | rfl | assumption | omega);decide
  ·intro k env heap hi;obtain⟨y,h,C,hk,hw,hv,rfl⟩:=(E _ _ _).1 hi;have U:10^k<=10^10:=Nat.pow_le_pow_right (by omega) (by omega);have X:Tx (w.take k)<10000000000:=Nat.lt_of_lt_of_le hv U;by_cases L:k<w.length
   ·have M:(k:Int)<(w.length:Int):=by omega
    have hg:w[k]? =some w[k]:=List.getElem?_eq_getElem L;have V:IntKind.i64.wrap ((k:Int)+1)=((k+1:Nat):Int):=by rw[IntKind.wrap_i64];omega
    simp(disch:=omega)only[go_sem,y,h,C,M,hg,jD];refine(Zq G _ w[k]).mono ?_;rintro _ H1 ⟨rfl,rfl⟩;cases hb:Eh w[k] with
    | true=>
     have hd:=(Eb5 w[k]).1 hb;have O:w.take (k+1)=w.take k++ [w[k]]:=by rw[List.take_add_one,hg];rfl
     have S:Tx (w.take (k+1))=10*Tx (w.take k)+(w[k].toNat-48):=by rw[O,Bw3]
     have Y:(w.take (k+1)).all Eh=true:=by rw[O,List.all_append,hw];simpa using hb
     have Z:Tx (w.take (k+1))<10^(k+1):=by rw[S,Nat.pow_succ];omega
     have w1:IntKind.i64.wrap (10*(Tx (w.take k):Int))=10*(Tx (w.take k):Int):=by rw[IntKind.wrap_i64];omega
     have w2:IntKind.u8.wrap ((w[k].toNat:Int)-48)=(w[k].toNat:Int)-48:=by rw[IntKind.wrap_u8];omega
     have w3:IntKind.i64.wrap ((w[k].toNat:Int)-48)=(w[k].toNat:Int)-48:=by rw[IntKind.wrap_i64];omega
     have W:IntKind.i64.wrap (10*(Tx (w.take k):Int)+((w[k].toNat:Int)-48))=(Tx (w.take (k+1)):Int):=by rw[IntKind.wrap_i64,S];omega
     simp(disch:=omega)only[go_sem,y,h,C,M,hg,jD,w1,w2,w3,W];refine⟨k+1,_,Ri.refl _,(E _ _ _).2 ?_,by omega⟩;simp(disch:=omega)only[go_sem,y,h,C,V];(repeat' apply And.intro)<;>(try first | rfl | assumption | omega)
    | false=>
     simp(disch:=omega)only[go_sem,y,h];refine Es.refl ⟨?_,rfl⟩;rw[Fa3 (List.all_eq_false.2 ⟨w[k],List.getElem_mem L,by rw[hb];simp⟩)]
   ·have:k=w.length:=by omega
    subst this;rw[List.take_length] at hw hv h;by_cases hb:2147483647<Tx w
    ·have J:(2147483647:Int)<(Tx w:Int):=by omega
     simp(disch:=omega)only[go_sem,y,h,C,J];exact Es.refl ⟨by rw[Fa4 (by omega)],rfl⟩
    ·have J: ¬(2147483647:Int)<(Tx w:Int):=by omega
     simp(disch:=omega)only[go_sem,y,h,C,J];exact Es.refl ⟨by rw[Fq9 hl hw (by omega)],rfl⟩
 ·have D:(10:Int)<(w.length:Int):=by omega
  simp(disch:=omega)only[go_sem,D];exact Es.refl ⟨by rw[Ef7 hl],rfl⟩
theorem Eg0 (G:Nat->DVal) (H:Ac) (s:List UInt8) (hs:s.length<=1000000000):Af Tryz.prog G 247 [.str s] H (Au (dI (Nq s)) H):=by
 refine Ab Tryz.func247 Tryz.call247 rfl (by kernel_rfl) ?_;simp(disch:=omega)only[go_sem];refine(Bj3 G _).mono ?_;rintro _ H1 ⟨rfl,rfl⟩;simp(disch:=omega)only[go_sem,Ae7];obtain⟨l,hl⟩: ∃l,l=Vu:=⟨_,rfl⟩;rw[<-hl];have U:l.length=22:=by rw[hl];rfl
 obtain⟨I,J⟩: ∃I:Nat->(Nat->DVal)->Ac->Prop,∀k env heap,I k env heap↔(env 0= .str s/\env 3= .vslice (l.map .str) l.length/\env 4=dI k/\k<=l.length/\(∀u∈l.take k,Ao8 s u=false)/\heap=H1):=⟨_,fun _ _ _=>Iff.rfl⟩;refine Dn5.run I (fun k=>l.length-k) 0 ((J _ _ _).2 ?_) ?_
 ·simp(disch:=omega)only[go_sem];(repeat' apply And.intro)<;>(try first | rfl | assumption | omega);intro u hu;simp at hu
 ·intro k env heap hi;obtain⟨y,C,D,hk,E,rfl⟩:=(J _ _ _).1 hi;by_cases h:k<l.length
  ·have L:(k:Int)<(l.length:Int):=by omega
   have hg:(l.map DVal.str)[k]? =some (.str l[k]):=by rw[List.getElem?_map,List.getElem?_eq_getElem h];rfl
   have S:IntKind.i64.wrap ((k:Int)+1)=((k+1:Nat):Int):=by rw[IntKind.wrap_i64];omega
   have O:Ao8 s l[k]=(decide (l[k].length<=s.length)&&decide (s.take l[k].length=l[k])):=rfl;simp(disch:=omega)only[go_sem,y,C,D,L,h,hg,jD];refine Aj (by kernel_rfl) (.take 0 (.take 1 (.take 2 (.take 3 (.take 4 (.take 5 (.take 6 (.take 7 (.take 8 (.take 9 (.take 10 (.take 11 (.take 12 (.take 13 .done)))))))))))))) (by kernel_rfl) ?_;by_cases h1:l[k].length<=s.length
   ·have M:(l[k].length:Int)<=(s.length:Int):=by omega
    by_cases h2:s.take l[k].length=l[k]
    ·have hh:Ao8 s l[k]=true:=by rw[O,decide_eq_true h1,decide_eq_true h2];rfl
     simp(disch:=omega)only[go_sem,y,C,D,L,h,hg,M,h2,jD];refine Es.refl ⟨?_,rfl⟩;rw[Fr0 (k:=k) (w:=l[k]) (by rw[<-hl];exact List.getElem?_eq_getElem h) hh (by rw[<-hl];exact E)]
    ·have hh:Ao8 s l[k]=false:=by rw[O,decide_eq_false h2,Bool.and_false]
     simp(disch:=omega)only[go_sem,y,C,D,L,h,hg,M,h2,jD];refine⟨k+1,_,Ri.refl _,(J _ _ _).2 ?_,by omega⟩;simp(disch:=omega)only[go_sem,y,C,D,S];(repeat' apply And.intro)<;>(try first | rfl | assumption | omega);exact Mh (p:=fun x=>Ao8 s x=false) h E hh
   ·have M: ¬(l[k].length:Int)<=(s.length:Int):=by omega
    have hh:Ao8 s l[k]=false:=by rw[O,decide_eq_false h1,jT]
    simp(disch:=omega)only[go_sem,y,C,D,L,h,hg,M,jD];refine⟨k+1,_,Ri.refl _,(J _ _ _).2 ?_,by omega⟩;simp(disch:=omega)only[go_sem,y,C,D,S];(repeat' apply And.intro)<;>(try first | rfl | assumption | omega);exact Mh (p:=fun x=>Ao8 s x=false) h E hh
  ·have:k=l.length:=by omega
   subst this;simp(disch:=omega)only[go_sem,y,C,D];rw[List.take_length] at E;refine Es.refl ⟨?_,rfl⟩;rw[Fa6 (by rw[<-hl];exact E)];rfl
theorem Bo7 (G:Nat->DVal) (H:Ac) (c:UInt8) (r:List UInt8) (hs:(c::r).length<=1000000000):Af Tryz.prog G 163 [.str (c::r)] H (Au (Bj1 (Ei (c::r))) H):=by
 have h0:(c::r)[0]? =some c:=rfl
 have J:=Do6 (c::r)
 have C:(c::r).take ((Et (c::r)).length-0)=Et (c::r):=Ef8 (c::r)
 have D:((Et (c::r)).length:Int)<=((c::r).length:Int):=by omega
 refine Ab Tryz.func163 Tryz.call163 rfl (by kernel_rfl) ?_
 simp(disch:=omega)only[go_sem]
 intro y h;dsimp only at h
 simp(disch:=omega)only[go_sem]
 refine(Ct7 G _ (c::r) hs).mono ?_
 rintro _ H1 ⟨rfl,rfl⟩
 simp(disch:=omega)only[go_sem,h0]
 refine(Xc G _ c).mono ?_
 rintro _ H1 ⟨rfl,rfl⟩
 generalize hw:Et (c::r)=w at J C D
 cases hle:Dj c with
 | true=>
  simp(disch:=omega)only[go_sem,h0,D,C]
  refine(At9 G _ w).mono ?_
  rintro _ H1 ⟨rfl,rfl⟩
  cases hk:Tw w with
  | true=>
   simp(disch:=omega)only[go_sem,h0,DVal.cells]
   exact Es.dropA y h (Es.refl ⟨by rw[Tf,hw,hle,if_pos rfl,hk,if_pos rfl];rfl,rfl⟩)
  | false=>
   simp(disch:=omega)only[go_sem,h0]
   refine(Bj4 G _ w).mono ?_
   rintro _ H1 ⟨rfl,rfl⟩
   cases hn:Lo w with
   | true=>
    simp(disch:=omega)only[go_sem,h0,DVal.cells]
    exact Es.dropA y h (Es.refl ⟨by rw[Tf,hw,hle,if_pos rfl,hk,if_neg (by simp),hn,if_pos rfl];rfl,rfl⟩)
   | false=>
    simp(disch:=omega)only[go_sem,h0,DVal.cells]
    exact Es.dropA y h (Es.refl ⟨by rw[Tf,hw,hle,if_pos rfl,hk,if_neg (by simp),hn,if_neg (by simp)];rfl,rfl⟩)
 | false=>
  simp(disch:=omega)only[go_sem,h0]
  refine(Zq G _ c).mono ?_
  rintro _ H1 ⟨rfl,rfl⟩
  cases hd:Eh c with
  | true=>
   have I:Ei (c::r)=match Bc4 w with | some v=>(⟨3,0,[],v⟩,w.length) | none=>(Am3,0):=by
    rw[Tf,hw,hle,if_neg (by simp),hd,if_pos rfl];cases Bc4 w<;>rfl
   simp(disch:=omega)only[go_sem,h0,D,C]
   refine(Ef9 G _ w).mono ?_
   rintro _ H1 ⟨rfl,rfl⟩
   cases hv:Bc4 w with
   | some v=>
    have E:Ax1 w=(v:Int):=by rw[Ax1,hv]
    have L: ¬(v:Int)<0:=by omega
    simp(disch:=omega)only[go_sem,E,L,DVal.cells]
    exact Es.dropA y h (Es.refl ⟨by rw[I,hv];rfl,rfl⟩)
   | none=>
    have E:Ax1 w= -1:=by rw[Ax1,hv]
    simp(disch:=omega)only[go_sem,E,DVal.cells]
    exact Es.dropA y h (Es.refl ⟨by rw[I,hv];rfl,rfl⟩)
  | false=>
   have O:=Dd1 (c::r)
   have M:(Nq (c::r):Int)<=((c::r).length:Int):=by omega
   simp(disch:=omega)only[go_sem]
   refine(Eg0 G _ (c::r) hs).mono ?_
   rintro _ H1 ⟨rfl,rfl⟩
   simp(disch:=omega)only[go_sem,h0,DVal.cells,M]
   exact Es.dropA y h (Es.refl ⟨by rw[Tf,hle,if_neg (by simp),hd,if_neg (by simp)];simp [Bj1,Cy],rfl⟩)
end
theorem Fr1 {c d:UInt8} {r y:List UInt8} (C:d≠45) (h:r=d::y):Pl (c::r)=false:=by
 subst h;unfold Pl;split
 ·rename_i e;simp at e;exact absurd e.2.1 C
 ·rfl
theorem Fr2 {c:UInt8} {r:List UInt8} (h:r= []):Pl (c::r)=false:=by
 subst h;unfold Pl;split
 ·rename_i e;simp at e
 ·rfl
set_option maxHeartbeats 4000000 in
theorem Ao9 (G:Nat->DVal) (H:Ac) (y:List UInt8) (hs:y.length<=1000000000):Af Tryz.prog G 57 [.str y] H (Au (.tuple [Bh (Ar y).1,dI (Ar y).2.1,dI (Ar y).2.2]) H):=by
 refine Ab Tryz.func57 Tryz.call57 rfl (by kernel_rfl) ?_
 by_cases hl:65536<y.length
 ·have ay:(65536:Int)<(y.length:Int):=by omega
  simp(disch:=omega)only[go_sem,ay,jH]
  refine Es.ghost (Mi (H:=H) (Sub.refl H) [dI 0,dI 3] rfl) (Es.refl ⟨?_,rfl⟩)
  rw[Ar,if_pos hl]
 have ay: ¬(65536:Int)<(y.length:Int):=by omega
 simp(disch:=omega)only[go_sem,ay]
 obtain⟨I,X⟩: ∃I:Nat×Nat×List Tok->(Nat->DVal)->Ac->Prop,∀U env heap,I U env heap↔(env 0= .str y/\env 6=dI U.2.1/\env 7=dI U.1/\U.1<=y.length/\U.2.1<=U.1+1/\U.2.2.length<=8192/\Lp (y.drop U.1) U.2.1 U.2.2=Ar y/\Jf H 31 4 U.2.2.length (U.2.2.flatMap Cy) (env 5) heap):=⟨_,fun _ _ _=>Iff.rfl⟩
 refine Dn5.run I (fun U=>y.length-U.1) (0,1,[]) ((X _ _ _).2 ?_) ?_
 ·simp(disch:=omega)only[go_sem]
  (repeat' apply And.intro)<;>(try first | rfl | assumption | omega)
  ·exact(Cp4 (by omega)).symm
  ·exact Jf.nil _ _ (Sub.refl _)
 ·rintro⟨k,D,ts⟩ env hp hi
  obtain⟨O,E,L,hk,bf,hts,hr,hv⟩:=(X _ _ _).1 hi
  dsimp only at E L hk bf hts hr hv
  obtain⟨v,C⟩: ∃v,env 5=v:=⟨_,rfl⟩
  rw[C] at hv
  by_cases a8:k<y.length
  ·have ad:(k:Int)<(y.length:Int):=by omega
   have a0:(k:Int)<=(y.length:Int):=by omega
   obtain⟨c,hc⟩: ∃c,c=y[k]:=⟨_,rfl⟩
   have hg:y[k]? =some c:=by rw[hc];exact List.getElem?_eq_getElem a8
   have hd:y.drop k=c::y.drop (k+1):=by rw[hc];exact List.drop_eq_getElem_cons a8
   have a1:(y.drop k).take (y.length-k)=c::y.drop (k+1):=by rw[<-hd];exact List.take_of_length_le (by rw[List.length_drop];exact Nat.le_refl _)
   have ae:IntKind.i64.wrap ((k:Int)+1)=((k+1:Nat):Int):=by rw[IntKind.wrap_i64];omega
   have a9:IntKind.i64.wrap ((D:Int)+1)=((D+1:Nat):Int):=by rw[IntKind.wrap_i64];omega
   by_cases af:c=10
   ·have ab:(c.toNat:Int)=10:=by rw[af];rfl
    simp(disch:=omega)only[go_sem,O,C,E,L,ad,hg,ab,jD]
    refine⟨(k+1,D+1,ts),_,Ri.refl _,(X _ _ _).2 ?_,by dsimp only;omega⟩
    simp(disch:=omega)only[go_sem,O,C,E,L,ae,a9]
    (repeat' apply And.intro)<;>(try first | rfl | assumption | omega)
    rw[<-hr,hd,af,Fo4]
   have ab: ¬(c.toNat:Int)=10:=Td (d:=10) af
   by_cases ag:c=32
   ·have ah:(c.toNat:Int)=32:=by rw[ag];rfl
    simp(disch:=omega)only[go_sem,O,C,E,L,ad,hg,ab,ah,jD]
    refine⟨(k+1,D,ts),_,Ri.refl _,(X _ _ _).2 ?_,by dsimp only;omega⟩
    simp(disch:=omega)only[go_sem,O,C,E,L,ae,a9]
    (repeat' apply And.intro)<;>(try first | rfl | assumption | omega)
    rw[<-hr,hd,ag,Fo5]
   have ah: ¬(c.toNat:Int)=32:=Td (d:=32) ag
   by_cases ba:k+1<y.length
   ·have ai:((k+1:Nat):Int)<(y.length:Int):=by omega
    have ap:y.drop (k+1)=y[k+1]::y.drop (k+2):=List.drop_eq_getElem_cons ba
    have a2:y[k+1]? =some y[k+1]:=List.getElem?_eq_getElem ba
    by_cases aq:c=45
    ·have ar:(c.toNat:Int)=45:=by rw[aq];rfl
     by_cases au:y[k+1]=45
     ·have a3:(y[k+1].toNat:Int)=45:=by rw[au];rfl
      have bb:y.drop k=45::45::y.drop (k+2):=by rw[hd,ap,aq,au]
      obtain⟨h,t,bc,av,hok⟩:=Eu2 (y.drop (k+2)) D ts
      rw[<-bb] at bc av hok
      rw[hr] at av hok
      obtain⟨p1,p2,_⟩:=Zp bc
      have bg: ∃q,y.drop k=h++q/\(q= []\/ ∃q',q=10::q'):=by
       rcases p2 with⟨_,e⟩ | ⟨_,e⟩
       ·exact⟨[],by rw[e,jH], .inl rfl⟩
       ·exact⟨_,e, .inr ⟨_,rfl⟩⟩
      obtain⟨q,hq,bd⟩:=bg
      have bl:0<h.length:=by
       match h,hq with
       | [],hq=>
        rw[bb] at hq
        rcases bd with rfl | ⟨q',rfl⟩
        ·cases hq
        ·have:=(List.cons.inj hq).1;exact absurd this (by decide)
       | x::h,_=>simp
      have be:k+h.length+q.length=y.length:=by
       have:=congrArg List.length hq
       rw[List.length_drop,jC] at this;omega
      have bh: ∀j (hj:j<h.length),y[k+j]? =some h[j]:=fun j hj=>by
       rw[<-List.getElem?_drop,hq,List.getElem?_append_left hj,List.getElem?_eq_getElem hj]
      have bi:y[k+h.length]? =q[0]? :=by
       rw[<-List.getElem?_drop,hq,List.getElem?_append_right (Nat.le_refl _),Nat.sub_self]
      simp(disch:=omega)only[go_sem,O,C,E,L,ad,hg,ab,ah,ae,ai,a2,ar,a3,jD]
      obtain⟨J,hJ⟩: ∃J:Nat->(Nat->DVal)->Ac->Prop,∀j env heap,J j env heap↔(env 0= .str y/\env 5=v/\env 6=dI D/\env 7=dI ((k+j:Nat):Int)/\j<=h.length/\Px (h.take j)=true/\heap=hp):=⟨_,fun _ _ _=>Iff.rfl⟩
      refine Dn5.run J (fun j=>h.length-j) 0 ((hJ _ _ _).2 ?_) ?_
      ·simp(disch:=omega)only[go_sem,O,C,E,L,Nat.add_zero]
       (repeat' apply And.intro)<;>(try first | rfl | assumption | omega)
      ·intro j env' bm bj
       obtain⟨Y,Z,f6,f7,hj,hpl,rfl⟩:=(hJ _ _ _).1 bj
       by_cases aw:j<h.length
       ·have ac:((k+j:Nat):Int)<(y.length:Int):=by omega
        have a4:=bh j aw
        have a5: ¬(h[j].toNat:Int)=10:=Td (d:=10) fun e=>p1 (by rw[<-e];exact List.getElem_mem aw)
        have bk:IntKind.i64.wrap (((k+j:Nat):Int)+1)=((k+(j+1):Nat):Int):=by rw[IntKind.wrap_i64];omega
        have hb: ¬(32<=h[j].toNat/\h[j].toNat<=126)->Px h=false:=fun x=>by
         rw[Px,List.all_eq_false]
         refine⟨h[j],List.getElem_mem aw, ?_⟩
         simp only[jF,decide_eq_true_eq];exact x
        by_cases h1:h[j].toNat<32
        ·have ax:(h[j].toNat:Int)<32:=by omega
         simp(disch:=omega)only[go_sem,Y,Z,f6,f7,ac,a4,a5,ax,jD]
         refine Es.ghost (Mi (H:=H) hv.sub [dI D,dI 20] rfl) (Es.refl ⟨?_,rfl⟩)
         rw[av (hb (by omega))]
        ·have ax: ¬(h[j].toNat:Int)<32:=by omega
         by_cases h2:126<h[j].toNat
         ·have a6:(126:Int)<(h[j].toNat:Int):=by omega
          simp(disch:=omega)only[go_sem,Y,Z,f6,f7,ac,a4,a5,ax,a6,jD]
          refine Es.ghost (Mi (H:=H) hv.sub [dI D,dI 20] rfl) (Es.refl ⟨?_,rfl⟩)
          rw[av (hb (by omega))]
         ·have a6: ¬(126:Int)<(h[j].toNat:Int):=by omega
          simp(disch:=omega)only[go_sem,Y,Z,f6,f7,ac,a4,a5,ax,a6,jD]
          refine⟨j+1,_,Ri.refl _,(hJ _ _ _).2 ?_,by omega⟩
          simp(disch:=omega)only[go_sem,Y,Z,f6,f7,bk]
          (repeat' apply And.intro)<;>(try first | rfl | assumption | omega)
          rw[List.take_add_one,List.getElem?_eq_getElem aw,Eb0,hpl]
          simp [Px];omega
       ·have:j=h.length:=by omega
        subst this
        rw[List.take_length] at hpl
        have a7:=hok hpl
        rw[List.drop_drop] at a7
        rcases bd with rfl | ⟨q',rfl⟩
        ·have ac: ¬((k+h.length:Nat):Int)<(y.length:Int):=by simp at be;omega
         simp(disch:=omega)only[go_sem,Y,Z,f6,f7,ac]
         refine⟨(k+h.length,D,ts),_,Ri.refl _,(X _ _ _).2 ?_,by dsimp only;omega⟩
         simp(disch:=omega)only[go_sem,Y,Z,f6,f7]
         (repeat' apply And.intro)<;>(try first | rfl | assumption | omega)
         exact a7.symm
        ·have ac:((k+h.length:Nat):Int)<(y.length:Int):=by simp at be;omega
         simp(disch:=omega)only[go_sem,Y,Z,f6,f7,ac,bi,List.getElem?_cons_zero,jD]
         refine⟨(k+h.length,D,ts),_,Ri.refl _,(X _ _ _).2 ?_,by dsimp only;omega⟩
         simp(disch:=omega)only[go_sem,Y,Z,f6,f7]
         (repeat' apply And.intro)<;>(try first | rfl | assumption | omega)
         exact a7.symm
     ·have a3: ¬(y[k+1].toNat:Int)=45:=Td (d:=45) au
      ·have aj:Pl (c::y.drop (k+1))=false:=Fr1 au ap
       simp(disch:=omega)only[go_sem,O,C,E,L,ad,hg,ab,ah,ai,a2,ar,a3,jD,a1,a0,ae]
       refine(Bo7 G _ c (y.drop (k+1)) (by rw[<-hd,List.length_drop];omega)).mono ?_
       rintro _ H1 ⟨rfl,rfl⟩
       have M:=Bj0 D ts af ag aj
       have hfl:=Am4 (c::y.drop (k+1))
       rw[<-hd,List.length_drop] at hfl
       rw[<-hd,hr] at M
       rw[<-hd]
       generalize hf:Ei (y.drop k)=tn at M hfl
       obtain⟨T,n⟩:=tn
       dsimp only at M hfl
       simp(disch:=omega)only[go_sem,Bj1,DVal.cells,O,C,E,L]
       intro r8 S;dsimp only at S
       have ak:=hv.frame S (.cells (Cy { T with line:=(D:Int) }) 31)
       by_cases hn:n=0
       ·have V:(n:Int)=0:=by omega
        rw[if_pos hn] at M
        simp(disch:=omega)only[go_sem,O,C,E,L,V,Aq,Cv,Nl,Jj,jH]
        refine Es.ghost (Mi (H:=H) (hv.new S _).sub [dI D,dI 20] rfl) (Es.refl ⟨?_,rfl⟩)
        rw[M]
       ·have V: ¬(n:Int)=0:=by omega
        rw[if_neg hn] at M
        by_cases h8:ts.length=8192
        ·have W:(ts.length:Int)=8192:=by omega
         rw[if_pos h8] at M
         simp(disch:=omega)only[go_sem,O,C,E,L,V,hv.dLen,W,Aq,Cv,Nl,Jj,jH]
         refine Es.ghost (Mi (H:=H) (hv.new S _).sub [dI D,dI 3] rfl) (Es.refl ⟨?_,rfl⟩)
         rw[M]
        ·have W: ¬(ts.length:Int)=8192:=by omega
         rw[if_neg h8] at M
         have hsp:Cn (Cy T) 1 [dI (D:Int)]=Cy { T with line:=(D:Int) }:=rfl
         have al:Cc 1 [DVal.int IntKind.u8 0,DVal.int IntKind.i64 0,DVal.str [],DVal.int IntKind.i64 0]= [DVal.int IntKind.u8 0,DVal.int IntKind.i64 0,DVal.str [],DVal.int IntKind.i64 0]:=rfl
         have am:IntKind.i64.wrap ((k:Int)+(n:Int))=((k+n:Nat):Int):=by rw[IntKind.wrap_i64];omega
         simp(disch:=omega)only[go_sem,O,C,E,L,V,hv.dLen,W,Aq,Cv,Nl,Jj,jH,hsp]
         rw[al]
         simp(disch:=omega)only[go_sem,jA,jB,jE,jJ,jH,C]
         intro ns aa;dsimp only at aa
         simp(disch:=omega)only[go_sem,O,C,E,L,Aq,Cv,Nl,Jj,jH]
         refine Jf.append (m:=1) (ak.new aa _) rfl (by omega) fun v2 H3 ao=> ?_
         simp(disch:=omega)only[go_sem,O,C,E,L]
         refine⟨(k+n,D,ts++ [{ T with line:=(D:Int) }]),_,Ri.refl _,(X _ _ _).2 ?_,by dsimp only;omega⟩
         simp(disch:=omega)only[go_sem,O,C,E,L,am]
         (repeat' apply And.intro)<;>(try first | rfl | assumption | omega)
         ·rw[jC];simp;omega
         ·rw[<-List.drop_drop,<-M]
         ·have:=ao.less ((Sub.refl H).up (hv.sub.lo S) _)
          rw[jC,List.flatMap_append]
          simpa using this
    ·have ar: ¬(c.toNat:Int)=45:=Td (d:=45) aq
     ·have aj:Pl (c::y.drop (k+1))=false:=Et8 _ aq
      simp(disch:=omega)only[go_sem,O,C,E,L,ad,hg,ab,ah,ai,a2,ar,jD,a1,a0,ae]
      refine(Bo7 G _ c (y.drop (k+1)) (by rw[<-hd,List.length_drop];omega)).mono ?_
      rintro _ H1 ⟨rfl,rfl⟩
      have M:=Bj0 D ts af ag aj
      have hfl:=Am4 (c::y.drop (k+1))
      rw[<-hd,List.length_drop] at hfl
      rw[<-hd,hr] at M
      rw[<-hd]
      generalize hf:Ei (y.drop k)=tn at M hfl
      obtain⟨T,n⟩:=tn
      dsimp only at M hfl
      simp(disch:=omega)only[go_sem,Bj1,DVal.cells,O,C,E,L]
      intro r8 S;dsimp only at S
      have ak:=hv.frame S (.cells (Cy { T with line:=(D:Int) }) 31)
      by_cases hn:n=0
      ·have V:(n:Int)=0:=by omega
       rw[if_pos hn] at M
       simp(disch:=omega)only[go_sem,O,C,E,L,V,Aq,Cv,Nl,Jj,jH]
       refine Es.ghost (Mi (H:=H) (hv.new S _).sub [dI D,dI 20] rfl) (Es.refl ⟨?_,rfl⟩)
       rw[M]
      ·have V: ¬(n:Int)=0:=by omega
       rw[if_neg hn] at M
       by_cases h8:ts.length=8192
       ·have W:(ts.length:Int)=8192:=by omega
        rw[if_pos h8] at M
        simp(disch:=omega)only[go_sem,O,C,E,L,V,hv.dLen,W,Aq,Cv,Nl,Jj,jH]
        refine Es.ghost (Mi (H:=H) (hv.new S _).sub [dI D,dI 3] rfl) (Es.refl ⟨?_,rfl⟩)
        rw[M]
       ·have W: ¬(ts.length:Int)=8192:=by omega
        rw[if_neg h8] at M
        have hsp:Cn (Cy T) 1 [dI (D:Int)]=Cy { T with line:=(D:Int) }:=rfl
        have al:Cc 1 [DVal.int IntKind.u8 0,DVal.int IntKind.i64 0,DVal.str [],DVal.int IntKind.i64 0]= [DVal.int IntKind.u8 0,DVal.int IntKind.i64 0,DVal.str [],DVal.int IntKind.i64 0]:=rfl
        have am:IntKind.i64.wrap ((k:Int)+(n:Int))=((k+n:Nat):Int):=by rw[IntKind.wrap_i64];omega
        simp(disch:=omega)only[go_sem,O,C,E,L,V,hv.dLen,W,Aq,Cv,Nl,Jj,jH,hsp]
        rw[al]
        simp(disch:=omega)only[go_sem,jA,jB,jE,jJ,jH,C]
        intro ns aa;dsimp only at aa
        simp(disch:=omega)only[go_sem,O,C,E,L,Aq,Cv,Nl,Jj,jH]
        refine Jf.append (m:=1) (ak.new aa _) rfl (by omega) fun v2 H3 ao=> ?_
        simp(disch:=omega)only[go_sem,O,C,E,L]
        refine⟨(k+n,D,ts++ [{ T with line:=(D:Int) }]),_,Ri.refl _,(X _ _ _).2 ?_,by dsimp only;omega⟩
        simp(disch:=omega)only[go_sem,O,C,E,L,am]
        (repeat' apply And.intro)<;>(try first | rfl | assumption | omega)
        ·rw[jC];simp;omega
        ·rw[<-List.drop_drop,<-M]
        ·have:=ao.less ((Sub.refl H).up (hv.sub.lo S) _)
         rw[jC,List.flatMap_append]
         simpa using this
   ·have ai: ¬((k+1:Nat):Int)<(y.length:Int):=by omega
    have ap:y.drop (k+1)= []:=List.drop_eq_nil_of_le (by omega)
    ·have aj:Pl (c::y.drop (k+1))=false:=Fr2 ap
     simp(disch:=omega)only[go_sem,O,C,E,L,ad,hg,ab,ah,ai,jD,a1,a0,ae]
     refine(Bo7 G _ c (y.drop (k+1)) (by rw[<-hd,List.length_drop];omega)).mono ?_
     rintro _ H1 ⟨rfl,rfl⟩
     have M:=Bj0 D ts af ag aj
     have hfl:=Am4 (c::y.drop (k+1))
     rw[<-hd,List.length_drop] at hfl
     rw[<-hd,hr] at M
     rw[<-hd]
     generalize hf:Ei (y.drop k)=tn at M hfl
     obtain⟨T,n⟩:=tn
     dsimp only at M hfl
     simp(disch:=omega)only[go_sem,Bj1,DVal.cells,O,C,E,L]
     intro r8 S;dsimp only at S
     have ak:=hv.frame S (.cells (Cy { T with line:=(D:Int) }) 31)
     by_cases hn:n=0
     ·have V:(n:Int)=0:=by omega
      rw[if_pos hn] at M
      simp(disch:=omega)only[go_sem,O,C,E,L,V,Aq,Cv,Nl,Jj,jH]
      refine Es.ghost (Mi (H:=H) (hv.new S _).sub [dI D,dI 20] rfl) (Es.refl ⟨?_,rfl⟩)
      rw[M]
     ·have V: ¬(n:Int)=0:=by omega
      rw[if_neg hn] at M
      by_cases h8:ts.length=8192
      ·have W:(ts.length:Int)=8192:=by omega
       rw[if_pos h8] at M
       simp(disch:=omega)only[go_sem,O,C,E,L,V,hv.dLen,W,Aq,Cv,Nl,Jj,jH]
       refine Es.ghost (Mi (H:=H) (hv.new S _).sub [dI D,dI 3] rfl) (Es.refl ⟨?_,rfl⟩)
       rw[M]
      ·have W: ¬(ts.length:Int)=8192:=by omega
       rw[if_neg h8] at M
       have hsp:Cn (Cy T) 1 [dI (D:Int)]=Cy { T with line:=(D:Int) }:=rfl
       have al:Cc 1 [DVal.int IntKind.u8 0,DVal.int IntKind.i64 0,DVal.str [],DVal.int IntKind.i64 0]= [DVal.int IntKind.u8 0,DVal.int IntKind.i64 0,DVal.str [],DVal.int IntKind.i64 0]:=rfl
       have am:IntKind.i64.wrap ((k:Int)+(n:Int))=((k+n:Nat):Int):=by rw[IntKind.wrap_i64];omega
       simp(disch:=omega)only[go_sem,O,C,E,L,V,hv.dLen,W,Aq,Cv,Nl,Jj,jH,hsp]
       rw[al]
       simp(disch:=omega)only[go_sem,jA,jB,jE,jJ,jH,C]
       intro ns aa;dsimp only at aa
       simp(disch:=omega)only[go_sem,O,C,E,L,Aq,Cv,Nl,Jj,jH]
       refine Jf.append (m:=1) (ak.new aa _) rfl (by omega) fun v2 H3 ao=> ?_
       simp(disch:=omega)only[go_sem,O,C,E,L]
       refine⟨(k+n,D,ts++ [{ T with line:=(D:Int) }]),_,Ri.refl _,(X _ _ _).2 ?_,by dsimp only;omega⟩
       simp(disch:=omega)only[go_sem,O,C,E,L,am]
       (repeat' apply And.intro)<;>(try first | rfl | assumption | omega)
       ·rw[jC];simp;omega
       ·rw[<-List.drop_drop,<-M]
       ·have:=ao.less ((Sub.refl H).up (hv.sub.lo S) _)
        rw[jC,List.flatMap_append]
        simpa using this
  ·have:k=y.length:=by omega
   subst this
   simp(disch:=omega)only[go_sem,O,C,E,L]
   refine Es.ghost (Ln.tuple1' (pre:= []) hv.ghost rfl rfl) (Es.refl ⟨?_,rfl⟩)
   rw[List.drop_length,Eu0] at hr
   rw[<-hr];rfl
end Go.Dl
