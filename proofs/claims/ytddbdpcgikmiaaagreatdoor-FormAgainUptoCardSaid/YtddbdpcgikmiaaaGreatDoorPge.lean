/- The data level and the contracts of the functions that are reached (part 5). -/
import Derived.RecoverIn
import Derived.Test.YtddbdpcgikmiaaaGreatDoorPgd
set_option linter.unusedSimpArgs false
set_option linter.unusedVariables false
set_option linter.unusedSectionVars false
-- U8
namespace Go.Dl
open Go Go.Proofs
set_option maxRecDepth 100000
mutual
def okE:Ex->Prop
 | .mk _ _ _ s l a _ _ _=>s.length<=9223372036854775807/\okL l/\Pc a
def okL:List Ex->Prop
 | []=>True
 | x::l=>okE x/\okL l
def okA:As->Prop
 | .mk c e=>Wu c/\okE e
def Pc:List As->Prop
 | []=>True
 | x::l=>okA x/\Pc l
def okC:Ch->Prop
 | .mk _ l=>okL l
def Wu:List Ch->Prop
 | []=>True
 | x::l=>okC x/\Wu l
end
theorem Bg8: ∀ {l:List Ex},okL l-> ∀x∈l,okE x
 | y::l,h,x,hx=>by
  rw[okL] at h;rcases List.mem_cons.1 hx with rfl | hx
  ·exact h.1
  ·exact Bg8 h.2 x hx
theorem Cu9: ∀ {l:List As},Pc l-> ∀x∈l,okA x
 | y::l,h,x,hx=>by
  rw[Pc] at h;rcases List.mem_cons.1 hx with rfl | hx
  ·exact h.1
  ·exact Cu9 h.2 x hx
theorem Aq7: ∀ {l:List Ch},Wu l-> ∀x∈l,okC x
 | y::l,h,x,hx=>by
  rw[Wu] at h;rcases List.mem_cons.1 hx with rfl | hx
  ·exact h.1
  ·exact Aq7 h.2 x hx
theorem Gl0 {e:Ex}:okE e↔e.s.length<=9223372036854775807/\okL e.l/\Pc e.a:=by cases e;rw[okE];rfl
theorem Gl1 {e:As}:okA e↔Wu e.c/\okE e.e:=by cases e;rw[okA];rfl
theorem Gl2 {e:Ch}:okC e↔okL e.l:=by cases e;rw[okC];rfl
theorem Eh5 {a:As} (h:okA a): ∀x∈Fc a,okE x:=fun x hx=>by
 rw[Gl1] at h;rcases List.mem_append.1 hx with hx | hx
 ·obtain⟨c,hc,hx⟩:=List.mem_flatMap.1 hx;exact Bg8 (Gl2.1 (Aq7 h.1 c hc)) x hx
 ·rw[List.mem_singleton] at hx;subst hx;exact h.2
theorem Eh6 {e:Ex} (h:okE e): ∀x∈parts e,okE x:=fun x hx=>by
 rw[Gl0] at h;rcases List.mem_append.1 hx with hx | hx
 ·exact Bg8 h.2.1 x hx
 ·obtain⟨a,ha,hx⟩:=List.mem_flatMap.1 hx;exact Eh5 (Cu9 h.2.2 a ha) x hx
theorem Dk1 {a:As}: ∀x∈Fc a,Fo x<=Ya a:=fun x hx=>by
 rw[Aq4];rcases List.mem_append.1 hx with hx | hx
 ·obtain⟨c,hc,hx⟩:=List.mem_flatMap.1 hx;have h1:=Tc hc;have h2:=Ab5 hx;rw[Vm] at h1;omega
 ·rw[List.mem_singleton] at hx;subst hx;omega
theorem Bn4 {e x:Ex} (hx:x∈parts e):Fo x<Fo e:=by
 rcases List.mem_append.1 hx with hx | hx
 ·exact Gk9 hx
 ·obtain⟨a,ha,hx⟩:=List.mem_flatMap.1 hx;have h1:=Dj8 ha;have h2:=Dk1 x hx;omega
structure Fit (e:Ex):Prop where
 big:Fo e<=1099511627776
 ok:okE e
theorem Fit.parts {e x:Ex} (h:Fit e) (hx:x∈Dl.parts e):Fit x:=⟨by have:=Bn4 hx;have:=h.big;omega,Eh6 h.ok x hx⟩
theorem Fit.s {e:Ex} (h:Fit e):e.s.length<=9223372036854775807:=(Gl0.1 h.ok).1
mutual
theorem Ca9: ∀e:Ex,Hx e<=Fo e
 | .mk _ _ _ _ l a _ _ _=>by rw[Hx,Fo];have:=Ay3 l;have:=Bn5 a;omega
theorem Ay3: ∀l:List Ex,Bm4 l<=Mg l
 | []=>Nat.le_refl _
 | x::l=>by rw[Bm4,Mg];have:=Ca9 x;have:=Ay3 l;omega
theorem Eh7: ∀a:As,Ct9 a<=Ya a
 | .mk c e=>by rw[Ct9,Ya];have:=Bn6 c;have:=Ca9 e;omega
theorem Bn5: ∀l:List As,Ax4 l<=Fx l
 | []=>Nat.le_refl _
 | x::l=>by rw[Ax4,Fx];have:=Eh7 x;have:=Bn5 l;omega
theorem Eh8: ∀c:Ch,Dt6 c<=Aq2 c
 | .mk _ l=>by rw[Dt6,Aq2];have:=Ay3 l;omega
theorem Bn6: ∀l:List Ch,Ax5 l<=Jk l
 | []=>Nat.le_refl _
 | x::l=>by rw[Ax5,Jk];have:=Eh8 x;have:=Bn6 l;omega
end
mutual
theorem Ci2 (r:Nat) (cs:List DVal): ∀e:Ex,fzs r cs (dEx e)=dEx e
 | .mk _ _ _ _ l a _ _ _=>by simp only[dEx,fzs,fz,Ci3 r cs l,Dt9 r cs a]
theorem Ci3 (r:Nat) (cs:List DVal): ∀l:List Ex,fzs r cs (Ci1 l)=Ci1 l
 | []=>by simp only[Ci1,fzs]
 | x::l=>by rw[Ci1,Aj9,Ci2 r cs x,Ci3 r cs l]
theorem Gl3 (r:Nat) (cs:List DVal): ∀a:As,fzs r cs (dAs a)=dAs a
 | .mk c e=>by simp only[dAs,fzs,fz,Du0 r cs c,Ci2 r cs e]
theorem Dt9 (r:Nat) (cs:List DVal): ∀l:List As,fzs r cs (Cu1 l)=Cu1 l
 | []=>by simp only[Cu1,fzs]
 | x::l=>by rw[Cu1,Aj9,Gl3 r cs x,Dt9 r cs l]
theorem Gl4 (r:Nat) (cs:List DVal): ∀c:Ch,fzs r cs (dCh c)=dCh c
 | .mk _ l=>by simp only[dCh,fzs,fz,Ci3 r cs l]
theorem Du0 (r:Nat) (cs:List DVal): ∀l:List Ch,fzs r cs (Cu2 l)=Cu2 l
 | []=>by simp only[Cu2,fzs]
 | x::l=>by rw[Cu2,Aj9,Gl4 r cs x,Du0 r cs l]
end
def Gl5 (d:Nat) (x:Ex) (s:Int) (b:Bool) (s':Int):Prop:=0<=s->s<=256->b=(Fd d x&&decide ((Hx x:Int)<=s))/\(b=true->s'=s-Hx x)
theorem Du1 (d:Nat): ∀(l:List Ex) (s:Int) (b:Bool) (C:Int),Dk0 (Gl5 d) l s b C->0<=s->s<=256->b=(l.all (Fd d)&&decide ((Py l:Int)<=s))/\(b=true->C=s-Py l)
 | [],s,b,C,h,h0,_=>by
  obtain⟨rfl,rfl⟩:=h;exact⟨by simp [Py,h0],fun _=>by simp [Py]⟩
 | x::l,s,b,C,h,h0,h1=>by
  obtain⟨J,s1,hx,h⟩:=h;obtain⟨hb,hs⟩:=hx h0 h1;have D:Py (x::l)=Hx x+Py l:=by simp [Py]
  rcases h with⟨rfl,h⟩ | ⟨rfl,rfl,rfl⟩
  ·have e1:=hs rfl;have E:=hb.symm;rw[jF,decide_eq_true_eq] at E;obtain⟨k1,I⟩:=Du1 d l s1 b C h (by omega) (by omega);refine⟨?_,fun hb=> ?_⟩
   ·rw[k1,List.all_cons,E.1,jS,D];congr 1;exact decide_eq_decide.2 ⟨fun h=>by omega,fun h=>by omega⟩
   ·rw[I hb,D];omega
  ·refine⟨?_,fun h=>(by cases h)⟩;rw[List.all_cons,D];cases hv:Fd d x with
   | false=>rfl
   | true=>
    rw[hv,jS] at hb;have:=of_decide_eq_false hb.symm;rw[decide_eq_false (by omega),Bool.and_false]
section
variable {G:Nat->DVal} {H:Ac}
theorem Bn7 (G:Nat->DVal) (H:Ac) (d:Int) (C D:Nat):Ag Tryz.prog G 67 ([]++ [.int .i64 d]++ [.optr C 0, .optr D 0]) H
  (fun e H'=> ∃rd,H rd=none/\e= .ret (.func (.func 68) [] [.optr C 0, .optr rd 0, .optr D 0])/\H'=upd H rd (some (Wt d))):=by
 refine Ab Tryz.func67 Tryz.call67 rfl (by kernel_rfl) ?_;simp(disch:=omega)only[go_sem,DVal.cells,jG,jI];intro rd E;dsimp only at E;simp(disch:=omega)only[go_sem];exact Fa.refl ⟨rd,E,rfl,rfl⟩
theorem Eh9 (hG:GX G) (C D:Nat) (af:C≠D): ∀(x:Ex) (H:Ac) (d:Nat) (s:Int) (I:Nat),Fit x->d<=1000000->H C=some (Wt s)->H I=some (Wt d)->C≠I->H D=some (.cells [.func (.func 67) [] [.optr C 0, .optr D 0]] 119)->
  Ag Tryz.prog G 68 ([]++ [.agg (dEx x)]++ [.optr C 0, .optr I 0, .optr D 0]) H (Gd2 (Gl5 d) x s C H):=by
 intro x
 induction x using Ex.ind with
 | h x ih=>
  intro H d s I hx hd hl aa ag ha;refine Ab Tryz.func68 Tryz.call68 rfl (by kernel_rfl) ?_;simp(disch:=omega)only[go_sem,DVal.cells,jG,jI];intro J X;dsimp only at X;have n1:C≠J:=Af X hl;have n2:I≠J:=Af X aa;have n3:D≠J:=Af X ha;unfold Wt at hl aa;obtain⟨s1,ah⟩: ∃s1,s1=IntKind.i64.wrap (s-1):=⟨_,rfl⟩;have ac:I≠C:=ag.symm;have ad:D≠C:=af.symm;simp(disch:=omega)only[go_sem,n1,n2,n3,hl,aa,ha,ag,af,ac,ad,<-ah];refine Ak (by kernel_rfl) (.take 0 (.take 1 (.take 2 (.take 3 (.take 4 (.take 5 (.take 6 (.take 7 (.go 8 [] (.take 9 (.take 10 (.take 11 (.take 12 (.take 13 (.take 14 (.go 15 [11] (.go 16 [] (.take 17 (.take 18 .done))))))))))))))))))) (by kernel_rfl) ?_;have q1:J≠C:=n1.symm;have q2:J≠I:=n2.symm;have q3:J≠D:=n3.symm;obtain⟨S,ab⟩: ∃S,S=upd (upd H J (some (.cells (dEx x) 27))) C (some (.cells [.int .i64 s1] 3)):=⟨_,rfl⟩;have V:Zp C H S:=by rw[ab];exact((Zp.refl C H).new X _).set _
  have E:S C=some (.cells [.int .i64 s1] 3):=by rw[ab];exact Aa _ _ _
  have L:S I=some (.cells [.int .i64 d] 3):=V _ _ ac aa;have M:S D=some (.cells [.func (.func 67) [] [.optr C 0, .optr D 0]] 119):=V _ _ ad ha;have O:S J=some (.cells (dEx x) 27):=by rw[ab];simp [upd,q1]
  rw[<-ab];have sv: ∀b:Bool,0<=s->s<=256->s1=s-1:=fun _ h0 h1=>by rw[ah,IntKind.wrap_i64];omega
  have ai:(Hx x:Int)=1+(Py (parts x):Int):=by rw[Tb x];omega
  by_cases c1:0<=s1
  ·by_cases c2:d<=32
   ·have ae:(d:Int)<=32:=by omega
    simp(disch:=omega)only[go_sem,E,L,M,O,c1,ae];refine(Cu8 hG _ x hx.big hx.s).mono ?_;rintro _ H5 ⟨rfl,rfl⟩;cases hf:Bg x with
    | true=>
     have aj:IntKind.i64.wrap ((d:Int)+1)=((d+1:Nat):Int):=by rw[IntKind.wrap_i64];omega
     simp(disch:=omega)only[go_sem,E,L,M,O,aj];refine(Bn7 G _ ((d+1:Nat):Int) C D).mono ?_;rintro _ H6 ⟨U,Y,rfl,rfl⟩;have Z:C≠U:=Af Y E;have p2:D≠U:=Af Y M;have p3:I≠U:=Af Y L;have p4:J≠U:=Af Y O;have ak:Zp C H (upd H5 U (some (Wt ((d+1:Nat):Int)))):=V.new Y _;simp(disch:=omega)only[go_sem,E,L,M,O,Z,p3,p4];refine(Eh4 G _ x hx.big 68 [] [.optr C 0, .optr U 0, .optr D 0] (Gl5 (d+1)) C s1 (by simp only[upd,if_neg Z];exact E) fun y hy t K hK W=>ih y hy K (d+1) t U (hx.parts hy) (by omega) hK (W _ _ Z.symm (Aa _ _ _)) Z (W _ _ ad (by simp only[upd,if_neg p2];exact M))).mono ?_;rintro _ H7 ⟨b,t,rfl,hR,ht,W⟩;have k2:H7 I=some (.cells [.int .i64 d] 3):=W _ _ ac (by simp only[upd,if_neg p3];exact L);have k4:H7 J=some (.cells (dEx x) 27):=W _ _ q1 (by simp only[upd,if_neg p4];exact O);simp(disch:=omega)only[go_sem,E,L,M,O,Z,p3,p4,k2,k4]
     trace_state
     refine Fa.refl ⟨b,t,rfl,fun h0 h1=> ?_,ht,ak.trans W⟩;have e1:=sv true h0 h1;obtain⟨w1,w2⟩:=Du1 (d+1) _ _ _ _ hR c1 (by omega);refine⟨?_,fun hb=>by rw[w2 hb,ai];omega⟩;rw[w1,Qt,hf,decide_eq_true c2,jS,jS];congr 1;exact decide_eq_decide.2 ⟨fun h=>by omega,fun h=>by omega⟩
    | false=>
     simp(disch:=omega)only[go_sem,E,L,M,O];refine Fa.refl ⟨false,s1,rfl,fun _ _=>⟨?_,fun h=>(by cases h)⟩,E,V⟩;rw[Qt,hf,Bool.and_false,jT,jT]
   ·have ae: ¬(d:Int)<=32:=by omega
    simp(disch:=omega)only[go_sem,E,L,M,O,c1,ae];refine Fa.refl ⟨false,s1,rfl,fun _ _=>⟨?_,fun h=>(by cases h)⟩,E,V⟩;rw[Qt,decide_eq_false c2,jT,jT,jT]
  ·simp(disch:=omega)only[go_sem,E,L,M,O,c1];refine Fa.refl ⟨false,s1,rfl,fun h0 h1=>⟨?_,fun h=>(by cases h)⟩,E,V⟩;have:=sv true h0 h1;rw[decide_eq_false (by omega),Bool.and_false]
theorem Ab7 (hG:GX G) (H:Ac) (e:Ex) (he:Fit e):Ag Tryz.prog G 12 [.agg (dEx e)] H (Ax (.bool (Ci e)) H):=by
 refine Ab Tryz.func12 Tryz.call12 rfl (by kernel_rfl) ?_;simp(disch:=omega)only[go_sem,DVal.cells];intro E aa;dsimp only at aa;simp(disch:=omega)only[go_sem,DVal.cells];intro D W;dsimp only at W;obtain⟨m1,M,ac⟩:=Ba.1 W;simp(disch:=omega)only[go_sem,DVal.cells,m1,M];intro C X;dsimp only at X;obtain⟨p1,Y,ad⟩:=Ba.1 X;obtain⟨p3,p4,ae⟩:=Ba.1 ad;simp(disch:=omega)only[go_sem,DVal.cells,m1,M,p1,Y,p3,p4];have ab:Sub H (upd (upd (upd H E (some (.cells (dEx e) 27))) D (some (Wt 256))) C (some (.cells [.func (.func 67) [] [.optr D 0, .optr C 0]] 119))):=((Sub.refl H).new aa _ |>.new W _).new X _;have J:upd (upd (upd H E (some (.cells (dEx e) 27))) D (some (Wt 256))) C (some (.cells [.func (.func 67) [] [.optr D 0, .optr C 0]] 119)) E=some (.cells (dEx e) 27):=by simp [upd,M,p4]
 have L:upd (upd (upd H E (some (.cells (dEx e) 27))) D (some (Wt 256))) C (some (.cells [.func (.func 67) [] [.optr D 0, .optr C 0]] 119)) D=some (Wt 256):=by simp [upd,Y]
 have I:upd (upd (upd H E (some (.cells (dEx e) 27))) D (some (Wt 256))) C (some (.cells [.func (.func 67) [] [.optr D 0, .optr C 0]] 119)) C=some (.cells [.func (.func 67) [] [.optr D 0, .optr C 0]] 119):=Aa _ _ _;change dwp _ _ _ _ _ ⟨_,upd (upd (upd H E (some (.cells (dEx e) 27))) D (some (Wt 256))) C (some (.cells [.func (.func 67) [] [.optr D 0, .optr C 0]] 119))⟩;generalize upd (upd (upd H E (some (.cells (dEx e) 27))) D (some (Wt 256))) C (some (.cells [.func (.func 67) [] [.optr D 0, .optr C 0]] 119))=K at ab J L I;refine Ak (by kernel_rfl) (.take 0 (.take 2 (.go 1 [2] (.go 3 [] (.take 4 .done))))) (by kernel_rfl) ?_;simp(disch:=omega)only[go_sem,J,L,I];refine(Bn7 G _ 1 D C).mono ?_;rintro _ H6 ⟨O,S,rfl,rfl⟩;have Z:E≠O:=Af S J;have U:D≠O:=Af S L;have V:C≠O:=Af S I;simp(disch:=omega)only[go_sem,J,L,I,Z,U,V];refine(Eh9 hG D C Y e _ 1 256 O he (by decide) (by simp only[upd,if_neg U];exact L) (Aa _ _ _) U (by simp only[upd,if_neg V];exact I)).mono ?_;rintro _ H7 ⟨b,t,rfl,hR,ht,hT⟩;obtain⟨w1,_⟩:=hR (by decide) (by decide);have z1:H7 E=some (.cells (dEx e) 27):=hT _ _ M (by simp only[upd,if_neg Z];exact J);have z4:H7 C=some (.cells [.func (.func 67) [] [.optr D 0, .optr C 0]] 119):=hT _ _ p1 (by simp only[upd,if_neg V];exact I);simp(disch:=omega)only[go_sem,J,L,I,Z,U,V,z1,z4];refine Fa.sub (hT.sub (ab.new S _) ac) (Fa.refl ⟨?_,rfl⟩);rw[w1,Ci];have:((Hx e:Int)<=256)↔Hx e<=256:=by omega
 simp only[this]
end
def Mh (H':Ac) (v:DVal) (H:Ac) (v':DVal):Prop:= ∀w,Bm w H'-> ∀x,Rel w H' v x->Rel w H v' x
def Lf (H':Ac) (vs:List DVal) (H:Ac) (vs':List DVal):Prop:= ∀w,Bm w H'-> ∀xs,Az w H' vs xs->Az w H vs' xs
section
variable {H H':Ac}
theorem Mh.keep (h:Sub H H') (v:DVal):Mh H' v H v:=fun w _ x hx=>Rel.lasts (El h w) _ _ hx
theorem Mh.le {v C:DVal} (h:Sub H H') (k:DLe v C):Mh H' v H C:=fun w _ x hx=>Rel.lasts (El h w) _ _ (k w H' x hx)
theorem Mh.own {e:TypeId} {size n:Nat} {cs:List DVal} {v:DVal} (h:Jw H e size n cs v H'):Mh H' v H (.vslice cs n):=fun w hw x hx=>(h.ghost w hw).2.2 x hx
theorem Mh.block {e:TypeId} {size r n:Nat} {cs:List DVal} (h:Sub H H') (hr:H r=none) (C:H' r=some (.cells cs e)) (hl:cs.length=n*size):Mh H' (.oslice size r 0 n n) H (.vslice cs n):=
 Mh.own (e:=e) (.inr ⟨r,hr,hl,rfl,C,h⟩)
theorem Lf.nil:Lf H' [] H []:=fun w _ xs hx=>by simpa [Az] using hx
theorem Lf.cons {v C:DVal} {vs D:List DVal} (h:Mh H' v H C) (k:Lf H' vs H D):Lf H' (v::vs) H (C::D):=fun w hw xs hx=>by
 simp only[Az] at hx⊢
 obtain⟨y,ys,rfl,h1,h2⟩:=hx;exact⟨y,ys,rfl,h w hw y h1,k w hw ys h2⟩
theorem Lf.keep (h:Sub H H') (vs:List DVal):Lf H' vs H vs:=fun w _ xs hx=>Az.lasts (El h w) _ _ hx
theorem Lf.append {a C b D:List DVal} (h:Lf H' a H C) (k:Lf H' b H D):Lf H' (a++b) H (C++D):=fun w hw x hx=>by
 have e:x=x.take a.length++x.drop a.length:=(List.take_append_drop _ _).symm;have h1:=hx.take a.length;have h2:=hx.drop a.length;rw[List.take_left] at h1;rw[List.drop_left] at h2;rw[e];exact(h w hw _ h1).append (k w hw _ h2)
theorem Mh.agg {vs C:List DVal} (h:Lf H' vs H C):Mh H' (.agg vs) H (.agg C):=fun w hw x hx=>by
 simp only[Rel] at hx⊢
 obtain⟨xs,rfl,h1⟩:=hx;exact⟨xs,rfl,h w hw _ h1⟩
theorem Mh.tuple {vs C:List DVal} (h:Lf H' vs H C):Mh H' (.tuple vs) H (.tuple C):=fun w hw x hx=>by
 simp only[Rel] at hx⊢
 obtain⟨xs,rfl,h1⟩:=hx;exact⟨xs,rfl,h w hw _ h1⟩
theorem Mh.nil (h:Sub H H'):Mh H' .nilSlice H (.vslice [] 0):=Mh.le h .nil
theorem Mh.cells {e:TypeId} {size r n:Nat} {cs cs':List DVal} (h:Sub H H') (hr:H r=none) (C:H' r=some (.cells cs e)) (hl:cs.length=n*size) (hs:Lf H' cs H cs'):Mh H' (.oslice size r 0 n n) H (.vslice cs' n):=fun w hw x hx=>by
 obtain⟨_,_,J⟩:=Mb.fz (v:= .oslice size r 0 n n) C w hw;obtain⟨ys,L,M⟩:=Aa6 hw C;simp only[Rel] at hx⊢
 obtain⟨o,cap,rfl,h1,h2,h3,h4⟩:=hx;refine⟨_,cap,rfl,h2, ?_⟩;by_cases h0:cs= []
 ·subst h0;have:=hs w hw [] (by simp [Az]);cases cs' with
  | nil=>exact .inl rfl
  | cons c cs'=>simp [Az] at this
 ·obtain⟨D,E,hh⟩:=hw.holds C;have ho:o=0:=by
   rcases h3 with h3 | h3
   ·exfalso;have:n=0:=by omega
    subst this;rw[Nat.zero_mul] at hl;exact h0 (List.length_eq_zero_iff.1 hl)
   ·exact h3
  subst ho;exact .inr ⟨r,0,D,rfl, .inr ⟨hr,fun i y I=>by simpa using hh i y I⟩,hs w hw D E⟩
theorem Mh.fin {R:DEnd->Ac->Prop} {v C:DVal} (hs:Sub H H') (h:Mh H' v H C) (k:R (.ret C) H):Fa R v H':= .ghost (fun w hw=>⟨((Mb.sub hs v) w hw).1,((Mb.sub hs v) w hw).2.1,h w hw⟩) (.refl k)
theorem Lf.call {P:Program} {G:Nat->DVal} {f:FuncId} {args args':List DVal} {R:DEnd->Ac->Prop} (hs:Sub H H') (h:Lf H' args H args') (k:Ag P G f args' H R):Ag P G f args H' R:=
 Ag.pre (fun w hw=>⟨((Mb.sub hs (.tuple args)) w hw).1,((Mb.sub hs (.tuple args)) w hw).2.1,Mh.tuple h w hw⟩) k
theorem Lf.lent {P:Program} {G:Nat->DVal} {f:FuncId} {args args':List DVal} {v:DVal} (h:Lf H' args H args') (k:Ag P G f args' h0 (Ax v h0)) (hv:Ap7 v=true):Ag P G f args H' (Ax v H'):=
 k.lent (fun w vs hw hr=>Az.lasts (Cs6 H w) _ _ (h w hw vs hr)) hv
theorem Mh.ex {k o n:Int} {s:List UInt8} {C D:DVal} {l:List Ex} {a:List As} {li en t:Int} (hs:Sub H H') (hl:Mh H' C H (dXs l)) (ha:Mh H' D H (dAl a)):
  Lf H' [.int .u8 k, .int .u8 o, .int .i64 n, .str s,C,D, .int .i64 li, .int .i64 en, .int .i64 t] H (dEx (.mk k o n s l a li en t)):=by
 rw[Xz];exact .cons (.keep hs _) (.cons (.keep hs _) (.cons (.keep hs _) (.cons (.keep hs _) (.cons hl (.cons ha (.keep hs _))))))
theorem Mh.exs0 (hs:Sub H H'):Mh H' .nilSlice H (dXs []):=Mh.nil hs
theorem Mh.as0 (hs:Sub H H'):Mh H' .nilSlice H (dAl []):=Mh.nil hs
theorem Mh.ch0 (hs:Sub H H'):Mh H' .nilSlice H (dCl []):=Mh.nil hs
end
section
variable {G:Nat->DVal} {H:Ac}
theorem Cv0 (hG:GX G) (H:Ac) (e:Ex) (he:Fit e):Ag Tryz.prog G 77 ([]++ [.agg (dEx e)]++ []) H (Ax (.bool (!Ci e)) H):=by
 refine Ab Tryz.func77 Tryz.call77 rfl (by kernel_rfl) ?_;simp(disch:=omega)only[go_sem,DVal.cells,jG,jH];intro r hr;dsimp only at hr;simp(disch:=omega)only[go_sem];refine(Ab7 hG _ e he).mono ?_;rintro _ H1 ⟨rfl,rfl⟩;simp(disch:=omega)only[go_sem];exact Fa.dropA r hr (Fa.refl ⟨rfl,rfl⟩)
theorem Cv1 (hG:GX G) (H:Ac) (c:Ch) (C: ∀x∈c.l,Fit x) (hl:c.l.length<=1099511627776):Ag Tryz.prog G 75 ([]++ [.agg (dCh c)]++ []) H (Ax (.bool (!c.l.all Ci)) H):=by
 refine Ab Tryz.func75 Tryz.call75 rfl (by kernel_rfl) ?_;simp(disch:=omega)only[go_sem,DVal.cells,jG,jH];intro r hr;dsimp only at hr;simp(disch:=omega)only[go_sem];refine(Ak3 G _ (fun e=>!Ci e) c.l 77 [] [] hl fun x hx=>Cv0 hG _ x (C x hx)).mono ?_;rintro _ H1 ⟨rfl,rfl⟩;rw[Yb];simp(disch:=omega)only[go_sem];exact Fa.dropA r hr (Fa.refl ⟨rfl,rfl⟩)
theorem Ob (hG:GX G) (H:Ac) (l:List Ch) (hb:Jk l<=1000000000000) (hk:Wu l):Ag Tryz.prog G 16 [dCl l] H (Ax (.bool (Kq l)) H):=by
 have C:=Ws l;refine Ab Tryz.func16 Tryz.call16 rfl (by kernel_rfl) ?_;simp(disch:=omega)only[go_sem,dCl];refine(Ak4 G _ l (by omega)).mono ?_;rintro _ H1 ⟨rfl,rfl⟩;cases h:Dr l with
 | false=>
  simp(disch:=omega)only[go_sem];exact Fa.refl ⟨by rw[Kq,h,jT],rfl⟩
 | true=>
  simp(disch:=omega)only[go_sem];refine(Bn0 G H1 (fun c=>!c.l.all Ci) l 75 [] [] (by omega) fun c hc=> ?_).mono ?_
  ·have h1:=Tc hc;have h2:=Wr c.l;rw[Vm] at h1;refine Cv1 hG _ c (fun x hx=> ?_) (by omega);have h3:=Ab5 hx;exact⟨by omega,Bg8 (Gl2.1 (Aq7 hk c hc)) x hx⟩
  ·rintro _ H2 ⟨rfl,rfl⟩;rw[Yb];simp(disch:=omega)only[go_sem];exact Fa.refl ⟨by rw[Kq,h,jS,Bool.not_not],rfl⟩
end
def eqF {α:Type} (p:α->α->Bool):List α->List α->Bool
 | [],[]=>true
 | x::l,y::m=>p x y&&eqF p l m
 | _,_=>false
theorem Du2 {α:Type} {p:α->α->Bool}: ∀ {l m:List α},eqF p l m=true->l.length=m.length
 | [],[],_=>rfl
 | [],_::_,h=>by cases h
 | _::_,[],h=>by cases h
 | x::l,y::m,h=>by
  rw[eqF,jF] at h;rw[jA,jA,Du2 h.2]
theorem Ay4 {α:Type} {p:α->α->Bool} {l m:List α} (h:l.length≠m.length):eqF p l m=false:=by
 cases e:eqF p l m with
 | false=>rfl
 | true=>exact absurd (Du2 e) h
theorem Wv {α:Type} {p:α->α->Bool} {l m:List α} {k:Nat} (h1:k<l.length) (h2:k<m.length):eqF p (l.drop k) (m.drop k)=(p l[k] m[k]&&eqF p (l.drop (k+1)) (m.drop (k+1))):=by
 rw[List.drop_eq_getElem_cons h1,List.drop_eq_getElem_cons h2,eqF]
theorem Ak5: ∀l m:List Ex,Me l m=eqF Fw l m
 | [],[]=>by simp [Me,eqF]
 | [],_::_=>by simp [Me,eqF]
 | _::_,[]=>by simp [Me,eqF]
 | x::l,y::m=>by rw[Me,eqF,Ak5 l m]
theorem Bn8: ∀l m:List As,Og l m=eqF Bc8 l m
 | [],[]=>by simp [Og,eqF]
 | [],_::_=>by simp [Og,eqF]
 | _::_,[]=>by simp [Og,eqF]
 | x::l,y::m=>by rw[Og,eqF,Bn8 l m]
theorem Bn9: ∀l m:List Ch,Kx l m=eqF Bc9 l m
 | [],[]=>by simp [Kx,eqF]
 | [],_::_=>by simp [Kx,eqF]
 | _::_,[]=>by simp [Kx,eqF]
 | x::l,y::m=>by rw[Kx,eqF,Bn9 l m]
theorem Fa3 (x y:As):Bc8 x y=(Kx x.c y.c&&Fw x.e y.e):=by cases x;rw[Bc8];rfl
theorem Fa4 (x y:Ch):Bc9 x y=(decide (x.kind=y.kind)&&Me x.l y.l):=by cases x;rw[Bc9];rfl
theorem Du3 (G:Nat->DVal) (H:Ac) (p:Ex->Ex->Bool) (l m:List Ex) (g:FuncId) (hl:l.length<=1099511627776)
  (hp: ∀x∈l,∀y∈m,∀H,Ag Tryz.prog G g ([]++ [.agg (dEx x), .agg (dEx y)]++ []) H (Ax (.bool (p x y)) H)):
  Ag Tryz.prog G 71 [.vslice (l.flatMap dEx) l.length, .vslice (m.flatMap dEx) m.length, .func (.func g) [] []] H (Ax (.bool (eqF p l m)) H):=by
 refine Ab Tryz.func71 Tryz.call71 rfl (by kernel_rfl) ?_;by_cases ab:l.length=m.length
 ·have S:(l.length:Int)=(m.length:Int):=by omega
  simp(disch:=omega)only[go_sem,S];obtain⟨I,U⟩: ∃I:Nat->(Nat->DVal)->Ac->Prop,∀k env heap,I k env heap↔(env 0= .vslice (l.flatMap dEx) l.length/\env 1= .vslice (m.flatMap dEx) m.length/\env 2= .func (.func g) [] []/\env 15= .vslice (l.flatMap dEx) l.length/\env 16=dI m.length/\env 17=dI k/\k<=l.length/\eqF p l m=eqF p (l.drop k) (m.drop k)/\Sub H heap):=⟨_,fun _ _ _=>Iff.rfl⟩;refine Dr7.run I (fun k=>l.length-k) 0 ((U _ _ _).2 ?_) ?_
  ·simp(disch:=omega)only[go_sem];(repeat' apply And.intro)<;>(try first | rfl | assumption | omega);exact Sub.refl _
  ·intro k env heap hi;obtain⟨C,e1,D,E,J,L,hk,M,ac⟩:=(U _ _ _).1 hi;have hfl:=Aw Ad l;have V:=Aw Ad m;by_cases W:k<l.length
   ·have O:(k:Int)<(m.length:Int):=by omega
    have ad:(k:Int)<(l.length:Int):=by omega
    have X:k<m.length:=by omega
    have Y:=Co Ad l k W;have Z:=Co Ad m k X;have af:IntKind.i64.wrap ((k:Int)+1)=((k+1:Nat):Int):=by rw[IntKind.wrap_i64];omega
    simp(disch:=omega)only[go_sem,C,e1,D,E,J,L,O,ad,Y,Z,hfl,V,jD];intro r8 ae;dsimp only at ae;simp(disch:=omega)only[go_sem,C,e1,D,E,J,L,O,ad,Y,Z,hfl,V,jD];intro r9 aa;dsimp only at aa;obtain⟨m2,m1,ah⟩:=Ba.1 aa;simp(disch:=omega)only[go_sem,C,e1,D,E,J,L,m1,m2,Y,Z,hfl,V,jD];refine(hp l[k] (List.getElem_mem W) m[k] (List.getElem_mem X) _).mono ?_;rintro _ H1 ⟨rfl,rfl⟩;rw[Wv W X] at M;have ag:=(ac.new ae (some (DObj.cells (dEx l[k]) 27))).new aa (some (DObj.cells (dEx m[k]) 27));cases hb:p l[k] m[k] with
    | true=>
     rw[hb,jS] at M;simp(disch:=omega)only[go_sem,C,e1,D,E,J,L];refine⟨k+1,_,Rz.refl _,(U _ _ _).2 ?_,by omega⟩;simp(disch:=omega)only[go_sem,C,e1,D,E,J,L,af];(repeat' apply And.intro)<;>(try first | rfl | assumption | omega)
    | false=>
     rw[hb,jT] at M;simp(disch:=omega)only[go_sem,C,e1,D,E,J,L];exact Fa.sub ag (Fa.refl ⟨by rw[M],rfl⟩)
   ·have:k=l.length:=by omega
    subst this;have O: ¬(l.length:Int)<(m.length:Int):=by omega
    simp(disch:=omega)only[go_sem,C,e1,D,E,J,L,O];refine Fa.sub ac (Fa.refl ⟨?_,rfl⟩);rw[M,List.drop_length,ab,List.drop_length];rfl
 ·have S: ¬(l.length:Int)=(m.length:Int):=by omega
  simp(disch:=omega)only[go_sem,S];exact Fa.refl ⟨by rw[Ay4 ab],rfl⟩
theorem Fv5 (G:Nat->DVal) (H:Ac) (p:As->As->Bool) (l m:List As) (g:FuncId) (hl:l.length<=1099511627776)
  (hp: ∀x∈l,∀y∈m,∀H,Ag Tryz.prog G g ([]++ [.agg (dAs x), .agg (dAs y)]++ []) H (Ax (.bool (p x y)) H)):
  Ag Tryz.prog G 182 [.vslice (l.flatMap dAs) l.length, .vslice (m.flatMap dAs) m.length, .func (.func g) [] []] H (Ax (.bool (eqF p l m)) H):=by
 refine Ab Tryz.func182 Tryz.call182 rfl (by kernel_rfl) ?_;by_cases ab:l.length=m.length
 ·have S:(l.length:Int)=(m.length:Int):=by omega
  simp(disch:=omega)only[go_sem,S];obtain⟨I,U⟩: ∃I:Nat->(Nat->DVal)->Ac->Prop,∀k env heap,I k env heap↔(env 0= .vslice (l.flatMap dAs) l.length/\env 1= .vslice (m.flatMap dAs) m.length/\env 2= .func (.func g) [] []/\env 15= .vslice (l.flatMap dAs) l.length/\env 16=dI m.length/\env 17=dI k/\k<=l.length/\eqF p l m=eqF p (l.drop k) (m.drop k)/\Sub H heap):=⟨_,fun _ _ _=>Iff.rfl⟩;refine Dr7.run I (fun k=>l.length-k) 0 ((U _ _ _).2 ?_) ?_
  ·simp(disch:=omega)only[go_sem];(repeat' apply And.intro)<;>(try first | rfl | assumption | omega);exact Sub.refl _
  ·intro k env heap hi;obtain⟨C,e1,D,E,J,L,hk,M,ac⟩:=(U _ _ _).1 hi;have hfl:=Aw Gj l;have V:=Aw Gj m;by_cases W:k<l.length
   ·have O:(k:Int)<(m.length:Int):=by omega
    have ad:(k:Int)<(l.length:Int):=by omega
    have X:k<m.length:=by omega
    have Y:=Co Gj l k W;have Z:=Co Gj m k X;have af:IntKind.i64.wrap ((k:Int)+1)=((k+1:Nat):Int):=by rw[IntKind.wrap_i64];omega
    simp(disch:=omega)only[go_sem,C,e1,D,E,J,L,O,ad,Y,Z,hfl,V,jD];intro r8 ae;dsimp only at ae;simp(disch:=omega)only[go_sem,C,e1,D,E,J,L,O,ad,Y,Z,hfl,V,jD];intro r9 aa;dsimp only at aa;obtain⟨m2,m1,ah⟩:=Ba.1 aa;simp(disch:=omega)only[go_sem,C,e1,D,E,J,L,m1,m2,Y,Z,hfl,V,jD];refine(hp l[k] (List.getElem_mem W) m[k] (List.getElem_mem X) _).mono ?_;rintro _ H1 ⟨rfl,rfl⟩;rw[Wv W X] at M;have ag:=(ac.new ae (some (DObj.cells (dAs l[k]) 44))).new aa (some (DObj.cells (dAs m[k]) 44));cases hb:p l[k] m[k] with
    | true=>
     rw[hb,jS] at M;simp(disch:=omega)only[go_sem,C,e1,D,E,J,L];refine⟨k+1,_,Rz.refl _,(U _ _ _).2 ?_,by omega⟩;simp(disch:=omega)only[go_sem,C,e1,D,E,J,L,af];(repeat' apply And.intro)<;>(try first | rfl | assumption | omega)
    | false=>
     rw[hb,jT] at M;simp(disch:=omega)only[go_sem,C,e1,D,E,J,L];exact Fa.sub ag (Fa.refl ⟨by rw[M],rfl⟩)
   ·have:k=l.length:=by omega
    subst this;have O: ¬(l.length:Int)<(m.length:Int):=by omega
    simp(disch:=omega)only[go_sem,C,e1,D,E,J,L,O];refine Fa.sub ac (Fa.refl ⟨?_,rfl⟩);rw[M,List.drop_length,ab,List.drop_length];rfl
 ·have S: ¬(l.length:Int)=(m.length:Int):=by omega
  simp(disch:=omega)only[go_sem,S];exact Fa.refl ⟨by rw[Ay4 ab],rfl⟩
theorem Fv6 (G:Nat->DVal) (H:Ac) (p:Ch->Ch->Bool) (l m:List Ch) (g:FuncId) (hl:l.length<=1099511627776)
  (hp: ∀x∈l,∀y∈m,∀H,Ag Tryz.prog G g ([]++ [.agg (dCh x), .agg (dCh y)]++ []) H (Ax (.bool (p x y)) H)):
  Ag Tryz.prog G 213 [.vslice (l.flatMap dCh) l.length, .vslice (m.flatMap dCh) m.length, .func (.func g) [] []] H (Ax (.bool (eqF p l m)) H):=by
 refine Ab Tryz.func213 Tryz.call213 rfl (by kernel_rfl) ?_;by_cases ab:l.length=m.length
 ·have S:(l.length:Int)=(m.length:Int):=by omega
  simp(disch:=omega)only[go_sem,S];obtain⟨I,U⟩: ∃I:Nat->(Nat->DVal)->Ac->Prop,∀k env heap,I k env heap↔(env 0= .vslice (l.flatMap dCh) l.length/\env 1= .vslice (m.flatMap dCh) m.length/\env 2= .func (.func g) [] []/\env 15= .vslice (l.flatMap dCh) l.length/\env 16=dI m.length/\env 17=dI k/\k<=l.length/\eqF p l m=eqF p (l.drop k) (m.drop k)/\Sub H heap):=⟨_,fun _ _ _=>Iff.rfl⟩;refine Dr7.run I (fun k=>l.length-k) 0 ((U _ _ _).2 ?_) ?_
  ·simp(disch:=omega)only[go_sem];(repeat' apply And.intro)<;>(try first | rfl | assumption | omega);exact Sub.refl _
  ·intro k env heap hi;obtain⟨C,e1,D,E,J,L,hk,M,ac⟩:=(U _ _ _).1 hi;have hfl:=Aw Gs l;have V:=Aw Gs m;by_cases W:k<l.length
   ·have O:(k:Int)<(m.length:Int):=by omega
    have ad:(k:Int)<(l.length:Int):=by omega
    have X:k<m.length:=by omega
    have Y:=Co Gs l k W;have Z:=Co Gs m k X;have af:IntKind.i64.wrap ((k:Int)+1)=((k+1:Nat):Int):=by rw[IntKind.wrap_i64];omega
    simp(disch:=omega)only[go_sem,C,e1,D,E,J,L,O,ad,Y,Z,hfl,V,jD];intro r8 ae;dsimp only at ae;simp(disch:=omega)only[go_sem,C,e1,D,E,J,L,O,ad,Y,Z,hfl,V,jD];intro r9 aa;dsimp only at aa;obtain⟨m2,m1,ah⟩:=Ba.1 aa;simp(disch:=omega)only[go_sem,C,e1,D,E,J,L,m1,m2,Y,Z,hfl,V,jD];refine(hp l[k] (List.getElem_mem W) m[k] (List.getElem_mem X) _).mono ?_;rintro _ H1 ⟨rfl,rfl⟩;rw[Wv W X] at M;have ag:=(ac.new ae (some (DObj.cells (dCh l[k]) 47))).new aa (some (DObj.cells (dCh m[k]) 47));cases hb:p l[k] m[k] with
    | true=>
     rw[hb,jS] at M;simp(disch:=omega)only[go_sem,C,e1,D,E,J,L];refine⟨k+1,_,Rz.refl _,(U _ _ _).2 ?_,by omega⟩;simp(disch:=omega)only[go_sem,C,e1,D,E,J,L,af];(repeat' apply And.intro)<;>(try first | rfl | assumption | omega)
    | false=>
     rw[hb,jT] at M;simp(disch:=omega)only[go_sem,C,e1,D,E,J,L];exact Fa.sub ag (Fa.refl ⟨by rw[M],rfl⟩)
   ·have:k=l.length:=by omega
    subst this;have O: ¬(l.length:Int)<(m.length:Int):=by omega
    simp(disch:=omega)only[go_sem,C,e1,D,E,J,L,O];refine Fa.sub ac (Fa.refl ⟨?_,rfl⟩);rw[M,List.drop_length,ab,List.drop_length];rfl
 ·have S: ¬(l.length:Int)=(m.length:Int):=by omega
  simp(disch:=omega)only[go_sem,S];exact Fa.refl ⟨by rw[Ay4 ab],rfl⟩
def Ay5 (P:Program) (G:Nat->DVal) (f:FuncId) (x:Ex):Prop:= ∀y H,Ag P G f ([]++ [.agg (dEx x), .agg (dEx y)]++ []) H (Ax (.bool (Fw x y)) H)
theorem Dk2 (G:Nat->DVal) (H:Ac) (x y:Ch) (hl:x.l.length<=1099511627776) (I: ∀e∈x.l,Ay5 Tryz.prog G 13 e):Ag Tryz.prog G 214 ([]++ [.agg (dCh x), .agg (dCh y)]++ []) H (Ax (.bool (Bc9 x y)) H):=by
 rw[Fa4,Ak5];refine Ab Tryz.func214 Tryz.call214 rfl (by kernel_rfl) ?_;simp(disch:=omega)only[go_sem,DVal.cells,jG,jH];intro L J;dsimp only at J;simp(disch:=omega)only[go_sem,DVal.cells];intro M C;dsimp only at C;obtain⟨D,E,O⟩:=Ba.1 C;by_cases h1:x.kind=y.kind
 ·simp(disch:=omega)only[go_sem,E,D,h1];refine(Du3 G _ Fw x.l y.l 13 hl fun e he f _ K=>I e he f K).mono ?_;rintro _ H1 ⟨rfl,rfl⟩;simp(disch:=omega)only[go_sem];exact Fa.sub (show Sub H _ from(by repeat (first | exact Sub.refl _ | assumption | refine Sub.up ?_ (by assumption) _))) (Fa.refl ⟨by simp,rfl⟩)
 ·simp(disch:=omega)only[go_sem,E,D,h1];exact Fa.sub (show Sub H _ from(by repeat (first | exact Sub.refl _ | assumption | refine Sub.up ?_ (by assumption) _))) (Fa.refl ⟨by simp,rfl⟩)
theorem Cb0 (G:Nat->DVal) (H:Ac) (l m:List Ch) (hl:Jk l<=1099511627776) (C: ∀e∈l.flatMap Ch.l,Ay5 Tryz.prog G 13 e):Ag Tryz.prog G 116 [dCl l,dCl m] H (Ax (.bool (Kx l m)) H):=by
 have D:=Ws l;refine Ab Tryz.func116 Tryz.call116 rfl (by kernel_rfl) ?_;simp(disch:=omega)only[go_sem,dCl];refine(Fv6 G _ Bc9 l m 214 (by omega) fun c hc d _ K=>Dk2 G K c d (by have:=Tc hc;have:=Wr c.l;rw[Vm] at*;omega) fun e he=>C e (List.mem_flatMap.2 ⟨c,hc,he⟩)).mono ?_;rintro _ H1 ⟨rfl,rfl⟩;simp(disch:=omega)only[go_sem];exact Fa.refl ⟨by rw[Bn9],rfl⟩
theorem Dk3 (G:Nat->DVal) (H:Ac) (x y:As) (hl:Ya x<=1099511627776) (E: ∀e∈Fc x,Ay5 Tryz.prog G 13 e):Ag Tryz.prog G 183 ([]++ [.agg (dAs x), .agg (dAs y)]++ []) H (Ax (.bool (Bc8 x y)) H):=by
 have hb:=Aq4 x;have dx:=Cu3 x;have dy:=Cu3 y;rw[Fa3];refine Ab Tryz.func183 Tryz.call183 rfl (by kernel_rfl) ?_;simp(disch:=omega)only[go_sem,DVal.cells,jG,jH];intro L J;dsimp only at J;simp(disch:=omega)only[go_sem,DVal.cells];intro M I;dsimp only at I;obtain⟨C,D,O⟩:=Ba.1 I;simp(disch:=omega)only[go_sem,D,C];refine(Cb0 G _ x.c y.c (by omega) fun e he=>E e (List.mem_append_left _ he)).mono ?_;rintro _ H1 ⟨rfl,rfl⟩;cases h:Kx x.c y.c with
 | false=>
  simp(disch:=omega)only[go_sem,D,C];exact Fa.sub (show Sub H _ from(by repeat (first | exact Sub.refl _ | assumption | refine Sub.up ?_ (by assumption) _))) (Fa.refl ⟨by simp,rfl⟩)
 | true=>
  simp(disch:=omega)only[go_sem,D,C,dx,dy];refine(E x.e (Pj x) y.e _).mono ?_;rintro _ H1 ⟨rfl,rfl⟩;simp(disch:=omega)only[go_sem];exact Fa.sub (show Sub H _ from(by repeat (first | exact Sub.refl _ | assumption | refine Sub.up ?_ (by assumption) _))) (Fa.refl ⟨by simp,rfl⟩)
theorem Cv2 (G:Nat->DVal) (H:Ac) (l m:List As) (hl:Fx l<=1099511627776) (C: ∀e∈l.flatMap Fc,Ay5 Tryz.prog G 13 e):Ag Tryz.prog G 72 [dAl l,dAl m] H (Ax (.bool (Og l m)) H):=by
 have D:=Ay2 l;refine Ab Tryz.func72 Tryz.call72 rfl (by kernel_rfl) ?_;simp(disch:=omega)only[go_sem,dAl];refine(Fv5 G _ Bc8 l m 183 (by omega) fun a ha b _ K=>Dk3 G K a b (by have:=Ay1 ha;omega) fun e he=>C e (List.mem_flatMap.2 ⟨a,ha,he⟩)).mono ?_;rintro _ H1 ⟨rfl,rfl⟩;simp(disch:=omega)only[go_sem];exact Fa.refl ⟨by rw[Bn8],rfl⟩
theorem Du4 (G:Nat->DVal): ∀x:Ex,Fo x<=1099511627776->Ay5 Tryz.prog G 13 x:=by
 intro x
 induction x using Ex.ind with
 | h x ih=>
  intro hb y H;have L:=Aq3 x;have M:=Wr x.l;have E: ∀e∈parts x,Ay5 Tryz.prog G 13 e:=fun e he=>ih e he (by have:=Bn4 he;omega);rw[Ez6,Ak5];refine Ab Tryz.func13 Tryz.call13 rfl (by kernel_rfl) ?_;simp(disch:=omega)only[go_sem,DVal.cells,jG,jH];intro O J;dsimp only at J;simp(disch:=omega)only[go_sem,DVal.cells];intro S I;dsimp only at I;obtain⟨C,D,U⟩:=Ba.1 I;by_cases h1:x.kind=y.kind
  ·by_cases h2:x.oper=y.oper
   ·by_cases h3:x.n=y.n
    ·by_cases h4:x.s=y.s
     ·simp(disch:=omega)only[go_sem,D,C,h1,h2,h3,h4];refine(Du3 G _ Fw x.l y.l 13 (by omega) fun e he f _ K=>E e (Bh he) f K).mono ?_;rintro _ H1 ⟨rfl,rfl⟩;cases h5:eqF Fw x.l y.l with
      | true=>
       simp(disch:=omega)only[go_sem,D,C];refine(Cv2 G _ x.a y.a (by omega) fun e he=>E e (List.mem_append_right _ he)).mono ?_;rintro _ H1 ⟨rfl,rfl⟩;simp(disch:=omega)only[go_sem];exact Fa.sub (show Sub H _ from(by repeat (first | exact Sub.refl _ | assumption | refine Sub.up ?_ (by assumption) _))) (Fa.refl ⟨by simp,rfl⟩)
      | false=>
       simp(disch:=omega)only[go_sem,D,C];exact Fa.sub (show Sub H _ from(by repeat (first | exact Sub.refl _ | assumption | refine Sub.up ?_ (by assumption) _))) (Fa.refl ⟨by simp,rfl⟩)
     ·simp(disch:=omega)only[go_sem,D,C,h1,h2,h3,h4];exact Fa.sub (show Sub H _ from(by repeat (first | exact Sub.refl _ | assumption | refine Sub.up ?_ (by assumption) _))) (Fa.refl ⟨by simp,rfl⟩)
    ·simp(disch:=omega)only[go_sem,D,C,h1,h2,h3];exact Fa.sub (show Sub H _ from(by repeat (first | exact Sub.refl _ | assumption | refine Sub.up ?_ (by assumption) _))) (Fa.refl ⟨by simp,rfl⟩)
   ·simp(disch:=omega)only[go_sem,D,C,h1,h2];exact Fa.sub (show Sub H _ from(by repeat (first | exact Sub.refl _ | assumption | refine Sub.up ?_ (by assumption) _))) (Fa.refl ⟨by simp,rfl⟩)
  ·simp(disch:=omega)only[go_sem,D,C,h1];exact Fa.sub (show Sub H _ from(by repeat (first | exact Sub.refl _ | assumption | refine Sub.up ?_ (by assumption) _))) (Fa.refl ⟨by simp,rfl⟩)
theorem Hv (G:Nat->DVal) (H:Ac) (x y:Ex) (hx:Fo x<=1099511627776):Ag Tryz.prog G 13 [.agg (dEx x), .agg (dEx y)] H (Ax (.bool (Fw x y)) H):=Du4 G x hx y H
theorem Ay6 (G:Nat->DVal) (H:Ac) (l m:List Ch) (hl:Jk l<=1099511627776):Ag Tryz.prog G 116 [dCl l,dCl m] H (Ax (.bool (Kx l m)) H):=
 Cb0 G H l m hl fun e he=>Du4 G e (by
  obtain⟨a,ha,he⟩:=List.mem_flatMap.1 he;have:=Ab5 he;have:=Tc ha;rw[Vm] at*
  omega)
section
variable {G:Nat->DVal} {H:Ac}
theorem Yc (G:Nat->DVal) (H:Ac) (e:Ex):Ag Tryz.prog G 84 [.agg (dEx e)] H (Ax (dI (Aq e)) H):=by
 refine Ab Tryz.func84 Tryz.call84 rfl (by kernel_rfl) ?_;simp(disch:=omega)only[go_sem,DVal.cells];intro r hr;dsimp only at hr;by_cases J:e.kind=13
 ·skip
  simp(disch:=omega)only[go_sem,J];exact Fa.dropA r hr (Fa.refl ⟨by simp [Aq,J],rfl⟩)
 by_cases V:e.kind=14
 ·skip
  simp(disch:=omega)only[go_sem,J,V];exact Fa.dropA r hr (Fa.refl ⟨by simp [Aq,J,V],rfl⟩)
 by_cases C:e.kind=11
 ·by_cases D:e.oper=18
  ·skip
   simp(disch:=omega)only[go_sem,C,D];exact Fa.dropA r hr (Fa.refl ⟨by simp [Aq,C,D],rfl⟩)
  by_cases I:e.oper=19
  ·skip
   simp(disch:=omega)only[go_sem,C,D,I];exact Fa.dropA r hr (Fa.refl ⟨by simp [Aq,C,D,I],rfl⟩)
  by_cases L:e.oper=20
  ·skip
   simp(disch:=omega)only[go_sem,C,D,I,L];exact Fa.dropA r hr (Fa.refl ⟨by simp [Aq,C,D,I,L],rfl⟩)
  by_cases W:e.oper=21
  ·skip
   simp(disch:=omega)only[go_sem,C,D,I,L,W];exact Fa.dropA r hr (Fa.refl ⟨by simp [Aq,C,D,I,L,W],rfl⟩)
  simp(disch:=omega)only[go_sem,C,D,I,L,W];exact Fa.dropA r hr (Fa.refl ⟨by simp [Aq,C,D,I,L,W],rfl⟩)
 by_cases E:e.kind=12
 ·by_cases M:13<=e.oper
  ·by_cases a2:e.oper<=17
   ·skip
    simp(disch:=omega)only[go_sem,E,C,M,a2];refine Fa.dropA r hr (Fa.refl ⟨?_,rfl⟩);congr 2;rw[Aq,if_neg (by omega),if_neg (by omega),if_pos (by omega)];(repeat (first | rfl | rw[if_pos (by omega)] | rw[if_neg (by omega)]))
   ·have O:7<=e.oper:=by omega
    have Y: ¬e.oper<=12:=by omega
    have X:3<=e.oper:=by omega
    have Z: ¬e.oper<=6:=by omega
    have S: ¬e.oper=1:=by omega
    have U: ¬e.oper=2:=by omega
    simp(disch:=omega)only[go_sem,E,C,M,a2,O,Y,S,U,X,Z];refine Fa.dropA r hr (Fa.refl ⟨?_,rfl⟩);congr 2;rw[Aq,if_neg (by omega),if_neg (by omega),if_pos (by omega)];(repeat (first | rfl | rw[if_pos (by omega)] | rw[if_neg (by omega)]))
  ·by_cases O:7<=e.oper
   ·have Y:e.oper<=12:=by omega
    simp(disch:=omega)only[go_sem,E,C,M,O,Y];refine Fa.dropA r hr (Fa.refl ⟨?_,rfl⟩);congr 2;rw[Aq,if_neg (by omega),if_neg (by omega),if_pos (by omega)];(repeat (first | rfl | rw[if_pos (by omega)] | rw[if_neg (by omega)]))
   ·by_cases S:e.oper=1
    ·skip
     simp(disch:=omega)only[go_sem,E,C,S];refine Fa.dropA r hr (Fa.refl ⟨?_,rfl⟩);congr 2;rw[Aq,if_neg (by omega),if_neg (by omega),if_pos (by omega)];(repeat (first | rfl | rw[if_pos (by omega)] | rw[if_neg (by omega)]))
    by_cases U:e.oper=2
    ·skip
     simp(disch:=omega)only[go_sem,E,C,U];refine Fa.dropA r hr (Fa.refl ⟨?_,rfl⟩);congr 2;rw[Aq,if_neg (by omega),if_neg (by omega),if_pos (by omega)];(repeat (first | rfl | rw[if_pos (by omega)] | rw[if_neg (by omega)]))
    by_cases X:3<=e.oper
    ·have Z:e.oper<=6:=by omega
     simp(disch:=omega)only[go_sem,E,C,M,O,S,U,X,Z];refine Fa.dropA r hr (Fa.refl ⟨?_,rfl⟩);congr 2;rw[Aq,if_neg (by omega),if_neg (by omega),if_pos (by omega)];(repeat (first | rfl | rw[if_pos (by omega)] | rw[if_neg (by omega)]))
    ·skip
     simp(disch:=omega)only[go_sem,E,C,M,O,S,U,X];refine Fa.dropA r hr (Fa.refl ⟨?_,rfl⟩);congr 2;rw[Aq,if_neg (by omega),if_neg (by omega),if_pos (by omega)];(repeat (first | rfl | rw[if_pos (by omega)] | rw[if_neg (by omega)]))
 simp(disch:=omega)only[go_sem,C,E,J,V];exact Fa.dropA r hr (Fa.refl ⟨by simp [Aq,C,E,J,V],rfl⟩)
end
end Go.Dl
-- Dn
namespace Go.Dl
open Go
set_option maxRecDepth 10000
section
variable {P:Program} {G:Nat->DVal}
theorem Cb1 {fn:Func} {args:List DVal} {H:Ac} {vs:List Value} {w:World} {T:List Deferred} {st:Bool} (I:args.length<=fn.ntmps) (hv:Az w H args vs) (D:Bm w H) (hG:GOk G w H):
  Sim G ⟨fn.ntmps,⟨w.heap.size,T,st⟩⟩ ⟨Ts args 0,H⟩ { tmps:=vs.toArray++Array.replicate (fn.ntmps-vs.toArray.size) undef,defers:=T } w:=by
 have hl:=hv.length;refine⟨by simp;omega,⟨[],rfl,List.nodup_nil,by simp⟩,fun i hi=> ?_,D,hG,Nat.le_refl _⟩;have h0:=Aw8 args 0 i;rw[Nat.zero_add] at h0;show Rel w H (Ts args 0 i) _;rw[h0];by_cases C:i<args.length
 ·have h1:args[i]? =some (args.getD i Ez):=by simp [List.getD,List.getElem?_eq_getElem C]
  obtain⟨x,hx,hr⟩:=hv.get h1;have:(vs.toArray++Array.replicate (fn.ntmps-vs.toArray.size) undef).getD i undef=x:=by
   have E:i<vs.length:=by omega
   rw[Array.getD_eq_getD_getElem?,Array.getElem?_append_left (by simpa using E)];simp [hx]
  rw[this];exact hr
 ·have h1:args.getD i Ez=Ez:=by simp [List.getD,List.getElem?_eq_none (Nat.le_of_not_lt C)]
  have:(vs.toArray++Array.replicate (fn.ntmps-vs.toArray.size) undef).getD i undef=undef:=by
   rw[Array.getD_eq_getD_getElem?,Array.getElem?_append_right (by simp;omega)];simp only[Array.getElem?_replicate];split<;>rfl
  rw[h1,this];exact Xl w H
def Bo0 (R:Ac->Prop):DExit->DS->Prop
 | .normal,s=>R s.heap
 | .ret,s=>R s.heap
 | _,_=>False
def Ai0 (t ty:Nat) (ps:String) (af:Array Edge):Oper:= { dst:=some t,op:= .call { callee:= .builtin .recover,args:= #[],argTypes:= #[] },type:=ty,pos:=ps,after:=af,guard:=none }
def Bd1 (t t' ty:Nat) (ps:String) (af:Array Edge):Oper:= { dst:=some t',op:= .assign (.tmp t),type:=ty,pos:=ps,after:=af,guard:=none }
theorem Yd {N:Fr} {s:DS} {a:Act} {w:World} (E:Sim G N s a w) (h:N.base.still=true):a.defers=N.base.late:=by
 obtain⟨C,h1,_,h3⟩:=E.defers;cases C with
 | nil=>exact h1
 | cons D C=>have:=(h3 D (by simp)).1.2;rw[h] at this;cases this
theorem Ei0 {n:Nat} {C:Array Oper} {Q:Exit->Act->List Frame->World->Prop} {i:Nat} {rest:List Nat} {a:Act} {cs:List Frame} {w:World} {o:Oper} (D:C[i]? =some o) (E:o.guard=none) (hr:(execOp a.eval o).run P w= .ok .recover w) (I:recoverD cs=none)
  (h:wpOpsSIn Fence.wide n P C Q rest (a.put o.dst .nilIface) cs w):wpOpsSIn Fence.wide n P C Q (i::rest) a cs w:=by
 unfold wpOpsSIn;rw[D];refine⟨fun _ _=>trivial, ?_⟩;rw[if_pos (by simp [Region.wanted,E]),hr,I];exact h
theorem Fa5 {n:Nat} {C:Array Oper} {Q:Exit->Act->List Frame->World->Prop} {i:Nat} {rest:List Nat} {a:Act} {cs cs':List Frame} {w:World} {o:Oper} {v:Value} (D:C[i]? =some o) (E:o.guard=none) (hr:(execOp a.eval o).run P w= .ok .recover w) (I:recoverD cs=some (v,cs'))
  (h:wpOpsSIn Fence.wide n P C Q rest (a.put o.dst v) cs' w):wpOpsSIn Fence.wide n P C Q (i::rest) a cs w:=by
 unfold wpOpsSIn;rw[D];refine⟨fun _ _=>trivial, ?_⟩;rw[if_pos (by simp [Region.wanted,E]),hr,I];exact h
theorem Cv3 {n:Nat} {C:Array Oper} {Q:Exit->Act->List Frame->World->Prop} {i:Nat} {rest:List Nat} {a:Act} {cs:List Frame} {w:World} {o:Oper} {v:Value} (D:C[i]? =some o) (E:o.guard=none) (hr:(execOp a.eval o).run P w= .ok (.value v) w)
  (h:wpOpsSIn Fence.wide n P C Q rest (a.put o.dst v) cs w):wpOpsSIn Fence.wide n P C Q (i::rest) a cs w:=by
 unfold wpOpsSIn;rw[D];refine⟨fun _ _=>trivial, ?_⟩;rw[if_pos (by simp [Region.wanted,E]),hr];exact h
theorem Cv4 {f:FuncId} {fn:Func} {id:Nat} {C D E M:Nat} {I O:String} {J S:Array Edge} {c:Code} {V:List DVal} {H:Ac} {R:Ac->Prop} {n:Nat} {vs:List Value} {w:World} {u:FrameMode} {x:DVal}
  (hf:P.funcs[f]? =some fn) (hb:fn.body=some (.seq (.region id #[Ai0 C E I J,Bd1 C D M O S] false) c))
  (hk:(decide (V.length<=fn.ntmps)&&Is fn.ntmps c&&Zm c&&decide (C<fn.ntmps)&&decide (D<fn.ntmps))=true) (ab:fn.results= #[])
  (hv:Az w H V vs) (hH:Bm w H) (hG:GOk G w H)
  (hu:(u= .returning/\x= .nilIface)\/ ∃v,u= .panicking [{ v,recovered:=false }]/\Rel w H x v)
  (h:dwp P G fn.ntmps c (Bo0 R) ⟨upd (upd (Ts V 0) C x) D x,H⟩):
  CallsDIn Fence.wide n P f vs.toArray u w fun e u' w'=> ∃v H',e= .returned v/\settle u'= .returning/\R H'/\Bm w' H'/\Ext H w H' w':=by
 simp only[jF,decide_eq_true_eq] at hk;obtain⟨⟨⟨⟨hA,hok⟩,hfl⟩,Y⟩,ac⟩:=hk;refine callsDIn_of_wpSIn hf hb trivial fun L cs hm=>wpSIn_seq (wpSIn_region ?_);have hS:=Cb1 (G:=G) (T:= []) (st:=true) hA hv hH hG;have key: ∀(v:Value) (u':FrameMode),settle u'= .returning->Rel w H x v->
   c.wpSIn Fence.wide n P (bodyPostS P fn L cs fun e u' w'=> ∃v H',e= .returned v/\settle u'= .returning/\R H'/\Bm w' H'/\Ext H w H' w')
    (({ tmps:=vs.toArray++Array.replicate (fn.ntmps-vs.toArray.size) undef,defers:= [] }:Act).put (some C) v |>.put (some D) v) ({ L with mode:=u' }::cs) w:=by
  intro v u' hs hx;refine wpSIn_of_wpIn rfl ?_;have ad:=(hS.put (dst:=some C) (by simpa [Cz] using Y) hx).put (dst:=some D) (by simpa [Cz] using ac) hx;refine wpIn_mono (Hj (.inl rfl) c hok (.inr hfl) _ _ h _ w ad) ?_;rintro e a' w1 ⟨e',s',U,hX,W,hE⟩;have hd:=Yd W rfl;have hr:(results fn a'.tmps).run P w1= .ok (.tuple #[]) w1:=by
   unfold results;rw[ab];simp [Sem.run_pure]
  cases hX with
  | normal=>exact⟨hd,u',rfl,_,hr,_,s'.heap,rfl,hs,U,W.heap,hE⟩
  | ret=>exact⟨hd,u',rfl,_,hr,_,s'.heap,rfl,hs,U,W.heap,hE⟩
  | exit id=>exact U.elim
  | goto l=>exact U.elim
  | panic d v hv=>exact U.elim
 have ae:List.range (#[Ai0 C E I J,Bd1 C D M O S]:Array Oper).size= [0,1]:=rfl;have Z:(#[Ai0 C E I J,Bd1 C D M O S]:Array Oper)[0]? =some (Ai0 C E I J):=rfl;have e1:(#[Ai0 C E I J,Bd1 C D M O S]:Array Oper)[1]? =some (Bd1 C D M O S):=rfl;have r0: ∀ρ w,(execOp ρ (Ai0 C E I J)).run P w= .ok .recover w:=fun ρ w=>by
  simp [execOp,Ai0,resolve,invoke,builtin,Sem.run_pure]
 have r1: ∀ρ w,(execOp ρ (Bd1 C D M O S)).run P w= .ok (.value (ρ (.tmp C))) w:=fun ρ w=>by
  simp [execOp,Bd1,Sem.run_pure]
 have aa: ∀v,(({ tmps:=vs.toArray++Array.replicate (fn.ntmps-vs.toArray.size) undef,defers:= [] }:Act).put (some C) v).eval (.tmp C)=v:=fun v=>by
  have X:=hS.size;dsimp only at X;simp [Act.eval,Act.put,Array.getD,X,Y];intro hle;simp at X;omega
 rw[ae];rcases hu with⟨rfl,rfl⟩ | ⟨v,rfl,hx⟩
 ·have hr:recoverD (L::cs)=none:=by simp [recoverD,hm]
  have hc: { L with mode:= .returning }=L:=by cases L;simp at hm;simp [hm]
  refine Ei0 Z rfl (r0 _ _) hr (Cv3 e1 rfl (r1 _ _) ?_);rw[show(Ai0 C E I J).dst=some C from rfl,aa];have:=key .nilIface .returning rfl (by simp [Rel]);rw[hc] at this;exact this
 ·have hr:recoverD (L::cs)=some (v,{ L with mode:= .panicking [{ v,recovered:=true }] }::cs):=by simp [recoverD,hm]
  refine Fa5 Z rfl (r0 _ _) hr (Cv3 e1 rfl (r1 _ _) ?_);rw[show(Ai0 C E I J).dst=some C from rfl,aa];exact key v _ rfl hx
theorem Cv5 (env:Nat->DVal): ∀l:List Operand,(Hh G env l).length=l.length
 | []=>rfl
 | x::l=>by rw[Hh,jA,Cv5 env l,jA]
def Dk4 (d:Nat) (g:FuncId) (caps:Array Operand) (ty:Nat) (ps:String) (af:Array Edge):Oper:= { dst:=some d,op:= .makeFunc (.func g) #[] caps,type:=ty,pos:=ps,after:=af,guard:=none }
def Fa6 (d ty:Nat) (ps:String) (af:Array Edge):Oper:= { dst:=none,op:= .defer { callee:= .value (.tmp d),args:= #[],argTypes:= #[] },type:=ty,pos:=ps,after:=af,guard:=none }
def Fa7 (P:Program) (G:Nat->DVal) (rs:List ResultVar) (R:DEnd->Ac->Prop) (m t1 t2:Nat) (cc:Code) (caps:List DVal):DExit->DS->Prop
 | .normal,s=>dwp P G m cc (Bo0 fun H'=>By9 R H' (Nj (Ro P ⟨s.env,H'⟩ rs))) ⟨upd (upd (Ts caps 0) t1 .nilIface) t2 .nilIface,s.heap⟩
 | .ret,s=>dwp P G m cc (Bo0 fun H'=>By9 R H' (Nj (Ro P ⟨s.env,H'⟩ rs))) ⟨upd (upd (Ts caps 0) t1 .nilIface) t2 .nilIface,s.heap⟩
 | .panic v,s=>dwp P G m cc (Bo0 fun H'=>By9 R H' (Nj (Ro P ⟨s.env,H'⟩ rs))) ⟨upd (upd (Ts caps 0) t1 v) t2 v,s.heap⟩
 | _,_=>False
theorem Ot {f g:FuncId} {fn J:Func} {M O C S:Code} {id am d U t2 V y2 y3 y4:Nat} {W p2 p3 p4:String} {X aa ao ap:Array Edge} {I:Array Operand} {args:List DVal} {H:Ac} {R:DEnd->Ac->Prop}
  (hf:P.funcs[f]? =some fn) (hg:P.funcs[g]? =some J) (aq: ∀vs w,(callFunc f vs).run P w= .ok (.enter f vs) w) (ar: ∀vs w,(callFunc g vs).run P w= .ok (.enter g vs) w)
  (hb:fn.body=some (.seq M (.seq O (.seq (.region id #[Dk4 d g I V W X,Fa6 d y2 p2 aa] false) C))))
  (au:J.body=some (.seq (.region am #[Ai0 U y3 p3 ao,Bd1 U t2 y4 p4 ap] false) S))
  (hk:(decide (args.length<=fn.ntmps)&&(Is fn.ntmps M&&Zm M)&&(Is fn.ntmps O&&Zm O)&&(Is fn.ntmps C&&Zm C)&&decide (d<fn.ntmps)&&I.toList.all (Cc fn.ntmps)&&fn.results.toList.all (Bk8 fn.ntmps))=true)
  (ag:(decide (I.toList.length<=J.ntmps)&&Is J.ntmps S&&Zm S&&decide (U<J.ntmps)&&decide (t2<J.ntmps))=true) (av:J.results= #[])
  (h:dwp P G fn.ntmps M (Bb5 (fun s=>dwp P G fn.ntmps O (Bb5 (fun s1=>dwp P G fn.ntmps C (Fa7 P G fn.results.toList R J.ntmps U t2 S (Hh G s1.env I.toList)) ⟨upd s1.env d (.func (.func g) [] (Hh G s1.env I.toList)),s1.heap⟩) fun _ _=>False) s) fun _ _=>False) ⟨Ts args 0,H⟩):Ag P G f args H R:=by
 simp only[jF,decide_eq_true_eq] at hk;obtain⟨⟨⟨⟨⟨⟨hA,aw,ax⟩,ay,a2⟩,a4,a5⟩,hd⟩,a6⟩,hres⟩:=hk;refine⟨aq,fun vs w hv hH hG=> ?_⟩;refine(callsIn_wide (n:=0)).1 (callsIn_of_wp_marks hf hb trivial ?_);have hS:=Cb1 (G:=G) (T:= []) (st:=true) hA hv hH hG;refine wpIn_seq (wpIn_mono (Hj (.inl rfl) M aw (.inr ax) _ _ h _ w hS) ?_);rintro e a0 w0 ⟨e',s0,hQ,hX,a7,a8⟩;cases hX<;>first | exact hQ.elim | skip
 refine wpIn_seq (wpIn_mono (Hj (.inl rfl) O ay (.inr a2) _ _ hQ _ w0 a7) ?_);rintro e L w1 ⟨e',s1,ah,hX,ab,ae⟩;cases hX<;>first | exact ah.elim | skip
 have ae:=a8.trans ae;have a9:L.defers= []:=Yd ab rfl;have af:=Tr ab a6;obtain⟨E,ai⟩: ∃E:List Value,E=I.toList.map L.eval:=⟨_,rfl⟩;have ba:I.map L.eval=E.toArray:=by rw[ai,<-Array.toList_map]
 rw[<-ai] at af;have bb:Rel w1 s1.heap (.func (.func g) [] (Hh G s1.env I.toList)) (.func (.func g) #[] E.toArray):=by
  simp only[Rel];refine⟨#[],E.toArray,rfl, ?_, ?_⟩
  ·simp [Az]
  ·simpa using af
 obtain⟨D,hD⟩: ∃D:Deferred,D= { target:= .fn (.func g) E.toArray,args:= #[] }:=⟨_,rfl⟩;have bc:Sim G ⟨fn.ntmps,⟨w.heap.size,[D],true⟩⟩ ⟨upd s1.env d (.func (.func g) [] (Hh G s1.env I.toList)),s1.heap⟩ ({ (L.put (some d) (.func (.func g) #[] E.toArray)) with defers:= [D] }) w1:=by
  have:=ab.put (dst:=some d) (by simpa [Cz] using hd) bb;exact⟨this.size,⟨[],rfl,List.nodup_nil,by simp⟩,this.tmps,this.heap,this.glob,this.base⟩
 refine wpIn_seq ?_;have bd: #[Dk4 d g I V W X,Fa6 d y2 p2 aa]= [Dk4 d g I V W X,Fa6 d y2 p2 aa].toArray:=rfl;rw[bd];refine wpIn_region_lit (wpListIn_plain rfl fun K hK=> ?_);have rm:(execOp L.eval (Dk4 d g I V W X)).run P w1= .ok (.value (.func (.func g) #[] E.toArray)) w1:=by
  simp [execOp,Dk4,Instr.makeFunc,Sem.run_pure,ba]
 have be:=ab.size;have bf:(L.put (some d) (.func (.func g) #[] E.toArray)).eval (.tmp d)= .func (.func g) #[] E.toArray:=by
  simp [Act.eval,Act.put,Array.getD,be,hd]
 have rd:(execOp (L.put (some d) (.func (.func g) #[] E.toArray)).eval (Fa6 d y2 p2 aa)).run P w1= .ok (.defer D) w1:=by
  simp [execOp,Fa6,resolve,bf,Deferred.ofValue,Sem.run_pure,hD]
 unfold Oper.wpIn;refine⟨fun _ _=>trivial, ?_⟩;rw[Oper.semAt_eq _ _ _ (by intro c;simp [Dk4]),rm];refine hK _ _ (wpListIn_plain rfl fun K2 bg=> ?_);unfold Oper.wpIn;refine⟨fun _ _=>trivial, ?_⟩;rw[show Fence.wide.round=none from rfl,Oper.semAt_none,show(Dk4 d g I V W X).dst=some d from rfl,rd];refine bg _ _ (wpListIn_nil ?_);have bh:(L.put (some d) (.func (.func g) #[] E.toArray)).defers= []:=a9;rw[bh];show C.wpIn _ _ _ _ _ _;refine wpIn_mono (Hj (.inl rfl) C a4 (.inr a5) _ _ ah _ w1 bc) ?_;rintro e a3 w3 ⟨e',Y,Z,bi,ac,aj⟩;have bj:=ae.trans aj;have bk:a3.defers= [D]:=Yd ac rfl;have bl:Az w3 Y.heap (Hh G s1.env I.toList) E:=af.lasts aj.lasts;have bm:(invoke D.target D.args).run P w3= .ok (.enter g E.toArray) w3:=by
  rw[hD];simp [invoke,ar]
 have key: ∀(u:FrameMode) (x:DVal),u≠ .run->((u= .returning/\x= .nilIface)\/ ∃v,u= .panicking [{ v,recovered:=false }]/\Rel w3 Y.heap x v)->
   dwp P G J.ntmps S (Bo0 fun H'=>By9 R H' (Nj (Ro P ⟨Y.env,H'⟩ fn.results.toList))) ⟨upd (upd (Ts (Hh G s1.env I.toList) 0) U x) t2 x,Y.heap⟩->
   LeavesInM Fence.wide 0 P fn a3.tmps (fun e w'=> ∃e' H',R e' H'/\RelE w' H' e' e/\Bm w' H'/\Ext H w H' w') a3.defers u w3:=by
  intro u x bn hu hc;rw[bk];refine⟨bn, .inr ⟨(fun h=>by cases h), .func g,E.toArray,g,E.toArray,(by rw[hD]),bm,fun _ _=>trivial, ?_⟩⟩;refine(Cv4 hg au (by rw[Cv5];exact(by simp only[jF,decide_eq_true_eq] at ag⊢;exact ag)) av bl ac.heap ac.glob hu hc).mono ?_;rintro e4 u4 w4 ⟨v4,H4,rfl,bo,ad,bp,ak⟩;dsimp only;rw[bo];have al:=ac.ext ak bp;cases hdt:Nj (Ro P ⟨Y.env,H4⟩ fn.results.toList) with
  | none=>rw[hdt] at ad;exact ad.elim
  | some v=>
   rw[hdt] at ad;obtain⟨x,hx,hr⟩:=Bb8 (P:=P) al hres hdt;obtain⟨v',H',bq,hR⟩:=ad;obtain⟨g1,g2,g3⟩:=bq w4 al.heap;exact⟨x,hx, .ret v',H',hR, .ret v' x (g3 x hr),g1,(bj.trans ak).trans ⟨rfl,rfl,rfl,Nat.le_refl _,fun _ _ _=>rfl,fun b hb=> .inl (g2 b hb),fun _ _=>rfl,fun _ _ _=>rfl⟩⟩
 cases bi with
 | normal=>exact key .returning .nilIface (by simp) (.inl ⟨rfl,rfl⟩) Z
 | ret=>exact key .returning .nilIface (by simp) (.inl ⟨rfl,rfl⟩) Z
 | exit id=>exact Z.elim
 | goto l=>exact Z.elim
 | panic d v hv=>exact key _ d (by simp) (.inr ⟨v,rfl,hv⟩) Z
end
attribute [go_sem] Bo0.eq_1 Bo0.eq_2 Fa7.eq_1 Fa7.eq_2 Fa7.eq_3
end Go.Dl
-- Ug
namespace Go.Dl
open Go Go.Proofs
set_option maxRecDepth 100000
abbrev rdO (l:List Tok) (k:Nat):DObj:= .cells [Bl l,dI k] 226
def RAt (r:Nat) (l:List Tok) (k:Nat) (H0 H:Ac):Prop:=Sub (upd H0 r (some (rdO l k))) H
section
variable {G:Nat->DVal} {H0 H:Ac} {r k:Nat} {l:List Tok}
theorem RAt.refl (h:H r=some (rdO l k)):RAt r l k H H:=fun b o hb=>by
 simp only[upd] at hb;split at hb
 ·rename_i e;subst e;rw[h];exact hb
 ·exact hb
theorem RAt.get (h:RAt r l k H0 H):H r=some (rdO l k):=h _ _ (Aa _ _ _)
theorem RAt.new (h:RAt r l k H0 H) {x:Nat} (hx:H x=none) (o:Option DObj):RAt r l k H0 (upd H x o):=Sub.new h hx o
theorem RAt.more (h:RAt r l k H0 H) {H':Ac} (s:Sub H H'):RAt r l k H0 H':=Sub.trans h s
theorem RAt.set (h:RAt r l k H0 H) (k':Nat):RAt r l k' H0 (upd H r (some (rdO l k'))):=fun b o hb=>by
 simp only[upd] at hb⊢
 by_cases e:b=r
 ·rw[if_pos e] at hb⊢;exact hb
 ·rw[if_neg e] at hb⊢;exact h b o (by simp only[upd];rw[if_neg e];exact hb)
theorem RAt.own (h:RAt r l k H0 H) {x:Nat} (hx:H0 x=none) (hr:x≠r) (o:Option DObj):RAt r l k H0 (upd H x o):=Sub.up h (by simp only[upd];rw[if_neg hr];exact hx) o
theorem RAt.lo (h:RAt r l k H0 H) {x:Nat} (hx:H x=none):H0 x=none:=by
 have:=Sub.lo h hx;simp only[upd] at this;split at this
 ·cases this
 ·exact this
theorem RAt.fin {R:DEnd->Ac->Prop} {v:DVal} (h:RAt r l k H0 H) (C:R (.ret v) (upd H0 r (some (rdO l k)))):Fa R v H:=Fa.sub h (.refl C)
theorem Vd.sub {R:DEnd->Ac->Prop} {v:DVal} {H':Ac} (h:Sub H' H) (C:R (.panic v) H'):Vd R v H:=⟨v,H',Mb.sub h v,C⟩
theorem RAt.finP {R:DEnd->Ac->Prop} {v:DVal} (h:RAt r l k H0 H) (C:R (.panic v) (upd H0 r (some (rdO l k)))):Vd R v H:=Vd.sub h C
theorem Ec {H:Ac} {r:Nat} {x:Option DObj} (h:H r=x):upd H r x=H:=by
 funext b;simp only[upd];split
 ·rename_i e;rw[e,h]
 ·rfl
theorem Fa8 {i:Nat} (h:i<l.length):tk l i=l[i]:=by rw[tk,List.getD,List.getElem?_eq_getElem h];rfl
theorem Bo1 {i:Nat} (h:l.length<=i):tk l i=Ap9:=by rw[tk,List.getD,List.getElem?_eq_none h];rfl
theorem Ak6 (G:Nat->DVal) (H:Ac) (j:Nat) (hr:H r=some (rdO l k)) (hl:l.length<=1000000) (hk:k<=1000000) (J:j<=1000000):Ag Tryz.prog G 171 [.optr r 0,dI j] H (Ax (.agg (Cq (tk l (k+j)))) H):=by
 have hw:IntKind.i64.wrap ((k:Int)+(j:Int))=((k+j:Nat):Int):=by rw[IntKind.wrap_i64];omega
 unfold rdO at hr;refine Ab Tryz.func171 Tryz.call171 rfl (by kernel_rfl) ?_;simp(disch:=omega)only[go_sem];intro E D;dsimp only at D;have C:r≠E:=Af D hr;by_cases c:k+j<l.length
 ·have c':((k+j:Nat):Int)<(l.length:Int):=by omega
  have I:=Co Ao l (k+j) c;have hfl:=Aw Ao l;rw[Fa8 c];simp(disch:=omega)only[go_sem,C,hr];refine Ak (by kernel_rfl) pL9 (by kernel_rfl) ?_;simp(disch:=omega)only[go_sem,C,hr,hw,c',Bl];refine Ak (by kernel_rfl) pL7 (by kernel_rfl) ?_;simp(disch:=omega)only[go_sem,C,hr,hw,c',Bl,I,hfl,jD];simp(disch:=omega)only[go_sem,Cq];exact Fa.dropA E D (Fa.refl ⟨rfl,rfl⟩)
 ·have c': ¬((k+j:Nat):Int)<(l.length:Int):=by omega
  rw[Bo1 (by omega)];simp(disch:=omega)only[go_sem,C,hr];refine Ak (by kernel_rfl) pL9 (by kernel_rfl) ?_;simp(disch:=omega)only[go_sem,C,hr,hw,c',Bl];exact Fa.dropA E D (Fa.refl ⟨rfl,rfl⟩)
theorem Ab8 (G:Nat->DVal) (H:Ac) (hr:H r=some (rdO l k)) (hl:l.length<=1000000) (hk:k<=1000000):Ag Tryz.prog G 171 [.optr r 0,dI 0] H (Ax (.agg (Cq (tk l k))) H):=
 Ak6 G H 0 hr hl hk (by omega)
theorem Ay7 (G:Nat->DVal) (H:Ac) (hr:H r=some (rdO l k)) (hl:l.length<=1000000) (hk:k<=1000000):Ag Tryz.prog G 169 [.optr r 0] H (Ax (dI (tk l k).line) H):=by
 refine Ab Tryz.func169 Tryz.call169 rfl (by kernel_rfl) ?_;simp(disch:=omega)only[go_sem];refine(Ak6 G H 0 hr hl hk (by omega)).mono ?_;rintro _ H1 ⟨rfl,rfl⟩;simp(disch:=omega)only[go_sem,Nat.add_zero,Cq];exact Fa.refl ⟨rfl,rfl⟩
def dW (ws:List (List UInt8)):DVal:= .vslice (ws.map .str) ws.length
theorem Fa9 {ws:List (List UInt8)} {j:Nat} (C:j<ws.length):isW l (k+j) (ws.drop j)=(decide ((tk l (k+j)).kind=Ip ws[j])&&decide ((tk l (k+j)).text=ws[j])&&isW l (k+(j+1)) (ws.drop (j+1))):=by
 rw[List.drop_eq_getElem_cons C,isW];rfl
theorem Aq8 (hG:GX G) (H:Ac) (ws:List (List UInt8)) (hr:H r=some (rdO l k)) (hl:l.length<=1000000) (hk:k<=900000) (hw:ws.length<=1000):Ag Tryz.prog G 172 [.optr r 0,dW ws] H (Ax (.bool (isW l k ws)) H):=by
 refine Ab Tryz.func172 Tryz.call172 rfl (by kernel_rfl) ?_;simp(disch:=omega)only[go_sem,dW];obtain⟨I,S⟩: ∃I:Nat->(Nat->DVal)->Ac->Prop,∀j env heap,I j env heap↔(env 0= .optr r 0/\env 9=dW ws/\env 10=dI ws.length/\env 11=dI j/\j<=ws.length/\isW l k ws=isW l (k+j) (ws.drop j)/\Sub H heap):=⟨_,fun _ _ _=>Iff.rfl⟩;refine Dr7.run I (fun j=>ws.length-j) 0 ((S _ _ _).2 ?_) ?_
 ·simp(disch:=omega)only[go_sem];(repeat' apply And.intro)<;>(try first | rfl | assumption | omega);exact Sub.refl H
 ·intro j env heap hi;obtain⟨D,E,J,L,hj,hm,hs⟩:=(S _ _ _).1 hi;have gr:=hs _ _ hr;by_cases V:j<ws.length
  ·have U:(j:Int)<(ws.length:Int):=by omega
   have W:IntKind.i64.wrap ((j:Int)+1)=((j+1:Nat):Int):=by rw[IntKind.wrap_i64];omega
   have X:(ws.map DVal.str)[j]? =some (.str ws[j]):=by rw[List.getElem?_map,List.getElem?_eq_getElem V];rfl
   have aa:(ws.map DVal.str).length=ws.length:=jK _;rw[Fa9 V] at hm;obtain⟨s,Y⟩: ∃s,s=ws[j]:=⟨_,rfl⟩;obtain⟨t,ht⟩: ∃t,t=tk l (k+j):=⟨_,rfl⟩;rw[<-Y,<-ht] at hm;rw[<-Y] at X;simp(disch:=omega)only[go_sem,D,E,J,L,U,dW,X,aa,jD];refine(Ak6 G heap j gr hl (by omega) (by omega)).mono ?_;rintro _ H1 ⟨rfl,rfl⟩;rw[<-ht];simp(disch:=omega)only[go_sem,D,E,J,L];intro r7 Z;dsimp only at Z;have M: ∀x,Sub H (upd H1 r7 x):=fun x=>hs.new Z x;simp(disch:=omega)only[go_sem,D,E,J,L,Cq];refine(Wp hG _ s).mono ?_;rintro _ H2 ⟨rfl,rfl⟩;by_cases C:t.kind=Ip s
   ·by_cases O:t.text=s
    ·rw[decide_eq_true C,decide_eq_true O,jS,jS] at hm;rw[Ip] at C;cases hkb:Up s with
     | true=>
      rw[hkb,if_pos rfl] at C;simp(disch:=omega)only[go_sem,D,E,J,L,C,O];refine⟨j+1,_,Rz.refl _,(S _ _ _).2 ?_,by omega⟩;simp(disch:=omega)only[go_sem,D,E,J,L,W];(repeat' apply And.intro)<;>(try first | rfl | assumption | omega);exact M _
     | false=>
      rw[hkb,if_neg (by simp)] at C;simp(disch:=omega)only[go_sem,D,E,J,L,C,O];refine⟨j+1,_,Rz.refl _,(S _ _ _).2 ?_,by omega⟩;simp(disch:=omega)only[go_sem,D,E,J,L,W];(repeat' apply And.intro)<;>(try first | rfl | assumption | omega);exact M _
    ·rw[decide_eq_false O,Bool.and_false,jT] at hm;rw[Ip] at C;cases hkb:Up s with
     | true=>
      rw[hkb,if_pos rfl] at C;simp(disch:=omega)only[go_sem,D,E,J,L,C,O];exact Fa.sub (M _) (.refl ⟨by rw[hm],rfl⟩)
     | false=>
      rw[hkb,if_neg (by simp)] at C;simp(disch:=omega)only[go_sem,D,E,J,L,C,O];exact Fa.sub (M _) (.refl ⟨by rw[hm],rfl⟩)
   ·rw[decide_eq_false C,jT,jT] at hm;rw[Ip] at C;cases hkb:Up s with
    | true=>
     rw[hkb,if_pos rfl] at C;simp(disch:=omega)only[go_sem,D,E,J,L,C];exact Fa.sub (M _) (.refl ⟨by rw[hm],rfl⟩)
    | false=>
     rw[hkb,if_neg (by simp)] at C;simp(disch:=omega)only[go_sem,D,E,J,L,C];exact Fa.sub (M _) (.refl ⟨by rw[hm],rfl⟩)
  ·have:j=ws.length:=by omega
   subst this;have U: ¬(ws.length:Int)<(ws.length:Int):=by omega
   rw[List.drop_length,isW] at hm;simp(disch:=omega)only[go_sem,D,E,J,L,U];exact Fa.sub hs (.refl ⟨by rw[hm],rfl⟩)
def RdQ (r:Nat) (l:List Tok) (H:Ac) (v:DVal) (k:Nat) (e:DEnd) (H':Ac):Prop:=e= .ret v/\H'=upd H r (some (rdO l k))
def Ci4 (k:Nat):DVal:= .iface 231 (.agg [dI k])
theorem Cb2 (hG:GX G) (H:Ac) (ws:List (List UInt8)) (hr:H r=some (rdO l k)) (hl:l.length<=1000000) (hk:k<=900000) (hw:ws.length<=1000):Ag Tryz.prog G 167 [.optr r 0,dW ws] H (RdQ r l H (.bool (isW l k ws)) (if isW l k ws then k+ws.length else k)):=by
 refine Ab Tryz.func167 Tryz.call167 rfl (by kernel_rfl) ?_;simp(disch:=omega)only[go_sem];refine(Aq8 hG H ws hr hl hk hw).mono ?_;rintro _ H1 ⟨rfl,rfl⟩;cases h:isW l k ws with
 | false=>
  simp(disch:=omega)only[go_sem];exact Fa.refl ⟨rfl,(Ec hr).symm⟩
 | true=>
  have C:IntKind.i64.wrap ((k:Int)+(ws.length:Int))=((k+ws.length:Nat):Int):=by rw[IntKind.wrap_i64];omega
  unfold rdO at hr;simp(disch:=omega)only[go_sem,hr,dW,C];exact Fa.refl ⟨rfl,rfl⟩
theorem Ay8 (G:Nat->DVal) (H:Ac) (hr:H r=some (rdO l k)):Ag Tryz.prog G 168 [.optr r 0] H (fun e H'=>e= .panic (Ci4 k)/\H'=H):=by
 unfold rdO at hr;refine Ab Tryz.func168 Tryz.call168 rfl (by kernel_rfl) ?_;simp(disch:=omega)only[go_sem,hr];exact Vd.refl ⟨rfl,rfl⟩
theorem Ay9 (hG:GX G) (H:Ac) (q:Nat) (s:List UInt8) (C:H q=none) (hr:H r=some (rdO l k)) (hl:l.length<=1000000) (hk:k<=900000):Ag Tryz.prog G 167 [.optr r 0, .oslice 1 q 0 1 1] (upd H q (some (.cells [.str s] 9))) (RdQ r l H (.bool (isW l k [s])) (if isW l k [s] then k+1 else k)):=by
 refine Ag.fzA q C ?_;have n:r≠q:=Af C hr;simp only[fzs,fz,if_neg n,if_pos];exact Cb2 hG H [s] hr hl hk (by simp)
theorem Gt5 (hG:GX G) (H:Ac) (q:Nat) (s t:List UInt8) (C:H q=none) (hr:H r=some (rdO l k)) (hl:l.length<=1000000) (hk:k<=900000):Ag Tryz.prog G 167 [.optr r 0, .oslice 1 q 0 2 2] (upd H q (some (.cells [.str s, .str t] 9))) (RdQ r l H (.bool (isW l k [s,t])) (if isW l k [s,t] then k+2 else k)):=by
 refine Ag.fzA q C ?_;have n:r≠q:=Af C hr;simp only[fzs,fz,if_neg n,if_pos];exact Cb2 hG H [s,t] hr hl hk (by simp)
theorem is1 (hG:GX G) (H:Ac) (q:Nat) (s:List UInt8) (C:H q=none) (hr:H r=some (rdO l k)) (hl:l.length<=1000000) (hk:k<=900000):Ag Tryz.prog G 172 [.optr r 0, .oslice 1 q 0 1 1] (upd H q (some (.cells [.str s] 9))) (Ax (.bool (isW l k [s])) H):=by
 refine Ag.fzA q C ?_;have n:r≠q:=Af C hr;simp only[fzs,fz,if_neg n,if_pos];exact Aq8 hG H [s] hr hl hk (by simp)
theorem is2 (hG:GX G) (H:Ac) (q:Nat) (s t:List UInt8) (C:H q=none) (hr:H r=some (rdO l k)) (hl:l.length<=1000000) (hk:k<=900000):Ag Tryz.prog G 172 [.optr r 0, .oslice 1 q 0 2 2] (upd H q (some (.cells [.str s, .str t] 9))) (Ax (.bool (isW l k [s,t])) H):=by
 refine Ag.fzA q C ?_;have n:r≠q:=Af C hr;simp only[fzs,fz,if_neg n,if_pos];exact Aq8 hG H [s,t] hr hl hk (by simp)
def RdR (r:Nat) (l:List Tok) (H:Ac):Res DVal->DEnd->Ac->Prop
 | .bot,_,_=>False
 | .fail k,e,H'=>e= .panic (Ci4 k)/\H'=upd H r (some (rdO l k))
 | .ok v k,e,H'=>e= .ret v/\H'=upd H r (some (rdO l k))
theorem Td (hG:GX G) (H:Ac) (s:List UInt8) (hr:H r=some (rdO l k)) (hl:l.length<=1000000) (hk:k<=900000):Ag Tryz.prog G 176 [.optr r 0, .str s] H (RdR r l H (must l s k fun k=> .ok (.tuple []) k)):=by
 refine Ab Tryz.func176 Tryz.call176 rfl (by kernel_rfl) ?_;simp(disch:=omega)only[go_sem];intro q hq;dsimp only at hq;simp(disch:=omega)only[go_sem];refine(Ay9 hG H q s hq hr hl hk).mono ?_;rintro _ H1 ⟨rfl,rfl⟩;rw[must];cases h:isW l k [s] with
 | true=>
  simp(disch:=omega)only[go_sem];exact Fa.refl ⟨rfl,rfl⟩
 | false=>
  simp(disch:=omega)only[go_sem];refine(Ay8 G _ (Aa _ _ _)).mono ?_;rintro _ H2 ⟨rfl,rfl⟩;simp(disch:=omega)only[go_sem];exact Vd.refl ⟨rfl,rfl⟩
theorem Az0 (G:Nat->DVal) (H:Ac) (I:Int) (hr:H r=some (rdO l k)) (hl:l.length<=1000000) (hk:k<=900000):Ag Tryz.prog G 174 [.optr r 0, .int .u8 I] H (RdR r l H (if(tk l k).kind=I then .ok (.agg (Cq (tk l k))) (k+1) else .fail k)):=by
 refine Ab Tryz.func174 Tryz.call174 rfl (by kernel_rfl) ?_;simp(disch:=omega)only[go_sem];intro V C;dsimp only at C;have D:r≠V:=Af C hr;have J:=hr;have hw:IntKind.i64.wrap ((k:Int)+1)=((k+1:Nat):Int):=by rw[IntKind.wrap_i64];omega
 unfold rdO at J;simp(disch:=omega)only[go_sem];refine(Ab8 G _ (l:=l) (k:=k) (by rw[Am _ _ _ _ D];exact hr) hl (by omega)).mono ?_;rintro _ H1 ⟨rfl,rfl⟩;obtain⟨t,ht⟩: ∃t,t=tk l k:=⟨_,rfl⟩;rw[<-ht];simp(disch:=omega)only[go_sem];intro W E;dsimp only at E;obtain⟨O,S,X⟩:=Ba.1 E;have L:r≠W:=Af X hr;have M:=D.symm;have U:=L.symm;by_cases c:t.kind=I
 ·rw[if_pos c];simp(disch:=omega)only[go_sem,O,S,D,L,M,U,Cq,J,hw,c];exact RAt.fin (k:=k+1) ((((RAt.refl hr).new C _).new E _).set (k+1) |>.own C M _) ⟨rfl,rfl⟩
 ·rw[if_neg c];simp(disch:=omega)only[go_sem,O,S,D,L,M,U,Cq,J,c];have ha:=((RAt.refl hr).new C (some (.cells [.int .u8 0, .int .i64 0, .str [], .int .i64 0] 31))).new E (some (.cells [.int .u8 t.kind,dI t.line, .str t.text,dI t.n] 31));refine(Ay8 G _ ha.get).mono ?_;rintro _ H2 ⟨rfl,rfl⟩;simp(disch:=omega)only[go_sem];exact RAt.finP ha ⟨rfl,rfl⟩
end
section
variable {G:Nat->DVal} {H0 H:Ac} {r k:Nat} {l:List Tok}
def Pn:DVal:= .vslice (Dj6.map dW) 22
theorem Bd {x y:List DVal} (hx:x.length=9) (C:y.length=9):
  (if 9<=(Cd 2 [DVal.int .u8 0,DVal.int .u8 0,DVal.int .i64 0,DVal.str [],DVal.nilSlice,DVal.nilSlice,DVal.int .i64 0,DVal.int .i64 0,DVal.int .i64 0]).length then
   if 18<=(x++List.drop 9 (Cd 2 [DVal.int .u8 0,DVal.int .u8 0,DVal.int .i64 0,DVal.str [],DVal.nilSlice,DVal.nilSlice,DVal.int .i64 0,DVal.int .i64 0,DVal.int .i64 0])).length then
    some (List.take 9 (x++List.drop 9 (Cd 2 [DVal.int .u8 0,DVal.int .u8 0,DVal.int .i64 0,DVal.str [],DVal.nilSlice,DVal.nilSlice,DVal.int .i64 0,DVal.int .i64 0,DVal.int .i64 0]))++y++
     List.drop 18 (x++List.drop 9 (Cd 2 [DVal.int .u8 0,DVal.int .u8 0,DVal.int .i64 0,DVal.str [],DVal.nilSlice,DVal.nilSlice,DVal.int .i64 0,DVal.int .i64 0,DVal.int .i64 0])))
   else none
  else none)=some (x++y):=by
 have e: ∀u:List DVal,Cd 2 u=u++u:=fun u=>by simp [Cd]
 rw[e];rw[if_pos (by simp),if_pos (by simp [hx]),List.take_left' hx,List.drop_eq_nil_of_le (by simp [hx]),jH]
set_option maxHeartbeats 4000000 in
theorem Mi (G:Nat->DVal) (H:Ac):Ag Tryz.prog G 248 [] H (Ax Pn H):=by
 refine Ab Tryz.func248 Tryz.call248 rfl (by kernel_rfl) ?_;simp(disch:=omega)only[go_sem];intro b1 ax;dsimp only at ax;obtain⟨E,ay⟩: ∃K,K=upd H b1 (some (.cells [.str [43]] 9)):=⟨_,rfl⟩;rw[<-ay];simp(disch:=omega)only[go_sem];intro b2 a0;dsimp only at a0;obtain⟨I,a1⟩: ∃K,K=upd E b2 (some (.cells [.str [45]] 9)):=⟨_,rfl⟩;rw[<-a1];simp(disch:=omega)only[go_sem];intro b3 a2;dsimp only at a2;obtain⟨J,a3⟩: ∃K,K=upd I b3 (some (.cells [.str [42]] 9)):=⟨_,rfl⟩;rw[<-a3];simp(disch:=omega)only[go_sem];intro b4 a4;dsimp only at a4;obtain⟨L,a5⟩: ∃K,K=upd J b4 (some (.cells [.str [47]] 9)):=⟨_,rfl⟩;rw[<-a5];simp(disch:=omega)only[go_sem];intro b5 a6;dsimp only at a6;obtain⟨M,a7⟩: ∃K,K=upd L b5 (some (.cells [.str [109,111,100]] 9)):=⟨_,rfl⟩;rw[<-a7];simp(disch:=omega)only[go_sem];intro b6 a8;dsimp only at a8;obtain⟨O,a9⟩: ∃K,K=upd M b6 (some (.cells [.str [114,101,109]] 9)):=⟨_,rfl⟩;rw[<-a9];simp(disch:=omega)only[go_sem];intro b7 ba;dsimp only at ba;obtain⟨S,bb⟩: ∃K,K=upd O b7 (some (.cells [.str [61]] 9)):=⟨_,rfl⟩;rw[<-bb];simp(disch:=omega)only[go_sem];intro b8 bc;dsimp only at bc;obtain⟨U,bd⟩: ∃K,K=upd S b8 (some (.cells [.str [47,61]] 9)):=⟨_,rfl⟩;rw[<-bd];simp(disch:=omega)only[go_sem];intro b9 be;dsimp only at be;obtain⟨V,bf⟩: ∃K,K=upd U b9 (some (.cells [.str [60]] 9)):=⟨_,rfl⟩;rw[<-bf];simp(disch:=omega)only[go_sem];intro ai bg;dsimp only at bg;obtain⟨W,bh⟩: ∃K,K=upd V ai (some (.cells [.str [60,61]] 9)):=⟨_,rfl⟩;rw[<-bh];simp(disch:=omega)only[go_sem];intro aj bi;dsimp only at bi;obtain⟨X,bj⟩: ∃K,K=upd W aj (some (.cells [.str [62]] 9)):=⟨_,rfl⟩;rw[<-bj];simp(disch:=omega)only[go_sem];intro ak bk;dsimp only at bk;obtain⟨Y,bl⟩: ∃K,K=upd X ak (some (.cells [.str [62,61]] 9)):=⟨_,rfl⟩;rw[<-bl];simp(disch:=omega)only[go_sem];intro al bm;dsimp only at bm;obtain⟨Z,bn⟩: ∃K,K=upd Y al (some (.cells [.str [97,110,100]] 9)):=⟨_,rfl⟩;rw[<-bn];simp(disch:=omega)only[go_sem];intro am bo;dsimp only at bo;obtain⟨aa,bp⟩: ∃K,K=upd Z am (some (.cells [.str [111,114]] 9)):=⟨_,rfl⟩;rw[<-bp];simp(disch:=omega)only[go_sem];intro ao bq;dsimp only at bq;obtain⟨ab,br⟩: ∃K,K=upd aa ao (some (.cells [.str [120,111,114]] 9)):=⟨_,rfl⟩;rw[<-br];simp(disch:=omega)only[go_sem];intro ap bs;dsimp only at bs;obtain⟨ac,bt⟩: ∃K,K=upd ab ap (some (.cells [.str [97,110,100], .str [116,104,101,110]] 9)):=⟨_,rfl⟩;rw[<-bt];simp(disch:=omega)only[go_sem];intro aq bu;dsimp only at bu;obtain⟨ad,bv⟩: ∃K,K=upd ac aq (some (.cells [.str [111,114], .str [101,108,115,101]] 9)):=⟨_,rfl⟩;rw[<-bv];simp(disch:=omega)only[go_sem];intro ar bw;dsimp only at bw;obtain⟨ae,bx⟩: ∃K,K=upd ad ar (some (.cells [.str [43]] 9)):=⟨_,rfl⟩;rw[<-bx];simp(disch:=omega)only[go_sem];intro au bz;dsimp only at bz;obtain⟨af,b0⟩: ∃K,K=upd ae au (some (.cells [.str [45]] 9)):=⟨_,rfl⟩;rw[<-b0];simp(disch:=omega)only[go_sem];intro av ca;dsimp only at ca;obtain⟨ag,cb⟩: ∃K,K=upd af av (some (.cells [.str [97,98,115]] 9)):=⟨_,rfl⟩;rw[<-cb];simp(disch:=omega)only[go_sem];intro aw cc;dsimp only at cc;obtain⟨ah,cd⟩: ∃K,K=upd ag aw (some (.cells [.str [110,111,116]] 9)):=⟨_,rfl⟩;rw[<-cd];simp(disch:=omega)only[go_sem];intro ce cf;dsimp only at cf;obtain⟨C,cg⟩: ∃K,K=upd ah ce (some (.cells [.nilSlice, .oslice 1 b1 0 1 1, .oslice 1 b2 0 1 1, .oslice 1 b3 0 1 1, .oslice 1 b4 0 1 1, .oslice 1 b5 0 1 1, .oslice 1 b6 0 1 1, .oslice 1 b7 0 1 1, .oslice 1 b8 0 1 1, .oslice 1 b9 0 1 1, .oslice 1 ai 0 1 1, .oslice 1 aj 0 1 1, .oslice 1 ak 0 1 1, .oslice 1 al 0 1 1, .oslice 1 am 0 1 1, .oslice 1 ao 0 1 1, .oslice 1 ap 0 2 2, .oslice 1 aq 0 2 2, .oslice 1 ar 0 1 1, .oslice 1 au 0 1 1, .oslice 1 av 0 1 1, .oslice 1 aw 0 1 1] 54)):=⟨_,rfl⟩;rw[<-cg];have s1:Sub H E:=by rw[ay];exact(Sub.refl _).new ax _
 have s2:Sub E I:=by rw[a1];exact(Sub.refl _).new a0 _
 have s3:Sub I J:=by rw[a3];exact(Sub.refl _).new a2 _
 have s4:Sub J L:=by rw[a5];exact(Sub.refl _).new a4 _
 have s5:Sub L M:=by rw[a7];exact(Sub.refl _).new a6 _
 have s6:Sub M O:=by rw[a9];exact(Sub.refl _).new a8 _
 have s7:Sub O S:=by rw[bb];exact(Sub.refl _).new ba _
 have s8:Sub S U:=by rw[bd];exact(Sub.refl _).new bc _
 have s9:Sub U V:=by rw[bf];exact(Sub.refl _).new be _
 have s10:Sub V W:=by rw[bh];exact(Sub.refl _).new bg _
 have ci:Sub W X:=by rw[bj];exact(Sub.refl _).new bi _
 have cj:Sub X Y:=by rw[bl];exact(Sub.refl _).new bk _
 have ck:Sub Y Z:=by rw[bn];exact(Sub.refl _).new bm _
 have cl:Sub Z aa:=by rw[bp];exact(Sub.refl _).new bo _
 have cm:Sub aa ab:=by rw[br];exact(Sub.refl _).new bq _
 have cn:Sub ab ac:=by rw[bt];exact(Sub.refl _).new bs _
 have co:Sub ac ad:=by rw[bv];exact(Sub.refl _).new bu _
 have cp:Sub ad ae:=by rw[bx];exact(Sub.refl _).new bw _
 have cq:Sub ae af:=by rw[b0];exact(Sub.refl _).new bz _
 have cr:Sub af ag:=by rw[cb];exact(Sub.refl _).new ca _
 have ct:Sub ag ah:=by rw[cd];exact(Sub.refl _).new cc _
 have cu:Sub ah C:=by rw[cg];exact(Sub.refl _).new cf _
 have cv:Sub C C:=Sub.refl _;have cw:Sub ah C:=cu.trans cv;have cx:Sub ag C:=ct.trans cw;have cy:Sub af C:=cr.trans cx;have cz:Sub ae C:=cq.trans cy;have c0:Sub ad C:=cp.trans cz;have da:Sub ac C:=co.trans c0;have db:Sub ab C:=cn.trans da;have dc:Sub aa C:=cm.trans db;have dd:Sub Z C:=cl.trans dc;have de:Sub Y C:=ck.trans dd;have df:Sub X C:=cj.trans de;have dg:Sub W C:=ci.trans df;have t9:Sub V C:=s10.trans dg;have t8:Sub U C:=s9.trans t9;have t7:Sub S C:=s8.trans t8;have t6:Sub O C:=s7.trans t7;have t5:Sub M C:=s6.trans t6;have t4:Sub L C:=s5.trans t5;have t3:Sub J C:=s4.trans t4;have t2:Sub I C:=s3.trans t3;have t1:Sub E C:=s2.trans t2;have t0:Sub H C:=s1.trans t1;have u1:Sub H H:=Sub.refl H;have u2:Sub H E:=u1.trans s1;have u3:Sub H I:=u2.trans s2;have u4:Sub H J:=u3.trans s3;have u5:Sub H L:=u4.trans s4;have u6:Sub H M:=u5.trans s5;have u7:Sub H O:=u6.trans s6;have u8:Sub H S:=u7.trans s7;have u9:Sub H U:=u8.trans s8;have dh:Sub H V:=u9.trans s9;have di:Sub H W:=dh.trans s10;have dj:Sub H X:=di.trans ci;have dk:Sub H Y:=dj.trans cj;have dl:Sub H Z:=dk.trans ck;have dm:Sub H aa:=dl.trans cl;have dn:Sub H ab:=dm.trans cm;have dp:Sub H ac:=dn.trans cn;have dq:Sub H ad:=dp.trans co;have dr:Sub H ae:=dq.trans cp;have ds:Sub H af:=dr.trans cq;have dt:Sub H ag:=ds.trans cr;have du:Sub H ah:=dt.trans ct;have D:Sub H C:=du.trans cu;have c1:C b1=some (.cells [.str [43]] 9):=t1 _ _ (by rw[ay];exact Aa _ _ _);have c2:C b2=some (.cells [.str [45]] 9):=t2 _ _ (by rw[a1];exact Aa _ _ _);have c3:C b3=some (.cells [.str [42]] 9):=t3 _ _ (by rw[a3];exact Aa _ _ _);have c4:C b4=some (.cells [.str [47]] 9):=t4 _ _ (by rw[a5];exact Aa _ _ _);have c5:C b5=some (.cells [.str [109,111,100]] 9):=t5 _ _ (by rw[a7];exact Aa _ _ _);have c6:C b6=some (.cells [.str [114,101,109]] 9):=t6 _ _ (by rw[a9];exact Aa _ _ _);have c7:C b7=some (.cells [.str [61]] 9):=t7 _ _ (by rw[bb];exact Aa _ _ _);have c8:C b8=some (.cells [.str [47,61]] 9):=t8 _ _ (by rw[bd];exact Aa _ _ _);have c9:C b9=some (.cells [.str [60]] 9):=t9 _ _ (by rw[bf];exact Aa _ _ _);have dv:C ai=some (.cells [.str [60,61]] 9):=dg _ _ (by rw[bh];exact Aa _ _ _);have dw:C aj=some (.cells [.str [62]] 9):=df _ _ (by rw[bj];exact Aa _ _ _);have dx:C ak=some (.cells [.str [62,61]] 9):=de _ _ (by rw[bl];exact Aa _ _ _);have dy:C al=some (.cells [.str [97,110,100]] 9):=dd _ _ (by rw[bn];exact Aa _ _ _);have dz:C am=some (.cells [.str [111,114]] 9):=dc _ _ (by rw[bp];exact Aa _ _ _);have d0:C ao=some (.cells [.str [120,111,114]] 9):=db _ _ (by rw[br];exact Aa _ _ _);have d1:C ap=some (.cells [.str [97,110,100], .str [116,104,101,110]] 9):=da _ _ (by rw[bt];exact Aa _ _ _);have d2:C aq=some (.cells [.str [111,114], .str [101,108,115,101]] 9):=c0 _ _ (by rw[bv];exact Aa _ _ _);have d3:C ar=some (.cells [.str [43]] 9):=cz _ _ (by rw[bx];exact Aa _ _ _);have d4:C au=some (.cells [.str [45]] 9):=cy _ _ (by rw[b0];exact Aa _ _ _);have d5:C av=some (.cells [.str [97,98,115]] 9):=cx _ _ (by rw[cb];exact Aa _ _ _);have d6:C aw=some (.cells [.str [110,111,116]] 9):=cw _ _ (by rw[cd];exact Aa _ _ _);have d7:C ce=some (.cells [.nilSlice, .oslice 1 b1 0 1 1, .oslice 1 b2 0 1 1, .oslice 1 b3 0 1 1, .oslice 1 b4 0 1 1, .oslice 1 b5 0 1 1, .oslice 1 b6 0 1 1, .oslice 1 b7 0 1 1, .oslice 1 b8 0 1 1, .oslice 1 b9 0 1 1, .oslice 1 ai 0 1 1, .oslice 1 aj 0 1 1, .oslice 1 ak 0 1 1, .oslice 1 al 0 1 1, .oslice 1 am 0 1 1, .oslice 1 ao 0 1 1, .oslice 1 ap 0 2 2, .oslice 1 aq 0 2 2, .oslice 1 ar 0 1 1, .oslice 1 au 0 1 1, .oslice 1 av 0 1 1, .oslice 1 aw 0 1 1] 54):=cv _ _ (by rw[cg];exact Aa _ _ _);have d8:Mh C (.oslice 1 ce 0 22 22) H (.vslice (Dj6.map dW) 22):=Mh.cells (cs':=Dj6.map dW) D (du.lo cf) d7 rfl (.cons (.nil D) (.cons (Mh.block D (u1.lo ax) c1 rfl) (.cons (Mh.block D (u2.lo a0) c2 rfl) (.cons (Mh.block D (u3.lo a2) c3 rfl) (.cons (Mh.block D (u4.lo a4) c4 rfl) (.cons (Mh.block D (u5.lo a6) c5 rfl) (.cons (Mh.block D (u6.lo a8) c6 rfl) (.cons (Mh.block D (u7.lo ba) c7 rfl) (.cons (Mh.block D (u8.lo bc) c8 rfl) (.cons (Mh.block D (u9.lo be) c9 rfl) (.cons (Mh.block D (dh.lo bg) dv rfl) (.cons (Mh.block D (di.lo bi) dw rfl) (.cons (Mh.block D (dj.lo bk) dx rfl) (.cons (Mh.block D (dk.lo bm) dy rfl) (.cons (Mh.block D (dl.lo bo) dz rfl) (.cons (Mh.block D (dm.lo bq) d0 rfl) (.cons (Mh.block D (dn.lo bs) d1 rfl) (.cons (Mh.block D (dp.lo bu) d2 rfl) (.cons (Mh.block D (dq.lo bw) d3 rfl) (.cons (Mh.block D (dr.lo bz) d4 rfl) (.cons (Mh.block D (ds.lo ca) d5 rfl) (.cons (Mh.block D (dt.lo cc) d6 rfl) (.nil)))))))))))))))))))))));simp(disch:=omega)only[go_sem];exact Mh.fin D d8 ⟨rfl,rfl⟩
theorem Az1 (G:Nat->DVal) (H:Ac) (o:Nat) (a b:Ex):Ag Tryz.prog G 166 [.int .u8 o, .agg (dEx a), .agg (dEx b)] H (Ax (.agg (dEx (both o a b))) H):=by
 have hea:both o a b= .mk 12 o 0 [] [a,b] [] a.line 0 0:=rfl;rw[hea];have U: [a,b].flatMap dEx=dEx a++dEx b:=by simp
 have aa:(dEx a)[6]? =some (dI a.line):=by cases a;rfl
 have V:(dEx a).length=9:=Ad a;have W:(dEx b).length=9:=Ad b;refine Ab Tryz.func166 Tryz.call166 rfl (by kernel_rfl) ?_;simp(disch:=omega)only[go_sem,DVal.cells];intro r4 X;dsimp only at X;simp(disch:=omega)only[go_sem,DVal.cells];intro r5 C;dsimp only at C;obtain⟨D,E,ag⟩:=Ba.1 C;simp(disch:=omega)only[go_sem];intro r6 I;dsimp only at I;obtain⟨J,L,ab⟩:=Ba.1 I;obtain⟨M,O,ac⟩:=Ba.1 ab;simp(disch:=omega)only[go_sem,D,E,J,L,M,O];rw[Bd V W];simp(disch:=omega)only[go_sem,D,E,J,L,M,O];intro r7 S;dsimp only at S;obtain⟨Y,Z,ad⟩:=Ba.1 S;obtain⟨p3,p4,ae⟩:=Ba.1 ad;obtain⟨p5,p6,af⟩:=Ba.1 ae;simp(disch:=omega)only[go_sem,D,E,J,L,M,O,Y,Z,p3,p4,p5,p6,aa];have hs:=(((((Sub.refl H).new X (some (.cells (dEx a) 27))).new C (some (.cells (dEx b) 27))).new I (some (.cells [.int .u8 0, .int .u8 0, .int .i64 0, .str [], .nilSlice, .nilSlice, .int .i64 0, .int .i64 0, .int .i64 0] 27))).new S (some (.cells (dEx a++dEx b) 27))).up ac (some (.cells [.int .u8 12, .int .u8 o, .int .i64 0, .str [], .oslice 9 r7 0 2 2, .nilSlice, .int .i64 a.line, .int .i64 0, .int .i64 0] 27));refine Mh.fin hs (Mh.agg (Mh.ex (l:= [a,b]) hs (Mh.block (e:=27) hs af ?_ ?_) (.as0 hs))) ⟨rfl,rfl⟩
 ·rw[U];simp [upd,Y,Z]
 ·rw[U,jC,V,W]
end
def Bf7:Nat->Nat->List Nat
 | _,0=> []
 | h,n+1=>h::Bf7 (h-1) n
theorem Ak7 {o:Nat} (h:o<22):(Dj6.map dW)[o]? =some (dW (Ay o)):=by
 rw[List.getElem?_map,Ay,List.getD,List.getElem?_eq_getElem (by exact h)];rfl
theorem Dk5 (o:Nat):(Ay o).length<=2:=by
 rw[Ay,List.getD];by_cases h:o<22
 ·have: ∀i:Fin 22,((Dj6[i.1]?).getD []).length<=2:=by decide
  exact this ⟨o,h⟩
 ·rw[List.getElem?_eq_none (by have:Dj6.length=22:=rfl;omega)];decide
section
variable {G:Nat->DVal} {H0 H:Ac} {r k:Nat} {l:List Tok}
theorem Fb0 (want:Nat) (o:Nat) (m:List Nat):opF l want k (o::m)=if isW l k (Ay o) then(if want≠0/\o≠want then(0,k) else(o,k+(Ay o).length)) else opF l want k m:=rfl
set_option maxHeartbeats 4000000 in
theorem Te (hG:GX G) (H:Ac) (lo hi want:Nat) (h1:1<=lo) (h2:lo<=hi) (h3:hi<=21) (hr:H r=some (rdO l k)) (hl:l.length<=1000000) (hk:k<=900000):
  Ag Tryz.prog G 165 [.optr r 0, .int .u8 lo, .int .u8 hi, .int .u8 want] H (RdQ r l H (.int .u8 (opF l want k (Bf7 hi (hi+1-lo))).1) (opF l want k (Bf7 hi (hi+1-lo))).2):=by
 have U:=hr;unfold rdO at U;refine Ab Tryz.func165 Tryz.call165 rfl (by kernel_rfl) ?_;simp(disch:=omega)only[go_sem];refine(Mi G H).mono ?_;rintro _ H1 ⟨rfl,rfl⟩;simp(disch:=omega)only[go_sem];obtain⟨I,V⟩: ∃I:Nat->(Nat->DVal)->Ac->Prop,∀j env heap,I j env heap↔(env 0= .optr r 0/\env 1= .int .u8 lo/\env 3= .int .u8 want/\env 9=Pn/\env 10= .int .u8 ((hi-j:Nat):Int)/\j<=hi+1-lo/\opF l want k (Bf7 hi (hi+1-lo))=opF l want k (Bf7 (hi-j) (hi+1-lo-j))/\heap=H1):=⟨_,fun _ _ _=>Iff.rfl⟩;refine Dr7.run I (fun j=>hi+1-lo-j) 0 ((V _ _ _).2 ?_) ?_
 ·simp(disch:=omega)only[go_sem];(repeat' apply And.intro)<;>(try first | rfl | assumption | omega)
 ·intro j env heap aa;obtain⟨D,e1,E,J,C,hj,hm,rfl⟩:=(V _ _ _).1 aa;by_cases ae:j<hi+1-lo
  ·obtain⟨o,ho⟩: ∃o,o=hi-j:=⟨_,rfl⟩;have hn:hi+1-lo-j=(hi+1-lo-(j+1))+1:=by omega
   rw[hn,Bf7,Fb0,<-ho] at hm;rw[<-ho] at C;have X:(lo:Int)<=(o:Int):=by omega
   have ab:IntKind.u8.wrap ((o:Int)-1)=((hi-(j+1):Nat):Int):=by
    rw[IntKind.wrap_u8];omega
   have L:=Ak7 (o:=o) (by omega);have ac:=Dk5 o;obtain⟨ws,ad⟩: ∃ws,ws=Ay o:=⟨_,rfl⟩;rw[<-ad] at L ac hm;have M:(Dj6.map dW).length=22:=rfl;obtain⟨W,O⟩: ∃W,W=Dj6.map dW:=⟨_,rfl⟩;rw[<-O] at L M;simp(disch:=omega)only[go_sem,D,e1,E,J,C,X,Pn,<-O,L,M,jD];refine(Aq8 hG heap ws hr hl hk (by omega)).mono ?_;rintro _ H2 ⟨rfl,rfl⟩;cases hb:isW l k ws with
   | false=>
    rw[hb] at hm;simp(disch:=omega)only[go_sem,D,e1,E,J,C];refine⟨j+1,_,Rz.refl _,(V _ _ _).2 ?_,by omega⟩;simp(disch:=omega)only[go_sem,D,e1,E,J,C,ab];(repeat' apply And.intro)<;>(try first | rfl | assumption | omega);rw[hm,if_neg (by simp),Nat.sub_sub,ho];rfl
   | true=>
    rw[hb,if_pos rfl] at hm;have Z:IntKind.i64.wrap ((k:Int)+(ws.length:Int))=((k+ws.length:Nat):Int):=by rw[IntKind.wrap_i64];omega
    by_cases c1:want=0
    ·have S:(want:Int)=0:=by omega
     rw[if_neg (by omega)] at hm;simp(disch:=omega)only[go_sem,D,e1,E,J,C,S,Pn,<-O,L,M,jD];refine Ak (by kernel_rfl) pL7 (by kernel_rfl) ?_;simp(disch:=omega)only[go_sem,D,e1,E,J,C,Pn,<-O,L,M,jD,U,Z,dW];rw[hm];exact Fa.refl ⟨rfl,rfl⟩
    ·have S: ¬(want:Int)=0:=by omega
     by_cases c2:o=want
     ·have Y:(o:Int)=(want:Int):=by omega
      rw[if_neg (by omega)] at hm;simp(disch:=omega)only[go_sem,D,e1,E,J,C,S,Y,Pn,<-O,L,M,jD];refine Ak (by kernel_rfl) pL7 (by kernel_rfl) ?_;simp(disch:=omega)only[go_sem,D,e1,E,J,C,Pn,<-O,L,M,jD,U,Z,dW];rw[hm];exact Fa.refl ⟨rfl,rfl⟩
     ·have Y: ¬(o:Int)=(want:Int):=by omega
      rw[if_pos ⟨c1,c2⟩] at hm;simp(disch:=omega)only[go_sem,D,e1,E,J,C,S,Y];rw[hm];exact Fa.refl ⟨rfl,(Ec hr).symm⟩
  ·have:j=hi+1-lo:=by omega
   subst this;have ho:hi-(hi+1-lo)=lo-1:=by omega
   have X: ¬(lo:Int)<=((lo-1:Nat):Int):=by omega
   rw[Nat.sub_self,ho,Bf7,opF] at hm;rw[ho] at C;simp(disch:=omega)only[go_sem,D,e1,E,J,C,X];rw[hm];exact Fa.refl ⟨rfl,(Ec hr).symm⟩
end
def Res.mp {α:Type} (f:α->DVal):Res α->Res DVal
 | .bot=> .bot
 | .fail k=> .fail k
 | .ok x k=> .ok (f x) k
def dE (e:Ex):DVal:= .agg (dEx e)
section
variable {G:Nat->DVal} {H0 H:Ac} {r k:Nat} {l:List Tok}
def RdC (P:Program) (G:Nat->DVal) (l:List Tok) (f:FuncId) (r:Nat) (res:Nat->Res DVal):Prop:=
 ∀H k,H r=some (rdO l k)->k<=l.length->res k≠ .bot->Ag P G f [.optr r 0] H (RdR r l H (res k))
set_option maxHeartbeats 4000000 in
theorem Bo2 (hG:GX G) (g:FuncId) (T:Nat->Nat->Res Ex) (L:Nat->Ex->Nat->Res Ex) (lo hi:Nat) (h1:1<=lo) (h2:lo<=hi) (h3:hi<=21) (hl:l.length<=800000)
  (ad: ∀x k,L 0 x k= .bot) (hL: ∀m x k,L (m+1) x k=if(opF l 0 k (Bf7 hi (hi+1-lo))).1=0 then .ok x k else(T m (opF l 0 k (Bf7 hi (hi+1-lo))).2).then fun y k'=>L m (both (opF l 0 k (Bf7 hi (hi+1-lo))).1 x y) k')
  (hT: ∀m k,k<=l.length->Adv l (k+1) (T m k)) (ae: ∀o∈Bf7 hi (hi+1-lo),o<22/\o≠0)
  (n:Nat) (hg: ∀m<n,RdC Tryz.prog G l g r fun k=>(T m k).mp dE) (H:Ac) (x:Ex) (k:Nat) (hr:H r=some (rdO l k)) (hk:k<=l.length) (hn:L n x k≠ .bot):
  Ag Tryz.prog G 170 [.optr r 0, .agg (dEx x), .int .u8 lo, .int .u8 hi, .func (.func g) [.optr r 0] []] H (RdR r l H ((L n x k).mp dE)):=by
 refine Ab Tryz.func170 Tryz.call170 rfl (by kernel_rfl) ?_;simp(disch:=omega)only[go_sem,DVal.cells];intro r6 ab;dsimp only at ab;simp(disch:=omega)only[go_sem,DVal.cells];intro rx ac;dsimp only at ac;obtain⟨m1,m2,af⟩:=Ba.1 ac;have W:r≠r6:=Af ab hr;have Z:r≠rx:=Af af hr;have ha:=((RAt.refl hr).new ab (some (.cells (dEx x) 27))).new ac (some (.cells [.int .u8 0, .int .u8 0, .int .i64 0, .str [], .nilSlice, .nilSlice, .int .i64 0, .int .i64 0, .int .i64 0] 27));simp(disch:=omega)only[go_sem,m1,m2,W,Z];refine(Te hG _ lo hi 0 h1 h2 h3 ha.get (by omega) (by omega)).mono ?_;rintro _ H1 ⟨rfl,rfl⟩;obtain⟨os,ag⟩: ∃os,os=Bf7 hi (hi+1-lo):=⟨_,rfl⟩;rw[<-ag] at hL ae⊢
 have q6:=W.symm;have qx:=Z.symm;obtain⟨z,hz⟩: ∃z,z=(some (.cells [.int .u8 0, .int .u8 0, .int .i64 0, .str [], .nilSlice, .nilSlice, .int .i64 0, .int .i64 0, .int .i64 0] 27):Option DObj):=⟨_,rfl⟩;rw[<-hz] at ha;obtain⟨n',rfl⟩: ∃n',n=n'+1:=by
  cases n with
  | zero=>exact absurd (ad _ _) hn
  | succ n'=>exact⟨n',rfl⟩
 simp(disch:=omega)only[go_sem,m1,m2,W,Z];obtain⟨I,hI⟩: ∃I:Nat×Ex×Nat->(Nat->DVal)->Ac->Prop,∀s env heap,I s env heap↔(env 0= .optr r 0/\env 2= .int .u8 lo/\env 3= .int .u8 hi/\env 4= .func (.func g) [.optr r 0] []/\env 6= .optr r6 0/\env 10= .optr rx 0/\env 11= .int .u8 (opF l 0 s.2.2 os).1/\s.2.2<=l.length/\s.1<=n'/\L (s.1+1) s.2.1 s.2.2=L (n'+1) x k/\RAt r l (opF l 0 s.2.2 os).2 H heap/\heap r6=some (.cells (dEx s.2.1) 27)/\heap rx=z):=⟨_,fun _ _ _=>Iff.rfl⟩;refine Dr7.run I (fun s=>s.1) (n',x,k) ((hI _ _ _).2 ?_) ?_
 ·simp(disch:=omega)only[go_sem,<-hz,m1,m2,W,Z,q6,qx];(repeat' apply And.intro)<;>(try first | rfl | assumption | omega);exact ha.set _
 ·rintro⟨m,y,k1⟩ env heap am;obtain⟨D,E,J,M,O,S,U,ah,hm,C,V,g6,gx⟩:=(hI _ _ _).1 am;dsimp only at U ah hm C V g6;rw[hL] at C;have ai:=Cy (want:=0) (os:=os) (k:=k1) (l:=l) ae ah;obtain⟨o,ho⟩: ∃o,o=(opF l 0 k1 os).1:=⟨_,rfl⟩;obtain⟨X,aj⟩: ∃X,X=(opF l 0 k1 os).2:=⟨_,rfl⟩;rw[<-ho,<-aj] at C ai;rw[<-ho] at U;rw[<-aj] at V;by_cases c:o=0
  ·have c':(o:Int)=0:=by omega
   rw[if_pos c] at C;rw[hz] at gx;have ao:X=k1:=ai.1 c;rw[ao] at V;simp(disch:=omega)only[go_sem,D,E,J,M,O,S,U,c',g6,gx];rw[<-C];exact RAt.fin (V.own af qx _) ⟨rfl,rfl⟩
  ·have c': ¬(o:Int)=0:=by omega
   rw[if_neg c] at C;simp(disch:=omega)only[go_sem,D,E,J,M,O,S,U,c'];refine Ak (by kernel_rfl) pL16 (by kernel_rfl) ?_;simp(disch:=omega)only[go_sem,D,E,J,M,O,S,U,g6];have ak:=hT m X (by omega);have aa:=hg m (by omega) heap X V.get (by omega);dsimp only at aa;cases hTk:T m X with
   | bot=>rw[hTk] at C;exact absurd C.symm hn
   | fail Y=>
    rw[hTk] at aa C;refine(aa (by simp [Res.mp])).mono ?_;rintro e H2 ⟨rfl,rfl⟩;simp(disch:=omega)only[go_sem];rw[<-C];exact RAt.finP (V.set Y) ⟨rfl,rfl⟩
   | ok y2 Y=>
    rw[hTk] at aa C ak;dsimp only[Res.then,Adv] at C ak;refine(aa (by simp [Res.mp])).mono ?_;rintro e H2 ⟨rfl,rfl⟩;simp(disch:=omega)only[go_sem,D,E,J,M,O,S,U,dE,q6];refine(Az1 G _ o y y2).mono ?_;rintro _ H3 ⟨rfl,rfl⟩;have ap:=Ad (both o y y2);have aq:=Bo (both o y y2);have ar:=Ad y;have au:(dEx y).drop 9= []:=List.drop_eq_nil_of_le (by omega);simp(disch:=omega)only[go_sem,D,E,J,M,O,S,U,g6,W,q6,ap,aq,ar,au];have al:RAt r l Y H (upd (upd heap r (some (rdO l Y))) r6 (some (.cells (dEx (both o y y2)) 27))):=(V.set Y).own ab q6 _;refine(Te hG _ lo hi 0 h1 h2 h3 al.get (by omega) (by omega)).mono ?_;rintro _ H4 ⟨rfl,rfl⟩;rw[<-ag];obtain⟨m',rfl⟩: ∃m',m=m'+1:=by
     cases m with
     | zero=>rw[ad] at C;exact absurd C.symm hn
     | succ m'=>exact⟨m',rfl⟩
    simp(disch:=omega)only[go_sem,D,E,J,M,O,S];refine⟨(m',both o y y2,Y),_,Rz.refl _,(hI _ _ _).2 ?_,by dsimp only;omega⟩;simp(disch:=omega)only[go_sem,D,E,J,M,O,S,q6,qx,W,Z,g6,gx,m1,m2,C];(repeat' apply And.intro)<;>(try first | rfl | assumption | omega);exact al.set _
end
section
variable {G:Nat->DVal} {H0 H:Ac} {r k:Nat} {l:List Tok}
theorem Fv7 (hG:GX G) (H:Ac) (hr:H r=some (rdO l k)) (hl:l.length<=800000) (hk:k<=l.length):Ag Tryz.prog G 165 [.optr r 0, .int .u8 20, .int .u8 21, .int .u8 0] H (RdQ r l H (.int .u8 (opF l 0 k It).1) (opF l 0 k It).2):=
 Te hG H 20 21 0 (by decide) (by decide) (by decide) hr (by omega) (by omega)
theorem Fb1 (hG:GX G) (H:Ac) (hr:H r=some (rdO l k)) (hl:l.length<=800000) (hk:k<=l.length):Ag Tryz.prog G 165 [.optr r 0, .int .u8 18, .int .u8 19, .int .u8 0] H (RdQ r l H (.int .u8 (opF l 0 k Fq).1) (opF l 0 k Fq).2):=
 Te hG H 18 19 0 (by decide) (by decide) (by decide) hr (by omega) (by omega)
theorem Fv8 (hG:GX G) (H:Ac) (hr:H r=some (rdO l k)) (hl:l.length<=800000) (hk:k<=l.length):Ag Tryz.prog G 165 [.optr r 0, .int .u8 7, .int .u8 12, .int .u8 0] H (RdQ r l H (.int .u8 (opF l 0 k Mf).1) (opF l 0 k Mf).2):=
 Te hG H 7 12 0 (by decide) (by decide) (by decide) hr (by omega) (by omega)
theorem Du5 (hG:GX G) (H:Ac) (want:Nat) (hr:H r=some (rdO l k)) (hl:l.length<=800000) (hk:k<=l.length):Ag Tryz.prog G 165 [.optr r 0, .int .u8 13, .int .u8 17, .int .u8 want] H (RdQ r l H (.int .u8 (opF l want k Em).1) (opF l want k Em).2):=
 Te hG H 13 17 want (by decide) (by decide) (by decide) hr (by omega) (by omega)
theorem Cf {α:Type} {f:α->DVal} {x:Res α} (h:x≠ .bot):x.mp f≠ .bot:=by cases x<;>simp_all [Res.mp]
theorem Al {x:List DVal} (hx:x.length=9):
  (if 9<=(Cd 1 [DVal.int .u8 0,DVal.int .u8 0,DVal.int .i64 0,DVal.str [],DVal.nilSlice,DVal.nilSlice,DVal.int .i64 0,DVal.int .i64 0,DVal.int .i64 0]).length then
   some (x++List.drop 9 (Cd 1 [DVal.int .u8 0,DVal.int .u8 0,DVal.int .i64 0,DVal.str [],DVal.nilSlice,DVal.nilSlice,DVal.int .i64 0,DVal.int .i64 0,DVal.int .i64 0]))
  else none)=some x:=by
 have e: ∀u:List DVal,Cd 1 u=u:=fun u=>by simp [Cd]
 rw[e,if_pos (by simp),List.drop_eq_nil_of_le (by simp),jH]
theorem Fb2 {x:List DVal} (hx:x.length=9) (z:List DVal) (hz:z.length=9):x++z.drop 9=x:=by rw[List.drop_eq_nil_of_le (by omega),jH]
theorem Aj {H:Ac} {r x:Nat} {y:Option DObj} {o:DObj} (h:H x=some o) (C:x≠r):upd H r y x=some o:=by rw[Am _ _ _ _ C];exact h
set_option maxHeartbeats 4000000 in
theorem Cv6 (hG:GX G) (hl:l.length<=800000) (p:PS) (hA:p.Adv l) (hp:RdC Tryz.prog G l 64 r fun k=>(p.primary k).mp dE):RdC Tryz.prog G l 63 r fun k=>((Be l p).factor k).mp dE:=by
 intro H k hr hk hn;dsimp only[Be] at hn⊢
 have ae:=Cy (want:=0) (os:=It) (k:=k) (l:=l) Gx7.2.2.2.2.2 hk;refine Ab Tryz.func63 Tryz.call63 rfl (by kernel_rfl) ?_;simp(disch:=omega)only[go_sem];intro D M;dsimp only at M;obtain⟨Ha,X⟩: ∃K,K=upd H D (some (.cells [.int .u8 0, .int .u8 0, .int .i64 0, .str [], .nilSlice, .nilSlice, .int .i64 0, .int .i64 0, .int .i64 0] 27)):=⟨_,rfl⟩;rw[<-X];have af:Ha D=some (.cells [.int .u8 0, .int .u8 0, .int .i64 0, .str [], .nilSlice, .nilSlice, .int .i64 0, .int .i64 0, .int .i64 0] 27):=by rw[X];exact Aa _ _ _
 have n2:r≠D:=Af M hr;have q2:=n2.symm;have ha:RAt r l k H Ha:=by rw[X];exact(RAt.refl hr).new M _
 simp(disch:=omega)only[go_sem];refine(Ay7 G _ ha.get (by omega) (by omega)).mono ?_;rintro _ H1 ⟨rfl,rfl⟩;simp(disch:=omega)only[go_sem];refine(Fv7 hG _ ha.get hl hk).mono ?_;rintro _ H2 ⟨rfl,Y⟩;obtain⟨o,ho⟩: ∃o,o=(opF l 0 k It).1:=⟨_,rfl⟩;obtain⟨I,ab⟩: ∃I,I=(opF l 0 k It).2:=⟨_,rfl⟩;rw[<-ho,<-ab] at ae hn⊢
 rw[<-ab] at Y;have Z:RAt r l I H H2:=by rw[Y];exact ha.set I
 have g2:H2 D=some (.cells [.int .u8 0, .int .u8 0, .int .i64 0, .str [], .nilSlice, .nilSlice, .int .i64 0, .int .i64 0, .int .i64 0] 27):=by rw[Y];exact Aj af q2
 simp(disch:=omega)only[go_sem];have O:=hp _ I Z.get (by omega);dsimp only at O;cases hpr:p.primary I with
 | bot=>rw[hpr] at hn;exact absurd rfl hn
 | fail W=>
  rw[hpr] at O;refine(O (Cf (by simp))).mono ?_;rintro e H3 ⟨rfl,rfl⟩;simp(disch:=omega)only[go_sem];exact RAt.finP (Z.set W) ⟨rfl,rfl⟩
 | ok x W=>
  rw[hpr] at O;refine(O (Cf (by simp))).mono ?_;rintro e H3 ⟨rfl,ac⟩;have S:RAt r l W H H3:=by rw[ac];exact Z.set W
  dsimp only[Res.then];have E:H3 D=some (.cells [.int .u8 0, .int .u8 0, .int .i64 0, .str [], .nilSlice, .nilSlice, .int .i64 0, .int .i64 0, .int .i64 0] 27):=by rw[ac];exact Aj g2 q2
  simp(disch:=omega)only[go_sem,dE];intro r5 J;dsimp only at J;have L:D≠r5:=Af J E;have U:=L.symm;have C:=Ad x;have V:=Bo x;have hc:=Fb2 C [.int .u8 0, .int .u8 0, .int .i64 0, .str [], .nilSlice, .nilSlice, .int .i64 0, .int .i64 0, .int .i64 0] rfl;simp(disch:=omega)only[go_sem,L,U,E,C,V];by_cases c:o=0
  ·have c':(o:Int)=0:=by omega
   simp(disch:=omega)only[go_sem,L,U,E,C,V,c'];rw[show Nw o (tk l k).line x=x by rw[Nw,if_pos c]];exact RAt.fin ((S.new J _).own M q2 _) ⟨rfl,rfl⟩
  ·have c': ¬(o:Int)=0:=by omega
   simp(disch:=omega)only[go_sem,L,U,E,C,V,c'];rw[Al C];simp(disch:=omega)only[go_sem,L,U,E,C,V,c'];intro r8 aa;dsimp only at aa;obtain⟨m1,m2,ad⟩:=Ba.1 aa;have n8:D≠r8:=Af ad E;have q8:=n8.symm;simp(disch:=omega)only[go_sem,L,U,E,C,V,m1,m2,n8,q8];rw[show Nw o (tk l k).line x= .mk 11 o 0 [] [x] [] (tk l k).line 0 0 by rw[Nw,if_neg c]];have p5:r≠r5:=Af J S.get;have hs:=(((S.new J (some (.cells (dEx x) 27))).new aa (some (.cells (dEx x) 27))).own (S.lo J) p5.symm (some (.cells [.int .u8 11, .int .u8 o, .int .i64 0, .str [], .oslice 9 r8 0 1 1, .nilSlice, .int .i64 (tk l k).line, .int .i64 0, .int .i64 0] 27))).own M q2 (some (.cells [.int .u8 11, .int .u8 o, .int .i64 0, .str [], .oslice 9 r8 0 1 1, .nilSlice, .int .i64 (tk l k).line, .int .i64 0, .int .i64 0] 27));refine Mh.fin hs (Mh.agg (Mh.ex (l:= [x]) hs (Mh.block (e:=27) hs (Sub.lo S ad) ?_ ?_) (.as0 hs))) ⟨rfl,rfl⟩
   ·rw[List.flatMap_singleton];simp [upd,m1,m2,n8,q8]
   ·rw[List.flatMap_singleton,C]
theorem Fb3 (hG:GX G) (hl:l.length<=800000) (n:Nat) (C: ∀m<n,RdC Tryz.prog G l 63 r fun k=>((P l m).factor k).mp dE) (H:Ac) (x:Ex) (k:Nat) (hr:H r=some (rdO l k)) (hk:k<=l.length) (D:(P l n).mulL x k≠ .bot):
  Ag Tryz.prog G 170 [.optr r 0, .agg (dEx x), .int .u8 3, .int .u8 6, .func (.func 63) [.optr r 0] []] H (RdR r l H (((P l n).mulL x k).mp dE)):=
 Bo2 hG _ (fun m=>(P l m).factor) (fun m=>(P l m).mulL) 3 6 (by decide) (by decide) (by decide) hl (fun _ _=>rfl) (fun _ _ _=>rfl) (fun m k hk=>(Kl m).factor k hk) Gx7.2.2.2.2.1 n C H x k hr hk D
theorem Cv7 (hG:GX G) (hl:l.length<=800000) (n:Nat) (C: ∀m<n,RdC Tryz.prog G l 62 r fun k=>((P l m).term k).mp dE) (H:Ac) (x:Ex) (k:Nat) (hr:H r=some (rdO l k)) (hk:k<=l.length) (D:(P l n).addL x k≠ .bot):
  Ag Tryz.prog G 170 [.optr r 0, .agg (dEx x), .int .u8 1, .int .u8 2, .func (.func 62) [.optr r 0] []] H (RdR r l H (((P l n).addL x k).mp dE)):=
 Bo2 hG _ (fun m=>(P l m).term) (fun m=>(P l m).addL) 1 2 (by decide) (by decide) (by decide) hl (fun _ _=>rfl) (fun _ _ _=>rfl) (fun m k hk=>(Kl m).term k hk) Gx7.2.2.2.1 n C H x k hr hk D
set_option maxHeartbeats 4000000 in
theorem Ei1 (hG:GX G) (hl:l.length<=800000) (n:Nat) (V: ∀m≤n,RdC Tryz.prog G l 63 r fun k=>((P l m).factor k).mp dE):RdC Tryz.prog G l 62 r fun k=>((P l (n+1)).term k).mp dE:=by
 intro H k hr hk hn;have e:(P l (n+1)).term k=((P l n).factor k).then fun x k=>(P l n).mulL x k:=rfl
 dsimp only at hn⊢
 rw[e] at hn⊢
 refine Ab Tryz.func62 Tryz.call62 rfl (by kernel_rfl) ?_;simp(disch:=omega)only[go_sem];intro D I;dsimp only at I;obtain⟨W,O⟩: ∃K,K=upd H D (some (.cells [.int .u8 0, .int .u8 0, .int .i64 0, .str [], .nilSlice, .nilSlice, .int .i64 0, .int .i64 0, .int .i64 0] 27)):=⟨_,rfl⟩;rw[<-O];have ab:W D=some (.cells [.int .u8 0, .int .u8 0, .int .i64 0, .str [], .nilSlice, .nilSlice, .int .i64 0, .int .i64 0, .int .i64 0] 27):=by rw[O];exact Aa _ _ _
 have n2:r≠D:=Af I hr;have q2:=n2.symm;have ha:RAt r l k H W:=by rw[O];exact(RAt.refl hr).new I _
 simp(disch:=omega)only[go_sem];have E:=V n (Nat.le_refl _) _ k ha.get hk;have X:=(Kl (l:=l) n).factor k hk;dsimp only at E;cases hpr:(P l n).factor k with
 | bot=>rw[hpr] at hn;exact absurd rfl hn
 | fail C=>
  rw[hpr] at E;refine(E (Cf (by simp))).mono ?_;rintro e J ⟨rfl,rfl⟩;simp(disch:=omega)only[go_sem];exact RAt.finP (ha.set C) ⟨rfl,rfl⟩
 | ok x C=>
  rw[hpr] at E hn X;refine(E (Cf (by simp))).mono ?_;rintro e J ⟨rfl,Y⟩;have S:RAt r l C H J:=by rw[Y];exact ha.set C
  dsimp only[Res.then,Adv] at hn X⊢
  have g3:J D=some (.cells [.int .u8 0, .int .u8 0, .int .i64 0, .str [], .nilSlice, .nilSlice, .int .i64 0, .int .i64 0, .int .i64 0] 27):=by rw[Y];exact Aj ab q2
  simp(disch:=omega)only[go_sem,dE];have Z:(P l n).mulL x C≠ .bot:=fun h=>hn (by rw[h];rfl);have L:=Fb3 hG hl n (fun m hm=>V m (by omega)) J x C S.get (by omega) Z;cases hpc:(P l n).mulL x C with
  | bot=>exact absurd hpc Z
  | fail M=>
   rw[hpc] at L;refine L.mono ?_;rintro e U ⟨rfl,rfl⟩;simp(disch:=omega)only[go_sem];exact RAt.finP (S.set M) ⟨rfl,rfl⟩
  | ok y M=>
   rw[hpc] at L;refine L.mono ?_;rintro e U ⟨rfl,aa⟩;have ac:RAt r l M H U:=by rw[aa];exact S.set M
   have g4:U D=some (.cells [.int .u8 0, .int .u8 0, .int .i64 0, .str [], .nilSlice, .nilSlice, .int .i64 0, .int .i64 0, .int .i64 0] 27):=by rw[aa];exact Aj g3 q2
   have ad:=Ad y;have ae:=Bo y;simp(disch:=omega)only[go_sem,dE,g4,ad,ae];exact RAt.fin (ac.own I q2 _) ⟨rfl,rfl⟩
end
section
variable {G:Nat->DVal} {H0 H:Ac} {r k:Nat} {l:List Tok}
set_option maxHeartbeats 4000000 in
theorem Cv8 (hG:GX G) (hl:l.length<=800000) (n:Nat) (hg: ∀m≤n,RdC Tryz.prog G l 62 r fun k=>((P l m).term k).mp dE):RdC Tryz.prog G l 61 r fun k=>((P l (n+1)).simple k).mp dE:=by
 intro H k hr hk hn;have e:(P l (n+1)).simple k=((P l n).term (opF l 0 k Fq).2).then fun x k'=>(P l n).addL (Nw (opF l 0 k Fq).1 (tk l k).line x) k':=rfl
 dsimp only at hn⊢
 rw[e] at hn⊢
 have ax:=Cy (want:=0) (os:=Fq) (k:=k) (l:=l) Gx7.2.2.1 hk;refine Ab Tryz.func61 Tryz.call61 rfl (by kernel_rfl) ?_;simp(disch:=omega)only[go_sem];intro D ac;dsimp only at ac;obtain⟨Ha,ah⟩: ∃K,K=upd H D (some (.cells [.int .u8 0, .int .u8 0, .int .i64 0, .str [], .nilSlice, .nilSlice, .int .i64 0, .int .i64 0, .int .i64 0] 27)):=⟨_,rfl⟩;rw[<-ah];have ay:Ha D=some (.cells [.int .u8 0, .int .u8 0, .int .i64 0, .str [], .nilSlice, .nilSlice, .int .i64 0, .int .i64 0, .int .i64 0] 27):=by rw[ah];exact Aa _ _ _
 have n2:r≠D:=Af ac hr;have q2:=n2.symm;have ha:RAt r l k H Ha:=by rw[ah];exact(RAt.refl hr).new ac _
 simp(disch:=omega)only[go_sem];refine(Ay7 G _ ha.get (by omega) (by omega)).mono ?_;rintro _ H1 ⟨rfl,rfl⟩;simp(disch:=omega)only[go_sem];refine(Fb1 hG _ ha.get hl hk).mono ?_;rintro _ H2 ⟨rfl,ai⟩;obtain⟨o,ho⟩: ∃o,o=(opF l 0 k Fq).1:=⟨_,rfl⟩;obtain⟨V,ar⟩: ∃V,V=(opF l 0 k Fq).2:=⟨_,rfl⟩;rw[<-ho,<-ar] at ax hn⊢
 rw[<-ar] at ai;have aj:RAt r l V H H2:=by rw[ai];exact ha.set V
 have g2:H2 D=some (.cells [.int .u8 0, .int .u8 0, .int .i64 0, .str [], .nilSlice, .nilSlice, .int .i64 0, .int .i64 0, .int .i64 0] 27):=by rw[ai];exact Aj ay q2
 simp(disch:=omega)only[go_sem];have ad:=hg n (Nat.le_refl _) _ V aj.get (by omega);have au:=(Kl (l:=l) n).term V (by omega);dsimp only at ad;cases hpr:(P l n).term V with
 | bot=>rw[hpr] at hn;exact absurd rfl hn
 | fail E=>
  rw[hpr] at ad;refine(ad (Cf (by simp))).mono ?_;rintro e O ⟨rfl,rfl⟩;simp(disch:=omega)only[go_sem];exact RAt.finP (aj.set E) ⟨rfl,rfl⟩
 | ok x E=>
  rw[hpr] at ad hn au;refine(ad (Cf (by simp))).mono ?_;rintro e O ⟨rfl,av⟩;have ak:RAt r l E H O:=by rw[av];exact aj.set E
  dsimp only[Res.then,Adv] at hn au⊢
  have J:O D=some (.cells [.int .u8 0, .int .u8 0, .int .i64 0, .str [], .nilSlice, .nilSlice, .int .i64 0, .int .i64 0, .int .i64 0] 27):=by rw[av];exact Aj g2 q2
  have Z:(P l n).addL (Nw o (tk l k).line x) E≠ .bot:=fun h=>hn (by rw[h];rfl);simp(disch:=omega)only[go_sem,dE];intro I ae;dsimp only at ae;have S:D≠I:=Af ae J;have q5:=S.symm;have p5:r≠I:=Af ae ak.get;have W:=Ad x;have af:=Bo x;simp(disch:=omega)only[go_sem,S,q5,J,W,af];by_cases c:o=0
  ·have c':(o:Int)=0:=by omega
   simp(disch:=omega)only[go_sem,S,q5,J,W,af,c'];rw[show Nw o (tk l k).line x=x by rw[Nw,if_pos c]] at Z⊢
   have U:=ak.new ae (some (.cells (dEx x) 27));have g5:upd O I (some (.cells (dEx x) 27)) D=some (.cells [.int .u8 0, .int .u8 0, .int .i64 0, .str [], .nilSlice, .nilSlice, .int .i64 0, .int .i64 0, .int .i64 0] 27):=Aj J S;obtain⟨C,aa⟩: ∃C,C=upd O I (some (.cells (dEx x) 27)):=⟨_,rfl⟩;rw[<-aa] at U g5⊢
   have L:=Cv7 hG hl n (fun m hm=>hg m (by omega)) C x E U.get (by omega) Z;cases hpc:(P l n).addL x E with
   | bot=>exact absurd hpc Z
   | fail M=>
    rw[hpc] at L;refine L.mono ?_;rintro e X ⟨rfl,rfl⟩;simp(disch:=omega)only[go_sem];exact RAt.finP (U.set M) ⟨rfl,rfl⟩
   | ok y M=>
    rw[hpc] at L;refine L.mono ?_;rintro e X ⟨rfl,ag⟩;have al:RAt r l M H X:=by rw[ag];exact U.set M
    have g4:X D=some (.cells [.int .u8 0, .int .u8 0, .int .i64 0, .str [], .nilSlice, .nilSlice, .int .i64 0, .int .i64 0, .int .i64 0] 27):=by rw[ag];exact Aj g5 q2
    have am:=Ad y;have ao:=Bo y;simp(disch:=omega)only[go_sem,dE,g4,am,ao];exact RAt.fin (al.own ac q2 _) ⟨rfl,rfl⟩
  ·have c': ¬(o:Int)=0:=by omega
   simp(disch:=omega)only[go_sem,S,q5,J,W,af,c'];rw[Al W];simp(disch:=omega)only[go_sem,S,q5,J,W,af,c'];intro Y aw;dsimp only at aw;obtain⟨m1,m2,ap⟩:=Ba.1 aw;have n8:D≠Y:=Af ap J;have q8:=n8.symm;simp(disch:=omega)only[go_sem,S,q5,J,W,af,m1,m2,n8,q8];obtain⟨xe,aq⟩: ∃xe,xe=Nw o (tk l k).line x:=⟨_,rfl⟩;rw[<-aq] at Z⊢
   rw[show Nw o (tk l k).line x= .mk 11 o 0 [] [x] [] (tk l k).line 0 0 by rw[Nw,if_neg c]] at aq;obtain⟨c5,a0⟩: ∃c5,c5=(some (.cells [.int .u8 11, .int .u8 o, .int .i64 0, .str [], .oslice 9 Y 0 1 1, .nilSlice, .int .i64 (tk l k).line, .int .i64 0, .int .i64 0] 27):Option DObj):=⟨_,rfl⟩;obtain⟨C,aa⟩: ∃C,C=upd O I c5:=⟨_,rfl⟩;have U:RAt r l E H C:=by rw[aa];exact ak.new ae _
   have g5:C D=some (.cells [.int .u8 0, .int .u8 0, .int .i64 0, .str [], .nilSlice, .nilSlice, .int .i64 0, .int .i64 0, .int .i64 0] 27):=by rw[aa];exact Aj J S
   rw[<-a0];have ab:Sub C (upd (upd (upd O I (some (.cells (dEx x) 27))) Y (some (.cells (dEx x) 27))) I c5):=by
    intro b ob hb;rw[aa] at hb;simp only[upd] at hb⊢
    by_cases e1:b=I
    ·rw[if_pos e1] at hb⊢;exact hb
    ·rw[if_neg e1] at hb⊢
     have e2:b≠Y:=fun e=>by rw[e,ap] at hb;cases hb
     rw[if_neg e2,if_neg e1];exact hb
   have a1:C Y=none:=by rw[aa,Am _ _ _ _ m1];exact ap
   have L:=Cv7 hG hl n (fun m hm=>hg m (by omega)) C xe E U.get (by omega) Z;have a2:Lf (upd (upd (upd O I (some (.cells (dEx x) 27))) Y (some (.cells (dEx x) 27))) I c5)
     [.optr r 0, .agg [.int .u8 11, .int .u8 o, .int .i64 0, .str [], .oslice 9 Y 0 1 1, .nilSlice, .int .i64 (tk l k).line, .int .i64 0, .int .i64 0], .int .u8 1, .int .u8 2, .func (.func 62) [.optr r 0] []] C
     [.optr r 0, .agg (dEx xe), .int .u8 1, .int .u8 2, .func (.func 62) [.optr r 0] []]:=by
    rw[aq];refine .cons (.keep ab _) (.cons (Mh.agg (Mh.ex (l:= [x]) ab (Mh.block (e:=27) ab a1 ?_ ?_) (.as0 ab))) (.keep ab _))
    ·rw[List.flatMap_singleton];simp [upd,m1,m2]
    ·rw[List.flatMap_singleton,W]
   refine a2.call ab ?_;cases hpc:(P l n).addL xe E with
   | bot=>exact absurd hpc Z
   | fail M=>
    rw[hpc] at L;refine L.mono ?_;rintro e X ⟨rfl,rfl⟩;simp(disch:=omega)only[go_sem];exact RAt.finP (U.set M) ⟨rfl,rfl⟩
   | ok y M=>
    rw[hpc] at L;refine L.mono ?_;rintro e X ⟨rfl,ag⟩;have al:RAt r l M H X:=by rw[ag];exact U.set M
    have g4:X D=some (.cells [.int .u8 0, .int .u8 0, .int .i64 0, .str [], .nilSlice, .nilSlice, .int .i64 0, .int .i64 0, .int .i64 0] 27):=by rw[ag];exact Aj g5 q2
    have am:=Ad y;have ao:=Bo y;simp(disch:=omega)only[go_sem,dE,g4,am,ao];exact RAt.fin (al.own ac q2 _) ⟨rfl,rfl⟩
end
section
variable {G:Nat->DVal} {H0 H:Ac} {r k:Nat} {l:List Tok}
def Dk6 (P:Program) (G:Nat->DVal) (l:List Tok) (f:FuncId) (r:Nat) (a:DVal) (res:Nat->Res DVal):Prop:=
 ∀H k,H r=some (rdO l k)->k<=l.length->res k≠ .bot->Ag P G f [.optr r 0,a] H (RdR r l H (res k))
theorem Jw.set {H B H':Ac} {e:TypeId} {size n:Nat} {cs:List DVal} {v:DVal} {x:Nat} {o:DObj} (h:Jw B e size n cs v H') (s:Sub H B) (hx:H x=none) (C:B x=some o) (y:Option DObj):Jw H e size n cs v (upd H' x y):=by
 rcases h with⟨a,b,c,d⟩ | ⟨q,h1,h2,h3,h4,h5⟩
 ·exact .inl ⟨a,b,c,Sub.up (s.trans d) hx _⟩
 ·have hq:q≠x:=fun e=>by rw[e,C] at h1;cases h1
  exact .inr ⟨q,s.lo h1,h2,h3,by rw[Am _ _ _ _ hq];exact h4,Sub.up (s.trans h5) hx _⟩
theorem Sub.move {H H':Ac} (h:Sub H H') (r:Nat) (x:Option DObj):Sub (upd H r x) (upd H' r x):=h.both r x
set_option maxHeartbeats 4000000 in
theorem Bx4 (hG:GX G) (hl:l.length<=800000) (p:PS) (hA:p.Adv l) (hp:RdC Tryz.prog G l 61 r fun k=>(p.simple k).mp dE) (x:Ex):Dk6 Tryz.prog G l 60 r (.agg (dEx x)) fun k=>((Be l p).relation x k).mp dE:=by
 intro H k hr hk hn;dsimp only[Be] at hn⊢
 have bd:=Cy (want:=0) (os:=Mf) (k:=k) (l:=l) Gx7.2.1 hk;have ag:=Ad x;have bs:=Bo x;have be:(dEx x)[6]? =some (dI x.line):=by cases x;rfl
 refine Ab Tryz.func60 Tryz.call60 rfl (by kernel_rfl) ?_;simp(disch:=omega)only[go_sem,DVal.cells];intro M a4;dsimp only at a4;obtain⟨Hb,a5⟩: ∃K,K=upd H M (some (.cells (dEx x) 27)):=⟨_,rfl⟩;rw[<-a5];have bf:Hb M=some (.cells (dEx x) 27):=by rw[a5];exact Aa _ _ _
 have n3:r≠M:=Af a4 hr;have q3:=n3.symm;simp(disch:=omega)only[go_sem,DVal.cells];intro C al;dsimp only at al;obtain⟨Ha,av⟩: ∃K,K=upd Hb C (some (.cells [.int .u8 0, .int .u8 0, .int .i64 0, .str [], .nilSlice, .nilSlice, .int .i64 0, .int .i64 0, .int .i64 0] 27)):=⟨_,rfl⟩;rw[<-av];have bt:Ha C=some (.cells [.int .u8 0, .int .u8 0, .int .i64 0, .str [], .nilSlice, .nilSlice, .int .i64 0, .int .i64 0, .int .i64 0] 27):=by rw[av];exact Aa _ _ _
 have a6:RAt r l k H Hb:=by rw[a5];exact(RAt.refl hr).new a4 _
 have n4:r≠C:=Af al a6.get;have X:=n4.symm;have m3:M≠C:=Af al bf;have m4:=m3.symm;have aw:H C=none:=a6.lo al;have ha:RAt r l k H Ha:=by rw[av];exact a6.new al _
 have g3:Ha M=some (.cells (dEx x) 27):=by rw[av];exact Aj bf m3
 simp(disch:=omega)only[go_sem];refine(Fv8 hG _ ha.get hl hk).mono ?_;rintro _ H2 ⟨rfl,ax⟩;obtain⟨o,ho⟩: ∃o,o=(opF l 0 k Mf).1:=⟨_,rfl⟩;obtain⟨k2,bg⟩: ∃k2,k2=(opF l 0 k Mf).2:=⟨_,rfl⟩;rw[<-ho,<-bg] at bd hn⊢
 rw[<-bg] at ax;have Y:RAt r l k2 H H2:=by rw[ax];exact ha.set k2
 have ah:H2 M=some (.cells (dEx x) 27):=by rw[ax];exact Aj g3 q3
 have ay:H2 C=some (.cells [.int .u8 0, .int .u8 0, .int .i64 0, .str [], .nilSlice, .nilSlice, .int .i64 0, .int .i64 0, .int .i64 0] 27):=by rw[ax];exact Aj bt X
 by_cases c:o=0
 ·have c':(o:Int)=0:=by omega
  have bu:k2=k:=bd.1 c;rw[if_neg (by omega)] at hn⊢
  rw[bu] at Y;refine(fun(tail: ∀(S:DS) (O:Nat) (V:Int),RAt r l O H S.heap->S.heap M=some (.cells (dEx x) 27)->S.heap C=some (.cells [.int .u8 0, .int .u8 0, .int .i64 0, .str [], .nilSlice, .nilSlice, .int .i64 0, .int .i64 0, .int .i64 0] 27)->O<=l.length->S.env 0= .optr r 0->S.env 3= .optr M 0->S.env 4= .optr C 0->S.env 6= .int .u8 V->(inK l x V O p).mp dE≠ .bot->(?T:DS->Nat->Int->Prop) S O V)=> ?A) ?B
  case A=>
   simp(disch:=omega)only[go_sem,c'];intro q1 bh;dsimp only at bh;simp(disch:=omega)only[go_sem];refine(Ay9 hG H2 q1 wIn bh Y.get (by omega) (by omega)).mono ?_;rintro _ W ⟨rfl,U⟩;by_cases b1:isW l k [wIn]=true
   ·rw[if_pos b1] at hn U⊢
    have aa:RAt r l (k+1) H W:=by rw[U];exact Y.set _
    have ac:W M=some (.cells (dEx x) 27):=by rw[U];exact Aj ah q3
    have ai:W C=some (.cells [.int .u8 0, .int .u8 0, .int .i64 0, .str [], .nilSlice, .nilSlice, .int .i64 0, .int .i64 0, .int .i64 0] 27):=by rw[U];exact Aj ay X
    have ad:=Av b1 hk;obtain⟨O,am⟩: ∃O,O=k+1:=⟨_,rfl⟩;rw[<-am] at hn aa⊢
    rw[jQ,<-am] at ad;simp(disch:=omega)only[go_sem,b1];obtain⟨V,a7⟩: ∃V:Int,V=13:=⟨_,rfl⟩;rw[<-a7] at hn⊢
    generalize hS:(DS.mk _ W:DS)=S;have hH:S.heap=W:=by rw[<-hS]
    exact tail S O V (by rw[hH];exact aa) (by rw[hH];exact ac) (by rw[hH];exact ai) ad (by rw[<-hS];first | rfl | simp(disch:=omega)only[go_sem]) (by rw[<-hS];first | rfl | simp(disch:=omega)only[go_sem]) (by rw[<-hS];first | rfl | simp(disch:=omega)only[go_sem]) (by rw[<-hS];first | rfl | simp(disch:=omega)only[go_sem]) hn
   ·have bv:isW l k [wIn]=false:=by simpa using b1
    rw[if_neg b1] at hn U⊢
    rw[Ec Y.get] at U;subst U;simp(disch:=omega)only[go_sem,bv];intro q2 bi;dsimp only at bi;simp(disch:=omega)only[go_sem];refine(Gt5 hG _ q2 Vz wIn bi Y.get (by omega) (by omega)).mono ?_;rintro _ W ⟨rfl,U⟩;by_cases b2:isW l k [Vz,wIn]=true
    ·rw[if_pos b2] at hn U⊢
     have aa:RAt r l (k+2) H W:=by rw[U];exact Y.set _
     have ac:W M=some (.cells (dEx x) 27):=by rw[U];exact Aj ah q3
     have ai:W C=some (.cells [.int .u8 0, .int .u8 0, .int .i64 0, .str [], .nilSlice, .nilSlice, .int .i64 0, .int .i64 0, .int .i64 0] 27):=by rw[U];exact Aj ay X
     have ad:=Av b2 hk;obtain⟨O,am⟩: ∃O,O=k+2:=⟨_,rfl⟩;rw[<-am] at hn aa⊢
     rw[show [Vz,wIn].length=2 from rfl,<-am] at ad;simp(disch:=omega)only[go_sem,b2];obtain⟨V,a7⟩: ∃V:Int,V=14:=⟨_,rfl⟩;rw[<-a7] at hn⊢
     generalize hS:(DS.mk _ W:DS)=S;have hH:S.heap=W:=by rw[<-hS]
     exact tail S O V (by rw[hH];exact aa) (by rw[hH];exact ac) (by rw[hH];exact ai) ad (by rw[<-hS];first | rfl | simp(disch:=omega)only[go_sem]) (by rw[<-hS];first | rfl | simp(disch:=omega)only[go_sem]) (by rw[<-hS];first | rfl | simp(disch:=omega)only[go_sem]) (by rw[<-hS];first | rfl | simp(disch:=omega)only[go_sem]) hn
    ·have bw:isW l k [Vz,wIn]=false:=by simpa using b2
     rw[if_neg b2] at hn U⊢
     rw[Ec Y.get] at U;subst U;simp(disch:=omega)only[go_sem,bw,ah,ay,ag,bs];exact RAt.fin (Y.own aw X _) ⟨rfl,rfl⟩
  case B=>
   rintro⟨E,W⟩ O V aa ac ai ad D I J L hn;dsimp only at aa ac ai D I J L;refine Ak (by kernel_rfl) (.take 0 (.take 1 (.go 2 [0] (.go 3 [] (.take 4 .done))))) (by kernel_rfl) ?_;simp(disch:=omega)only[go_sem,ac,D,I,J,L];unfold inK at hn⊢
   have Z:=hp _ O aa.get ad;dsimp only at Z;have bj:=hA.simple O ad;cases hpr:p.simple O with
   | bot=>rw[hpr] at hn;exact absurd rfl hn
   | fail k5=>
    rw[hpr] at Z;refine(Z (Cf (by simp))).mono ?_;rintro e H5 ⟨rfl,rfl⟩;simp(disch:=omega)only[go_sem,D,I,J,L];exact RAt.finP (aa.set k5) ⟨rfl,rfl⟩
   | ok y k5=>
    rw[hpr] at Z hn bj;refine(Z (Cf (by simp))).mono ?_;rintro e H5 ⟨rfl,a8⟩;have a0:RAt r l k5 H H5:=by rw[a8];exact aa.set k5
    have a1:H5 M=some (.cells (dEx x) 27):=by rw[a8];exact Aj ac q3
    have a2:H5 C=some (.cells [.int .u8 0, .int .u8 0, .int .i64 0, .str [], .nilSlice, .nilSlice, .int .i64 0, .int .i64 0, .int .i64 0] 27):=by rw[a8];exact Aj ai X
    dsimp only[Res.then,Adv] at hn bj⊢
    have aj:=Ad y;simp(disch:=omega)only[go_sem,D,I,J,L,dE,ac,a1];rw[Bd ag aj];simp(disch:=omega)only[go_sem,D,I,J,L];intro r7 ae;dsimp only at ae;have ao: [x,y].flatMap dEx=dEx x++dEx y:=by simp
    obtain⟨H7,ak⟩: ∃K,K=upd H5 r7 (some (.cells (dEx x++dEx y) 27)):=⟨_,rfl⟩;rw[<-ak];have a3:H7 r7=some (.cells (dEx x++dEx y) 27):=by rw[ak];exact Aa _ _ _
    have bx:M≠r7:=Af ae a1;have bz:C≠r7:=Af ae a2;have a9:r≠r7:=Af ae a0.get;have ap:RAt r l k5 H H7:=by rw[ak];exact a0.new ae _
    have bk:H7 M=some (.cells (dEx x) 27):=by rw[ak];exact Aj a1 bx
    have bl:H7 C=some (.cells [.int .u8 0, .int .u8 0, .int .i64 0, .str [], .nilSlice, .nilSlice, .int .i64 0, .int .i64 0, .int .i64 0] 27):=by rw[ak];exact Aj a2 bz
    have bm:Sub H5 H7:=by rw[ak];exact(Sub.refl _).new ae _
    simp(disch:=omega)only[go_sem,D,I,J,L];intro q7 bn;dsimp only at bn;simp(disch:=omega)only[go_sem,D,I,J,L];refine(Ay9 hG H7 q7 Ef bn ap.get (by omega) (by omega)).mono ?_;rintro _ H8 ⟨rfl,af⟩;by_cases b3:isW l k5 [Ef]=true
    ·rw[if_pos b3] at hn af⊢
     simp(disch:=omega)only[go_sem,D,I,J,L,b3];have bo:RAt r l (k5+1) H H8:=by rw[af];exact ap.set _
     have cl:H8 M=some (.cells (dEx x) 27):=by rw[af];exact Aj bk q3
     have cm:H8 C=some (.cells [.int .u8 0, .int .u8 0, .int .i64 0, .str [], .nilSlice, .nilSlice, .int .i64 0, .int .i64 0, .int .i64 0] 27):=by rw[af];exact Aj bl X
     have bp:=Av b3 (by omega);rw[jQ] at bp;have aq:=hp _ (k5+1) bo.get bp;dsimp only at aq;cases hpz2:p.simple (k5+1) with
     | bot=>rw[hpz2] at hn;exact absurd rfl hn
     | fail k6=>
      rw[hpz2] at aq;refine(aq (Cf (by simp))).mono ?_;rintro e H9 ⟨rfl,rfl⟩;simp(disch:=omega)only[go_sem,D,I,J,L];exact RAt.finP (bo.set k6) ⟨rfl,rfl⟩
     | ok z k6=>
      rw[hpz2] at aq hn;refine(aq (Cf (by simp))).mono ?_;rintro e H9 ⟨rfl,b0⟩;have bq:=Ad z;dsimp only[Res.then];simp(disch:=omega)only[go_sem,D,I,J,L,dE];rw[Al bq];simp(disch:=omega)only[go_sem,D,I,J,L];intro b5 ba;dsimp only at ba;obtain⟨Bk,ar⟩: ∃K,K=upd H5 r (some (rdO l k6)):=⟨_,rfl⟩;have bb:H9=upd H7 r (some (rdO l k6)):=by
       rw[b0,af];funext b;simp only[upd];split<;>rfl
      have b6:Sub Bk H9:=by rw[ar,bb];exact bm.move r _
      have hv:Jw Bk 27 9 2 ([x,y].flatMap dEx) (.oslice 9 r7 0 2 2) H9:= .inr ⟨r7,by rw[ar,Am _ _ _ _ a9.symm];exact ae,by rw[ao,jC,ag,aj],rfl,by rw[ao,bb];exact Aj a3 a9.symm,b6⟩;rw[ao] at hv;have br:H9 r7=some (.cells (dEx x++dEx y) 27):=by rw[bb];exact Aj a3 a9.symm
      have b7:r7≠b5:=Af ba br;simp(disch:=omega)only[go_sem,D,I,J,L];rw[if_neg b7,br];refine Jw.appendO (m:=1) (hv.new ba _) bq (by omega) fun v2 b8 au=> ?_;have e3:dEx x++dEx y++dEx z= [x,y,z].flatMap dEx:=by simp
      rw[e3] at au;have h9:RAt r l k6 H Bk:=by rw[ar];exact a0.set k6
      have b3:Bk M=some (.cells (dEx x) 27):=by rw[ar];exact Aj a1 q3
      have b4:Bk C=some (.cells [.int .u8 0, .int .u8 0, .int .i64 0, .str [], .nilSlice, .nilSlice, .int .i64 0, .int .i64 0, .int .i64 0] 27):=by rw[ar];exact Aj a2 X
      have b9:=au.keep b3;have ca:=au.keep b4;obtain⟨cb,hc2⟩:=au.cell1;have ab:=fun yy=>au.set h9 (x:=C) (by rw[Am _ _ _ _ X];exact aw) b4 yy;simp(disch:=omega)only[go_sem,D,I,J,L,b9,ca,cb,hc2,be];exact Mh.fin (ab _).sub (Mh.agg (Mh.ex (l:= [x,y,z]) (ab _).sub (Mh.own (ab _)) (.as0 (ab _).sub))) ⟨rfl,rfl⟩
    ·have cc:isW l k5 [Ef]=false:=by simpa using b3
     rw[if_neg b3] at hn af⊢
     rw[Ec ap.get] at af;subst af;have cd:List.take 9 (List.drop 9 (dEx x++dEx y))=dEx y:=by rw[List.drop_left' ag];exact List.take_of_length_le (by omega)
     have ce:18<=(dEx x++dEx y).length:=by rw[jC];omega
     simp(disch:=omega)only[go_sem,D,I,J,L,cc,a3,cd,ag,aj,ce];refine(Vl G _ y).mono ?_;rintro _ H9 ⟨rfl,rfl⟩;by_cases b4:Bu y=true
     ·rw[if_pos b4] at hn⊢
      have hv:Jw H5 27 9 2 ([x,y].flatMap dEx) (.oslice 9 r7 0 2 2) H9:= .inr ⟨r7,ae,by rw[ao,jC,ag,aj],rfl,by rw[ao];exact a3,bm⟩;have ab:=fun yy=>hv.set a0 (x:=C) (by rw[Am _ _ _ _ X];exact aw) a2 yy;simp(disch:=omega)only[go_sem,D,I,J,L,b4,bk,bl,be];exact Mh.fin (ab _).sub (Mh.agg (Mh.ex (l:= [x,y]) (ab _).sub (Mh.own (ab _)) (.as0 (ab _).sub))) ⟨rfl,rfl⟩
     ·have cf:Bu y=false:=by simpa using b4
      rw[if_neg b4] at hn⊢
      simp(disch:=omega)only[go_sem,D,I,J,L,cf];refine(Ay8 G _ ap.get).mono ?_;rintro _ b8 ⟨rfl,rfl⟩;simp(disch:=omega)only[go_sem,D,I,J,L];exact RAt.finP ap ⟨rfl,rfl⟩
 ·have c': ¬(o:Int)=0:=by omega
  rw[if_pos c] at hn⊢
  simp(disch:=omega)only[go_sem,c'];refine Ak (by kernel_rfl) pL16 (by kernel_rfl) ?_;simp(disch:=omega)only[go_sem,ah];have Z:=hp _ k2 Y.get (by omega);dsimp only at Z;cases hpr:p.simple k2 with
  | bot=>rw[hpr] at hn;exact absurd rfl hn
  | fail k3=>
   rw[hpr] at Z;refine(Z (Cf (by simp))).mono ?_;rintro e H3 ⟨rfl,rfl⟩;simp(disch:=omega)only[go_sem];exact RAt.finP (Y.set k3) ⟨rfl,rfl⟩
  | ok y k3=>
   rw[hpr] at Z;refine(Z (Cf (by simp))).mono ?_;rintro e H3 ⟨rfl,bc⟩;have cg:RAt r l k3 H H3:=by rw[bc];exact Y.set k3
   have ci:H3 M=some (.cells (dEx x) 27):=by rw[bc];exact Aj ah q3
   have cj:H3 C=some (.cells [.int .u8 0, .int .u8 0, .int .i64 0, .str [], .nilSlice, .nilSlice, .int .i64 0, .int .i64 0, .int .i64 0] 27):=by rw[bc];exact Aj ay X
   dsimp only[Res.then];simp(disch:=omega)only[go_sem,dE,ah,ci];refine(Az1 G _ o x y).mono ?_;rintro _ H5 ⟨rfl,rfl⟩;have aj:=Ad (both o x y);have ck:=Bo (both o x y);simp(disch:=omega)only[go_sem,cj,aj,ck];exact RAt.fin (cg.own aw X _) ⟨rfl,rfl⟩
end
end Go.Dl
