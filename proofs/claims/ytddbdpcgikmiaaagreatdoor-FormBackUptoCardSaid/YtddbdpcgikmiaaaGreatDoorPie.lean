/- The data level and the contracts of the functions that are reached (part 5). -/
import Derived.RecoverIn
import Derived.Test.YtddbdpcgikmiaaaGreatDoorPid
set_option linter.unusedSimpArgs false
set_option linter.unusedVariables false
set_option linter.unusedSectionVars false
set_option maxHeartbeats 400000000
-- U8
namespace Go.Dl
open Go Go.Proofs
set_option maxRecDepth 100000
mutual
def okE:Ex->Prop
 | .mk _ _ _ s l a _ _ _=>s.length<=9223372036854775807/\okL l/\Mu a
def okL:List Ex->Prop
 | []=>True
 |x::l=>okE x/\okL l
def okA:As->Prop
 | .mk c e=>Ts c/\okE e
def Mu:List As->Prop
 | []=>True
 |x::l=>okA x/\Mu l
def okC:Ch->Prop
 | .mk _ l=>okL l
def Ts:List Ch->Prop
 | []=>True
 |x::l=>okC x/\Ts l
end
theorem Bm1: ∀ {l:List Ex},okL l-> ∀x∈l,okE x
 |y::l,h,x,hx=>by
  rw[okL] at h;rcases List.mem_cons.1 hx with rfl|hx
  ·exact h.1
  ·exact Bm1 h.2 x hx
theorem Db7: ∀ {l:List As},Mu l-> ∀x∈l,okA x
 |y::l,h,x,hx=>by
  rw[Mu] at h;rcases List.mem_cons.1 hx with rfl|hx
  ·exact h.1
  ·exact Db7 h.2 x hx
theorem Au0: ∀ {l:List Ch},Ts l-> ∀x∈l,okC x
 |y::l,h,x,hx=>by
  rw[Ts] at h;rcases List.mem_cons.1 hx with rfl|hx
  ·exact h.1
  ·exact Au0 h.2 x hx
theorem Gv4 {e:Ex}:okE e↔e.s.length<=9223372036854775807/\okL e.l/\Mu e.a:=by cases e;rw[okE];rfl
theorem Gv5 {e:As}:okA e↔Ts e.c/\okE e.e:=by cases e;rw[okA];rfl
theorem Gv6 {e:Ch}:okC e↔okL e.l:=by cases e;rw[okC];rfl
theorem Er2 {a:As} (h:okA a): ∀x∈Ct a,okE x:=λx hx=>by
 rw[Gv5] at h;rcases List.mem_append.1 hx with hx|hx
 ·obtain⟨c,hc,hx⟩:=List.mem_flatMap.1 hx;exact Bm1 (Gv6.1 (Au0 h.1 c hc)) x hx
 ·rw[List.mem_singleton] at hx;subst hx;exact h.2
theorem Er3 {e:Ex} (h:okE e): ∀x∈parts e,okE x:=λx hx=>by
 rw[Gv4] at h;rcases List.mem_append.1 hx with hx|hx
 ·exact Bm1 h.2.1 x hx
 ·obtain⟨a,ha,hx⟩:=List.mem_flatMap.1 hx;exact Er2 (Db7 h.2.2 a ha) x hx
theorem Dr5 {a:As}: ∀x∈Ct a,Ej x<=Us a:=λx hx=>by
 rw[Sh];rcases List.mem_append.1 hx with hx|hx
 ·obtain⟨c,hc,hx⟩:=List.mem_flatMap.1 hx;have h1:=Mi hc;have h2:=Ww hx;rw[Nm] at h1;omega
 ·rw[List.mem_singleton] at hx;subst hx;omega
theorem Yv {e x:Ex} (hx:x∈parts e):Ej x<Ej e:=by
 rcases List.mem_append.1 hx with hx|hx
 ·exact Gv2 hx
 ·obtain⟨a,ha,hx⟩:=List.mem_flatMap.1 hx;have h1:=Bs3 ha;have h2:=Dr5 x hx;omega
structure Fit (e:Ex):Prop where
 big:Ej e<=1099511627776
 ok:okE e
theorem Fit.parts {e x:Ex} (h:Fit e) (hx:x∈Dl.parts e):Fit x:=⟨by have:=Yv hx;have:=h.big;omega,Er3 h.ok x hx⟩
theorem Fit.s {e:Ex} (h:Fit e):e.s.length<=9223372036854775807:=(Gv4.1 h.ok).1
mutual
theorem Cg6: ∀e:Ex,Ff e<=Ej e
 | .mk _ _ _ _ l a _ _ _=>by rw[Ff,Ej];have:=Bb2 l;have:=Bs7 a;omega
theorem Bb2: ∀l:List Ex,Br6 l<=He l
 | []=>Nat.le_refl _
 |x::l=>by rw[Br6,He];have:=Cg6 x;have:=Bb2 l;omega
theorem Er4: ∀a:As,Da8 a<=Us a
 | .mk c e=>by rw[Da8,Us];have:=Bs8 c;have:=Cg6 e;omega
theorem Bs7: ∀l:List As,Ba6 l<=El l
 | []=>Nat.le_refl _
 |x::l=>by rw[Ba6,El];have:=Er4 x;have:=Bs7 l;omega
theorem Er5: ∀c:Ch,Ec9 c<=Ak5 c
 | .mk _ l=>by rw[Ec9,Ak5];have:=Bb2 l;omega
theorem Bs8: ∀l:List Ch,Ba7 l<=Gq l
 | []=>Nat.le_refl _
 |x::l=>by rw[Ba7,Gq];have:=Er5 x;have:=Bs8 l;omega
end
mutual
theorem Co5 (r:Nat) (cs:List DVal): ∀e:Ex,fzs r cs (dEx e)=dEx e
 | .mk _ _ _ _ l a _ _ _=>by simp only[dEx,fzs,fz,Co6 r cs l,Ed5 r cs a]
theorem Co6 (r:Nat) (cs:List DVal): ∀l:List Ex,fzs r cs (Co4 l)=Co4 l
 | []=>by simp only[Co4,fzs]
 |x::l=>by rw[Co4,An5,Co5 r cs x,Co6 r cs l]
theorem Gv7 (r:Nat) (cs:List DVal): ∀a:As,fzs r cs (dAs a)=dAs a
 | .mk c e=>by simp only[dAs,fzs,fz,Ed6 r cs c,Co5 r cs e]
theorem Ed5 (r:Nat) (cs:List DVal): ∀l:List As,fzs r cs (Db1 l)=Db1 l
 | []=>by simp only[Db1,fzs]
 |x::l=>by rw[Db1,An5,Gv7 r cs x,Ed5 r cs l]
theorem Gv8 (r:Nat) (cs:List DVal): ∀c:Ch,fzs r cs (dCh c)=dCh c
 | .mk _ l=>by simp only[dCh,fzs,fz,Co6 r cs l]
theorem Ed6 (r:Nat) (cs:List DVal): ∀l:List Ch,fzs r cs (Db2 l)=Db2 l
 | []=>by simp only[Db2,fzs]
 |x::l=>by rw[Db2,An5,Gv8 r cs x,Ed6 r cs l]
end
def Gv9 (d:Nat) (x:Ex) (s:Int) (b:Bool) (s':Int):Prop:=0<=s->s<=256->b=(Dk d x&&decide ((Ff x:Int)<=s))/\(b=true->s'=s-Ff x)
theorem Ed7 (d:Nat): ∀(l:List Ex) (s:Int) (b:Bool) (y:Int),Dr4 (Gv9 d) l s b y->0<=s->s<=256->b=(l.all (Dk d)&&decide ((Lf l:Int)<=s))/\(b=true->y=s-Lf l)
 | [],s,b,y,h,h0,_=>by
  obtain⟨rfl,rfl⟩:=h;exact⟨by simp [Lf,h0],λ_=>by simp [Lf]⟩
 |x::l,s,b,y,h,h0,h1=>by
  obtain⟨I,s1,hx,h⟩:=h;obtain⟨hb,hs⟩:=hx h0 h1;have C:Lf (x::l)=Ff x+Lf l:=by simp [Lf]
  rcases h with⟨rfl,h⟩|⟨rfl,rfl,rfl⟩
  ·have e1:=hs rfl;have D:=hb.symm;rw[jF,decide_eq_true_eq] at D;obtain⟨k1,E⟩:=Ed7 d l s1 b y h (by omega) (by omega);refine⟨?_,λhb=> ?_⟩
   ·rw[k1,List.all_cons,D.1,jS,C];congr 1;exact decide_eq_decide.2 ⟨λh=>by omega,λh=>by omega⟩
   ·rw[E hb,C];omega
  ·refine⟨?_,λh=>(by cases h)⟩;rw[List.all_cons,C];cases hv:Dk d x with
   |false=>rfl
   |true=>
    rw[hv,jS] at hb;have:=of_decide_eq_false hb.symm;rw[decide_eq_false (by omega),Bool.and_false]
section
variable {G:Nat->DVal} {H:Ab}
theorem Bs9 (G:Nat->DVal) (H:Ab) (d:Int) (y C:Nat):Ad Tryz.prog G 67 ([]++ [.int .i64 d]++ [.optr y 0,.optr C 0]) H
  (λe H'=> ∃rd,H rd=none/\e= .ret (.func (.func 68) [] [.optr y 0,.optr rd 0,.optr C 0])/\H'=upd H rd (some (Wx d))):=by
 refine dci Tryz.func67 Tryz.call67 ?_;simp only[go_sem,DVal.cells,jG,jI];intro rd D;simp only[go_sem];exact Dj.refl ⟨rd,D,rfl,rfl⟩
theorem Er6 (hG:GX G) (C D:Nat) (ae:C≠D): ∀(x:Ex) (H:Ab) (d:Nat) (s:Int) (E:Nat),Fit x->d<=16000000->H C=some (Wx s)->H E=some (Wx d)->C≠E->H D=some (.cells [.func (.func 67) [] [.optr C 0,.optr D 0]] 119)->
  Ad Tryz.prog G 68 ([]++ [.agg (dEx x)]++ [.optr C 0,.optr E 0,.optr D 0]) H (Gm6 (Gv9 d) x s C H):=by
 intro x
 induction x using Ex.ind with
 |h x ih=>
  intro H d s E hx hd hl aa af ha;refine dci Tryz.func68 Tryz.call68 ?_;simp only[go_sem,DVal.cells,jG,jI];intro J V;have n1:C≠J:=Ac V hl;have n2:E≠J:=Ac V aa;have n3:D≠J:=Ac V ha;unfold Wx at hl aa;obtain⟨s1,ac⟩: ∃s1,s1=IntKind.i64.wrap (s-1):=⟨_,rfl⟩;have ag:E≠C:=af.symm;have ad:D≠C:=ae.symm;simp only[go_sem,n1,hl,<-ac];refine An (.take 0 (.take 1 (.take 2 (.take 3 (.take 4 (.take 5 (.take 6 (.take 7 (.go 8 [] (.take 9 (.take 10 (.take 11 (.take 12 (.take 13 (.take 14 (.go 15 [11] (.go 16 [] (.take 17 (.take 18 .done))))))))))))))))))) ?_;have q1:J≠C:=n1.symm;obtain⟨S,W⟩: ∃S,S=upd (upd H J (some (.cells (dEx x) 27))) C (some (.cells [.int .i64 s1] 3)):=⟨_,rfl⟩;have O:=W.symm▸((Ae2.refl C H).new V _).set _;have I:=W.symm▸Aa _ _ _;have X:S E=some (.cells [.int .i64 d] 3):=O _ _ ag aa;have g3:S D=some (.cells [.func (.func 67) [] [.optr C 0,.optr D 0]] 119):=O _ _ ad ha;have L:S J=some (.cells (dEx x) 27):=by rw[W];simp [upd,q1]
  rw[<-W];have sv: ∀b:Bool,0<=s->s<=256->s1=s-1:=λ_ h0 h1=>by rw[ac,IntKind.wrap_i64];omega
  have ah:(Ff x:Int)=1+(Lf (parts x):Int):=by rw[Oh x];omega
  by_cases Y:0<=s1
  ·by_cases c2:d<=32
   ·(have ab:(d:Int)<=32:=by omega);simp only[go_sem,I,X,L,Y,ab];refine(Db6 hG _ x hx.big hx.s).mono ?_;rintro _ H5 ⟨rfl,rfl⟩;cases hf:Ax x with
    |true=>
     (have ai:IntKind.i64.wrap ((d:Int)+1)=((d+1:Nat):Int):=by rw[IntKind.wrap_i64];omega);simp only[go_sem,X,g3,L,ai];refine(Bs9 G _ ((d+1:Nat):Int) C D).mono ?_;rintro _ H6 ⟨M,U,rfl,rfl⟩;have p1:C≠M:=Ac U I;have p2:D≠M:=Ac U g3;have p3:E≠M:=Ac U X;have p4:J≠M:=Ac U L;have aj:Ae2 C H (upd H5 M (some (Wx ((d+1:Nat):Int)))):=O.new U _;simp only[go_sem,L,p4];refine(Er1 G _ x hx.big 68 [] [.optr C 0,.optr M 0,.optr D 0] (Gv9 (d+1)) C s1 (by simp only[upd,if_neg p1];exact I) λy hy t K hK Z=>ih y hy K (d+1) t M (hx.parts hy) (by omega) hK (Z _ _ p1.symm (Aa _ _ _)) p1 (Z _ _ ad (by simp only[upd,if_neg p2];exact g3))).mono ?_;rintro _ H7 ⟨b,t,rfl,hR,ht,Z⟩;simp only[go_sem]
     trace_state
     refine Dj.refl ⟨b,t,rfl,λh0 h1=> ?_,ht,aj.trans Z⟩;have e1:=sv true h0 h1;obtain⟨w1,w2⟩:=Ed7 (d+1) _ _ _ _ hR Y (by omega);refine⟨?_,λhb=>by rw[w2 hb,ah];omega⟩;rw[w1,Oj,hf,decide_eq_true c2,jS,jS];congr 1;exact decide_eq_decide.2 ⟨λh=>by omega,λh=>by omega⟩
    |false=>
     simp only[go_sem,L];refine Dj.refl ⟨false,s1,rfl,λ_ _=>⟨?_,λh=>(by cases h)⟩,I,O⟩;rw[Oj,hf,Bool.and_false,jT,jT]
   ·(have ab: ¬(d:Int)<=32:=by omega);simp only[go_sem,I,X,L,Y,ab];refine Dj.refl ⟨false,s1,rfl,λ_ _=>⟨?_,λh=>(by cases h)⟩,I,O⟩;rw[Oj,decide_eq_false c2,jT,jT,jT]
  ·simp only[go_sem,I,L,Y];refine Dj.refl ⟨false,s1,rfl,λh0 h1=>⟨?_,λh=>(by cases h)⟩,I,O⟩;have:=sv true h0 h1;rw[decide_eq_false (by omega),Bool.and_false]
theorem Ae3 (hG:GX G) (H:Ab) (e:Ex) (he:Fit e):Ad Tryz.prog G 12 [.agg (dEx e)] H (Am (.bool (Bu e)) H):=by
 refine dci Tryz.func12 Tryz.call12 ?_;simp only[go_sem,DVal.cells];intro D X;simp only[go_sem,DVal.cells];intro y O;obtain⟨m1,Y,Z⟩:=Aq.1 O;simp only[go_sem,DVal.cells];intro C S;obtain⟨p1,U,aa⟩:=Aq.1 S;obtain⟨p3,p4,ab⟩:=Aq.1 aa;simp only[go_sem,DVal.cells];have V:Sub H (upd (upd (upd H D (some (.cells (dEx e) 27))) y (some (Wx 256))) C (some (.cells [.func (.func 67) [] [.optr y 0,.optr C 0]] 119))):=((Sub.refl H).new X _ |>.new O _).new S _;have E:upd (upd (upd H D (some (.cells (dEx e) 27))) y (some (Wx 256))) C (some (.cells [.func (.func 67) [] [.optr y 0,.optr C 0]] 119)) D=some (.cells (dEx e) 27):=by simp [upd,Y,p4]
 have M:upd (upd (upd H D (some (.cells (dEx e) 27))) y (some (Wx 256))) C (some (.cells [.func (.func 67) [] [.optr y 0,.optr C 0]] 119)) y=some (Wx 256):=by simp [upd,U]
 have I:upd (upd (upd H D (some (.cells (dEx e) 27))) y (some (Wx 256))) C (some (.cells [.func (.func 67) [] [.optr y 0,.optr C 0]] 119)) C=some (.cells [.func (.func 67) [] [.optr y 0,.optr C 0]] 119):=Aa _ _ _;change dwp _ _ _ _ _ ⟨_,upd (upd (upd H D (some (.cells (dEx e) 27))) y (some (Wx 256))) C (some (.cells [.func (.func 67) [] [.optr y 0,.optr C 0]] 119))⟩;generalize upd (upd (upd H D (some (.cells (dEx e) 27))) y (some (Wx 256))) C (some (.cells [.func (.func 67) [] [.optr y 0,.optr C 0]] 119))=K at V E M I;refine An (.take 0 (.take 2 (.go 1 [2] (.go 3 [] (.take 4 .done))))) ?_;simp only[go_sem,E,I];refine(Bs9 G _ 1 y C).mono ?_;rintro _ H6 ⟨J,L,rfl,rfl⟩;have x1:D≠J:=Ac L E;have W:y≠J:=Ac L M;have x4:C≠J:=Ac L I;simp only[go_sem,E,x1];refine(Er6 hG y C U e _ 1 256 J he (by decide) (by simp only[upd,if_neg W];exact M) (Aa _ _ _) W (by simp only[upd,if_neg x4];exact I)).mono ?_;rintro _ H7 ⟨b,t,rfl,hR,ht,hT⟩;obtain⟨w1,_⟩:=hR (by decide) (by decide);simp only[go_sem];refine Dj.sub (hT.sub (V.new L _) Z) (Dj.refl ⟨?_,rfl⟩);rw[w1,Bu];have:((Ff e:Int)<=256)↔Ff e<=256:=by omega
 simp only[this]
end
def Ln (H':Ab) (v:DVal) (H:Ab) (v':DVal):Prop:= ∀w,Bg w H'-> ∀x,Rel w H' v x->Rel w H v' x
def Km (H':Ab) (vs:List DVal) (H:Ab) (vs':List DVal):Prop:= ∀w,Bg w H'-> ∀xs,Ar w H' vs xs->Ar w H vs' xs
section
variable {H H':Ab}
theorem Ln.keep (h:Sub H H') (v:DVal):Ln H' v H v:=λw _ x hx=>Rel.lasts (Dq h w) _ _ hx
theorem Ln.le {v y:DVal} (h:Sub H H') (k:DLe v y):Ln H' v H y:=λw _ x hx=>Rel.lasts (Dq h w) _ _ (k w H' x hx)
theorem Ln.own {e:TypeId} {size n:Nat} {cs:List DVal} {v:DVal} (h:Ik H e size n cs v H'):Ln H' v H (.vslice cs n):=λw hw x hx=>(h.ghost w hw).2.2 x hx
theorem Ln.block {e:TypeId} {size r n:Nat} {cs:List DVal} (h:Sub H H') (hr:H r=none) (y:H' r=some (.cells cs e)) (hl:cs.length=n*size):Ln H' (.oslice size r 0 n n) H (.vslice cs n):=
 Ln.own (e:=e) (.inr ⟨r,hr,hl,rfl,y,h⟩)
theorem Km.nil:Km H' [] H []:=λw _ xs hx=>by simpa [Ar] using hx
theorem Km.cons {v C:DVal} {vs D:List DVal} (h:Ln H' v H C) (k:Km H' vs H D):Km H' (v::vs) H (C::D):=λw hw xs hx=>by
 simp only[Ar] at hx⊢
 obtain⟨y,ys,rfl,h1,h2⟩:=hx;exact⟨y,ys,rfl,h w hw y h1,k w hw ys h2⟩
theorem Km.keep (h:Sub H H') (vs:List DVal):Km H' vs H vs:=λw _ xs hx=>Ar.lasts (Dq h w) _ _ hx
theorem Km.append {a y b C:List DVal} (h:Km H' a H y) (k:Km H' b H C):Km H' (a++b) H (y++C):=λw hw x hx=>by
 have e:x=x.take a.length++x.drop a.length:=(List.take_append_drop _ _).symm;have h1:=hx.take a.length;have h2:=hx.drop a.length;rw[List.take_left] at h1;rw[List.drop_left] at h2;rw[e];exact(h w hw _ h1).append (k w hw _ h2)
theorem Ln.agg {vs y:List DVal} (h:Km H' vs H y):Ln H' (.agg vs) H (.agg y):=λw hw x hx=>by
 simp only[Rel] at hx⊢
 obtain⟨xs,rfl,h1⟩:=hx;exact⟨xs,rfl,h w hw _ h1⟩
theorem Ln.tuple {vs y:List DVal} (h:Km H' vs H y):Ln H' (.tuple vs) H (.tuple y):=λw hw x hx=>by
 simp only[Rel] at hx⊢
 obtain⟨xs,rfl,h1⟩:=hx;exact⟨xs,rfl,h w hw _ h1⟩
theorem Ln.nil (h:Sub H H'):Ln H' .nilSlice H (.vslice [] 0):=Ln.le h .nil
theorem Ln.cells {e:TypeId} {size r n:Nat} {cs cs':List DVal} (h:Sub H H') (hr:H r=none) (C:H' r=some (.cells cs e)) (hl:cs.length=n*size) (hs:Km H' cs H cs'):Ln H' (.oslice size r 0 n n) H (.vslice cs' n):=λw hw x hx=>by
 obtain⟨_,_,J⟩:=Li.fz (v:= .oslice size r 0 n n) C w hw;obtain⟨ys,L,M⟩:=Ad2 hw C;simp only[Rel] at hx⊢
 obtain⟨o,cap,rfl,h1,h2,h3,h4⟩:=hx;refine⟨_,cap,rfl,h2, ?_⟩;by_cases h0:cs= []
 ·subst h0;have:=hs w hw [] (by simp [Ar]);cases cs' with
  |nil=>exact .inl rfl
  |cons c cs'=>simp [Ar] at this
 ·obtain⟨D,E,hh⟩:=hw.holds C;have ho:o=0:=by
   rcases h3 with h3|h3
   ·exfalso;(have:n=0:=by omega);subst this;rw[Nat.zero_mul] at hl;exact h0 (List.length_eq_zero_iff.1 hl)
   ·exact h3
  subst ho;exact .inr ⟨r,0,D,rfl,.inr ⟨hr,λi y I=>by simpa using hh i y I⟩,hs w hw D E⟩
theorem Ln.fin {R:DEnd->Ab->Prop} {v y:DVal} (hs:Sub H H') (h:Ln H' v H y) (k:R (.ret y) H):Dj R v H':= .ghost (λw hw=>⟨((Li.sub hs v) w hw).1,((Li.sub hs v) w hw).2.1,h w hw⟩) (.refl k)
theorem Km.call {P:Program} {G:Nat->DVal} {f:FuncId} {args args':List DVal} {R:DEnd->Ab->Prop} (hs:Sub H H') (h:Km H' args H args') (k:Ad P G f args' H R):Ad P G f args H' R:=
 Ad.pre (λw hw=>⟨((Li.sub hs (.tuple args)) w hw).1,((Li.sub hs (.tuple args)) w hw).2.1,Ln.tuple h w hw⟩) k
theorem Km.lent {P:Program} {G:Nat->DVal} {f:FuncId} {args args':List DVal} {v:DVal} (h:Km H' args H args') (k:Ad P G f args' h0 (Am v h0)) (hv:At3 v=true):Ad P G f args H' (Am v H'):=
 k.lent (λw vs hw hr=>Ar.lasts (Cz5 H w) _ _ (h w hw vs hr)) hv
theorem Ln.ex {k o n:Int} {s:List UInt8} {y C:DVal} {l:List Ex} {a:List As} {li en t:Int} (hs:Sub H H') (hl:Ln H' y H (dXs l)) (ha:Ln H' C H (dAl a)):
  Km H' [.int .u8 k,.int .u8 o,.int .i64 n,.str s,y,C,.int .i64 li,.int .i64 en,.int .i64 t] H (dEx (.mk k o n s l a li en t)):=by
 rw[Ys];exact .cons (.keep hs _) (.cons (.keep hs _) (.cons (.keep hs _) (.cons (.keep hs _) (.cons hl (.cons ha (.keep hs _))))))
theorem Ln.exs0 (hs:Sub H H'):Ln H' .nilSlice H (dXs []):=Ln.nil hs
theorem Ln.as0 (hs:Sub H H'):Ln H' .nilSlice H (dAl []):=Ln.nil hs
theorem Ln.ch0 (hs:Sub H H'):Ln H' .nilSlice H (dCl []):=Ln.nil hs
end
section
variable {G:Nat->DVal} {H:Ab}
theorem Db8 (hG:GX G) (H:Ab) (e:Ex) (he:Fit e):Ad Tryz.prog G 77 ([]++ [.agg (dEx e)]++ []) H (Am (.bool (!Bu e)) H):=by
 refine dci Tryz.func77 Tryz.call77 ?_;simp only[go_sem,DVal.cells,jG,jH];intro r hr;simp only[go_sem];refine(Ae3 hG _ e he).mono ?_;rintro _ H1 ⟨rfl,rfl⟩;simp only[go_sem];exact Dj.dropA r hr (Dj.refl ⟨rfl,rfl⟩)
theorem Db9 (hG:GX G) (H:Ab) (c:Ch) (y: ∀x∈c.l,Fit x) (hl:c.l.length<=1099511627776):Ad Tryz.prog G 75 ([]++ [.agg (dCh c)]++ []) H (Am (.bool (!c.l.all Bu)) H):=by
 refine dci Tryz.func75 Tryz.call75 ?_;simp only[go_sem,DVal.cells,jG,jH];intro r hr;simp only[go_sem];refine(Ao0 G _ (λe=>!Bu e) c.l 77 [] [] hl λx hx=>Db8 hG _ x (y x hx)).mono ?_;rintro _ H1 ⟨rfl,rfl⟩;rw[Vl];simp only[go_sem];exact Dj.dropA r hr (Dj.refl ⟨rfl,rfl⟩)
theorem Nn (hG:GX G) (H:Ab) (l:List Ch) (hb:Gq l<=1000000000000) (hk:Ts l):Ad Tryz.prog G 16 [dCl l] H (Am (.bool (Ia l)) H):=by
 have y:=Mj l;refine dci Tryz.func16 Tryz.call16 ?_;simp only[go_sem,dCl];refine(Ao2 G _ l (by omega)).mono ?_;rintro _ H1 ⟨rfl,rfl⟩;cases h:Cl l with
 |false=>
  simp only[go_sem];exact Dj.refl ⟨by rw[Ia,h,jT],rfl⟩
 |true=>
  simp only[go_sem];refine(Bs4 G H1 (λc=>!c.l.all Bu) l 75 [] [] (by omega) λc hc=> ?_).mono ?_
  ·have h1:=Mi hc;have h2:=Lm c.l;rw[Nm] at h1;refine Db9 hG _ c (λx hx=> ?_) (by omega);have h3:=Ww hx;exact⟨by omega,Bm1 (Gv6.1 (Au0 hk c hc)) x hx⟩
  ·rintro _ H2 ⟨rfl,rfl⟩;rw[Vl];simp only[go_sem];exact Dj.refl ⟨by rw[Ia,h,jS,Bool.not_not],rfl⟩
end
def eqF {α:Type} (p:α->α->Bool):List α->List α->Bool
 | [],[]=>true
 |x::l,y::m=>p x y&&eqF p l m
 |_,_=>false
theorem Ed8 {α:Type} {p:α->α->Bool}: ∀ {l m:List α},eqF p l m=true->l.length=m.length
 | [],[],_=>rfl
 | [],_::_,h=>by cases h
 |_::_,[],h=>by cases h
 |x::l,y::m,h=>by
  rw[eqF,jF] at h;rw[jA,jA,Ed8 h.2]
theorem Wb {α:Type} {p:α->α->Bool} {l m:List α} (h:l.length≠m.length):eqF p l m=false:=by
 cases e:eqF p l m with
 |false=>rfl
 |true=>exact absurd (Ed8 e) h
theorem Qz {α:Type} {p:α->α->Bool} {l m:List α} {k:Nat} (h1:k<l.length) (h2:k<m.length):eqF p (l.drop k) (m.drop k)=(p l[k] m[k]&&eqF p (l.drop (k+1)) (m.drop (k+1))):=by
 rw[List.drop_eq_getElem_cons h1,List.drop_eq_getElem_cons h2,eqF]
theorem Tt: ∀l m:List Ex,Ll l m=eqF Ee l m
 | [],[]=>by simp [Ll,eqF]
 | [],_::_=>by simp [Ll,eqF]
 |_::_,[]=>by simp [Ll,eqF]
 |x::l,y::m=>by rw[Ll,eqF,Tt l m]
theorem Ao3: ∀l m:List As,Nv l m=eqF Wv l m
 | [],[]=>by simp [Nv,eqF]
 | [],_::_=>by simp [Nv,eqF]
 |_::_,[]=>by simp [Nv,eqF]
 |x::l,y::m=>by rw[Nv,eqF,Ao3 l m]
theorem Ao4: ∀l m:List Ch,Kf l m=eqF Vj l m
 | [],[]=>by simp [Kf,eqF]
 | [],_::_=>by simp [Kf,eqF]
 |_::_,[]=>by simp [Kf,eqF]
 |x::l,y::m=>by rw[Kf,eqF,Ao4 l m]
theorem Dc0 (x y:As):Wv x y=(Kf x.c y.c&&Ee x.e y.e):=by cases x;rw[Wv];rfl
theorem Dc1 (x y:Ch):Vj x y=(decide (x.kind=y.kind)&&Ll x.l y.l):=by cases x;rw[Vj];rfl
theorem Ed9 (G:Nat->DVal) (H:Ab) (p:Ex->Ex->Bool) (l m:List Ex) (g:FuncId) (hl:l.length<=1099511627776)
  (hp: ∀x∈l,∀y∈m,∀H,Ad Tryz.prog G g ([]++ [.agg (dEx x),.agg (dEx y)]++ []) H (Am (.bool (p x y)) H)):
  Ad Tryz.prog G 71 [.vslice (l.flatMap dEx) l.length,.vslice (m.flatMap dEx) m.length,.func (.func g) [] []] H (Am (.bool (eqF p l m)) H):=by
 refine dci Tryz.func71 Tryz.call71 ?_;by_cases U:l.length=m.length
 ·have E:(l.length:Int)=(m.length:Int):=by omega
  simp only[go_sem,E];obtain⟨I,J⟩: ∃I:Nat->(Nat->DVal)->Ab->Prop,∀k env heap,I k env heap↔(env 0= .vslice (l.flatMap dEx) l.length/\env 1= .vslice (m.flatMap dEx) m.length/\env 2= .func (.func g) [] []/\env 15= .vslice (l.flatMap dEx) l.length/\env 16=dI m.length/\env 17=dI k/\k<=l.length/\eqF p l m=eqF p (l.drop k) (m.drop k)/\Sub H heap):=⟨_,λ_ _ _=>Iff.rfl⟩;refine Ea9.run I (λk=>l.length-k) 0 ((J _ _ _).2 ?_) ?_
  ·simp only[go_sem];(repeat' apply And.intro)<;>(try first|rfl|assumption|omega);exact Sub.refl _
  ·intro k env heap hi;obtain⟨Z,e1,V,W,L,M,hk,C,X⟩:=(J _ _ _).1 hi;have hfl:=Ak Af l;have aa:=Ak Af m;by_cases O:k<l.length
   ·(have D:(k:Int)<(m.length:Int):=by omega);(have ab:(k:Int)<(l.length:Int):=by omega);(have S:k<m.length:=by omega);have ac:=Bh Af l k O;have ad:=Bh Af m k S;(have ae:IntKind.i64.wrap ((k:Int)+1)=((k+1:Nat):Int):=by rw[IntKind.wrap_i64];omega);simp(disch:=omega)only[go_sem,W,L,M,D,ab,ac,hfl,jD];intro r8 af;simp(disch:=omega)only[go_sem,e1,D,ad,aa,jD];intro r9 Y;obtain⟨m2,m1,ah⟩:=Aq.1 Y;simp only[go_sem,V,m1];refine(hp l[k] (List.getElem_mem O) m[k] (List.getElem_mem S) _).mono ?_;rintro _ H1 ⟨rfl,rfl⟩;rw[Qz O S] at C;have ag:=(X.new af (some (DObj.cells (dEx l[k]) 27))).new Y (some (DObj.cells (dEx m[k]) 27));cases hb:p l[k] m[k] with
    |true=>
     rw[hb,jS] at C;simp only[go_sem,M];refine⟨k+1,_,Rn.refl _,(J _ _ _).2 ?_,by omega⟩;simp only[go_sem,Z,e1,V,W,L,ae];(repeat' apply And.intro)<;>(try first|rfl|assumption|omega)
    |false=>
     rw[hb,jT] at C;simp only[go_sem];exact Dj.sub ag (Dj.refl ⟨by rw[C],rfl⟩)
   ·(have:k=l.length:=by omega);subst this;(have D: ¬(l.length:Int)<(m.length:Int):=by omega);simp only[go_sem,L,M,D];refine Dj.sub X (Dj.refl ⟨?_,rfl⟩);rw[C,List.drop_length,U,List.drop_length];rfl
 ·have E: ¬(l.length:Int)=(m.length:Int):=by omega
  simp only[go_sem,E];exact Dj.refl ⟨by rw[Wb U],rfl⟩
theorem Gg2 (G:Nat->DVal) (H:Ab) (p:As->As->Bool) (l m:List As) (g:FuncId) (hl:l.length<=1099511627776)
  (hp: ∀x∈l,∀y∈m,∀H,Ad Tryz.prog G g ([]++ [.agg (dAs x),.agg (dAs y)]++ []) H (Am (.bool (p x y)) H)):
  Ad Tryz.prog G 182 [.vslice (l.flatMap dAs) l.length,.vslice (m.flatMap dAs) m.length,.func (.func g) [] []] H (Am (.bool (eqF p l m)) H):=by
 refine dci Tryz.func182 Tryz.call182 ?_;by_cases U:l.length=m.length
 ·have E:(l.length:Int)=(m.length:Int):=by omega
  simp only[go_sem,E];obtain⟨I,J⟩: ∃I:Nat->(Nat->DVal)->Ab->Prop,∀k env heap,I k env heap↔(env 0= .vslice (l.flatMap dAs) l.length/\env 1= .vslice (m.flatMap dAs) m.length/\env 2= .func (.func g) [] []/\env 15= .vslice (l.flatMap dAs) l.length/\env 16=dI m.length/\env 17=dI k/\k<=l.length/\eqF p l m=eqF p (l.drop k) (m.drop k)/\Sub H heap):=⟨_,λ_ _ _=>Iff.rfl⟩;refine Ea9.run I (λk=>l.length-k) 0 ((J _ _ _).2 ?_) ?_
  ·simp only[go_sem];(repeat' apply And.intro)<;>(try first|rfl|assumption|omega);exact Sub.refl _
  ·intro k env heap hi;obtain⟨Z,e1,V,W,L,M,hk,C,X⟩:=(J _ _ _).1 hi;have hfl:=Ak Cm l;have aa:=Ak Cm m;by_cases O:k<l.length
   ·(have D:(k:Int)<(m.length:Int):=by omega);(have ab:(k:Int)<(l.length:Int):=by omega);(have S:k<m.length:=by omega);have ac:=Bh Cm l k O;have ad:=Bh Cm m k S;(have ae:IntKind.i64.wrap ((k:Int)+1)=((k+1:Nat):Int):=by rw[IntKind.wrap_i64];omega);simp(disch:=omega)only[go_sem,W,L,M,D,ab,ac,hfl,jD];intro r8 af;simp(disch:=omega)only[go_sem,e1,D,ad,aa,jD];intro r9 Y;obtain⟨m2,m1,ah⟩:=Aq.1 Y;simp only[go_sem,V,m1];refine(hp l[k] (List.getElem_mem O) m[k] (List.getElem_mem S) _).mono ?_;rintro _ H1 ⟨rfl,rfl⟩;rw[Qz O S] at C;have ag:=(X.new af (some (DObj.cells (dAs l[k]) 44))).new Y (some (DObj.cells (dAs m[k]) 44));cases hb:p l[k] m[k] with
    |true=>
     rw[hb,jS] at C;simp only[go_sem,M];refine⟨k+1,_,Rn.refl _,(J _ _ _).2 ?_,by omega⟩;simp only[go_sem,Z,e1,V,W,L,ae];(repeat' apply And.intro)<;>(try first|rfl|assumption|omega)
    |false=>
     rw[hb,jT] at C;simp only[go_sem];exact Dj.sub ag (Dj.refl ⟨by rw[C],rfl⟩)
   ·(have:k=l.length:=by omega);subst this;(have D: ¬(l.length:Int)<(m.length:Int):=by omega);simp only[go_sem,L,M,D];refine Dj.sub X (Dj.refl ⟨?_,rfl⟩);rw[C,List.drop_length,U,List.drop_length];rfl
 ·have E: ¬(l.length:Int)=(m.length:Int):=by omega
  simp only[go_sem,E];exact Dj.refl ⟨by rw[Wb U],rfl⟩
theorem Gg3 (G:Nat->DVal) (H:Ab) (p:Ch->Ch->Bool) (l m:List Ch) (g:FuncId) (hl:l.length<=1099511627776)
  (hp: ∀x∈l,∀y∈m,∀H,Ad Tryz.prog G g ([]++ [.agg (dCh x),.agg (dCh y)]++ []) H (Am (.bool (p x y)) H)):
  Ad Tryz.prog G 213 [.vslice (l.flatMap dCh) l.length,.vslice (m.flatMap dCh) m.length,.func (.func g) [] []] H (Am (.bool (eqF p l m)) H):=by
 refine dci Tryz.func213 Tryz.call213 ?_;by_cases U:l.length=m.length
 ·have E:(l.length:Int)=(m.length:Int):=by omega
  simp only[go_sem,E];obtain⟨I,J⟩: ∃I:Nat->(Nat->DVal)->Ab->Prop,∀k env heap,I k env heap↔(env 0= .vslice (l.flatMap dCh) l.length/\env 1= .vslice (m.flatMap dCh) m.length/\env 2= .func (.func g) [] []/\env 15= .vslice (l.flatMap dCh) l.length/\env 16=dI m.length/\env 17=dI k/\k<=l.length/\eqF p l m=eqF p (l.drop k) (m.drop k)/\Sub H heap):=⟨_,λ_ _ _=>Iff.rfl⟩;refine Ea9.run I (λk=>l.length-k) 0 ((J _ _ _).2 ?_) ?_
  ·simp only[go_sem];(repeat' apply And.intro)<;>(try first|rfl|assumption|omega);exact Sub.refl _
  ·intro k env heap hi;obtain⟨Z,e1,V,W,L,M,hk,C,X⟩:=(J _ _ _).1 hi;have hfl:=Ak Cn l;have aa:=Ak Cn m;by_cases O:k<l.length
   ·(have D:(k:Int)<(m.length:Int):=by omega);(have ab:(k:Int)<(l.length:Int):=by omega);(have S:k<m.length:=by omega);have ac:=Bh Cn l k O;have ad:=Bh Cn m k S;(have ae:IntKind.i64.wrap ((k:Int)+1)=((k+1:Nat):Int):=by rw[IntKind.wrap_i64];omega);simp(disch:=omega)only[go_sem,W,L,M,D,ab,ac,hfl,jD];intro r8 af;simp(disch:=omega)only[go_sem,e1,D,ad,aa,jD];intro r9 Y;obtain⟨m2,m1,ah⟩:=Aq.1 Y;simp only[go_sem,V,m1];refine(hp l[k] (List.getElem_mem O) m[k] (List.getElem_mem S) _).mono ?_;rintro _ H1 ⟨rfl,rfl⟩;rw[Qz O S] at C;have ag:=(X.new af (some (DObj.cells (dCh l[k]) 47))).new Y (some (DObj.cells (dCh m[k]) 47));cases hb:p l[k] m[k] with
    |true=>
     rw[hb,jS] at C;simp only[go_sem,M];refine⟨k+1,_,Rn.refl _,(J _ _ _).2 ?_,by omega⟩;simp only[go_sem,Z,e1,V,W,L,ae];(repeat' apply And.intro)<;>(try first|rfl|assumption|omega)
    |false=>
     rw[hb,jT] at C;simp only[go_sem];exact Dj.sub ag (Dj.refl ⟨by rw[C],rfl⟩)
   ·(have:k=l.length:=by omega);subst this;(have D: ¬(l.length:Int)<(m.length:Int):=by omega);simp only[go_sem,L,M,D];refine Dj.sub X (Dj.refl ⟨?_,rfl⟩);rw[C,List.drop_length,U,List.drop_length];rfl
 ·have E: ¬(l.length:Int)=(m.length:Int):=by omega
  simp only[go_sem,E];exact Dj.refl ⟨by rw[Wb U],rfl⟩
def Bb3 (P:Program) (G:Nat->DVal) (f:FuncId) (x:Ex):Prop:= ∀y H,Ad P G f ([]++ [.agg (dEx x),.agg (dEx y)]++ []) H (Am (.bool (Ee x y)) H)
theorem Dr6 (G:Nat->DVal) (H:Ab) (x y:Ch) (hl:x.l.length<=1099511627776) (D: ∀e∈x.l,Bb3 Tryz.prog G 13 e):Ad Tryz.prog G 214 ([]++ [.agg (dCh x),.agg (dCh y)]++ []) H (Am (.bool (Vj x y)) H):=by
 rw[Dc1,Tt];refine dci Tryz.func214 Tryz.call214 ?_;simp only[go_sem,DVal.cells,jG,jH];intro I J;simp only[go_sem,DVal.cells];intro L E;obtain⟨M,C,O⟩:=Aq.1 E;by_cases h1:x.kind=y.kind
 ·simp only[go_sem,C,h1];refine(Ed9 G _ Ee x.l y.l 13 hl λe he f _ K=>D e he f K).mono ?_;rintro _ H1 ⟨rfl,rfl⟩;simp only[go_sem];exact Dj.sub (show Sub H _ from(by repeat (first|exact Sub.refl _|assumption|refine Sub.up ?_ (by assumption) _))) (Dj.refl ⟨by simp,rfl⟩)
 ·simp only[go_sem,C,h1];exact Dj.sub (show Sub H _ from(by repeat (first|exact Sub.refl _|assumption|refine Sub.up ?_ (by assumption) _))) (Dj.refl ⟨by simp,rfl⟩)
theorem Cg7 (G:Nat->DVal) (H:Ab) (l m:List Ch) (hl:Gq l<=1099511627776) (y: ∀e∈l.flatMap Ch.l,Bb3 Tryz.prog G 13 e):Ad Tryz.prog G 116 [dCl l,dCl m] H (Am (.bool (Kf l m)) H):=by
 have C:=Mj l;refine dci Tryz.func116 Tryz.call116 ?_;simp only[go_sem,dCl];refine(Gg3 G _ Vj l m 214 (by omega) λc hc d _ K=>Dr6 G K c d (by have:=Mi hc;have:=Lm c.l;rw[Nm] at*;omega) λe he=>y e (List.mem_flatMap.2 ⟨c,hc,he⟩)).mono ?_;rintro _ H1 ⟨rfl,rfl⟩;simp only[go_sem];exact Dj.refl ⟨by rw[Ao4],rfl⟩
theorem Dr7 (G:Nat->DVal) (H:Ab) (x y:As) (hl:Us x<=1099511627776) (C: ∀e∈Ct x,Bb3 Tryz.prog G 13 e):Ad Tryz.prog G 183 ([]++ [.agg (dAs x),.agg (dAs y)]++ []) H (Am (.bool (Wv x y)) H):=by
 have hb:=Sh x;have dx:=Bh3 x;have dy:=Bh3 y;rw[Dc0];refine dci Tryz.func183 Tryz.call183 ?_;simp only[go_sem,DVal.cells,jG,jH];intro J I;dsimp only at I;simp only[go_sem,DVal.cells];intro L D;dsimp only at D;obtain⟨M,E,O⟩:=Aq.1 D;simp only[go_sem,E];refine(Cg7 G _ x.c y.c (by omega) λe he=>C e (List.mem_append_left _ he)).mono ?_;rintro _ H1 ⟨rfl,rfl⟩;cases h:Kf x.c y.c with
 |false=>
  simp only[go_sem];exact Dj.sub (show Sub H _ from(by repeat (first|exact Sub.refl _|assumption|refine Sub.up ?_ (by assumption) _))) (Dj.refl ⟨by simp,rfl⟩)
 |true=>
  simp only[go_sem,E,dx,dy];refine(C x.e (Mh x) y.e _).mono ?_;rintro _ H1 ⟨rfl,rfl⟩;simp only[go_sem];exact Dj.sub (show Sub H _ from(by repeat (first|exact Sub.refl _|assumption|refine Sub.up ?_ (by assumption) _))) (Dj.refl ⟨by simp,rfl⟩)
theorem Dc2 (G:Nat->DVal) (H:Ab) (l m:List As) (hl:El l<=1099511627776) (y: ∀e∈l.flatMap Ct,Bb3 Tryz.prog G 13 e):Ad Tryz.prog G 72 [dAl l,dAl m] H (Am (.bool (Nv l m)) H):=by
 have C:=Ai6 l;refine dci Tryz.func72 Tryz.call72 ?_;simp only[go_sem,dAl];refine(Gg2 G _ Wv l m 183 (by omega) λa ha b _ K=>Dr7 G K a b (by have:=Ai5 ha;omega) λe he=>y e (List.mem_flatMap.2 ⟨a,ha,he⟩)).mono ?_;rintro _ H1 ⟨rfl,rfl⟩;simp only[go_sem];exact Dj.refl ⟨by rw[Ao3],rfl⟩
theorem Ee0 (G:Nat->DVal): ∀x:Ex,Ej x<=1099511627776->Bb3 Tryz.prog G 13 x:=by
 intro x
 induction x using Ex.ind with
 |h x ih=>
  intro hb y H;have J:=Yt x;have L:=Lm x.l;have D: ∀e∈parts x,Bb3 Tryz.prog G 13 e:=λe he=>ih e he (by have:=Yv he;omega);rw[Da9,Tt];refine dci Tryz.func13 Tryz.call13 ?_;simp only[go_sem,DVal.cells,jG,jH];intro M I;dsimp only at I;simp only[go_sem,DVal.cells];intro O E;dsimp only at E;obtain⟨S,C,U⟩:=Aq.1 E;by_cases h1:x.kind=y.kind
  ·by_cases h2:x.oper=y.oper
   ·by_cases h3:x.n=y.n
    ·by_cases h4:x.s=y.s
     ·simp only[go_sem,C,h1,h2,h3,h4];refine(Ed9 G _ Ee x.l y.l 13 (by omega) λe he f _ K=>D e (Ba he) f K).mono ?_;rintro _ H1 ⟨rfl,rfl⟩;cases h5:eqF Ee x.l y.l with
      |true=>
       simp only[go_sem,C];refine(Dc2 G _ x.a y.a (by omega) λe he=>D e (List.mem_append_right _ he)).mono ?_;rintro _ H1 ⟨rfl,rfl⟩;simp only[go_sem];exact Dj.sub (show Sub H _ from(by repeat (first|exact Sub.refl _|assumption|refine Sub.up ?_ (by assumption) _))) (Dj.refl ⟨by simp,rfl⟩)
      |false=>
       simp only[go_sem];exact Dj.sub (show Sub H _ from(by repeat (first|exact Sub.refl _|assumption|refine Sub.up ?_ (by assumption) _))) (Dj.refl ⟨by simp,rfl⟩)
     ·simp only[go_sem,C,h1,h2,h3,h4];exact Dj.sub (show Sub H _ from(by repeat (first|exact Sub.refl _|assumption|refine Sub.up ?_ (by assumption) _))) (Dj.refl ⟨by simp,rfl⟩)
    ·simp only[go_sem,C,h1,h2,h3];exact Dj.sub (show Sub H _ from(by repeat (first|exact Sub.refl _|assumption|refine Sub.up ?_ (by assumption) _))) (Dj.refl ⟨by simp,rfl⟩)
   ·simp only[go_sem,C,h1,h2];exact Dj.sub (show Sub H _ from(by repeat (first|exact Sub.refl _|assumption|refine Sub.up ?_ (by assumption) _))) (Dj.refl ⟨by simp,rfl⟩)
  ·simp only[go_sem,C,h1];exact Dj.sub (show Sub H _ from(by repeat (first|exact Sub.refl _|assumption|refine Sub.up ?_ (by assumption) _))) (Dj.refl ⟨by simp,rfl⟩)
theorem Hj (G:Nat->DVal) (H:Ab) (x y:Ex) (hx:Ej x<=1099511627776):Ad Tryz.prog G 13 [.agg (dEx x),.agg (dEx y)] H (Am (.bool (Ee x y)) H):=Ee0 G x hx y H
theorem Bb4 (G:Nat->DVal) (H:Ab) (l m:List Ch) (hl:Gq l<=1099511627776):Ad Tryz.prog G 116 [dCl l,dCl m] H (Am (.bool (Kf l m)) H):=
 Cg7 G H l m hl λe he=>Ee0 G e (by
  obtain⟨a,ha,he⟩:=List.mem_flatMap.1 he;have:=Ww he;have:=Mi ha;rw[Nm] at*
  omega)
theorem Vm {α:Type} {p:α->α->Bool} {l m:List α} {k:Nat} (h1:k<l.length) (h2:k<m.length) {b:Bool} (hb:p l[k] m[k]=b) (h:eqF p l m=eqF p (l.drop k) (m.drop k)):eqF p l m=(b&&eqF p (l.drop (k+1)) (m.drop (k+1))):=by
 rw[h,Qz h1 h2,hb]
section
variable {G:Nat->DVal} {H:Ab}
def Au1 (P:Program) (G:Nat->DVal) (f:FuncId) (x:Ex):Prop:= ∀y H,Ad P G f [.agg (dEx x),.agg (dEx y)] H (Am (.bool (Ee x y)) H)
theorem Bh7 (G:Nat->DVal) (H:Ab) (l m:List Ex) (hl:l.length<=1099511627776) (U: ∀e∈l,Au1 Tryz.prog G 225 e):Ad Tryz.prog G 283 [.vslice (l.flatMap dEx) l.length,.vslice (m.flatMap dEx) m.length] H (Am (.bool (eqF Ee l m)) H):=by
 refine dci Tryz.func283 Tryz.call283 ?_;by_cases O:l.length=m.length
 ·have E:(l.length:Int)=(m.length:Int):=by omega
  simp only[go_sem,E];obtain⟨I,J⟩: ∃I:Nat->(Nat->DVal)->Ab->Prop,∀k env heap,I k env heap↔(env 0= .vslice (l.flatMap dEx) l.length/\env 1= .vslice (m.flatMap dEx) m.length/\env 5=dI k/\k<=l.length/\eqF Ee l m=eqF Ee (l.drop k) (m.drop k)/\heap=H):=⟨_,λ_ _ _=>Iff.rfl⟩;refine Ea9.run I (λk=>l.length-k) 0 ((J _ _ _).2 ?_) ?_
  ·simp only[go_sem];(repeat' apply And.intro)<;>(try first|rfl|assumption|omega)
  ·intro k env heap hi;obtain⟨y,e1,C,hk,L,rfl⟩:=(J _ _ _).1 hi;have hfl:=Ak Af l;have V:=Ak Af m;by_cases D:k<l.length
   ·(have W:(k:Int)<(m.length:Int):=by omega);(have S:(k:Int)<(l.length:Int):=by omega);(have M:k<m.length:=by omega);have X:=Bh Af l k D;have Y:=Bh Af m k M;(have Z:IntKind.i64.wrap ((k:Int)+1)=((k+1:Nat):Int):=by rw[IntKind.wrap_i64];omega);have aa:=List.getElem_mem D;simp only[go_sem,y,C,S];refine An (.take 0 (.take 1 (.take 2 (.take 3 (.take 4 (.take 5 (.take 6 (.take 7 (.go 8 [] (.take 9 .done)))))))))) ?_;simp(disch:=omega)only[go_sem,y,e1,C,W,S,X,Y,hfl,V,jD];refine(U l[k] aa m[k] _).mono ?_;rintro _ H1 ⟨rfl,rfl⟩;cases hb:Ee l[k] m[k] with
    |true=>
     simp only[go_sem,C];refine⟨k+1,_,Rn.refl _,(J _ _ _).2 ?_,by omega⟩;simp only[go_sem,y,e1,Z];(repeat' apply And.intro)<;>(try first|rfl|assumption|omega);all_goals rw [Vm D M hb L,jS]
    |false=>
     simp only[go_sem];exact Dj.refl ⟨by rw[Vm D M hb L,jT],rfl⟩
   ·(have:k=l.length:=by omega);subst this;simp(disch:=omega)only[go_sem,y,C];refine Dj.refl ⟨?_,rfl⟩;rw[L,List.drop_length,O,List.drop_length];rfl
 ·have E: ¬(l.length:Int)=(m.length:Int):=by omega
  simp only[go_sem,E];exact Dj.refl ⟨by rw[Wb O],rfl⟩
theorem Dr8 (G:Nat->DVal) (H:Ab) (l m:List Ch) (hl:Gq l<=1099511627776) (hS: ∀e∈l.flatMap Ch.l,Au1 Tryz.prog G 225 e):Ad Tryz.prog G 308 [.vslice (l.flatMap dCh) l.length,.vslice (m.flatMap dCh) m.length] H (Am (.bool (eqF Vj l m)) H):=by
 have ac:=Mj l;refine dci Tryz.func308 Tryz.call308 ?_;by_cases V:l.length=m.length
 ·have M:(l.length:Int)=(m.length:Int):=by omega
  simp only[go_sem,M];obtain⟨I,O⟩: ∃I:Nat->(Nat->DVal)->Ab->Prop,∀k env heap,I k env heap↔(env 0= .vslice (l.flatMap dCh) l.length/\env 1= .vslice (m.flatMap dCh) m.length/\env 5=dI k/\k<=l.length/\eqF Vj l m=eqF Vj (l.drop k) (m.drop k)/\heap=H):=⟨_,λ_ _ _=>Iff.rfl⟩;refine Ea9.run I (λk=>l.length-k) 0 ((O _ _ _).2 ?_) ?_
  ·simp only[go_sem];(repeat' apply And.intro)<;>(try first|rfl|assumption|omega)
  ·intro k env heap hi;obtain⟨D,e1,E,hk,J,rfl⟩:=(O _ _ _).1 hi;have hfl:=Ak Cn l;have W:=Ak Cn m;by_cases y:k<l.length
   ·(have X:(k:Int)<(m.length:Int):=by omega);(have S:(k:Int)<(l.length:Int):=by omega);(have C:k<m.length:=by omega);have ad:=Bh Cn l k y;have ae:=Bh Cn m k C;(have aa:IntKind.i64.wrap ((k:Int)+1)=((k+1:Nat):Int):=by rw[IntKind.wrap_i64];omega);have Y:=List.getElem_mem y;have U:=Bz Cn l k y 0 (by decide);have Z:=Bz Cn l k y 1 (by decide);have mk:=Bz Cn m k C 0 (by decide);have ml:=Bz Cn m k C 1 (by decide);rw[Ed2,Nat.add_zero] at U mk;rw[Bs2] at Z ml;have af:=Lm l[k].l;have ab:=Mi Y;rw[Nm] at ab;have hpe:=Dc1 l[k] m[k];rw[Tt] at hpe;simp only[go_sem,D,E,S];refine An (.take 0 (.take 1 (.take 2 (.take 3 (.take 4 (.take 5 (.take 6 (.take 7 (.take 8 (.take 9 (.take 10 (.take 11 (.take 12 (.take 13 (.take 14 (.take 15 (.take 16 (.take 17 (.take 18 (.take 19 (.take 20 (.take 21 (.go 22 [] (.take 23 (.take 24 .done))))))))))))))))))))))))) ?_;by_cases L:l[k].kind=m[k].kind
    ·simp(disch:=omega)only[go_sem,D,e1,E,X,S,U,mk,Z,ml,L,hfl,W,jD];refine(Bh7 G _ l[k].l m[k].l (by omega) λe he=>hS e (List.mem_flatMap.2 ⟨l[k],Y,he⟩)).mono ?_;rintro _ H1 ⟨rfl,rfl⟩;rw[decide_eq_true L,jS] at hpe;rw[<-hpe];cases hb:Vj l[k] m[k] with
     |true=>
      simp only[go_sem,E];refine⟨k+1,_,Rn.refl _,(O _ _ _).2 ?_,by omega⟩;simp only[go_sem,D,e1,aa];(repeat' apply And.intro)<;>(try first|rfl|assumption|omega);all_goals rw [Vm y C hb J,jS]
     |false=>
      simp only[go_sem];exact Dj.refl ⟨by rw[Vm y C hb J,jT],rfl⟩
    ·(have hb:Vj l[k] m[k]=false:=by rw[hpe,decide_eq_false L,jT]);simp(disch:=omega)only[go_sem,D,e1,E,X,S,U,mk,L,hfl,W,jD];exact Dj.refl ⟨by rw[Vm y C hb J,jT],rfl⟩
   ·(have:k=l.length:=by omega);subst this;simp(disch:=omega)only[go_sem,D,E];refine Dj.refl ⟨?_,rfl⟩;rw[J,List.drop_length,V,List.drop_length];rfl
 ·have M: ¬(l.length:Int)=(m.length:Int):=by omega
  simp only[go_sem,M];exact Dj.refl ⟨by rw[Wb V],rfl⟩
theorem Co7 (G:Nat->DVal) (H:Ab) (l m:List As) (hl:El l<=1099511627776) (U: ∀e∈l.flatMap Ct,Au1 Tryz.prog G 225 e):Ad Tryz.prog G 284 [.vslice (l.flatMap dAs) l.length,.vslice (m.flatMap dAs) m.length] H (Am (.bool (eqF Wv l m)) H):=by
 have ad:=Ai6 l;refine dci Tryz.func284 Tryz.call284 ?_;by_cases V:l.length=m.length
 ·have L:(l.length:Int)=(m.length:Int):=by omega
  simp only[go_sem,L];obtain⟨I,M⟩: ∃I:Nat->(Nat->DVal)->Ab->Prop,∀k env heap,I k env heap↔(env 0= .vslice (l.flatMap dAs) l.length/\env 1= .vslice (m.flatMap dAs) m.length/\env 5=dI k/\k<=l.length/\eqF Wv l m=eqF Wv (l.drop k) (m.drop k)/\heap=H):=⟨_,λ_ _ _=>Iff.rfl⟩;refine Ea9.run I (λk=>l.length-k) 0 ((M _ _ _).2 ?_) ?_
  ·simp only[go_sem];(repeat' apply And.intro)<;>(try first|rfl|assumption|omega)
  ·intro k env heap hi;obtain⟨C,e1,D,hk,J,rfl⟩:=(M _ _ _).1 hi;have hfl:=Ak Cm l;have W:=Ak Cm m;by_cases y:k<l.length
   ·(have X:(k:Int)<(m.length:Int):=by omega);(have O:(k:Int)<(l.length:Int):=by omega);(have E:k<m.length:=by omega);have Z:=Bh Cm l k y;have aa:=Bh Cm m k E;(have ab:IntKind.i64.wrap ((k:Int)+1)=((k+1:Nat):Int):=by rw[IntKind.wrap_i64];omega);have S:=List.getElem_mem y;have Y:=Bz Cm l k y 0 (by decide);have mk:=Bz Cm m k E 0 (by decide);rw[Bh2,Nat.add_zero] at Y mk;have gl:((l.flatMap dAs).drop (k*10+1)).take 9=dEx l[k].e:=by
     rw[<-Bh3,<-Z,List.drop_take,List.take_take,List.drop_drop];rfl
    have ml:((m.flatMap dAs).drop (k*10+1)).take 9=dEx m[k].e:=by
     rw[<-Bh3,<-aa,List.drop_take,List.take_take,List.drop_drop];rfl
    have ac:=Ai5 S;rw[Sh] at ac;have hpe:=Dc0 l[k] m[k];rw[Ao4] at hpe;simp only[go_sem,C,D,O];refine An (.take 0 (.take 1 (.take 2 (.take 3 (.take 4 (.take 5 (.take 6 (.take 7 (.take 8 (.take 9 (.go 10 [] (.take 11 (.take 12 (.take 13 (.take 14 (.take 15 (.take 16 (.take 17 (.take 18 (.take 19 (.take 20 (.take 21 (.take 22 (.go 23 [] (.take 24 (.take 25 .done)))))))))))))))))))))))))) ?_;simp(disch:=omega)only[go_sem,C,e1,D,X,O,Y,mk,hfl,W,jD];refine(Dr8 G _ l[k].c m[k].c (by omega) λe he=>U e (List.mem_flatMap.2 ⟨l[k],S,List.mem_append_left _ he⟩)).mono ?_;rintro _ H1 ⟨rfl,rfl⟩;cases hc:eqF Vj l[k].c m[k].c with
    |true=>
     rw[hc,jS] at hpe;simp(disch:=omega)only[go_sem,C,e1,D,X,O,gl,ml,hfl,W,jD];refine(U l[k].e (List.mem_flatMap.2 ⟨l[k],S,Mh _⟩) m[k].e _).mono ?_;rintro _ H1 ⟨rfl,rfl⟩;rw[<-hpe];cases hb:Wv l[k] m[k] with
     |true=>
      simp only[go_sem,D];refine⟨k+1,_,Rn.refl _,(M _ _ _).2 ?_,by omega⟩;simp only[go_sem,C,e1,ab];(repeat' apply And.intro)<;>(try first|rfl|assumption|omega);all_goals rw [Vm y E hb J,jS]
     |false=>
      simp only[go_sem];exact Dj.refl ⟨by rw[Vm y E hb J,jT],rfl⟩
    |false=>
     (have hb:Wv l[k] m[k]=false:=by rw[hpe,hc,jT]);simp only[go_sem];exact Dj.refl ⟨by rw[Vm y E hb J,jT],rfl⟩
   ·(have:k=l.length:=by omega);subst this;simp(disch:=omega)only[go_sem,C,D];refine Dj.refl ⟨?_,rfl⟩;rw[J,List.drop_length,V,List.drop_length];rfl
 ·have L: ¬(l.length:Int)=(m.length:Int):=by omega
  simp only[go_sem,L];exact Dj.refl ⟨by rw[Wb V],rfl⟩
theorem Fk6 (G:Nat->DVal): ∀x:Ex,Ej x<=1099511627776->Au1 Tryz.prog G 225 x:=by
 intro x
 induction x using Ex.ind with
 |h x ih=>
  intro hb y H;have J:=Yt x;have L:=Lm x.l;have D: ∀e∈parts x,Au1 Tryz.prog G 225 e:=λe he=>ih e he (by have:=Yv he;omega);rw[Da9,Tt,Ao3];refine dci Tryz.func225 Tryz.call225 ?_;simp only[go_sem,DVal.cells];intro M I;dsimp only at I;simp only[go_sem,DVal.cells];intro O E;dsimp only at E;obtain⟨S,C,U⟩:=Aq.1 E;by_cases h1:x.kind=y.kind
  ·by_cases h2:x.oper=y.oper
   ·by_cases h3:x.n=y.n
    ·by_cases h4:x.s=y.s
     ·simp only[go_sem,C,h1,h2,h3,h4];refine(Bh7 G _ x.l y.l (by omega) λe he=>D e (Ba he)).mono ?_;rintro _ H1 ⟨rfl,rfl⟩;cases h5:eqF Ee x.l y.l with
      |true=>
       simp only[go_sem,C];refine(Co7 G _ x.a y.a (by omega) λe he=>D e (List.mem_append_right _ he)).mono ?_;rintro _ H1 ⟨rfl,rfl⟩;simp only[go_sem];exact Dj.sub (show Sub H _ from(by repeat (first|exact Sub.refl _|assumption|refine Sub.up ?_ (by assumption) _))) (Dj.refl ⟨by simp,rfl⟩)
      |false=>
       simp only[go_sem];exact Dj.sub (show Sub H _ from(by repeat (first|exact Sub.refl _|assumption|refine Sub.up ?_ (by assumption) _))) (Dj.refl ⟨by simp,rfl⟩)
     ·simp only[go_sem,C,h1,h2,h3,h4];exact Dj.sub (show Sub H _ from(by repeat (first|exact Sub.refl _|assumption|refine Sub.up ?_ (by assumption) _))) (Dj.refl ⟨by simp,rfl⟩)
    ·simp only[go_sem,C,h1,h2,h3];exact Dj.sub (show Sub H _ from(by repeat (first|exact Sub.refl _|assumption|refine Sub.up ?_ (by assumption) _))) (Dj.refl ⟨by simp,rfl⟩)
   ·simp only[go_sem,C,h1,h2];exact Dj.sub (show Sub H _ from(by repeat (first|exact Sub.refl _|assumption|refine Sub.up ?_ (by assumption) _))) (Dj.refl ⟨by simp,rfl⟩)
  ·simp only[go_sem,C,h1];exact Dj.sub (show Sub H _ from(by repeat (first|exact Sub.refl _|assumption|refine Sub.up ?_ (by assumption) _))) (Dj.refl ⟨by simp,rfl⟩)
theorem Dr9 (G:Nat->DVal) (H:Ab) (x y:Ex) (hx:Ej x<=1099511627776):Ad Tryz.prog G 225 [.agg (dEx x),.agg (dEx y)] H (Am (.bool (Ee x y)) H):=Fk6 G x hx y H
theorem Yw (G:Nat->DVal) (H:Ab) (e:Ex):Ad Tryz.prog G 84 [.agg (dEx e)] H (Am (dI (Aw e)) H):=by
 refine dci Tryz.func84 Tryz.call84 ?_;simp only[go_sem,DVal.cells];intro r hr;by_cases L:e.kind=13
 ·skip
  simp only[go_sem,L];exact Dj.dropA r hr (Dj.refl ⟨by simp [Aw,L],rfl⟩)
 by_cases M:e.kind=14
 ·skip
  simp(disch:=omega)only[go_sem,M];exact Dj.dropA r hr (Dj.refl ⟨by simp [Aw,M],rfl⟩)
 by_cases y:e.kind=11
 ·by_cases O:e.oper=18
  ·skip
   simp(disch:=omega)only[go_sem,y,O];exact Dj.dropA r hr (Dj.refl ⟨by simp [Aw,y,O],rfl⟩)
  by_cases S:e.oper=19
  ·skip
   simp(disch:=omega)only[go_sem,y,S];exact Dj.dropA r hr (Dj.refl ⟨by simp [Aw,y,S],rfl⟩)
  by_cases U:e.oper=20
  ·skip
   simp(disch:=omega)only[go_sem,y,U];exact Dj.dropA r hr (Dj.refl ⟨by simp [Aw,y,U],rfl⟩)
  by_cases V:e.oper=21
  ·skip
   simp(disch:=omega)only[go_sem,y,V];exact Dj.dropA r hr (Dj.refl ⟨by simp [Aw,y,V],rfl⟩)
  simp(disch:=omega)only[go_sem,y,O,S,U,V];exact Dj.dropA r hr (Dj.refl ⟨by simp [Aw,y,O,S,U,V],rfl⟩)
 by_cases C:e.kind=12
 ·by_cases D:13<=e.oper
  ·by_cases Z:e.oper<=17
   ·skip
    simp(disch:=omega)only[go_sem,C,D,Z];refine Dj.dropA r hr (Dj.refl ⟨?_,rfl⟩);congr 2;rw[Aw,if_neg (by omega),if_neg (by omega),if_pos (by omega)];(repeat (first|rfl|rw[if_pos (by omega)]|rw[if_neg (by omega)]))
   ·(have E:7<=e.oper:=by omega);(have X: ¬e.oper<=12:=by omega);(have W:3<=e.oper:=by omega);(have Y: ¬e.oper<=6:=by omega);(have I: ¬e.oper=1:=by omega);(have J: ¬e.oper=2:=by omega);simp(disch:=omega)only[go_sem,C,D,Z,E,X,I,J,W,Y];refine Dj.dropA r hr (Dj.refl ⟨?_,rfl⟩);congr 2;rw[Aw,if_neg (by omega),if_neg (by omega),if_pos (by omega)];(repeat (first|rfl|rw[if_pos (by omega)]|rw[if_neg (by omega)]))
  ·by_cases E:7<=e.oper
   ·(have X:e.oper<=12:=by omega);simp(disch:=omega)only[go_sem,C,D,E,X];refine Dj.dropA r hr (Dj.refl ⟨?_,rfl⟩);congr 2;rw[Aw,if_neg (by omega),if_neg (by omega),if_pos (by omega)];(repeat (first|rfl|rw[if_pos (by omega)]|rw[if_neg (by omega)]))
   ·by_cases I:e.oper=1
    ·skip
     simp(disch:=omega)only[go_sem,C,I];refine Dj.dropA r hr (Dj.refl ⟨?_,rfl⟩);congr 2;rw[Aw,if_neg (by omega),if_neg (by omega),if_pos (by omega)];(repeat (first|rfl|rw[if_pos (by omega)]|rw[if_neg (by omega)]))
    by_cases J:e.oper=2
    ·skip
     simp(disch:=omega)only[go_sem,C,J];refine Dj.dropA r hr (Dj.refl ⟨?_,rfl⟩);congr 2;rw[Aw,if_neg (by omega),if_neg (by omega),if_pos (by omega)];(repeat (first|rfl|rw[if_pos (by omega)]|rw[if_neg (by omega)]))
    by_cases W:3<=e.oper
    ·(have Y:e.oper<=6:=by omega);simp(disch:=omega)only[go_sem,C,D,E,I,J,W,Y];refine Dj.dropA r hr (Dj.refl ⟨?_,rfl⟩);congr 2;rw[Aw,if_neg (by omega),if_neg (by omega),if_pos (by omega)];(repeat (first|rfl|rw[if_pos (by omega)]|rw[if_neg (by omega)]))
    ·skip
     simp(disch:=omega)only[go_sem,C,D,E,I,J,W];refine Dj.dropA r hr (Dj.refl ⟨?_,rfl⟩);congr 2;rw[Aw,if_neg (by omega),if_neg (by omega),if_pos (by omega)];(repeat (first|rfl|rw[if_pos (by omega)]|rw[if_neg (by omega)]))
 simp only[go_sem,y,C,L,M];exact Dj.dropA r hr (Dj.refl ⟨by simp [Aw,y,C,L,M],rfl⟩)
end
def Em (e:Ex) (o n s a:Bool):Bool:=(o || zO e)&&(n || zN e)&&(s || zS e)&&(a || zA e)
section
variable {G:Nat->DVal} {H:Ab}
theorem Cc7 (G:Nat->DVal) (H:Ab) (o:Int):Ad Tryz.prog G 313 [.int .u8 o] H (Am (.bool (decide (18<=o)&&decide (o<=21))) H):=by
 refine dci Tryz.func313 Tryz.call313 ?_;by_cases h:18<=o
 ·simp only[go_sem,h];exact Dj.refl ⟨by simp,rfl⟩
 ·simp only[go_sem,h];exact Dj.refl ⟨by simp,rfl⟩
theorem Co8 (G:Nat->DVal) (H:Ab) (o:Int):Ad Tryz.prog G 314 [.int .u8 o] H (Am (.bool (decide (1<=o)&&decide (o<=17))) H):=by
 refine dci Tryz.func314 Tryz.call314 ?_;by_cases h:1<=o
 ·simp only[go_sem,h];exact Dj.refl ⟨by simp,rfl⟩
 ·simp only[go_sem,h];exact Dj.refl ⟨by simp,rfl⟩
theorem Dc3 (G:Nat->DVal) (H:Ab) (e:Ex) (o n s a:Bool):Ad Tryz.prog G 310 [.agg (dEx e),.bool o,.bool n,.bool s,.bool a] H (Am (.bool (Em e o n s a)) H):=by
 refine dci Tryz.func310 Tryz.call310 ?_;simp only[go_sem,DVal.cells];intro r hr;have fin: ∀b,b=Em e o n s a->Dj (Am (.bool (Em e o n s a)) H) (.bool b) (upd H r (some (.cells (dEx e) 27))):=λb hb=>Dj.dropA r hr (Dj.refl ⟨by rw[hb],rfl⟩);cases o with
 |true=>
  cases n with
  |true=>
   cases s with
   |true=>
    cases a with
    |true=>
     simp only[go_sem];exact fin _ (by simp [Em,zO,zN,zS,zA,Al])
    |false=>
     by_cases h4:e.a.length=0
     ·(have y:(e.a.length:Int)=0:=by omega);have C:e.a= []:=List.length_eq_zero_iff.1 h4;simp only[go_sem,y];exact fin _ (by simp [Em,zO,zN,zS,zA,Al,C])
     ·(have y: ¬((e.a.length:Int)=0):=by omega);have C: ¬e.a= []:=λD=>h4 (by rw[D];rfl);simp only[go_sem,y];exact fin _ (by simp [Em,zO,zN,zS,zA,Al,C])
   |false=>
    by_cases h3:e.s= []
    ·skip
     cases a with
     |true=>
      simp only[go_sem,h3];exact fin _ (by simp [Em,zO,zN,zS,zA,Al,h3])
     |false=>
      by_cases h4:e.a.length=0
      ·(have y:(e.a.length:Int)=0:=by omega);have C:e.a= []:=List.length_eq_zero_iff.1 h4;simp only[go_sem,h3,y];exact fin _ (by simp [Em,zO,zN,zS,zA,Al,h3,C])
      ·(have y: ¬((e.a.length:Int)=0):=by omega);have C: ¬e.a= []:=λD=>h4 (by rw[D];rfl);simp only[go_sem,h3,y];exact fin _ (by simp [Em,zO,zN,zS,zA,Al,h3,C])
    ·skip
     simp only[go_sem,h3];exact fin _ (by simp [Em,zO,zN,zS,zA,Al,h3])
  |false=>
   by_cases h2:e.n=0
   ·skip
    cases s with
    |true=>
     cases a with
     |true=>
      simp only[go_sem,h2];exact fin _ (by simp [Em,zO,zN,zS,zA,Al,h2])
     |false=>
      by_cases h4:e.a.length=0
      ·(have y:(e.a.length:Int)=0:=by omega);have C:e.a= []:=List.length_eq_zero_iff.1 h4;simp only[go_sem,h2,y];exact fin _ (by simp [Em,zO,zN,zS,zA,Al,h2,C])
      ·(have y: ¬((e.a.length:Int)=0):=by omega);have C: ¬e.a= []:=λD=>h4 (by rw[D];rfl);simp only[go_sem,h2,y];exact fin _ (by simp [Em,zO,zN,zS,zA,Al,h2,C])
    |false=>
     by_cases h3:e.s= []
     ·skip
      cases a with
      |true=>
       simp only[go_sem,h2,h3];exact fin _ (by simp [Em,zO,zN,zS,zA,Al,h2,h3])
      |false=>
       by_cases h4:e.a.length=0
       ·(have y:(e.a.length:Int)=0:=by omega);have C:e.a= []:=List.length_eq_zero_iff.1 h4;simp only[go_sem,h2,h3,y];exact fin _ (by simp [Em,zO,zN,zS,zA,Al,h2,h3,C])
       ·(have y: ¬((e.a.length:Int)=0):=by omega);have C: ¬e.a= []:=λD=>h4 (by rw[D];rfl);simp only[go_sem,h2,h3,y];exact fin _ (by simp [Em,zO,zN,zS,zA,Al,h2,h3,C])
     ·skip
      simp only[go_sem,h2,h3];exact fin _ (by simp [Em,zO,zN,zS,zA,Al,h2,h3])
   ·skip
    simp only[go_sem,h2];exact fin _ (by simp [Em,zO,zN,zS,zA,Al,h2])
 |false=>
  by_cases h1:e.oper=0
  ·skip
   cases n with
   |true=>
    cases s with
    |true=>
     cases a with
     |true=>
      simp only[go_sem,h1];exact fin _ (by simp [Em,zO,zN,zS,zA,Al,h1])
     |false=>
      by_cases h4:e.a.length=0
      ·(have y:(e.a.length:Int)=0:=by omega);have C:e.a= []:=List.length_eq_zero_iff.1 h4;simp only[go_sem,h1,y];exact fin _ (by simp [Em,zO,zN,zS,zA,Al,h1,C])
      ·(have y: ¬((e.a.length:Int)=0):=by omega);have C: ¬e.a= []:=λD=>h4 (by rw[D];rfl);simp only[go_sem,h1,y];exact fin _ (by simp [Em,zO,zN,zS,zA,Al,h1,C])
    |false=>
     by_cases h3:e.s= []
     ·skip
      cases a with
      |true=>
       simp only[go_sem,h1,h3];exact fin _ (by simp [Em,zO,zN,zS,zA,Al,h1,h3])
      |false=>
       by_cases h4:e.a.length=0
       ·(have y:(e.a.length:Int)=0:=by omega);have C:e.a= []:=List.length_eq_zero_iff.1 h4;simp only[go_sem,h1,h3,y];exact fin _ (by simp [Em,zO,zN,zS,zA,Al,h1,h3,C])
       ·(have y: ¬((e.a.length:Int)=0):=by omega);have C: ¬e.a= []:=λD=>h4 (by rw[D];rfl);simp only[go_sem,h1,h3,y];exact fin _ (by simp [Em,zO,zN,zS,zA,Al,h1,h3,C])
     ·skip
      simp only[go_sem,h1,h3];exact fin _ (by simp [Em,zO,zN,zS,zA,Al,h1,h3])
   |false=>
    by_cases h2:e.n=0
    ·skip
     cases s with
     |true=>
      cases a with
      |true=>
       simp only[go_sem,h1,h2];exact fin _ (by simp [Em,zO,zN,zS,zA,Al,h1,h2])
      |false=>
       by_cases h4:e.a.length=0
       ·(have y:(e.a.length:Int)=0:=by omega);have C:e.a= []:=List.length_eq_zero_iff.1 h4;simp only[go_sem,h1,h2,y];exact fin _ (by simp [Em,zO,zN,zS,zA,Al,h1,h2,C])
       ·(have y: ¬((e.a.length:Int)=0):=by omega);have C: ¬e.a= []:=λD=>h4 (by rw[D];rfl);simp only[go_sem,h1,h2,y];exact fin _ (by simp [Em,zO,zN,zS,zA,Al,h1,h2,C])
     |false=>
      by_cases h3:e.s= []
      ·skip
       cases a with
       |true=>
        simp only[go_sem,h1,h2,h3];exact fin _ (by simp [Em,zO,zN,zS,zA,Al,h1,h2,h3])
       |false=>
        by_cases h4:e.a.length=0
        ·(have y:(e.a.length:Int)=0:=by omega);have C:e.a= []:=List.length_eq_zero_iff.1 h4;simp only[go_sem,h1,h2,h3,y];exact fin _ (by simp [Em,zO,zN,zS,zA,Al,h1,h2,h3,C])
        ·(have y: ¬((e.a.length:Int)=0):=by omega);have C: ¬e.a= []:=λD=>h4 (by rw[D];rfl);simp only[go_sem,h1,h2,h3,y];exact fin _ (by simp [Em,zO,zN,zS,zA,Al,h1,h2,h3,C])
      ·skip
       simp only[go_sem,h1,h2,h3];exact fin _ (by simp [Em,zO,zN,zS,zA,Al,h1,h2,h3])
    ·skip
     simp only[go_sem,h1,h2];exact fin _ (by simp [Em,zO,zN,zS,zA,Al,h1,h2])
  ·skip
   simp only[go_sem,h1];exact fin _ (by simp [Em,zO,zN,zS,zA,Al,h1])
theorem Cg8 {l:List As} {k:Nat} (h: ∀i (_:i+1<k) (hi:i+1<l.length),(l[i].c.isEmpty || !l[i+1].c.isEmpty)=true) (hk:k<l.length) (hx: ∀(h0:0<k),((l[k-1]'(by omega)).c.isEmpty || !l[k].c.isEmpty)=true):
  ∀i (_:i+1<k+1) (hi:i+1<l.length),(l[i].c.isEmpty || !l[i+1].c.isEmpty)=true:=λi hi y=>by
 by_cases e:i+1<k
 ·exact h i e y
 ·have:i+1=k:=by omega
  subst this;exact hx (by omega)
theorem Bh8 (G:Nat->DVal) (H:Ab) (l:List As) (hl:l.length<=1099511627776):Ad Tryz.prog G 323 [.vslice (l.flatMap dAs) l.length] H (Am (.bool (Nd l)) H):=by
 refine dci Tryz.func323 Tryz.call323 ?_;simp only[go_sem];obtain⟨I,D⟩: ∃I:Nat->(Nat->DVal)->Ab->Prop,∀k env heap,I k env heap↔(env 0= .vslice (l.flatMap dAs) l.length/\env 3=dI k/\1<=k/\(k<=l.length\/k=1)/\(∀i (_:i+1<k) (hi:i+1<l.length),(l[i].c.isEmpty || !l[i+1].c.isEmpty)=true)/\heap=H):=⟨_,λ_ _ _=>Iff.rfl⟩;refine Ea9.run I (λk=>l.length-k) 1 ((D _ _ _).2 ?_) ?_
 ·simp only[go_sem];(repeat' apply And.intro)<;>(try first|rfl|assumption|omega);all_goals first|exact .inr trivial|(intro i h1 h2;omega)
 ·intro k env heap hi;obtain⟨y,E,Z,hk,hn,rfl⟩:=(D _ _ _).1 hi;have hfl:=Ak Cm l;by_cases M:k<l.length
  ·(have C:(k:Int)<(l.length:Int):=by omega);have J:=Bz Cm l k M 0 (by decide);have O:=Bz Cm l (k-1) (by omega) 0 (by decide);rw[Bh2,Nat.add_zero] at J O;(have W:IntKind.i64.wrap ((k:Int)-1)=((k-1:Nat):Int):=by rw[IntKind.wrap_i64];omega);(have X:((k-1:Nat):Int)<(l.length:Int):=by omega);by_cases Y:l[k].c.length=0
   ·(have L:(l[k].c.length:Int)=0:=by omega);(have S:l[k].c.isEmpty=true:=by rw[Al];exact decide_eq_true Y);by_cases q2:0<l[k-1].c.length
    ·(have U:(0:Int)<(l[k-1].c.length:Int):=by omega);(have V:l[k-1].c.isEmpty=false:=by rw[Al];exact decide_eq_false (by omega));simp(disch:=omega)only[go_sem,y,E,C,hfl,J,O,W,X,L,U,jD];refine Dj.refl ⟨?_,rfl⟩;have:Nd l=false:=by
      rw[<-Bool.not_eq_true,Bb1];intro h;have:=h (k-1) (by omega);rw[V] at this;(have e:k-1+1=k:=by omega);simp only[e] at this;rw[S] at this;cases this
     rw[this]
    ·(have U: ¬(0:Int)<(l[k-1].c.length:Int):=by omega);(have V:l[k-1].c.isEmpty=true:=by rw[Al];exact decide_eq_true (by omega));simp(disch:=omega)only[go_sem,y,E,C,hfl,J,O,W,X,L,U,jD];refine⟨k+1,_,Rn.refl _,(D _ _ _).2 ?_,by omega⟩;simp only[go_sem,y];(repeat' apply And.intro)<;>(try first|rfl|assumption|omega);exact Cg8 hn M λ_=>by rw[V];rfl
   ·(have L: ¬(l[k].c.length:Int)=0:=by omega);(have S:l[k].c.isEmpty=false:=by rw[Al];exact decide_eq_false Y);simp(disch:=omega)only[go_sem,y,E,C,hfl,J,L,jD];refine⟨k+1,_,Rn.refl _,(D _ _ _).2 ?_,by omega⟩;simp only[go_sem,y];(repeat' apply And.intro)<;>(try first|rfl|assumption|omega);exact Cg8 hn M λ_=>by rw[S];simp
  ·(have C: ¬(k:Int)<(l.length:Int):=by omega);simp only[go_sem,y,E,C];exact Dj.refl ⟨by rw[Bb1.2 λi h=>hn i (by omega) h],rfl⟩
theorem Bk7 (G:Nat->DVal) (H:Ab) (l:List As) (hl:l.length<=1099511627776):Ad Tryz.prog G 311 [.vslice (l.flatMap dAs) l.length] H (Am (.bool (Jn l)) H):=by
 have hfl:=Ak Cm l;refine dci Tryz.func311 Tryz.call311 ?_;by_cases h1:l.length<1
 ·have O:(l.length:Int)<1:=by omega
  simp only[go_sem,O];exact Dj.refl ⟨by rw[Jn,decide_eq_false (show¬0<l.length by omega),jT,jT,jT],rfl⟩
 have O: ¬(l.length:Int)<1:=by omega
 by_cases h2:8<l.length
 ·have Y:(8:Int)<(l.length:Int):=by omega
  simp only[go_sem,O,Y];exact Dj.refl ⟨by rw[Jn,decide_eq_false (show¬l.length<=8 by omega),Bool.and_false,jT,jT],rfl⟩
 have Y: ¬(8:Int)<(l.length:Int):=by omega
 simp only[go_sem,O,Y];refine(Bh8 G _ l hl).mono ?_;rintro _ H1 ⟨rfl,rfl⟩;have hd:Jn l=(Nd l&&l.all λa=>a.c.isEmpty || Ce a.c):=by
  rw[Jn,decide_eq_true (show 0<l.length by omega),decide_eq_true (show l.length<=8 by omega),jS,jS]
 rw[hd];cases h3:Nd l with
 |false=>
  simp only[go_sem];exact Dj.refl ⟨rfl,rfl⟩
 |true=>
  simp only[go_sem];obtain⟨I,S⟩: ∃I:Nat->(Nat->DVal)->Ab->Prop,∀k env heap,I k env heap↔(env 0= .vslice (l.flatMap dAs) l.length/\env 3=dI k/\k<=l.length/\(∀a∈l.take k,(a.c.isEmpty || Ce a.c)=true)/\heap=H1):=⟨_,λ_ _ _=>Iff.rfl⟩;refine Ea9.run I (λk=>l.length-k) 0 ((S _ _ _).2 ?_) ?_
  ·simp only[go_sem];(repeat' apply And.intro)<;>(try first|rfl|assumption|omega);intro a ha;simp at ha
  ·intro k env heap hi;obtain⟨y,D,hk,hn,rfl⟩:=(S _ _ _).1 hi;by_cases Z:k<l.length
   ·(have E:(k:Int)<(l.length:Int):=by omega);have C:=Bz Cm l k Z 0 (by decide);rw[Bh2,Nat.add_zero] at C;obtain⟨a,ha⟩: ∃a,a=l[k]:=⟨_,rfl⟩;rw[<-ha] at C;have no:(a.c.isEmpty || Ce a.c)=false->(l.all λa=>a.c.isEmpty || Ce a.c)=false:=λh=>by
     rw[List.all_eq_false];exact⟨l[k],List.getElem_mem Z,by rw[<-ha,h];simp⟩
    have ab:(a.c.isEmpty || Ce a.c)=true-> ∀x∈l.take (k+1),(x.c.isEmpty || Ce x.c)=true:=λh=>Jm (p:=λx=>(x.c.isEmpty || Ce x.c)=true) Z hn (by rw[<-ha];exact h);have U:=Ak Cn a.c;by_cases q1:1<a.c.length
    ·(have aa:(1:Int)<(a.c.length:Int):=by omega);have hs:(a.c.isEmpty || Ce a.c)=false:=by
      rw[Al,decide_eq_false (by omega),Bool.false_or];unfold Ce;split
      ·rename_i h;rw[h] at q1;simp at q1
      ·rfl
     simp(disch:=omega)only[go_sem,y,D,E,hfl,C,aa,jD];exact Dj.refl ⟨by rw[no hs],rfl⟩
    (have aa: ¬(1:Int)<(a.c.length:Int):=by omega);by_cases q2:a.c.length=1
    ·(have J:(a.c.length:Int)=1:=by omega);obtain⟨M,V⟩:=ch0 (l:=a.c) (by omega);obtain⟨c,hc⟩:=List.length_eq_one_iff.1 q2;(have ec:a.c[0]=c:=by simp [hc]);rw[ec] at M V;(have he:a.c.isEmpty=false:=by rw[hc];rfl);by_cases L:c.kind=1
     ·by_cases q4:c.l.length=1
      ·(have W:(c.l.length:Int)=1:=by omega);have g2:=Hd8 (l:=c.l) (by omega);have ac:=Ak Af c.l;obtain⟨x,hx⟩:=List.length_eq_one_iff.1 q4;(have e:c.l[0]=x:=by simp [hx]);rw[e] at g2;(have hs:Ce a.c=decide (x.kind=3):=by rw[hc];simp [Ce,L,hx]);by_cases X:x.kind=3
       ·simp(disch:=omega)only[go_sem,y,D,E,hfl,C,J,M,V,L,W,g2,ac,U,X,jD];refine⟨k+1,_,Rn.refl _,(S _ _ _).2 ?_,by omega⟩;simp only[go_sem,y];(repeat' apply And.intro)<;>(try first|rfl|assumption|omega);exact ab (by rw[hs,decide_eq_true X,Bool.or_true])
       ·simp(disch:=omega)only[go_sem,y,D,E,hfl,C,J,M,V,L,W,g2,ac,U,X,jD];exact Dj.refl ⟨by rw[no (by rw[he,hs,decide_eq_false X];rfl)],rfl⟩
      ·(have W: ¬(c.l.length:Int)=1:=by omega);have hs:Ce a.c=false:=by
        rw[hc,Ce];split
        ·rename_i hx;rw[hx] at q4;simp at q4
        ·simp
       simp(disch:=omega)only[go_sem,y,D,E,hfl,C,J,M,V,L,W,U,jD];exact Dj.refl ⟨by rw[no (by rw[he,hs];rfl)],rfl⟩
     ·simp(disch:=omega)only[go_sem,y,D,E,hfl,C,J,M,L,U,jD];exact Dj.refl ⟨by rw[no (by rw[he,hc];simp [Ce,L])],rfl⟩
    ·(have J: ¬(a.c.length:Int)=1:=by omega);simp(disch:=omega)only[go_sem,y,D,E,hfl,C,aa,J,jD];refine⟨k+1,_,Rn.refl _,(S _ _ _).2 ?_,by omega⟩;simp only[go_sem,y];(repeat' apply And.intro)<;>(try first|rfl|assumption|omega);exact ab (by rw[Al,decide_eq_true (by omega),Bool.true_or])
   ·(have:k=l.length:=by omega);subst this;rw[List.take_length] at hn;simp(disch:=omega)only[go_sem,y,D];exact Dj.refl ⟨by simp [List.all_eq_true.2 hn],rfl⟩
theorem Wc (G:Nat->DVal) (H:Ab) (l:List Ch) (hl:l.length<=1099511627776):Ad Tryz.prog G 290 [.vslice (l.flatMap dCh) l.length] H (Am (.bool (Cl l)) H):=by
 have hfl:=Ak Cn l;refine dci Tryz.func290 Tryz.call290 ?_;by_cases h1:l.length<1
 ·have U:(l.length:Int)<1:=by omega
  simp only[go_sem,U];exact Dj.refl ⟨by rw[Cl,decide_eq_false (show¬0<l.length by omega),jT,jT],rfl⟩
 have U: ¬(l.length:Int)<1:=by omega
 by_cases h2:16<l.length
 ·have X:(16:Int)<(l.length:Int):=by omega
  simp only[go_sem,U,X];exact Dj.refl ⟨by rw[Cl,decide_eq_false (show¬l.length<=16 by omega),Bool.and_false,jT],rfl⟩
 have X: ¬(16:Int)<(l.length:Int):=by omega
 have hd:Cl l=l.all (Cv l.length):=by
  rw[Cl,decide_eq_true (show 0<l.length by omega),decide_eq_true (show l.length<=16 by omega),jS,jS]
 rw[hd];simp only[go_sem,U,X];obtain⟨I,S⟩: ∃I:Nat->(Nat->DVal)->Ab->Prop,∀k env heap,I k env heap↔(env 0= .vslice (l.flatMap dCh) l.length/\env 3=dI k/\k<=l.length/\(∀a∈l.take k,Cv l.length a=true)/\heap=H):=⟨_,λ_ _ _=>Iff.rfl⟩;refine Ea9.run I (λk=>l.length-k) 0 ((S _ _ _).2 ?_) ?_
 ·simp only[go_sem];(repeat' apply And.intro)<;>(try first|rfl|assumption|omega);intro a ha;simp at ha
 ·intro k env heap hi;obtain⟨C,J,hk,hn,rfl⟩:=(S _ _ _).1 hi;by_cases V:k<l.length
  ·(have L:(k:Int)<(l.length:Int):=by omega);have D:=Bz Cn l k V 0 (by decide);have E:=Bz Cn l k V 1 (by decide);rw[Ed2,Nat.add_zero] at D;rw[Bs2] at E;have no:Cv l.length l[k]=false->l.all (Cv l.length)=false:=λh=>by
    rw[List.all_eq_false];exact⟨l[k],List.getElem_mem V,by rw[h];simp⟩
   have W:Cv l.length l[k]=true-> ∀x∈l.take (k+1),Cv l.length x=true:=λh=>Jm (p:=λx=>Cv l.length x=true) V hn h;obtain⟨c,hc⟩: ∃c,c=l[k]:=⟨_,rfl⟩;rw[<-hc] at D E no W;by_cases k1:c.kind=1
   ·by_cases q:c.l.length=1
    ·(have y:(c.l.length:Int)=1:=by omega);simp(disch:=omega)only[go_sem,C,J,L,hfl,D,E,k1,y,jD];refine⟨k+1,_,Rn.refl _,(S _ _ _).2 ?_,by omega⟩;simp only[go_sem,C];(repeat' apply And.intro)<;>(try first|rfl|assumption|omega);exact W (by simp [Cv,k1,q])
    ·(have y: ¬(c.l.length:Int)=1:=by omega);simp(disch:=omega)only[go_sem,C,J,L,hfl,D,E,k1,y,jD];exact Dj.refl ⟨by rw[no (by simp [Cv,k1,q])],rfl⟩
   by_cases O:c.kind=2
   ·by_cases q:c.l.length=2
    ·(have y:(c.l.length:Int)=2:=by omega);simp(disch:=omega)only[go_sem,C,J,L,hfl,D,E,O,y,jD];refine⟨k+1,_,Rn.refl _,(S _ _ _).2 ?_,by omega⟩;simp only[go_sem,C];(repeat' apply And.intro)<;>(try first|rfl|assumption|omega);exact W (by simp [Cv,O,q])
    ·(have y: ¬(c.l.length:Int)=2:=by omega);simp(disch:=omega)only[go_sem,C,J,L,hfl,D,E,O,y,jD];exact Dj.refl ⟨by rw[no (by simp [Cv,O,q])],rfl⟩
   by_cases M:c.kind=3
   ·by_cases q:c.l.length=0
    ·(have y:(c.l.length:Int)=0:=by omega);by_cases q2:1<l.length
     ·(have Y:(1:Int)<(l.length:Int):=by omega);simp(disch:=omega)only[go_sem,C,J,L,hfl,D,E,M,y,Y,jD];exact Dj.refl ⟨by rw[no (by simp [Cv,M,q];omega)],rfl⟩
     ·(have Y: ¬(1:Int)<(l.length:Int):=by omega);simp(disch:=omega)only[go_sem,C,J,L,hfl,D,E,M,y,Y,jD];refine⟨k+1,_,Rn.refl _,(S _ _ _).2 ?_,by omega⟩;simp only[go_sem,C];(repeat' apply And.intro)<;>(try first|rfl|assumption|omega);exact W (by simp [Cv,M,q];omega)
    ·(have y: ¬(c.l.length:Int)=0:=by omega);simp(disch:=omega)only[go_sem,C,J,L,hfl,D,E,M,y,jD];exact Dj.refl ⟨by rw[no (by simp [Cv,M,q])],rfl⟩
   ·(have y: ¬(c.l.length:Int)= -1:=by omega);simp(disch:=omega)only[go_sem,C,J,L,hfl,D,E,k1,O,M,y,jD];exact Dj.refl ⟨by rw[no (by simp [Cv,k1,O,M])],rfl⟩
  ·(have:k=l.length:=by omega);subst this;rw[List.take_length] at hn;simp(disch:=omega)only[go_sem,C,J];exact Dj.refl ⟨by rw[List.all_eq_true.2 hn],rfl⟩
end
section
variable {G:Nat->DVal} {H:Ab}
theorem Ao5 (G:Nat->DVal) (H:Ab) (l:List As) (hl:l.length<=1099511627776) (hb: ∀a∈l,a.c.length<=1099511627776):Ad Tryz.prog G 312 [.vslice (l.flatMap dAs) l.length] H (Am (.bool (Fx l)) H):=by
 refine dci Tryz.func312 Tryz.call312 ?_;by_cases h1:l.length=0
 ·have aa:(l.length:Int)<1:=by omega
  simp only[go_sem,aa];exact Dj.refl ⟨by rw[Fx,decide_eq_false (show¬0<l.length by omega),jT,jT,jT,jT],rfl⟩
 have aa: ¬(l.length:Int)<1:=by omega
 have ab:0<l.length:=by omega
 by_cases h2:32<l.length
 ·have ac:(32:Int)<(l.length:Int):=by omega
  simp only[go_sem,aa,ac];exact Dj.refl ⟨by rw[Fx,decide_eq_false (show¬l.length<=32 by omega),Bool.and_false,jT,jT,jT],rfl⟩
 have ac: ¬(32:Int)<(l.length:Int):=by omega
 simp only[go_sem,aa,ac];refine(Bh8 G _ l hl).mono ?_;rintro _ H1 ⟨rfl,rfl⟩;have hd:Fx l=(Nd l&&(!(decide (l.length=1)&&(l.getD 0 default).c.isEmpty)&&Fo l)):=by
  rw[Fx,decide_eq_true ab,decide_eq_true (show l.length<=32 by omega),jS,jS,Bh5,Bool.and_assoc]
 rw[hd];cases h3:Nd l with
 |false=>
  simp only[go_sem];exact Dj.refl ⟨rfl,rfl⟩
 |true=>
  have af:=as0 ab;have ag:l.getD 0 default=l[0]:=by rw[List.getD,List.getElem?_eq_getElem ab];rfl
  have hfl:=Ak Cm l;rw[ag];by_cases h4:l.length=1/\l[0].c.length=0
  ·(have ah:(l.length:Int)=1:=by omega);(have ai:(l[0].c.length:Int)=0:=by omega);(have e4:l[0].c.isEmpty=true:=by rw[Al];exact decide_eq_true h4.2);simp(disch:=omega)only[go_sem,ah,ai,af,hfl];exact Dj.refl ⟨by simp [e4],rfl⟩
  ·have e4:(decide (l.length=1)&&l[0].c.isEmpty)=false:=by
    rw[Al,<-Bool.decide_and];exact decide_eq_false h4
   rw[e4];by_cases h5:l.length=1
   ·have ad:((l.length:Int)=1)=True:=eq_true (by omega);(have aj: ¬(l[0].c.length:Int)=0:=by omega);simp(disch:=omega)only[go_sem,ad,aj,af,hfl];obtain⟨I,J⟩: ∃I:Nat->(Nat->DVal)->Ab->Prop,∀k env heap,I k env heap↔(env 0= .vslice (l.flatMap dAs) l.length/\env 3=dI k/\k<=l.length/\Fo l=Fo (l.drop k)/\heap=H1):=⟨_,λ_ _ _=>Iff.rfl⟩;refine Ea9.run I (λk=>l.length-k) 0 ((J _ _ _).2 ?_) ?_
    ·simp only[go_sem];(repeat' apply And.intro)<;>(try first|rfl|assumption|omega)
    ·intro k env heap hi;obtain⟨C,D,hk,y,rfl⟩:=(J _ _ _).1 hi;by_cases M:k<l.length
     ·(have W:(k:Int)<(l.length:Int):=by omega);have O:=Bz Cm l k M 0 (by decide);rw[Bh2,Nat.add_zero] at O;(have ak:IntKind.i64.wrap ((k:Int)+1)=((k+1:Nat):Int):=by rw[IntKind.wrap_i64];omega);(have X:IntKind.i64.wrap ((l.length:Int)-1)=(l.length:Int)-1:=by rw[IntKind.wrap_i64];omega);have ae:=hb l[k] (List.getElem_mem M);rw[Yu M] at y;by_cases Y:0<l[k].c.length
      ·(have E:(0:Int)<(l[k].c.length:Int):=by omega);(have e1:l[k].c.isEmpty=false:=by rw[Al];exact decide_eq_false (by omega));rw[e1,Bool.false_or] at y;simp(disch:=omega)only[go_sem,C,D,W,hfl,O,E,jD];refine(Wc G _ l[k].c ae).mono ?_;rintro _ H2 ⟨rfl,rfl⟩;cases q2:Cl l[k].c with
       |false=>
        rw[q2,jT,jT] at y;simp only[go_sem];exact Dj.refl ⟨by rw[y],rfl⟩
       |true=>
        obtain⟨S,_⟩:=ch0 Y;have U:=Ak Cn l[k].c;rw[q2,jS,Pd Y] at y;by_cases L:l[k].c[0].kind=3
        ·rw[decide_eq_true L,Bool.not_true,Bool.false_or] at y;by_cases Z:k+1=l.length
         ·(have V: ¬(k:Int)<(l.length:Int)-1:=by omega);rw[decide_eq_true Z,jS] at y;simp(disch:=omega)only[go_sem,C,D,S,U,E,L,V,X];refine⟨k+1,_,Rn.refl _,(J _ _ _).2 ?_,by omega⟩;simp only[go_sem,C];(repeat' apply And.intro)<;>(try first|rfl|assumption|omega)
         ·(have V:(k:Int)<(l.length:Int)-1:=by omega);rw[decide_eq_false Z,jT] at y;simp(disch:=omega)only[go_sem,C,D,S,U,E,L,V,X];exact Dj.refl ⟨by rw[y],rfl⟩
        ·rw[decide_eq_false L,Bool.not_false,Bool.true_or,jS] at y;simp(disch:=omega)only[go_sem,D,S,U,E,L];refine⟨k+1,_,Rn.refl _,(J _ _ _).2 ?_,by omega⟩;simp only[go_sem,C];(repeat' apply And.intro)<;>(try first|rfl|assumption|omega)
      ·(have E: ¬(0:Int)<(l[k].c.length:Int):=by omega);(have e1:l[k].c.isEmpty=true:=by rw[Al];exact decide_eq_true (by omega));rw[e1,Bool.true_or,jS] at y;simp(disch:=omega)only[go_sem,C,D,W,hfl,O,E,jD];refine⟨k+1,_,Rn.refl _,(J _ _ _).2 ?_,by omega⟩;simp only[go_sem,C];(repeat' apply And.intro)<;>(try first|rfl|assumption|omega)
     ·(have:k=l.length:=by omega);subst this;rw[List.drop_length] at y;simp(disch:=omega)only[go_sem,C,D];exact Dj.refl ⟨by rw[y];rfl,rfl⟩
   ·(have ad: ¬(l.length:Int)=1:=by omega);simp only[go_sem,ad];obtain⟨I,J⟩: ∃I:Nat->(Nat->DVal)->Ab->Prop,∀k env heap,I k env heap↔(env 0= .vslice (l.flatMap dAs) l.length/\env 3=dI k/\k<=l.length/\Fo l=Fo (l.drop k)/\heap=H1):=⟨_,λ_ _ _=>Iff.rfl⟩;refine Ea9.run I (λk=>l.length-k) 0 ((J _ _ _).2 ?_) ?_
    ·simp only[go_sem];(repeat' apply And.intro)<;>(try first|rfl|assumption|omega)
    ·intro k env heap hi;obtain⟨C,D,hk,y,rfl⟩:=(J _ _ _).1 hi;by_cases M:k<l.length
     ·(have W:(k:Int)<(l.length:Int):=by omega);have O:=Bz Cm l k M 0 (by decide);rw[Bh2,Nat.add_zero] at O;(have X:IntKind.i64.wrap ((l.length:Int)-1)=(l.length:Int)-1:=by rw[IntKind.wrap_i64];omega);have ae:=hb l[k] (List.getElem_mem M);rw[Yu M] at y;by_cases Y:0<l[k].c.length
      ·(have E:(0:Int)<(l[k].c.length:Int):=by omega);(have e1:l[k].c.isEmpty=false:=by rw[Al];exact decide_eq_false (by omega));rw[e1,Bool.false_or] at y;simp(disch:=omega)only[go_sem,C,D,W,hfl,O,E,jD];refine(Wc G _ l[k].c ae).mono ?_;rintro _ H2 ⟨rfl,rfl⟩;cases q2:Cl l[k].c with
       |false=>
        rw[q2,jT,jT] at y;simp only[go_sem];exact Dj.refl ⟨by rw[y],rfl⟩
       |true=>
        obtain⟨S,_⟩:=ch0 Y;have U:=Ak Cn l[k].c;rw[q2,jS,Pd Y] at y;by_cases L:l[k].c[0].kind=3
        ·rw[decide_eq_true L,Bool.not_true,Bool.false_or] at y;by_cases Z:k+1=l.length
         ·(have V: ¬(k:Int)<(l.length:Int)-1:=by omega);rw[decide_eq_true Z,jS] at y;simp(disch:=omega)only[go_sem,C,D,S,U,E,L,V,X];refine⟨k+1,_,Rn.refl _,(J _ _ _).2 ?_,by omega⟩;simp only[go_sem,C];(repeat' apply And.intro)<;>(try first|rfl|assumption|omega)
         ·(have V:(k:Int)<(l.length:Int)-1:=by omega);rw[decide_eq_false Z,jT] at y;simp(disch:=omega)only[go_sem,C,D,S,U,E,L,V,X];exact Dj.refl ⟨by rw[y],rfl⟩
        ·rw[decide_eq_false L,Bool.not_false,Bool.true_or,jS] at y;simp(disch:=omega)only[go_sem,D,S,U,E,L];refine⟨k+1,_,Rn.refl _,(J _ _ _).2 ?_,by omega⟩;simp only[go_sem,C];(repeat' apply And.intro)<;>(try first|rfl|assumption|omega)
      ·(have E: ¬(0:Int)<(l[k].c.length:Int):=by omega);(have e1:l[k].c.isEmpty=true:=by rw[Al];exact decide_eq_true (by omega));rw[e1,Bool.true_or,jS] at y;simp(disch:=omega)only[go_sem,C,D,W,hfl,O,E,jD];refine⟨k+1,_,Rn.refl _,(J _ _ _).2 ?_,by omega⟩;simp only[go_sem,C];(repeat' apply And.intro)<;>(try first|rfl|assumption|omega)
     ·(have:k=l.length:=by omega);subst this;rw[List.drop_length] at y;simp(disch:=omega)only[go_sem,C,D];exact Dj.refl ⟨by rw[y];rfl,rfl⟩
theorem Hi2 (n:Nat):((0:Int)<(n:Int))= ¬n=0:=by rw[eq_iff_iff];omega
theorem Co9 (G:Nat->DVal) (H:Ab) (e:Ex) (hb:Ej e<=1099511627776):Ad Tryz.prog G 285 [.agg (dEx e)] H (Am (.bool (Ax e)) H):=by
 have E:= @Ed4 e;have I:= @Ed3 e;have hfl:=Ak Af e.l;have C: ∀a∈e.a,a.c.length<=1099511627776:=λa ha=>by
  have h1:=Bs3 ha;have h2:=Mj a.c;rw[Sh] at h1;omega
 obtain⟨y,J,L⟩: ∃x,e.l.getD 0 ex0=x/\(0<e.l.length->(e.l.flatMap dEx).take 9=dEx x):=⟨_,rfl,λh=>by rw[List.getD,List.getElem?_eq_getElem h];exact Bh Af e.l 0 h⟩;obtain⟨x,M,hg⟩: ∃x,e.l.getD 1 ex0=x/\(1<e.l.length->((e.l.flatMap dEx).drop 9).take 9=dEx x):=⟨_,rfl,λh=>by rw[List.getD,List.getElem?_eq_getElem h];exact Bh Af e.l 1 h⟩;have O: ∀k,Je e k=(decide (e.l.length=k)&&Bn y):=λk=>by rw[<-J];rfl
 obtain⟨zo,ho⟩: ∃b,zO e=b:=⟨_,rfl⟩;obtain⟨S,hn⟩: ∃b,zN e=b:=⟨_,rfl⟩;obtain⟨U,hs⟩: ∃b,zS e=b:=⟨_,rfl⟩;obtain⟨V,ha⟩: ∃b,zA e=b:=⟨_,rfl⟩;refine dci Tryz.func285 Tryz.call285 ?_;simp(disch:=omega)only[go_sem,DVal.cells];intro W D
 repeat' first
  |(with_reducible refine(Bh4 G _ y).mono ?_;rintro _ H1 ⟨rfl,rfl⟩)
  |(with_reducible refine(Bh4 G _ x).mono ?_;rintro _ H1 ⟨rfl,rfl⟩)
  |(with_reducible refine(Cc7 G _ e.oper).mono ?_;rintro _ H1 ⟨rfl,rfl⟩)
  |(with_reducible refine(Co8 G _ e.oper).mono ?_;rintro _ H1 ⟨rfl,rfl⟩)
  |(with_reducible refine(Qb G _ e.s).mono ?_;rintro _ H1 ⟨rfl,rfl⟩)
  |(with_reducible refine(Bk7 G _ e.a (by omega)).mono ?_;rintro _ H1 ⟨rfl,rfl⟩)
  |(with_reducible refine(Ao5 G _ e.a (by omega) C).mono ?_;rintro _ H1 ⟨rfl,rfl⟩)
  |(with_reducible refine(Dc3 G _ e _ _ _ _).mono ?_;rintro _ H1 ⟨rfl,rfl⟩)
  |simp(disch:=omega)only[go_sem, *,Em,Bool.false_or,Bool.true_or,jS,Bool.and_true]
  |(with_reducible refine Kd ?_ ?_<;>intro hc<;>try simp only[decide_eq_true_eq,decide_eq_false_iff_not] at hc)
  |(with_reducible refine Iu ?_ ?_<;>intro hc<;>try simp only[decide_eq_true_eq,decide_eq_false_iff_not] at hc)
  |(refine Dj.dropA W D (Dj.refl ⟨?_,rfl⟩);clear E I hfl C hb hg L D;(try simp only[He0,He1,He2,Hi2,Decidable.not_not] at*);simp only[Ax,M,ho,hn,hs,ha,O,Al];first|(exfalso;omega)|(simp [*];done)|(cases zo<;>cases S<;>cases U<;>cases V<;>simp_all;done))
end
theorem Vn (l m:List Ex):He (l++m)=He l+He m:=by
 induction l with
 |nil=>simp [He]
 |cons x l ih=>rw[jI,He,He,ih];omega
theorem Dc4 (a:As):He (Ct a)<=Us a:=by
 rw[Ct,Vn,Sh];have h: ∀l:List Ch,He (l.flatMap Ch.l)<=Gq l:=by
  intro l
  induction l with
  |nil=>simp [He]
  |cons c l ih=>rw[List.flatMap_cons,Vn,Gq,Nm];omega
 have:=h a.c;simp only[He];omega
theorem Ds0 (e:Ex):He (parts e)<=Ej e:=by
 rw[parts,Vn,Yt];have h: ∀l:List As,He (l.flatMap Ct)<=El l:=by
  intro l
  induction l with
  |nil=>simp [He]
  |cons c l ih=>have:=Dc4 c;rw[List.flatMap_cons,Vn,El];omega
 have:=h e.a;omega
theorem Cg9 (e:Ex):(parts e).length<=Ej e:=by
 have:=Lm (parts e);have:=Ds0 e;omega
section
variable {G:Nat->DVal} {H:Ab}
def Fk7 (H:Ab) (l:List Ex) (v:DVal) (H':Ab):Prop:=Ik H 27 9 l.length (l.flatMap dEx) v H'
theorem Ds1 (G:Nat->DVal) (H:Ab) (e:Ex) (hb:Ej e<=100000000000):Ad Tryz.prog G 286 [.agg (dEx e)] H (Am (dXs (parts e)) H):=by
 have a3:= @Ed4 e;have a4:= @Ed3 e;have hfl:=Ak Af e.l;have ad:=Ak Cm e.a;have hpl:=Cg9 e;refine dci Tryz.func286 Tryz.call286 ?_;simp only[go_sem,DVal.cells];intro y ae;dsimp only at ae;simp only[go_sem];intro V M;dsimp only at M;obtain⟨m1,m2,a5⟩:=Aq.1 M;have ht:(e.l.flatMap dEx).take (e.l.length*9)=e.l.flatMap dEx:=List.take_of_length_le (by omega);have ho:((e.l.flatMap dEx).all (λd=>d.one))=true:=by
  rw[List.all_eq_true];intro d hd;obtain⟨x,_,hd⟩:=List.mem_flatMap.1 hd;exact List.all_eq_true.1 (Cd x) d hd
 simp only[go_sem,m2,hfl,ht,ho];have ak:Ik (upd H y (some (.cells (dEx e) 27))) 27 9 0 [] (.oslice 9 V 0 0 0) (upd (upd H y (some (.cells (dEx e) 27))) V (some (.cells [] 27))):= .inr ⟨V,M,rfl,rfl,Aa _ _ _,(Sub.refl _).new M _⟩;refine Ik.appendO ak hfl (by omega) λv1 H1 O=> ?_;change Ik _ _ _ (0+e.l.length) ([]++e.l.flatMap dEx) v1 H1 at O;rw[jG,Nat.zero_add] at O;obtain⟨H0,W⟩: ∃H0,H0=upd H y (some (.cells (dEx e) 27)):=⟨_,rfl⟩;have af:H0 y=some (.cells (dEx e) 27):=by rw[W];exact Aa _ _ _
 have al:Sub H H0:=by rw[W];exact(Sub.refl H).new ae _
 rw[<-W] at O;have am: ∀j (hj:j<e.a.length),(e.a.take (j+1)).flatMap Ct=(e.a.take j).flatMap Ct++Ct e.a[j]:=λj hj=>by
  rw[List.take_add_one,List.getElem?_eq_getElem hj,List.flatMap_append];simp
 have ag: ∀(l:List Ex) (t:List Ex),l++t=parts e->l.length<=100000000000:=λl t h=>by
  have:=congrArg List.length h;rw[jC] at this;omega
 simp only[go_sem];obtain⟨I,X⟩: ∃I:Nat->(Nat->DVal)->Ab->Prop,∀j env heap,I j env heap↔(env 1= .optr y 0/\env 4=dI j/\j<=e.a.length/\Fk7 H0 (e.l++(e.a.take j).flatMap Ct) (env 3) heap):=⟨_,λ_ _ _=>Iff.rfl⟩;refine Ea9.run I (λj=>e.a.length-j) 0 ((X _ _ _).2 ?_) ?_
 ·simp only[go_sem];(repeat' apply And.intro)<;>(try first|rfl|assumption|omega);unfold Fk7;rw[List.flatMap_nil,jH];exact O
 ·intro j env heap hi;obtain⟨e1,C,hj,hv⟩:=(X _ _ _).1 hi;obtain⟨v,D⟩: ∃v,env 3=v:=⟨_,rfl⟩;rw[D] at hv;have E:heap y=some (.cells (dEx e) 27):=Ik.keep hv af;by_cases S:j<e.a.length
  ·(have Y:(j:Int)<(e.a.length:Int):=by omega);have ao:=Bh Cm e.a j S;have U:=Bz Cm e.a j S 0 (by decide);rw[Bh2,Nat.add_zero] at U;(have ap:IntKind.i64.wrap ((j:Int)+1)=((j+1:Nat):Int):=by rw[IntKind.wrap_i64];omega);have ah:=Bs3 (List.getElem_mem S);have Z:=am j S;have aa:e.l++(e.a.take (j+1)).flatMap Ct++(e.a.drop (j+1)).flatMap Ct=parts e:=by
    rw[jO,<-List.flatMap_append,List.take_append_drop];rfl
   have gE:((e.a.flatMap dAs).drop (j*10+1)).take 9=dEx e.a[j].e:=by
    rw[<-Bh3,<-ao,List.drop_take,List.take_take,List.drop_drop];rfl
   obtain⟨a,ha⟩: ∃a,a=e.a[j]:=⟨_,rfl⟩;rw[<-ha] at U ah Z gE;have a6:=Mj a.c;have aq:=Ak Cn a.c;rw[Sh] at ah;obtain⟨L,hL⟩: ∃L,L=e.l++(e.a.take j).flatMap Ct:=⟨_,rfl⟩;rw[<-hL] at hv;rw[Z,<-jO,<-hL] at aa;simp only[go_sem,e1,C,E,Y];obtain⟨J,hJ⟩: ∃J:Nat->(Nat->DVal)->Ab->Prop,∀m env heap,J m env heap↔(env 1= .optr y 0/\env 4=dI j/\env 5=dI m/\m<=a.c.length/\Fk7 H0 (L++(a.c.take m).flatMap Ch.l) (env 3) heap):=⟨_,λ_ _ _=>Iff.rfl⟩;refine Ea9.run J (λm=>a.c.length-m) 0 ((hJ _ _ _).2 ?_) ?_
   ·simp only[go_sem,e1,D,C];(repeat' apply And.intro)<;>(try first|rfl|assumption|omega);rw[List.flatMap_nil,jH];exact hv
   ·intro m env heap hi;obtain⟨e1,C,e5,hm,hv⟩:=(hJ _ _ _).1 hi;obtain⟨v,D⟩: ∃v,env 3=v:=⟨_,rfl⟩;rw[D] at hv;have E:heap y=some (.cells (dEx e) 27):=Ik.keep hv af;by_cases ab:m<a.c.length
    ·(have ar:(m:Int)<(a.c.length:Int):=by omega);(have au:IntKind.i64.wrap ((m:Int)+1)=((m+1:Nat):Int):=by rw[IntKind.wrap_i64];omega);have gl:=Bz Cn a.c m ab 1 (by decide);rw[Bs2] at gl;have ai:=Mi (List.getElem_mem ab);obtain⟨c,hc⟩: ∃c,c=a.c[m]:=⟨_,rfl⟩;rw[<-hc] at gl ai;have a7:=Lm c.l;have aj:=Ak Af c.l;rw[Nm] at ai;have av:(a.c.take (m+1)).flatMap Ch.l=(a.c.take m).flatMap Ch.l++c.l:=by
      rw[List.take_add_one,List.getElem?_eq_getElem ab,List.flatMap_append,hc];simp
     have aw:(c.l.flatMap dEx).take (c.l.length*9)=c.l.flatMap dEx:=List.take_of_length_le (by omega);have ax:((c.l.flatMap dEx).all (λd=>d.one))=true:=by
      rw[List.all_eq_true];intro d hd;obtain⟨x,_,hd⟩:=List.mem_flatMap.1 hd;exact List.all_eq_true.1 (Cd x) d hd
     have ay:(L++(a.c.take m).flatMap Ch.l).length<=100000000000:=by
      refine ag _ ((a.c.drop m).flatMap Ch.l++([a.e]++(e.a.drop (j+1)).flatMap Ct)) ?_;rw[<-aa,Ct];simp only[jO];rw[<-jO ((a.c.take m).flatMap Ch.l),<-List.flatMap_append,List.take_append_drop]
     simp(disch:=omega)only[go_sem,e1,D,C,e5,E,Y,ad,U,ar,aq,gl,aj,aw,ax,jD];refine Ik.append (m:=c.l.length) hv aj (by omega) λv2 H2 ac=> ?_;simp only[go_sem,e5];refine⟨m+1,_,Rn.refl _,(hJ _ _ _).2 ?_,by omega⟩;simp only[go_sem,e1,C,au];(repeat' apply And.intro)<;>(try first|rfl|assumption|omega);unfold Fk7;rw[av,<-jO,jC,List.flatMap_append];exact ac
    ·(have:m=a.c.length:=by omega);subst this;rw[List.take_length] at hv;have ay:(L++a.c.flatMap Ch.l).length<=100000000000:=by
      refine ag _ ([a.e]++(e.a.drop (j+1)).flatMap Ct) ?_;rw[<-aa,Ct];simp only[jO]
     have a0:By 1 zY= zY:=rfl;simp(disch:=omega)only[go_sem,e1,D,C,e5,E,Y,ad,U,gE,jD,a0,jA,jB,jE,jJ];intro ns a1;simp only[go_sem];refine Ik.append (m:=1) (Ik.new hv a1 _) (by rw[Af]) (by omega) λv2 H2 ac=> ?_;simp only[go_sem,C];refine⟨j+1,_,Rn.refl _,(X _ _ _).2 ?_,by omega⟩;simp only[go_sem,e1,ap];(repeat' apply And.intro)<;>(try first|rfl|assumption|omega);unfold Fk7;rw[Z,<-jO,<-hL,Ct,<-jO,List.length_append (bs:= [a.e]),jQ,List.flatMap_append (ys:= [a.e]),List.flatMap_singleton];exact ac
  ·(have:j=e.a.length:=by omega);subst this;rw[List.take_length] at hv;(have a2: ¬(e.a.length:Int)<(e.a.length:Int):=by omega);simp only[go_sem,e1,D,C,E,a2];exact Ik.fin (hv.less al) ⟨rfl,rfl⟩
def Tu (e:Ex) (d:Nat) (n:Int):Int:=if Dk d e=true/\(Ff e:Int)<=n then n-Ff e else-1
def Bt0 (l:List Ex) (d:Nat) (n:Int):Int:=if l.all (Dk d)=true/\(Lf l:Int)<=n then n-Lf l else-1
theorem Ds2 {l:List Ex} {d k:Nat} {n:Int} (hk:k<l.length) (h0:0<=n):(if 0<=Tu l[k] d n then Bt0 (l.drop (k+1)) d (Tu l[k] d n) else-1)=Bt0 (l.drop k) d n:=by
 rw[List.drop_eq_getElem_cons hk];have hs:Lf (l[k]::l.drop (k+1))=Ff l[k]+Lf (l.drop (k+1)):=by rw[Lf,jN,List.sum_cons];rfl
 unfold Tu Bt0;rw[List.all_cons,hs];by_cases h1:Dk d l[k]=true/\(Ff l[k]:Int)<=n
 ·rw[if_pos h1,if_pos (by omega)];by_cases h2:(l.drop (k+1)).all (Dk d)=true/\(Lf (l.drop (k+1)):Int)<=n-Ff l[k]
  ·rw[if_pos h2,if_pos ⟨by rw[h1.1,h2.1];rfl,by omega⟩];omega
  ·rw[if_neg h2,if_neg];rintro⟨h3,h4⟩;rw[jF] at h3;exact h2 ⟨h3.2,by omega⟩
 ·rw[if_neg h1,if_neg (by omega),if_neg];rintro⟨h3,h4⟩;rw[jF] at h3;exact h1 ⟨h3.1,by omega⟩
theorem Er7 (G:Nat->DVal): ∀(e:Ex) (H:Ab) (d:Nat) (n:Int),Ej e<=100000000000->d<=16000000->0<=n->n<=256->Ad Tryz.prog G 226 [.agg (dEx e),.int .i64 d,.int .i64 n] H (Am (dI (Tu e d n)) H):=by
 intro e
 induction e using Ex.ind with
 |h e ih=>
  intro H d n hb hd h0 h1;have hpl:=Cg9 e;have X:=Oh e;have J:=Oj d e;refine dci Tryz.func226 Tryz.call226 ?_;simp only[go_sem,DVal.cells];intro C D;dsimp only at D;by_cases c1:32<d
  ·(have S:(32:Int)<(d:Int):=by omega);simp only[go_sem,S];refine Dj.dropA C D (Dj.refl ⟨?_,rfl⟩);rw[Tu,if_neg];rintro⟨hv,_⟩;rw[J,decide_eq_false (by omega),jT,jT] at hv;cases hv
  have S: ¬(32:Int)<(d:Int):=by omega
  simp only[go_sem,S];refine(Co9 G _ e (by omega)).mono ?_;rintro _ H1 ⟨rfl,rfl⟩;cases hf:Ax e with
  |false=>
   simp only[go_sem];refine Dj.dropA C D (Dj.refl ⟨?_,rfl⟩);rw[Tu,if_neg];rintro⟨hv,_⟩;rw[J,hf,Bool.and_false,jT] at hv;cases hv
  |true=>
   (have Y:IntKind.i64.wrap (n-1)=n-1:=by rw[IntKind.wrap_i64];omega);(have Z:IntKind.i64.wrap ((d:Int)+1)=((d+1:Nat):Int):=by rw[IntKind.wrap_i64];omega);rw[hf,decide_eq_true (show d<=32 by omega),jS,jS] at J;have ag:Tu e d n=if 0<=n-1 then Bt0 (parts e) (d+1) (n-1) else-1:=by
    unfold Tu Bt0;rw[J,X];by_cases h2:0<=n-1
    ·rw[if_pos h2];by_cases h3:(parts e).all (Dk (d+1))=true/\(Lf (parts e):Int)<=n-1
     ·rw[if_pos h3,if_pos ⟨h3.1,by omega⟩];omega
     ·rw[if_neg h3,if_neg (λh4=>h3 ⟨h4.1,by omega⟩)]
    ·rw[if_neg h2,if_neg (λh4=>by omega)]
   simp only[go_sem,Y];refine(Ds1 G _ e hb).mono ?_;rintro _ H1 ⟨rfl,rfl⟩;have aa:=Ak Af (parts e);simp only[go_sem,dXs];obtain⟨I,U⟩: ∃I:Nat×Int->(Nat->DVal)->Ab->Prop,∀y env heap,I y env heap↔(env 1= .int .i64 d/\env 2= .int .i64 y.2/\env 7= .vslice ((parts e).flatMap dEx) (parts e).length/\env 8=dI y.1/\y.1<=(parts e).length/\ -1<=y.2/\y.2<=256/\Tu e d n=(if 0<=y.2 then Bt0 ((parts e).drop y.1) (d+1) y.2 else-1)/\heap=upd H C (some (.cells (dEx e) 27))):=⟨_,λ_ _ _=>Iff.rfl⟩;refine Ea9.run I (λy=>(parts e).length-y.1) (0,n-1) ((U _ _ _).2 ?_) ?_
   ·simp only[go_sem];(repeat' apply And.intro)<;>(try first|rfl|assumption|omega)
   ·rintro⟨k,m⟩ env heap hi;obtain⟨e1,L,M,E,hk,ab,ac,hr,rfl⟩:=(U _ _ _).1 hi;dsimp only at L E hk ab ac hr;by_cases V:k<(parts e).length
    ·(have O:(k:Int)<((parts e).length:Int):=by omega);have ad:=Bh Af (parts e) k V;(have ae:IntKind.i64.wrap ((k:Int)+1)=((k+1:Nat):Int):=by rw[IntKind.wrap_i64];omega);have W:=List.getElem_mem V;by_cases hm:0<=m
     ·rw[if_pos hm,<-Ds2 V hm] at hr;(have ah: -1<=Tu (parts e)[k] (d+1) m/\Tu (parts e)[k] (d+1) m<=256:=by unfold Tu;split<;>omega);simp(disch:=omega)only[go_sem,e1,L,M,E,O,hm,ad,aa,Z,jD];refine(ih _ W _ (d+1) m (by have:=Yv W;omega) (by omega) hm (by omega)).mono ?_;rintro _ H2 ⟨rfl,rfl⟩;simp only[go_sem,E];refine⟨(k+1,Tu (parts e)[k] (d+1) m),_,Rn.refl _,(U _ _ _).2 ?_,by dsimp only;omega⟩;simp only[go_sem,e1,M,ae];(repeat' apply And.intro)<;>(try first|rfl|assumption|omega)
     ·rw[if_neg hm] at hr;(have af:m= -1:=by omega);simp only[go_sem,L,M,E,O,hm];refine Dj.dropA C D (Dj.refl ⟨?_,rfl⟩);rw[hr,af]
    ·(have:k=(parts e).length:=by omega);subst this;(have O: ¬((parts e).length:Int)<((parts e).length:Int):=by omega);simp only[go_sem,L,M,E,O];refine Dj.dropA C D (Dj.refl ⟨?_,rfl⟩);rw[hr,List.drop_length];split
     ·simp [Bt0,Lf];omega
     ·congr 2;omega
theorem Ok (G:Nat->DVal) (H:Ab) (e:Ex) (hb:Ej e<=100000000000):Ad Tryz.prog G 136 [.agg (dEx e)] H (Am (.bool (Bu e)) H):=by
 refine dci Tryz.func136 Tryz.call136 ?_;simp only[go_sem,DVal.cells];intro r hr;simp only[go_sem];refine(Er7 G e _ 1 256 hb (by decide) (by decide) (by decide)).mono ?_;rintro _ H1 ⟨rfl,rfl⟩;simp only[go_sem];refine Dj.dropA r hr (Dj.refl ⟨?_,rfl⟩);have:(0<=Tu e 1 256)↔(Dk 1 e=true/\Ff e<=256):=by
  unfold Tu;split
  ·constructor
   ·intro _;exact⟨by simp_all,by omega⟩
   ·intro _;omega
  ·rename_i h
   constructor
   ·intro h2;omega
   ·rintro⟨h2,h3⟩;exact absurd ⟨h2,by omega⟩ h
 rw[Bu];cases hv:Dk 1 e with
 |true=>
  rw[hv] at this;simp [this]
 |false=>
  rw[hv] at this;simp [this]
end
section
variable {G:Nat->DVal} {H:Ab}
theorem Wy (G:Nat->DVal) (H:Ab) (l:List Ch) (hb:Gq l<=90000000000):Ad Tryz.prog G 238 [dCl l] H (Am (.bool (Ia l)) H):=by
 have ac:=Mj l;have hfl:=Ak Cn l;refine dci Tryz.func238 Tryz.call238 ?_;simp only[go_sem,dCl];refine(Wc G _ l (by omega)).mono ?_;rintro _ H1 ⟨rfl,rfl⟩;cases h:Cl l with
 |false=>
  simp only[go_sem];exact Dj.refl ⟨by rw[Ia,h,jT],rfl⟩
 |true=>
  simp only[go_sem];obtain⟨I,M⟩: ∃I:Nat->(Nat->DVal)->Ab->Prop,∀k env heap,I k env heap↔(env 0= .vslice (l.flatMap dCh) l.length/\env 3=dI k/\k<=l.length/\Ia l=(l.drop k).all (λc=>c.l.all Bu)/\heap=H1):=⟨_,λ_ _ _=>Iff.rfl⟩;refine Ea9.run I (λk=>l.length-k) 0 ((M _ _ _).2 ?_) ?_
  ·simp only[go_sem];(repeat' apply And.intro)<;>(try first|rfl|assumption|omega);rw[Ia,h,jS]
  ·intro k env heap hi;obtain⟨y,C,hk,hm,rfl⟩:=(M _ _ _).1 hi;obtain⟨H2,Y⟩: ∃H2,H2=heap:=⟨_,rfl⟩;subst Y;by_cases O:k<l.length
   ·(have D:(k:Int)<(l.length:Int):=by omega);have E:=Bz Cn l k O 1 (by decide);rw[Bs2] at E;have X:=Mi (List.getElem_mem O);rw[List.drop_eq_getElem_cons O,List.all_cons] at hm;obtain⟨c,hc⟩: ∃c,c=l[k]:=⟨_,rfl⟩;rw[<-hc] at E X hm;have ad:=Lm c.l;have Z:=Ak Af c.l;rw[Nm] at X;simp only[go_sem,y,C,D];obtain⟨J,S⟩: ∃J:Nat->(Nat->DVal)->Ab->Prop,∀m env heap,J m env heap↔(env 0= .vslice (l.flatMap dCh) l.length/\env 3=dI k/\env 4=dI m/\m<=c.l.length/\Ia l=((c.l.drop m).all Bu&&(l.drop (k+1)).all (λc=>c.l.all Bu))/\heap=H2):=⟨_,λ_ _ _=>Iff.rfl⟩;refine Ea9.run J (λm=>c.l.length-m) 0 ((S _ _ _).2 ?_) ?_
    ·simp only[go_sem,y,C];(repeat' apply And.intro)<;>(try first|rfl|assumption|omega)
    ·intro m env heap hi;obtain⟨y,C,U,ae,L,rfl⟩:=(S _ _ _).1 hi;by_cases V:m<c.l.length
     ·(have W:(m:Int)<(c.l.length:Int):=by omega);(have aa:IntKind.i64.wrap ((m:Int)+1)=((m+1:Nat):Int):=by rw[IntKind.wrap_i64];omega);have ab:=Bh Af c.l m V;have af:=Ww (List.getElem_mem V);rw[List.drop_eq_getElem_cons V,List.all_cons] at L;simp(disch:=omega)only[go_sem,y,C,U,D,hfl,E,W,Z,ab,jD];refine(Ok G _ c.l[m] (by omega)).mono ?_;rintro _ H2 ⟨rfl,rfl⟩;cases hb1:Bu c.l[m] with
      |false=>
       simp only[go_sem];exact Dj.refl ⟨by rw[L,hb1];rfl,rfl⟩
      |true=>
       rw[hb1,jS] at L;simp only[go_sem,U];refine⟨m+1,_,Rn.refl _,(S _ _ _).2 ?_,by omega⟩;simp only[go_sem,y,C,aa];(repeat' apply And.intro)<;>(try first|rfl|assumption|omega)
     ·(have:m=c.l.length:=by omega);subst this;rw[List.drop_length,List.all_nil,jS] at L;(have W: ¬(c.l.length:Int)<(c.l.length:Int):=by omega);simp(disch:=omega)only[go_sem,y,C,U,D,hfl,E,W,jD];refine⟨k+1,_,Rn.refl _,(M _ _ _).2 ?_,by omega⟩;simp only[go_sem,y];(repeat' apply And.intro)<;>(try first|rfl|assumption|omega)
   ·(have:k=l.length:=by omega);subst this;(have D: ¬(l.length:Int)<(l.length:Int):=by omega);simp only[go_sem,y,C,D];exact Dj.refl ⟨by rw[hm,List.drop_length];rfl,rfl⟩
end
end Go.Dl
-- Dn
namespace Go.Dl
open Go
set_option maxRecDepth 10000
section
variable {P:Program} {G:Nat->DVal}
theorem Ch0 {fn:Func} {args:List DVal} {H:Ab} {vs:List Value} {w:World} {T:List Deferred} {st:Bool} (E:args.length<=fn.ntmps) (hv:Ar w H args vs) (C:Bg w H) (hG:GOk G w H):
  Sim G ⟨fn.ntmps,⟨w.heap.size,T,st⟩⟩ ⟨Rx args 0,H⟩ { tmps:=vs.toArray++Array.replicate (fn.ntmps-vs.toArray.size) undef,defers:=T } w:=by
 have hl:=hv.length;refine⟨by simp;omega,⟨[],rfl,List.nodup_nil,by simp⟩,λi hi=> ?_,C,hG,Nat.le_refl _⟩;have h0:=Ba0 args 0 i;rw[Nat.zero_add] at h0;show Rel w H (Rx args 0 i) _;rw[h0];by_cases y:i<args.length
 ·have h1:args[i]? =some (args.getD i Fg):=by simp [List.getD,List.getElem?_eq_getElem y]
  obtain⟨x,hx,hr⟩:=hv.get h1;have:(vs.toArray++Array.replicate (fn.ntmps-vs.toArray.size) undef).getD i undef=x:=by
   (have D:i<vs.length:=by omega);rw[Array.getD_eq_getD_getElem?,Array.getElem?_append_left (by simpa using D)];simp [hx]
  rw[this];exact hr
 ·have h1:args.getD i Fg=Fg:=by simp [List.getD,List.getElem?_eq_none (Nat.le_of_not_lt y)]
  have:(vs.toArray++Array.replicate (fn.ntmps-vs.toArray.size) undef).getD i undef=undef:=by
   rw[Array.getD_eq_getD_getElem?,Array.getElem?_append_right (by simp;omega)];simp only[Array.getElem?_replicate];split<;>rfl
  rw[h1,this];exact Ya w H
def Bt1 (R:Ab->Prop):DExit->DS->Prop
 | .normal,s=>R s.heap
 | .ret,s=>R s.heap
 |_,_=>False
def Al3 (t ty:Nat) (ps:String) (af:Array Edge):Oper:= { dst:=some t,op:= .call { callee:= .builtin .recover,args:= #[],argTypes:= #[] },type:=ty,pos:=ps,after:=af,guard:=none }
def Bh9 (t t' ty:Nat) (ps:String) (af:Array Edge):Oper:= { dst:=some t',op:= .assign (.tmp t),type:=ty,pos:=ps,after:=af,guard:=none }
theorem Yx {N:Fr} {s:DS} {a:Act} {w:World} (C:Sim G N s a w) (h:N.base.still=true):a.defers=N.base.late:=by
 obtain⟨y,h1,_,h3⟩:=C.defers;cases y with
 |nil=>exact h1
 |cons D y=>have:=(h3 D (by simp)).1.2;rw[h] at this;cases this
theorem Er8 {n:Nat} {y:Array Oper} {Q:Exit->Act->List Frame->World->Prop} {i:Nat} {rest:List Nat} {a:Act} {cs:List Frame} {w:World} {o:Oper} (C:y[i]? =some o) (D:o.guard=none) (hr:(execOp a.eval o).run P w= .ok .recover w) (E:recoverD cs=none)
  (h:wpOpsSIn Fence.wide n P y Q rest (a.put o.dst .nilIface) cs w):wpOpsSIn Fence.wide n P y Q (i::rest) a cs w:=by
 unfold wpOpsSIn;rw[C];refine⟨λ_ _=>trivial, ?_⟩;rw[if_pos (by simp [Region.wanted,D]),hr,E];exact h
theorem Fk8 {n:Nat} {y:Array Oper} {Q:Exit->Act->List Frame->World->Prop} {i:Nat} {rest:List Nat} {a:Act} {cs cs':List Frame} {w:World} {o:Oper} {v:Value} (C:y[i]? =some o) (D:o.guard=none) (hr:(execOp a.eval o).run P w= .ok .recover w) (E:recoverD cs=some (v,cs'))
  (h:wpOpsSIn Fence.wide n P y Q rest (a.put o.dst v) cs' w):wpOpsSIn Fence.wide n P y Q (i::rest) a cs w:=by
 unfold wpOpsSIn;rw[C];refine⟨λ_ _=>trivial, ?_⟩;rw[if_pos (by simp [Region.wanted,D]),hr,E];exact h
theorem Dc5 {n:Nat} {y:Array Oper} {Q:Exit->Act->List Frame->World->Prop} {i:Nat} {rest:List Nat} {a:Act} {cs:List Frame} {w:World} {o:Oper} {v:Value} (C:y[i]? =some o) (D:o.guard=none) (hr:(execOp a.eval o).run P w= .ok (.value v) w)
  (h:wpOpsSIn Fence.wide n P y Q rest (a.put o.dst v) cs w):wpOpsSIn Fence.wide n P y Q (i::rest) a cs w:=by
 unfold wpOpsSIn;rw[C];refine⟨λ_ _=>trivial, ?_⟩;rw[if_pos (by simp [Region.wanted,D]),hr];exact h
theorem Dc6 {f:FuncId} {fn:Func} {id:Nat} {y C D L:Nat} {E M:String} {I O:Array Edge} {c:Code} {U:List DVal} {H:Ab} {R:Ab->Prop} {n:Nat} {vs:List Value} {w:World} {u:FrameMode} {x:DVal}
  (hf:P.funcs[f]? =some fn) (hb:fn.body=some (.seq (.region id #[Al3 y D E I,Bh9 y C L M O] false) c))
  (hk:(decide (U.length<=fn.ntmps)&&In fn.ntmps c&&Ab3 c&&decide (y<fn.ntmps)&&decide (C<fn.ntmps))=true) (aa:fn.results= #[])
  (hv:Ar w H U vs) (hH:Bg w H) (hG:GOk G w H)
  (hu:(u= .returning/\x= .nilIface)\/ ∃v,u= .panicking [{ v,recovered:=false }]/\Rel w H x v)
  (h:dwp P G fn.ntmps c (Bt1 R) ⟨upd (upd (Rx U 0) y x) C x,H⟩):
  CallsDIn Fence.wide n P f vs.toArray u w λe u' w'=> ∃v H',e= .returned v/\settle u'= .returning/\R H'/\Bg w' H'/\Ext H w H' w':=by
 simp only[jF,decide_eq_true_eq] at hk;obtain⟨⟨⟨⟨hA,hok⟩,hfl⟩,ab⟩,ac⟩:=hk;refine callsDIn_of_wpSIn hf hb trivial λJ cs hm=>wpSIn_seq (wpSIn_region ?_);have hS:=Ch0 (G:=G) (T:= []) (st:=true) hA hv hH hG;have key: ∀(v:Value) (u':FrameMode),settle u'= .returning->Rel w H x v->
   c.wpSIn Fence.wide n P (bodyPostS P fn J cs λe u' w'=> ∃v H',e= .returned v/\settle u'= .returning/\R H'/\Bg w' H'/\Ext H w H' w')
    (({ tmps:=vs.toArray++Array.replicate (fn.ntmps-vs.toArray.size) undef,defers:= [] }:Act).put (some y) v |>.put (some C) v) ({ J with mode:=u' }::cs) w:=by
  intro v u' hs hx;refine wpSIn_of_wpIn rfl ?_;have ad:=(hS.put (dst:=some y) (by simpa [Cx] using ab) hx).put (dst:=some C) (by simpa [Cx] using ac) hx;refine wpIn_mono (Hr (.inl rfl) c hok (.inr hfl) _ _ h _ w ad) ?_;rintro e a' w1 ⟨e',s',S,hX,V,hE⟩;have hd:=Yx V rfl;have hr:(results fn a'.tmps).run P w1= .ok (.tuple #[]) w1:=by
   unfold results;rw[aa];simp [Sem.run_pure]
  cases hX with
  |normal=>exact⟨hd,u',rfl,_,hr,_,s'.heap,rfl,hs,S,V.heap,hE⟩
  |ret=>exact⟨hd,u',rfl,_,hr,_,s'.heap,rfl,hs,S,V.heap,hE⟩
  |exit id=>exact S.elim
  |goto l=>exact S.elim
  |panic d v hv=>exact S.elim
 have ae:List.range (#[Al3 y D E I,Bh9 y C L M O]:Array Oper).size= [0,1]:=rfl;have W:(#[Al3 y D E I,Bh9 y C L M O]:Array Oper)[0]? =some (Al3 y D E I):=rfl;have e1:(#[Al3 y D E I,Bh9 y C L M O]:Array Oper)[1]? =some (Bh9 y C L M O):=rfl;have r0: ∀ρ w,(execOp ρ (Al3 y D E I)).run P w= .ok .recover w:=λρ w=>by
  simp [execOp,Al3,resolve,invoke,builtin,Sem.run_pure]
 have X: ∀ρ w,(execOp ρ (Bh9 y C L M O)).run P w= .ok (.value (ρ (.tmp y))) w:=λρ w=>by
  simp [execOp,Bh9,Sem.run_pure]
 have Y: ∀v,(({ tmps:=vs.toArray++Array.replicate (fn.ntmps-vs.toArray.size) undef,defers:= [] }:Act).put (some y) v).eval (.tmp y)=v:=λv=>by
  have Z:=hS.size;dsimp only at Z;simp [Act.eval,Act.put,Array.getD];intro hle;simp at Z;omega
 rw[ae];rcases hu with⟨rfl,rfl⟩|⟨v,rfl,hx⟩
 ·have hr:recoverD (J::cs)=none:=by simp [recoverD,hm]
  have hc: { J with mode:= .returning }=J:=by cases J;simp at hm;simp [hm]
  refine Er8 W rfl (r0 _ _) hr (Dc5 e1 rfl (X _ _) ?_);rw[show(Al3 y D E I).dst=some y from rfl,Y];have:=key .nilIface .returning rfl (by simp [Rel]);rw[hc] at this;exact this
 ·have hr:recoverD (J::cs)=some (v,{ J with mode:= .panicking [{ v,recovered:=true }] }::cs):=by simp [recoverD,hm]
  refine Fk8 W rfl (r0 _ _) hr (Dc5 e1 rfl (X _ _) ?_);rw[show(Al3 y D E I).dst=some y from rfl,Y];exact key v _ rfl hx
theorem Dc7 (env:Nat->DVal): ∀l:List Operand,(Hq G env l).length=l.length
 | []=>rfl
 |x::l=>by rw[Hq,jA,Dc7 env l,jA]
def Ds3 (d:Nat) (g:FuncId) (caps:Array Operand) (ty:Nat) (ps:String) (af:Array Edge):Oper:= { dst:=some d,op:= .makeFunc (.func g) #[] caps,type:=ty,pos:=ps,after:=af,guard:=none }
def Fk9 (d ty:Nat) (ps:String) (af:Array Edge):Oper:= { dst:=none,op:= .defer { callee:= .value (.tmp d),args:= #[],argTypes:= #[] },type:=ty,pos:=ps,after:=af,guard:=none }
def Fl0 (P:Program) (G:Nat->DVal) (rs:List ResultVar) (R:DEnd->Ab->Prop) (m t1 t2:Nat) (cc:Code) (caps:List DVal):DExit->DS->Prop
 | .normal,s=>dwp P G m cc (Bt1 λH'=>Ce8 R H' (Ms (Qs P ⟨s.env,H'⟩ rs))) ⟨upd (upd (Rx caps 0) t1 .nilIface) t2 .nilIface,s.heap⟩
 | .ret,s=>dwp P G m cc (Bt1 λH'=>Ce8 R H' (Ms (Qs P ⟨s.env,H'⟩ rs))) ⟨upd (upd (Rx caps 0) t1 .nilIface) t2 .nilIface,s.heap⟩
 | .panic v,s=>dwp P G m cc (Bt1 λH'=>Ce8 R H' (Ms (Qs P ⟨s.env,H'⟩ rs))) ⟨upd (upd (Rx caps 0) t1 v) t2 v,s.heap⟩
 |_,_=>False
theorem Jx {f g:FuncId} {fn I:Func} {L M C O:Code} {id am d S Z U y2 y3 y4:Nat} {V p2 p3 p4:String} {W aa ao ap:Array Edge} {E:Array Operand} {args:List DVal} {H:Ab} {R:DEnd->Ab->Prop}
  (hf:P.funcs[f]? =some fn) (hg:P.funcs[g]? =some I) (aq: ∀vs w,(callFunc f vs).run P w= .ok (.enter f vs) w) (ar: ∀vs w,(callFunc g vs).run P w= .ok (.enter g vs) w)
  (hb:fn.body=some (.seq L (.seq M (.seq (.region id #[Ds3 d g E U V W,Fk9 d y2 p2 aa] false) C))))
  (au:I.body=some (.seq (.region am #[Al3 S y3 p3 ao,Bh9 S Z y4 p4 ap] false) O))
  (hk:(decide (args.length<=fn.ntmps)&&(In fn.ntmps L&&Ab3 L)&&(In fn.ntmps M&&Ab3 M)&&(In fn.ntmps C&&Ab3 C)&&decide (d<fn.ntmps)&&E.toList.all (Bx fn.ntmps)&&fn.results.toList.all (Bq1 fn.ntmps))=true)
  (ag:(decide (E.toList.length<=I.ntmps)&&In I.ntmps O&&Ab3 O&&decide (S<I.ntmps)&&decide (Z<I.ntmps))=true) (av:I.results= #[])
  (h:dwp P G fn.ntmps L (Bg0 (λs=>dwp P G fn.ntmps M (Bg0 (λs1=>dwp P G fn.ntmps C (Fl0 P G fn.results.toList R I.ntmps S Z O (Hq G s1.env E.toList)) ⟨upd s1.env d (.func (.func g) [] (Hq G s1.env E.toList)),s1.heap⟩) λ_ _=>False) s) λ_ _=>False) ⟨Rx args 0,H⟩):Ad P G f args H R:=by
 simp only[jF,decide_eq_true_eq] at hk;obtain⟨⟨⟨⟨⟨⟨hA,aw,ax⟩,ay,a2⟩,a4,a5⟩,hd⟩,a6⟩,hres⟩:=hk;refine⟨aq,λvs w hv hH hG=> ?_⟩;refine(callsIn_wide (n:=0)).1 (callsIn_of_wp_marks hf hb trivial ?_);have hS:=Ch0 (G:=G) (T:= []) (st:=true) hA hv hH hG;refine wpIn_seq (wpIn_mono (Hr (.inl rfl) L aw (.inr ax) _ _ h _ w hS) ?_);rintro e a0 w0 ⟨e',s0,hQ,hX,a7,a8⟩;cases hX<;>first|exact hQ.elim|skip
 refine wpIn_seq (wpIn_mono (Hr (.inl rfl) M ay (.inr a2) _ _ hQ _ w0 a7) ?_);rintro e J w1 ⟨e',s1,ah,hX,ab,ae⟩;cases hX<;>first|exact ah.elim|skip
 have ae:=a8.trans ae;have a9:J.defers= []:=Yx ab rfl;have af:=Tk ab a6;obtain⟨y,ai⟩: ∃y:List Value,y=E.toList.map J.eval:=⟨_,rfl⟩;have ba:E.map J.eval=y.toArray:=by rw[ai,<-Array.toList_map]
 rw[<-ai] at af;have bb:Rel w1 s1.heap (.func (.func g) [] (Hq G s1.env E.toList)) (.func (.func g) #[] y.toArray):=by
  simp only[Rel];refine⟨#[],y.toArray,rfl, ?_, ?_⟩
  ·simp [Ar]
  ·simpa using af
 obtain⟨D,hD⟩: ∃D:Deferred,D= { target:= .fn (.func g) y.toArray,args:= #[] }:=⟨_,rfl⟩;have bc:Sim G ⟨fn.ntmps,⟨w.heap.size,[D],true⟩⟩ ⟨upd s1.env d (.func (.func g) [] (Hq G s1.env E.toList)),s1.heap⟩ ({ (J.put (some d) (.func (.func g) #[] y.toArray)) with defers:= [D] }) w1:=by
  have:=ab.put (dst:=some d) (by simpa [Cx] using hd) bb;exact⟨this.size,⟨[],rfl,List.nodup_nil,by simp⟩,this.tmps,this.heap,this.glob,this.base⟩
 refine wpIn_seq ?_;have bd: #[Ds3 d g E U V W,Fk9 d y2 p2 aa]= [Ds3 d g E U V W,Fk9 d y2 p2 aa].toArray:=rfl;rw[bd];refine wpIn_region_lit (wpListIn_plain rfl λK hK=> ?_);have rm:(execOp J.eval (Ds3 d g E U V W)).run P w1= .ok (.value (.func (.func g) #[] y.toArray)) w1:=by
  simp [execOp,Ds3,Instr.makeFunc,Sem.run_pure,ba]
 have be:=ab.size;have bf:(J.put (some d) (.func (.func g) #[] y.toArray)).eval (.tmp d)= .func (.func g) #[] y.toArray:=by
  simp [Act.eval,Act.put,Array.getD,be,hd]
 have rd:(execOp (J.put (some d) (.func (.func g) #[] y.toArray)).eval (Fk9 d y2 p2 aa)).run P w1= .ok (.defer D) w1:=by
  simp [execOp,Fk9,resolve,bf,Deferred.ofValue,Sem.run_pure,hD]
 unfold Oper.wpIn;refine⟨λ_ _=>trivial, ?_⟩;rw[Oper.semAt_eq _ _ _ (by intro c;simp [Ds3]),rm];refine hK _ _ (wpListIn_plain rfl λK2 bg=> ?_);unfold Oper.wpIn;refine⟨λ_ _=>trivial, ?_⟩;rw[show Fence.wide.round=none from rfl,Oper.semAt_none,show(Ds3 d g E U V W).dst=some d from rfl,rd];refine bg _ _ (wpListIn_nil ?_);have bh:(J.put (some d) (.func (.func g) #[] y.toArray)).defers= []:=a9;rw[bh];show C.wpIn _ _ _ _ _ _;refine wpIn_mono (Hr (.inl rfl) C a4 (.inr a5) _ _ ah _ w1 bc) ?_;rintro e a3 w3 ⟨e',X,Y,bi,ac,aj⟩;have bj:=ae.trans aj;have bk:a3.defers= [D]:=Yx ac rfl;have bl:Ar w3 X.heap (Hq G s1.env E.toList) y:=af.lasts aj.lasts;have bm:(invoke D.target D.args).run P w3= .ok (.enter g y.toArray) w3:=by
  rw[hD];simp [invoke,ar]
 have key: ∀(u:FrameMode) (x:DVal),u≠ .run->((u= .returning/\x= .nilIface)\/ ∃v,u= .panicking [{ v,recovered:=false }]/\Rel w3 X.heap x v)->
   dwp P G I.ntmps O (Bt1 λH'=>Ce8 R H' (Ms (Qs P ⟨X.env,H'⟩ fn.results.toList))) ⟨upd (upd (Rx (Hq G s1.env E.toList) 0) S x) Z x,X.heap⟩->
   LeavesInM Fence.wide 0 P fn a3.tmps (λe w'=> ∃e' H',R e' H'/\RelE w' H' e' e/\Bg w' H'/\Ext H w H' w') a3.defers u w3:=by
  intro u x bn hu hc;rw[bk];refine⟨bn,.inr ⟨(λh=>by cases h),.func g,y.toArray,g,y.toArray,(by rw[hD]),bm,λ_ _=>trivial, ?_⟩⟩;refine(Dc6 hg au (by rw[Dc7];exact(by simp only[jF,decide_eq_true_eq] at ag⊢;exact ag)) av bl ac.heap ac.glob hu hc).mono ?_;rintro e4 u4 w4 ⟨v4,H4,rfl,bo,ad,bp,ak⟩;dsimp only;rw[bo];have al:=ac.ext ak bp;cases hdt:Ms (Qs P ⟨X.env,H4⟩ fn.results.toList) with
  |none=>rw[hdt] at ad;exact ad.elim
  |some v=>
   rw[hdt] at ad;obtain⟨x,hx,hr⟩:=Bg3 (P:=P) al hres hdt;obtain⟨v',H',bq,hR⟩:=ad;obtain⟨g1,g2,g3⟩:=bq w4 al.heap;exact⟨x,hx,.ret v',H',hR,.ret v' x (g3 x hr),g1,(bj.trans ak).trans ⟨rfl,rfl,rfl,Nat.le_refl _,λ_ _ _=>rfl,λb hb=> .inl (g2 b hb),λ_ _=>rfl,λ_ _ _=>rfl⟩⟩
 cases bi with
 |normal=>exact key .returning .nilIface (by simp) (.inl ⟨rfl,rfl⟩) Y
 |ret=>exact key .returning .nilIface (by simp) (.inl ⟨rfl,rfl⟩) Y
 |exit id=>exact Y.elim
 |goto l=>exact Y.elim
 |panic d v hv=>exact key _ d (by simp) (.inr ⟨v,rfl,hv⟩) Y
end
attribute [go_sem] Bt1.eq_1 Bt1.eq_2 Fl0.eq_1 Fl0.eq_2 Fl0.eq_3
end Go.Dl
-- Ug
namespace Go.Dl
open Go Go.Proofs
set_option maxRecDepth 100000
abbrev rdO (l:List Tok) (k:Nat):DObj:= .cells [Be l,dI k] 226
def RAt (r:Nat) (l:List Tok) (k:Nat) (H0 H:Ab):Prop:=Sub (upd H0 r (some (rdO l k))) H
section
variable {G:Nat->DVal} {H0 H:Ab} {r k:Nat} {l:List Tok}
theorem RAt.refl (h:H r=some (rdO l k)):RAt r l k H H:=λb o hb=>by
 simp only[upd] at hb;split at hb
 ·rename_i e;subst e;rw[h];exact hb
 ·exact hb
theorem RAt.get (h:RAt r l k H0 H):H r=some (rdO l k):=h _ _ (Aa _ _ _)
theorem RAt.new (h:RAt r l k H0 H) {x:Nat} (hx:H x=none) (o:Option DObj):RAt r l k H0 (upd H x o):=Sub.new h hx o
theorem RAt.more (h:RAt r l k H0 H) {H':Ab} (s:Sub H H'):RAt r l k H0 H':=Sub.trans h s
theorem RAt.set (h:RAt r l k H0 H) (k':Nat):RAt r l k' H0 (upd H r (some (rdO l k'))):=λb o hb=>by
 simp only[upd] at hb⊢
 by_cases e:b=r
 ·rw[if_pos e] at hb⊢;exact hb
 ·rw[if_neg e] at hb⊢;exact h b o (by simp only[upd];rw[if_neg e];exact hb)
theorem RAt.own (h:RAt r l k H0 H) {x:Nat} (hx:H0 x=none) (hr:x≠r) (o:Option DObj):RAt r l k H0 (upd H x o):=Sub.up h (by simp only[upd];rw[if_neg hr];exact hx) o
theorem RAt.lo (h:RAt r l k H0 H) {x:Nat} (hx:H x=none):H0 x=none:=by
 have:=Sub.lo h hx;simp only[upd] at this;split at this
 ·cases this
 ·exact this
theorem RAt.fin {R:DEnd->Ab->Prop} {v:DVal} (h:RAt r l k H0 H) (y:R (.ret v) (upd H0 r (some (rdO l k)))):Dj R v H:=Dj.sub h (.refl y)
theorem Tl.sub {R:DEnd->Ab->Prop} {v:DVal} {H':Ab} (h:Sub H' H) (y:R (.panic v) H'):Tl R v H:=⟨v,H',Li.sub h v,y⟩
theorem RAt.finP {R:DEnd->Ab->Prop} {v:DVal} (h:RAt r l k H0 H) (y:R (.panic v) (upd H0 r (some (rdO l k)))):Tl R v H:=Tl.sub h y
theorem Ef {H:Ab} {r:Nat} {x:Option DObj} (h:H r=x):upd H r x=H:=by
 funext b;simp only[upd];split
 ·rename_i e;rw[e,h]
 ·rfl
theorem Fl1 {i:Nat} (h:i<l.length):tk l i=l[i]:=by rw[tk,List.getD,List.getElem?_eq_getElem h];rfl
theorem Bt2 {i:Nat} (h:l.length<=i):tk l i=At5:=by rw[tk,List.getD,List.getElem?_eq_none h];rfl
theorem Ao6 (G:Nat->DVal) (H:Ab) (j:Nat) (hr:H r=some (rdO l k)) (hl:l.length<=16000000) (hk:k<=16000000) (I:j<=16000000):Ad Tryz.prog G 171 [.optr r 0,dI j] H (Am (.agg (Cu (tk l (k+j)))) H):=by
 have hw:IntKind.i64.wrap ((k:Int)+(j:Int))=((k+j:Nat):Int):=by rw[IntKind.wrap_i64];omega
 unfold rdO at hr;refine dci Tryz.func171 Tryz.call171 ?_;simp only[go_sem];intro y C;have D:r≠y:=Ac C hr;by_cases c:k+j<l.length
 ·have c':((k+j:Nat):Int)<(l.length:Int):=by omega
  have E:=Bh Az l (k+j) c;have hfl:=Ak Az l;rw[Fl1 c];simp only[go_sem];refine An pL10 ?_;simp only[go_sem,D,hr,hw,c',Be];refine An pL9 ?_;simp only[go_sem,D,hr,hw,c',Be,E,hfl,jD];simp(disch:=omega)only[go_sem,Cu];exact Dj.dropA y C (Dj.refl ⟨rfl,rfl⟩)
 ·have c': ¬((k+j:Nat):Int)<(l.length:Int):=by omega
  rw[Bt2 (by omega)];simp only[go_sem];refine An pL10 ?_;simp only[go_sem,D,hr,hw,c',Be];exact Dj.dropA y C (Dj.refl ⟨rfl,rfl⟩)
theorem Ae4 (G:Nat->DVal) (H:Ab) (hr:H r=some (rdO l k)) (hl:l.length<=16000000) (hk:k<=16000000):Ad Tryz.prog G 171 [.optr r 0,dI 0] H (Am (.agg (Cu (tk l k))) H):=
 Ao6 G H 0 hr hl hk (by omega)
theorem Bb5 (G:Nat->DVal) (H:Ab) (hr:H r=some (rdO l k)) (hl:l.length<=16000000) (hk:k<=16000000):Ad Tryz.prog G 169 [.optr r 0] H (Am (dI (tk l k).line) H):=by
 refine dci Tryz.func169 Tryz.call169 ?_;simp only[go_sem];refine(Ao6 G H 0 hr hl hk (by omega)).mono ?_;rintro _ H1 ⟨rfl,rfl⟩;simp only[go_sem,Nat.add_zero,Cu];exact Dj.refl ⟨rfl,rfl⟩
def dW (ws:List (List UInt8)):DVal:= .vslice (ws.map .str) ws.length
theorem Fl2 {ws:List (List UInt8)} {j:Nat} (y:j<ws.length):isW l (k+j) (ws.drop j)=(decide ((tk l (k+j)).kind=Im ws[j])&&decide ((tk l (k+j)).text=ws[j])&&isW l (k+(j+1)) (ws.drop (j+1))):=by
 rw[List.drop_eq_getElem_cons y,isW];rfl
theorem Au2 (hG:GX G) (H:Ab) (ws:List (List UInt8)) (hr:H r=some (rdO l k)) (hl:l.length<=16000000) (hk:k<=14400000) (hw:ws.length<=1000):Ad Tryz.prog G 172 [.optr r 0,dW ws] H (Am (.bool (isW l k ws)) H):=by
 refine dci Tryz.func172 Tryz.call172 ?_;simp only[go_sem,dW];obtain⟨I,E⟩: ∃I:Nat->(Nat->DVal)->Ab->Prop,∀j env heap,I j env heap↔(env 0= .optr r 0/\env 9=dW ws/\env 10=dI ws.length/\env 11=dI j/\j<=ws.length/\isW l k ws=isW l (k+j) (ws.drop j)/\Sub H heap):=⟨_,λ_ _ _=>Iff.rfl⟩;refine Ea9.run I (λj=>ws.length-j) 0 ((E _ _ _).2 ?_) ?_
 ·simp only[go_sem];(repeat' apply And.intro)<;>(try first|rfl|assumption|omega);exact Sub.refl H
 ·intro j env heap hi;obtain⟨M,O,J,L,hj,hm,hs⟩:=(E _ _ _).1 hi;have Y:=hs _ _ hr;by_cases U:j<ws.length
  ·(have S:(j:Int)<(ws.length:Int):=by omega);(have V:IntKind.i64.wrap ((j:Int)+1)=((j+1:Nat):Int):=by rw[IntKind.wrap_i64];omega);(have W:(ws.map DVal.str)[j]? =some (.str ws[j]):=by rw[List.getElem?_map,List.getElem?_eq_getElem U];rfl);have Z:(ws.map DVal.str).length=ws.length:=jK _;rw[Fl2 U] at hm;obtain⟨s,X⟩: ∃s,s=ws[j]:=⟨_,rfl⟩;obtain⟨t,ht⟩: ∃t,t=tk l (k+j):=⟨_,rfl⟩;rw[<-X,<-ht] at hm;rw[<-X] at W;simp(disch:=omega)only[go_sem,M,O,J,L,S,dW,W,Z,jD];refine(Ao6 G heap j Y hl (by omega) (by omega)).mono ?_;rintro _ H1 ⟨rfl,rfl⟩;rw[<-ht];simp only[go_sem];intro r7 aa;have C: ∀x,Sub H (upd H1 r7 x):=λx=>hs.new aa x;simp only[go_sem,Cu];refine(Wt hG _ s).mono ?_;rintro _ H2 ⟨rfl,rfl⟩;by_cases y:t.kind=Im s
   ·by_cases D:t.text=s
    ·rw[decide_eq_true y,decide_eq_true D,jS,jS] at hm;rw[Im] at y;cases hkb:Uq s with
     |true=>
      rw[hkb,if_pos rfl] at y;simp only[go_sem,L,y,D];refine⟨j+1,_,Rn.refl _,(E _ _ _).2 ?_,by omega⟩;simp only[go_sem,M,O,J,V];(repeat' apply And.intro)<;>(try first|rfl|assumption|omega);exact C _
     |false=>
      rw[hkb,if_neg (by simp)] at y;simp only[go_sem,L,y,D];refine⟨j+1,_,Rn.refl _,(E _ _ _).2 ?_,by omega⟩;simp only[go_sem,M,O,J,V];(repeat' apply And.intro)<;>(try first|rfl|assumption|omega);exact C _
    ·rw[decide_eq_false D,Bool.and_false,jT] at hm;rw[Im] at y;cases hkb:Uq s with
     |true=>
      rw[hkb,if_pos rfl] at y;simp only[go_sem,y,D];exact Dj.sub (C _) (.refl ⟨by rw[hm],rfl⟩)
     |false=>
      rw[hkb,if_neg (by simp)] at y;simp only[go_sem,y,D];exact Dj.sub (C _) (.refl ⟨by rw[hm],rfl⟩)
   ·rw[decide_eq_false y,jT,jT] at hm;rw[Im] at y;cases hkb:Uq s with
    |true=>
     rw[hkb,if_pos rfl] at y;simp only[go_sem,y];exact Dj.sub (C _) (.refl ⟨by rw[hm],rfl⟩)
    |false=>
     rw[hkb,if_neg (by simp)] at y;simp only[go_sem,y];exact Dj.sub (C _) (.refl ⟨by rw[hm],rfl⟩)
  ·(have:j=ws.length:=by omega);subst this;(have S: ¬(ws.length:Int)<(ws.length:Int):=by omega);rw[List.drop_length,isW] at hm;simp only[go_sem,J,L,S];exact Dj.sub hs (.refl ⟨by rw[hm],rfl⟩)
def RdQ (r:Nat) (l:List Tok) (H:Ab) (v:DVal) (k:Nat) (e:DEnd) (H':Ab):Prop:=e= .ret v/\H'=upd H r (some (rdO l k))
def Cp0 (k:Nat):DVal:= .iface 231 (.agg [dI k])
theorem Ch1 (hG:GX G) (H:Ab) (ws:List (List UInt8)) (hr:H r=some (rdO l k)) (hl:l.length<=16000000) (hk:k<=14400000) (hw:ws.length<=1000):Ad Tryz.prog G 167 [.optr r 0,dW ws] H (RdQ r l H (.bool (isW l k ws)) (if isW l k ws then k+ws.length else k)):=by
 refine dci Tryz.func167 Tryz.call167 ?_;simp only[go_sem];refine(Au2 hG H ws hr hl hk hw).mono ?_;rintro _ H1 ⟨rfl,rfl⟩;cases h:isW l k ws with
 |false=>
  simp only[go_sem];exact Dj.refl ⟨rfl,(Ef hr).symm⟩
 |true=>
  have y:IntKind.i64.wrap ((k:Int)+(ws.length:Int))=((k+ws.length:Nat):Int):=by rw[IntKind.wrap_i64];omega
  unfold rdO at hr;simp only[go_sem,hr,dW,y];exact Dj.refl ⟨rfl,rfl⟩
theorem Bb6 (G:Nat->DVal) (H:Ab) (hr:H r=some (rdO l k)):Ad Tryz.prog G 168 [.optr r 0] H (λe H'=>e= .panic (Cp0 k)/\H'=H):=by
 unfold rdO at hr;refine dci Tryz.func168 Tryz.call168 ?_;simp only[go_sem,hr];exact Tl.refl ⟨rfl,rfl⟩
theorem Bb7 (hG:GX G) (H:Ab) (q:Nat) (s:List UInt8) (y:H q=none) (hr:H r=some (rdO l k)) (hl:l.length<=16000000) (hk:k<=14400000):Ad Tryz.prog G 167 [.optr r 0,.oslice 1 q 0 1 1] (upd H q (some (.cells [.str s] 9))) (RdQ r l H (.bool (isW l k [s])) (if isW l k [s] then k+1 else k)):=by
 refine Ad.fzA q y ?_;have n:r≠q:=Ac y hr;simp only[fzs,fz,if_neg n,if_pos];exact Ch1 hG H [s] hr hl hk (by simp)
theorem He3 (hG:GX G) (H:Ab) (q:Nat) (s t:List UInt8) (y:H q=none) (hr:H r=some (rdO l k)) (hl:l.length<=16000000) (hk:k<=14400000):Ad Tryz.prog G 167 [.optr r 0,.oslice 1 q 0 2 2] (upd H q (some (.cells [.str s,.str t] 9))) (RdQ r l H (.bool (isW l k [s,t])) (if isW l k [s,t] then k+2 else k)):=by
 refine Ad.fzA q y ?_;have n:r≠q:=Ac y hr;simp only[fzs,fz,if_neg n,if_pos];exact Ch1 hG H [s,t] hr hl hk (by simp)
theorem is1 (hG:GX G) (H:Ab) (q:Nat) (s:List UInt8) (y:H q=none) (hr:H r=some (rdO l k)) (hl:l.length<=16000000) (hk:k<=14400000):Ad Tryz.prog G 172 [.optr r 0,.oslice 1 q 0 1 1] (upd H q (some (.cells [.str s] 9))) (Am (.bool (isW l k [s])) H):=by
 refine Ad.fzA q y ?_;have n:r≠q:=Ac y hr;simp only[fzs,fz,if_neg n,if_pos];exact Au2 hG H [s] hr hl hk (by simp)
theorem is2 (hG:GX G) (H:Ab) (q:Nat) (s t:List UInt8) (y:H q=none) (hr:H r=some (rdO l k)) (hl:l.length<=16000000) (hk:k<=14400000):Ad Tryz.prog G 172 [.optr r 0,.oslice 1 q 0 2 2] (upd H q (some (.cells [.str s,.str t] 9))) (Am (.bool (isW l k [s,t])) H):=by
 refine Ad.fzA q y ?_;have n:r≠q:=Ac y hr;simp only[fzs,fz,if_neg n,if_pos];exact Au2 hG H [s,t] hr hl hk (by simp)
def RdR (r:Nat) (l:List Tok) (H:Ab):Res DVal->DEnd->Ab->Prop
 | .bot,_,_=>False
 | .fail k,e,H'=>e= .panic (Cp0 k)/\H'=upd H r (some (rdO l k))
 | .ok v k,e,H'=>e= .ret v/\H'=upd H r (some (rdO l k))
theorem Sw (hG:GX G) (H:Ab) (s:List UInt8) (hr:H r=some (rdO l k)) (hl:l.length<=16000000) (hk:k<=14400000):Ad Tryz.prog G 176 [.optr r 0,.str s] H (RdR r l H (must l s k λk=> .ok (.tuple []) k)):=by
 refine dci Tryz.func176 Tryz.call176 ?_;simp only[go_sem];intro q hq;simp only[go_sem];refine(Bb7 hG H q s hq hr hl hk).mono ?_;rintro _ H1 ⟨rfl,rfl⟩;rw[must];cases h:isW l k [s] with
 |true=>
  simp only[go_sem];exact Dj.refl ⟨rfl,rfl⟩
 |false=>
  simp only[go_sem];refine(Bb6 G _ (Aa _ _ _)).mono ?_;rintro _ H2 ⟨rfl,rfl⟩;simp only[go_sem];exact Tl.refl ⟨rfl,rfl⟩
theorem Bb8 (G:Nat->DVal) (H:Ab) (C:Int) (hr:H r=some (rdO l k)) (hl:l.length<=16000000) (hk:k<=14400000):Ad Tryz.prog G 174 [.optr r 0,.int .u8 C] H (RdR r l H (if(tk l k).kind=C then .ok (.agg (Cu (tk l k))) (k+1) else .fail k)):=by
 refine dci Tryz.func174 Tryz.call174 ?_;simp only[go_sem];intro M y;have D:r≠M:=Ac y hr;have I:=hr;have hw:IntKind.i64.wrap ((k:Int)+1)=((k+1:Nat):Int):=by rw[IntKind.wrap_i64];omega
 unfold rdO at I;simp only[go_sem];refine(Ae4 G _ (l:=l) (k:=k) (by rw[Ah _ _ _ _ D];exact hr) hl (by omega)).mono ?_;rintro _ H1 ⟨rfl,rfl⟩;obtain⟨t,ht⟩: ∃t,t=tk l k:=⟨_,rfl⟩;rw[<-ht];simp only[go_sem];intro O E;obtain⟨W,S,U⟩:=Aq.1 E;have J:r≠O:=Ac U hr;have L:=D.symm;have V:=J.symm;by_cases c:t.kind=C
 ·rw[if_pos c];simp only[go_sem,S,D,J,L,V,Cu,I,hw,c];exact RAt.fin (k:=k+1) ((((RAt.refl hr).new y _).new E _).set (k+1) |>.own y L _) ⟨rfl,rfl⟩
 ·rw[if_neg c];simp only[go_sem,Cu,c];have ha:=((RAt.refl hr).new y (some (.cells [.int .u8 0,.int .i64 0,.str [],.int .i64 0] 31))).new E (some (.cells [.int .u8 t.kind,dI t.line,.str t.text,dI t.n] 31));refine(Bb6 G _ ha.get).mono ?_;rintro _ H2 ⟨rfl,rfl⟩;simp only[go_sem];exact RAt.finP ha ⟨rfl,rfl⟩
end
end Go.Dl
