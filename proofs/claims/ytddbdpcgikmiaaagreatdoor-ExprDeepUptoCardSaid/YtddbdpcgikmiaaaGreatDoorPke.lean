/- The data level and the contracts of the functions that are reached (part 5). -/
import Derived.RecoverIn
import Derived.Test.YtddbdpcgikmiaaaGreatDoorPkd
set_option linter.unusedSimpArgs false
set_option linter.unusedVariables false
set_option linter.unusedSectionVars false
-- Chapter 3: May, MayArgs, MayChoices, Size.
namespace Go.Dl
open Go Go.Proofs
set_option maxRecDepth 100000
mutual
def okE:Ex->Prop
 | .mk _ _ _ s l a _ _ _=>s.length<=9223372036854775807/\okL l/\Jy a
def okL:List Ex->Prop
 | []=>True
 | x::l=>okE x/\okL l
def okA:As->Prop
 | .mk c e=>Ro c/\okE e
def Jy:List As->Prop
 | []=>True
 | x::l=>okA x/\Jy l
def okC:Ch->Prop
 | .mk _ l=>okL l
def Ro:List Ch->Prop
 | []=>True
 | x::l=>okC x/\Ro l
end
theorem Zg: ∀ {l:List Ex},okL l-> ∀x∈l,okE x
 | y::l,h,x,hx=>by
  rw[okL] at h;rcases List.mem_cons.1 hx with rfl | hx
  ·exact h.1
  ·exact Zg h.2 x hx
theorem Bd6: ∀ {l:List As},Jy l-> ∀x∈l,okA x
 | y::l,h,x,hx=>by
  rw[Jy] at h;rcases List.mem_cons.1 hx with rfl | hx
  ·exact h.1
  ·exact Bd6 h.2 x hx
theorem Ad5: ∀ {l:List Ch},Ro l-> ∀x∈l,okC x
 | y::l,h,x,hx=>by
  rw[Ro] at h;rcases List.mem_cons.1 hx with rfl | hx
  ·exact h.1
  ·exact Ad5 h.2 x hx
theorem Ds0 {e:Ex}:okE e↔e.s.length<=9223372036854775807/\okL e.l/\Jy e.a:=by cases e;rw[okE];rfl
theorem Ds1 {e:As}:okA e↔Ro e.c/\okE e.e:=by cases e;rw[okA];rfl
theorem Ds2 {e:Ch}:okC e↔okL e.l:=by cases e;rw[okC];rfl
theorem Cf8 {a:As} (h:okA a): ∀x∈Ct a,okE x:=fun x hx=>by
 rw[Ds1] at h;rcases List.mem_append.1 hx with hx | hx
 ·obtain⟨c,hc,hx⟩:=List.mem_flatMap.1 hx;exact Zg (Ds2.1 (Ad5 h.1 c hc)) x hx
 ·rw[List.mem_singleton] at hx;subst hx;exact h.2
theorem Cf9 {e:Ex} (h:okE e): ∀x∈parts e,okE x:=fun x hx=>by
 rw[Ds0] at h;rcases List.mem_append.1 hx with hx | hx
 ·exact Zg h.2.1 x hx
 ·obtain⟨a,ha,hx⟩:=List.mem_flatMap.1 hx;exact Cf8 (Bd6 h.2.2 a ha) x hx
theorem Bo6 {a:As}: ∀x∈Ct a,Cz x<=Om a:=fun x hx=>by
 rw[Uo];rcases List.mem_append.1 hx with hx | hx
 ·obtain⟨c,hc,hx⟩:=List.mem_flatMap.1 hx;have h1:=Ng hc;have h2:=Up hx;rw[On] at h1;omega
 ·rw[List.mem_singleton] at hx;subst hx;omega
theorem St {e x:Ex} (hx:x∈parts e):Cz x<Cz e:=by
 rcases List.mem_append.1 hx with hx | hx
 ·exact Dr9 hx
 ·obtain⟨a,ha,hx⟩:=List.mem_flatMap.1 hx;have h1:=Bo3 ha;have h2:=Bo6 x hx;omega
structure Fit (e:Ex):Prop where
 big:Cz e<=1099511627776
 ok:okE e
theorem Fit.parts {e x:Ex} (h:Fit e) (hx:x∈Dl.parts e):Fit x:=⟨by have:=St hx;have:=h.big;omega,Cf9 h.ok x hx⟩
theorem Fit.s {e:Ex} (h:Fit e):e.s.length<=9223372036854775807:=(Ds0.1 h.ok).1
mutual
theorem Wm: ∀e:Ex,Ev e<=Cz e
 | .mk _ _ _ _ l a _ _ _=>by rw[Ev,Cz];have:=Wn l;have:=Ad6 a;omega
theorem Wn: ∀l:List Ex,Ac5 l<=Im l
 | []=>Nat.le_refl _
 | x::l=>by rw[Ac5,Im];have:=Wm x;have:=Wn l;omega
theorem Cg0: ∀a:As,Bc4 a<=Om a
 | .mk c e=>by rw[Bc4,Om];have:=Ad7 c;have:=Wm e;omega
theorem Ad6: ∀l:List As,Wf l<=Dm l
 | []=>Nat.le_refl _
 | x::l=>by rw[Wf,Dm];have:=Cg0 x;have:=Ad6 l;omega
theorem Cg1: ∀c:Ch,Bv0 c<=Um c
 | .mk _ l=>by rw[Bv0,Um];have:=Wn l;omega
theorem Ad7: ∀l:List Ch,Wg l<=Gp l
 | []=>Nat.le_refl _
 | x::l=>by rw[Wg,Gp];have:=Cg1 x;have:=Ad7 l;omega
end
mutual
theorem At4 (r:Nat) (cs:List DVal): ∀e:Ex,fzs r cs (dEx e)=dEx e
 | .mk _ _ _ _ l a _ _ _=>by simp only[dEx,fzs,fz,At5 r cs l,Bv5 r cs a]
theorem At5 (r:Nat) (cs:List DVal): ∀l:List Ex,fzs r cs (At3 l)=At3 l
 | []=>by simp only[At3,fzs]
 | x::l=>by rw[At3,Sn,At4 r cs x,At5 r cs l]
theorem Ds3 (r:Nat) (cs:List DVal): ∀a:As,fzs r cs (dAs a)=dAs a
 | .mk c e=>by simp only[dAs,fzs,fz,Bv6 r cs c,At4 r cs e]
theorem Bv5 (r:Nat) (cs:List DVal): ∀l:List As,fzs r cs (Bc7 l)=Bc7 l
 | []=>by simp only[Bc7,fzs]
 | x::l=>by rw[Bc7,Sn,Ds3 r cs x,Bv5 r cs l]
theorem Ds4 (r:Nat) (cs:List DVal): ∀c:Ch,fzs r cs (dCh c)=dCh c
 | .mk _ l=>by simp only[dCh,fzs,fz,At5 r cs l]
theorem Bv6 (r:Nat) (cs:List DVal): ∀l:List Ch,fzs r cs (Bc8 l)=Bc8 l
 | []=>by simp only[Bc8,fzs]
 | x::l=>by rw[Bc8,Sn,Ds4 r cs x,Bv6 r cs l]
end
def Ds5 (d:Nat) (x:Ex) (s:Int) (b:Bool) (s':Int):Prop:=0<=s->s<=256->b=(Ed d x&&decide ((Ev x:Int)<=s))/\(b=true->s'=s-Ev x)
theorem Bv7 (d:Nat): ∀(l:List Ex) (s:Int) (b:Bool) (s':Int),Bd4 (Ds5 d) l s b s'->0<=s->s<=256->b=(l.all (Ed d)&&decide ((Hl l:Int)<=s))/\(b=true->s'=s-Hl l)
 | [],s,b,s',h,h0,_=>by
  obtain⟨rfl,rfl⟩:=h;exact⟨by simp [Hl,h0],fun _=>by simp [Hl]⟩
 | x::l,s,b,s',h,h0,h1=>by
  obtain⟨b1,s1,hx,h⟩:=h;obtain⟨hb,hs⟩:=hx h0 h1;have hsum:Hl (x::l)=Ev x+Hl l:=by simp [Hl]
  rcases h with⟨rfl,h⟩ | ⟨rfl,rfl,rfl⟩
  ·have e1:=hs rfl;have hb':=hb.symm;rw[jF,decide_eq_true_eq] at hb';obtain⟨k1,k2⟩:=Bv7 d l s1 b s' h (by omega) (by omega);refine⟨?_,fun hb=> ?_⟩
   ·rw[k1,List.all_cons,hb'.1,jS,hsum];congr 1;exact decide_eq_decide.2 ⟨fun h=>by omega,fun h=>by omega⟩
   ·rw[k2 hb,hsum];omega
  ·refine⟨?_,fun h=>(by cases h)⟩;rw[List.all_cons,hsum];cases hv:Ed d x with
   | false=>rfl
   | true=>
    rw[hv,jS] at hb;have:=of_decide_eq_false hb.symm;rw[decide_eq_false (by omega),Bool.and_false]
section
variable {G:Nat->DVal} {H:Ab}
theorem Ad8 (G:Nat->DVal) (H:Ab) (d:Int) (rl ra:Nat):Ae Tryz.prog G 67 ([]++ [.int .i64 d]++ [.optr rl 0, .optr ra 0]) H
  (fun e H'=> ∃rd,H rd=none/\e= .ret (.func (.func 68) [] [.optr rl 0, .optr rd 0, .optr ra 0])/\H'=upd H rd (some (Ma d))):=by
 refine Ac Tryz.func67 Tryz.call67 rfl (by kernel_rfl) ?_;simp(disch:=omega)only[go_sem,DVal.cells,jG,jI];intro rd hrd;dsimp only at hrd;simp(disch:=omega)only[go_sem];exact Pl.refl ⟨rd,hrd,rfl,rfl⟩
theorem Cg2 (hG:GX G) (rl ra:Nat) (hla:rl≠ra): ∀(x:Ex) (H:Ab) (d:Nat) (s:Int) (rd:Nat),Fit x->d<=1000000->H rl=some (Ma s)->H rd=some (Ma d)->rl≠rd->H ra=some (.cells [.func (.func 67) [] [.optr rl 0, .optr ra 0]] 119)->
  Ae Tryz.prog G 68 ([]++ [.agg (dEx x)]++ [.optr rl 0, .optr rd 0, .optr ra 0]) H (Dl6 (Ds5 d) x s rl H):=by
 intro x
 induction x using Ex.ind with
 | h x ih=>
  intro H d s rd hx hd hl hdd hld ha;refine Ac Tryz.func68 Tryz.call68 rfl (by kernel_rfl) ?_;simp(disch:=omega)only[go_sem,DVal.cells,jG,jI];intro r4 hr4;dsimp only at hr4;have n1:rl≠r4:=Ad hr4 hl;have n2:rd≠r4:=Ad hr4 hdd;have n3:ra≠r4:=Ad hr4 ha;unfold Ma at hl hdd;obtain⟨s1,hs1⟩: ∃s1,s1=IntKind.i64.wrap (s-1):=⟨_,rfl⟩;have hdl:rd≠rl:=hld.symm;have hal:ra≠rl:=hla.symm;simp(disch:=omega)only[go_sem,n1,n2,n3,hl,hdd,ha,hld,hla,hdl,hal,<-hs1];refine Am (by kernel_rfl) (.take 0 (.take 1 (.take 2 (.take 3 (.take 4 (.take 5 (.take 6 (.take 7 (.go 8 [] (.take 9 (.take 10 (.take 11 (.take 12 (.take 13 (.take 14 (.go 15 [11] (.go 16 [] (.take 17 (.take 18 .done))))))))))))))))))) (by kernel_rfl) ?_;have q1:r4≠rl:=n1.symm;have q2:r4≠rd:=n2.symm;have q3:r4≠ra:=n3.symm;obtain⟨H4,hH4⟩: ∃H4,H4=upd (upd H r4 (some (.cells (dEx x) 27))) rl (some (.cells [.int .i64 s1] 3)):=⟨_,rfl⟩;have ht4:Pn rl H H4:=by rw[hH4];exact((Pn.refl rl H).new hr4 _).set _
  have g1:H4 rl=some (.cells [.int .i64 s1] 3):=by rw[hH4];exact Aa _ _ _
  have g2:H4 rd=some (.cells [.int .i64 d] 3):=ht4 _ _ hdl hdd;have g3:H4 ra=some (.cells [.func (.func 67) [] [.optr rl 0, .optr ra 0]] 119):=ht4 _ _ hal ha;have g4:H4 r4=some (.cells (dEx x) 27):=by rw[hH4];simp [upd,q1]
  rw[<-hH4];have sv: ∀b:Bool,0<=s->s<=256->s1=s-1:=fun _ h0 h1=>by rw[hs1,IntKind.wrap_i64];omega
  have hsz:(Ev x:Int)=1+(Hl (parts x):Int):=by rw[Lg x];omega
  by_cases c1:0<=s1
  ·by_cases c2:d<=32
   ·have c2':(d:Int)<=32:=by omega
    simp(disch:=omega)only[go_sem,g1,g2,g3,g4,c1,c2'];refine(Bd5 hG _ x hx.big hx.s).mono ?_;rintro _ H5 ⟨rfl,rfl⟩;cases hf:Au x with
    | true=>
     have hwd:IntKind.i64.wrap ((d:Int)+1)=((d+1:Nat):Int):=by rw[IntKind.wrap_i64];omega
     simp(disch:=omega)only[go_sem,g1,g2,g3,g4,hwd];refine(Ad8 G _ ((d+1:Nat):Int) rl ra).mono ?_;rintro _ H6 ⟨r6,hr6,rfl,rfl⟩;have p1:rl≠r6:=Ad hr6 g1;have p2:ra≠r6:=Ad hr6 g3;have p3:rd≠r6:=Ad hr6 g2;have p4:r4≠r6:=Ad hr6 g4;have ht6:Pn rl H (upd H5 r6 (some (Ma ((d+1:Nat):Int)))):=ht4.new hr6 _;simp(disch:=omega)only[go_sem,g1,g2,g3,g4,p1,p3,p4];refine(An0 G _ x hx.big 68 [] [.optr rl 0, .optr r6 0, .optr ra 0] (Ds5 (d+1)) rl s1 (by simp only[upd,if_neg p1];exact g1) fun y hy t K hK hT=>ih y hy K (d+1) t r6 (hx.parts hy) (by omega) hK (hT _ _ p1.symm (Aa _ _ _)) p1 (hT _ _ hal (by simp only[upd,if_neg p2];exact g3))).mono ?_;rintro _ H7 ⟨b,t,rfl,hR,ht,hT⟩;have k2:H7 rd=some (.cells [.int .i64 d] 3):=hT _ _ hdl (by simp only[upd,if_neg p3];exact g2);have k4:H7 r4=some (.cells (dEx x) 27):=hT _ _ q1 (by simp only[upd,if_neg p4];exact g4);simp(disch:=omega)only[go_sem,g1,g2,g3,g4,p1,p3,p4,k2,k4]
     trace_state
     refine Pl.refl ⟨b,t,rfl,fun h0 h1=> ?_,ht,ht6.trans hT⟩;have e1:=sv true h0 h1;obtain⟨w1,w2⟩:=Bv7 (d+1) _ _ _ _ hR c1 (by omega);refine⟨?_,fun hb=>by rw[w2 hb,hsz];omega⟩;rw[w1,Lh,hf,decide_eq_true c2,jS,jS];congr 1;exact decide_eq_decide.2 ⟨fun h=>by omega,fun h=>by omega⟩
    | false=>
     simp(disch:=omega)only[go_sem,g1,g2,g3,g4];refine Pl.refl ⟨false,s1,rfl,fun _ _=>⟨?_,fun h=>(by cases h)⟩,g1,ht4⟩;rw[Lh,hf,Bool.and_false,jT,jT]
   ·have c2': ¬(d:Int)<=32:=by omega
    simp(disch:=omega)only[go_sem,g1,g2,g3,g4,c1,c2'];refine Pl.refl ⟨false,s1,rfl,fun _ _=>⟨?_,fun h=>(by cases h)⟩,g1,ht4⟩;rw[Lh,decide_eq_false c2,jT,jT,jT]
  ·simp(disch:=omega)only[go_sem,g1,g2,g3,g4,c1];refine Pl.refl ⟨false,s1,rfl,fun h0 h1=>⟨?_,fun h=>(by cases h)⟩,g1,ht4⟩;have:=sv true h0 h1;rw[decide_eq_false (by omega),Bool.and_false]
theorem Eg (hG:GX G) (H:Ab) (e:Ex) (he:Fit e):Ae Tryz.prog G 12 [.agg (dEx e)] H (Bo (.bool (Hz e)) H):=by
 refine Ac Tryz.func12 Tryz.call12 rfl (by kernel_rfl) ?_;simp(disch:=omega)only[go_sem,DVal.cells];intro r1 hr1;dsimp only at hr1;simp(disch:=omega)only[go_sem,DVal.cells];intro r3 hr3;dsimp only at hr3;obtain⟨m1,m2,hr3'⟩:=Dk7.1 hr3;simp(disch:=omega)only[go_sem,DVal.cells,m1,m2];intro r4 hr4;dsimp only at hr4;obtain⟨p1,p2,hr4a⟩:=Dk7.1 hr4;obtain⟨p3,p4,hr4'⟩:=Dk7.1 hr4a;simp(disch:=omega)only[go_sem,DVal.cells,m1,m2,p1,p2,p3,p4];have hub:Sub H (upd (upd (upd H r1 (some (.cells (dEx e) 27))) r3 (some (Ma 256))) r4 (some (.cells [.func (.func 67) [] [.optr r3 0, .optr r4 0]] 119))):=((Sub.refl H).new hr1 _ |>.new hr3 _).new hr4 _;have y1:upd (upd (upd H r1 (some (.cells (dEx e) 27))) r3 (some (Ma 256))) r4 (some (.cells [.func (.func 67) [] [.optr r3 0, .optr r4 0]] 119)) r1=some (.cells (dEx e) 27):=by simp [upd,m2,p4]
 have y3:upd (upd (upd H r1 (some (.cells (dEx e) 27))) r3 (some (Ma 256))) r4 (some (.cells [.func (.func 67) [] [.optr r3 0, .optr r4 0]] 119)) r3=some (Ma 256):=by simp [upd,p2]
 have y4:upd (upd (upd H r1 (some (.cells (dEx e) 27))) r3 (some (Ma 256))) r4 (some (.cells [.func (.func 67) [] [.optr r3 0, .optr r4 0]] 119)) r4=some (.cells [.func (.func 67) [] [.optr r3 0, .optr r4 0]] 119):=Aa _ _ _;change dwp _ _ _ _ _ ⟨_,upd (upd (upd H r1 (some (.cells (dEx e) 27))) r3 (some (Ma 256))) r4 (some (.cells [.func (.func 67) [] [.optr r3 0, .optr r4 0]] 119))⟩;generalize upd (upd (upd H r1 (some (.cells (dEx e) 27))) r3 (some (Ma 256))) r4 (some (.cells [.func (.func 67) [] [.optr r3 0, .optr r4 0]] 119))=K at hub y1 y3 y4;refine Am (by kernel_rfl) (.take 0 (.take 2 (.go 1 [2] (.go 3 [] (.take 4 .done))))) (by kernel_rfl) ?_;simp(disch:=omega)only[go_sem,y1,y3,y4];refine(Ad8 G _ 1 r3 r4).mono ?_;rintro _ H6 ⟨r6,hr6,rfl,rfl⟩;have x1:r1≠r6:=Ad hr6 y1;have x3:r3≠r6:=Ad hr6 y3;have x4:r4≠r6:=Ad hr6 y4;simp(disch:=omega)only[go_sem,y1,y3,y4,x1,x3,x4];refine(Cg2 hG r3 r4 p2 e _ 1 256 r6 he (by decide) (by simp only[upd,if_neg x3];exact y3) (Aa _ _ _) x3 (by simp only[upd,if_neg x4];exact y4)).mono ?_;rintro _ H7 ⟨b,t,rfl,hR,ht,hT⟩;obtain⟨w1,_⟩:=hR (by decide) (by decide);have z1:H7 r1=some (.cells (dEx e) 27):=hT _ _ m2 (by simp only[upd,if_neg x1];exact y1);have z4:H7 r4=some (.cells [.func (.func 67) [] [.optr r3 0, .optr r4 0]] 119):=hT _ _ p1 (by simp only[upd,if_neg x4];exact y4);simp(disch:=omega)only[go_sem,y1,y3,y4,x1,x3,x4,z1,z4];refine Pl.sub (hT.sub (hub.new hr6 _) hr3') (Pl.refl ⟨?_,rfl⟩);rw[w1,Hz];have:((Ev e:Int)<=256)↔Ev e<=256:=by omega
 simp only[this]
end
end Go.Dl

-- Chapter 3: values that are put together, seen as trees; MayArgs, MayChoices, Size, Level.
namespace Go.Dl
open Go Go.Proofs
set_option maxRecDepth 100000
def Fc (H':Ab) (v:DVal) (H:Ab) (v':DVal):Prop:= ∀w,Av w H'-> ∀x,Rel w H' v x->Rel w H v' x
def Df (H':Ab) (vs:List DVal) (H:Ab) (vs':List DVal):Prop:= ∀w,Av w H'-> ∀xs,An w H' vs xs->An w H vs' xs
section
variable {H H':Ab}
theorem Fc.keep (h:Sub H H') (v:DVal):Fc H' v H v:=fun w _ x hx=>Rel.lasts (Hh h w) _ _ hx
theorem Fc.le {v v':DVal} (h:Sub H H') (k:DLe v v'):Fc H' v H v':=fun w _ x hx=>Rel.lasts (Hh h w) _ _ (k w H' x hx)
theorem Fc.own {e:TypeId} {size n:Nat} {cs:List DVal} {v:DVal} (h:Er H e size n cs v H'):Fc H' v H (.vslice cs n):=fun w hw x hx=>(h.ghost w hw).2.2 x hx
theorem Fc.block {e:TypeId} {size r n:Nat} {cs:List DVal} (h:Sub H H') (hr:H r=none) (hc:H' r=some (.cells cs e)) (hl:cs.length=n*size):Fc H' (.oslice size r 0 n n) H (.vslice cs n):=
 Fc.own (e:=e) (.inr ⟨r,hr,hl,rfl,hc,h⟩)
theorem Df.nil:Df H' [] H []:=fun w _ xs hx=>by simpa [An] using hx
theorem Df.cons {v v':DVal} {vs vs':List DVal} (h:Fc H' v H v') (k:Df H' vs H vs'):Df H' (v::vs) H (v'::vs'):=fun w hw xs hx=>by
 simp only[An] at hx⊢
 obtain⟨y,ys,rfl,h1,h2⟩:=hx;exact⟨y,ys,rfl,h w hw y h1,k w hw ys h2⟩
theorem Df.keep (h:Sub H H') (vs:List DVal):Df H' vs H vs:=fun w _ xs hx=>An.lasts (Hh h w) _ _ hx
theorem Df.append {a a' b b':List DVal} (h:Df H' a H a') (k:Df H' b H b'):Df H' (a++b) H (a'++b'):=fun w hw x hx=>by
 have e:x=x.take a.length++x.drop a.length:=(List.take_append_drop _ _).symm;have h1:=hx.take a.length;have h2:=hx.drop a.length;rw[List.take_left] at h1;rw[List.drop_left] at h2;rw[e];exact(h w hw _ h1).append (k w hw _ h2)
theorem Fc.agg {vs vs':List DVal} (h:Df H' vs H vs'):Fc H' (.agg vs) H (.agg vs'):=fun w hw x hx=>by
 simp only[Rel] at hx⊢
 obtain⟨xs,rfl,h1⟩:=hx;exact⟨xs,rfl,h w hw _ h1⟩
theorem Fc.tuple {vs vs':List DVal} (h:Df H' vs H vs'):Fc H' (.tuple vs) H (.tuple vs'):=fun w hw x hx=>by
 simp only[Rel] at hx⊢
 obtain⟨xs,rfl,h1⟩:=hx;exact⟨xs,rfl,h w hw _ h1⟩
theorem Fc.nil (h:Sub H H'):Fc H' .nilSlice H (.vslice [] 0):=Fc.le h .nil
theorem Fc.cells {e:TypeId} {size r n:Nat} {cs cs':List DVal} (h:Sub H H') (hr:H r=none) (hc:H' r=some (.cells cs e)) (hl:cs.length=n*size) (hs:Df H' cs H cs'):Fc H' (.oslice size r 0 n n) H (.vslice cs' n):=fun w hw x hx=>by
 obtain⟨_,_,k3⟩:=Ht.fz (v:= .oslice size r 0 n n) hc w hw;obtain⟨ys,hy1,hy2⟩:=Qf hw hc;simp only[Rel] at hx⊢
 obtain⟨o,cap,rfl,h1,h2,h3,h4⟩:=hx;refine⟨_,cap,rfl,h2, ?_⟩;by_cases h0:cs= []
 ·subst h0;have:=hs w hw [] (by simp [An]);cases cs' with
  | nil=>exact .inl rfl
  | cons c cs'=>simp [An] at this
 ·obtain⟨zs,hl1,hh⟩:=hw.holds hc;have ho:o=0:=by
   rcases h3 with h3 | h3
   ·exfalso;have:n=0:=by omega
    subst this;rw[Nat.zero_mul] at hl;exact h0 (List.length_eq_zero_iff.1 hl)
   ·exact h3
  subst ho;exact .inr ⟨r,0,zs,rfl, .inr ⟨hr,fun i y hy=>by simpa using hh i y hy⟩,hs w hw zs hl1⟩
theorem Fc.fin {R:DEnd->Ab->Prop} {v v':DVal} (hs:Sub H H') (h:Fc H' v H v') (k:R (.ret v') H):Pl R v H':= .ghost (fun w hw=>⟨((Ht.sub hs v) w hw).1,((Ht.sub hs v) w hw).2.1,h w hw⟩) (.refl k)
theorem Df.call {P:Program} {G:Nat->DVal} {f:FuncId} {args args':List DVal} {R:DEnd->Ab->Prop} (hs:Sub H H') (h:Df H' args H args') (k:Ae P G f args' H R):Ae P G f args H' R:=
 Ae.pre (fun w hw=>⟨((Ht.sub hs (.tuple args)) w hw).1,((Ht.sub hs (.tuple args)) w hw).2.1,Fc.tuple h w hw⟩) k
theorem Df.lent {P:Program} {G:Nat->DVal} {f:FuncId} {args args':List DVal} {v:DVal} (h:Df H' args H args') (k:Ae P G f args' h0 (Bo v h0)) (hv:Ui v=true):Ae P G f args H' (Bo v H'):=
 k.lent (fun w vs hw hr=>An.lasts (Bb1 H w) _ _ (h w hw vs hr)) hv
theorem Fc.ex {k o n:Int} {s:List UInt8} {vl va:DVal} {l:List Ex} {a:List As} {li en t:Int} (hs:Sub H H') (hl:Fc H' vl H (dXs l)) (ha:Fc H' va H (dAl a)):
  Df H' [.int .u8 k, .int .u8 o, .int .i64 n, .str s,vl,va, .int .i64 li, .int .i64 en, .int .i64 t] H (dEx (.mk k o n s l a li en t)):=by
 rw[Al];exact .cons (.keep hs _) (.cons (.keep hs _) (.cons (.keep hs _) (.cons (.keep hs _) (.cons hl (.cons ha (.keep hs _))))))
theorem Fc.exs0 (hs:Sub H H'):Fc H' .nilSlice H (dXs []):=Fc.nil hs
theorem Fc.as0 (hs:Sub H H'):Fc H' .nilSlice H (dAl []):=Fc.nil hs
theorem Fc.ch0 (hs:Sub H H'):Fc H' .nilSlice H (dCl []):=Fc.nil hs
end
section
variable {G:Nat->DVal} {H:Ab}
theorem Us (hG:GX G) (H:Ab) (l:List As) (hb:Dm l<=1000000000000) (hk:Jy l):Ae Tryz.prog G 17 [dAl l] H (Bo (.bool (Dk9 l)) H):=by
 refine Ac Tryz.func17 Tryz.call17 rfl (by kernel_rfl) ?_;simp(disch:=omega)only[go_sem,dAl];intro r hr;dsimp only at hr;simp(disch:=omega)only[go_sem];have hs:Sub H (upd H r (some (.cells [.int .u8 3, .int .u8 0, .int .i64 0, .str [120], .nilSlice, .nilSlice, .int .i64 0, .int .i64 0, .int .i64 0] 27))):=(Sub.refl H).new hr _;have hfit:Fit (.mk 7 0 0 [] [exX] l 0 0 0):=by
  refine⟨?_, ?_⟩
  ·simp only[Cz,Im,Dm,exX];omega
  ·simp only[okE,okL,Jy,exX];exact⟨by decide,⟨⟨by decide,trivial,trivial⟩,trivial⟩,hk⟩
 refine((Df.cons (Fc.agg (Fc.ex (a:=l) hs (Fc.cells (cs':= [exX].flatMap dEx) hs hr (Aa _ _ _) rfl ?_) (Fc.keep hs _))) .nil).call hs (Eg hG _ _ hfit)).mono ?_
 ·rw[List.flatMap_singleton];exact Fc.ex hs (.exs0 hs) (.as0 hs)
 ·rintro _ H1 ⟨rfl,rfl⟩;simp(disch:=omega)only[go_sem];exact Pl.refl ⟨rfl,rfl⟩
theorem Bd7 (hG:GX G) (H:Ab) (e:Ex) (he:Fit e):Ae Tryz.prog G 77 ([]++ [.agg (dEx e)]++ []) H (Bo (.bool (!Hz e)) H):=by
 refine Ac Tryz.func77 Tryz.call77 rfl (by kernel_rfl) ?_;simp(disch:=omega)only[go_sem,DVal.cells,jG,jH];intro r hr;dsimp only at hr;simp(disch:=omega)only[go_sem];refine(Eg hG _ e he).mono ?_;rintro _ H1 ⟨rfl,rfl⟩;simp(disch:=omega)only[go_sem];exact Pl.dropA r hr (Pl.refl ⟨rfl,rfl⟩)
theorem Bd8 (hG:GX G) (H:Ab) (c:Ch) (hc: ∀x∈c.l,Fit x) (hl:c.l.length<=1099511627776):Ae Tryz.prog G 75 ([]++ [.agg (dCh c)]++ []) H (Bo (.bool (!c.l.all Hz)) H):=by
 refine Ac Tryz.func75 Tryz.call75 rfl (by kernel_rfl) ?_;simp(disch:=omega)only[go_sem,DVal.cells,jG,jH];intro r hr;dsimp only at hr;simp(disch:=omega)only[go_sem];refine(Bo4 G _ (fun e=>!Hz e) c.l 77 [] [] hl fun x hx=>Bd7 hG _ x (hc x hx)).mono ?_;rintro _ H1 ⟨rfl,rfl⟩;rw[Zf];simp(disch:=omega)only[go_sem];exact Pl.dropA r hr (Pl.refl ⟨rfl,rfl⟩)
theorem Pd (hG:GX G) (H:Ab) (l:List Ch) (hb:Gp l<=1000000000000) (hk:Ro l):Ae Tryz.prog G 16 [dCl l] H (Bo (.bool (Bv1 l)) H):=by
 have hll:=Ni l;refine Ac Tryz.func16 Tryz.call16 rfl (by kernel_rfl) ?_;simp(disch:=omega)only[go_sem,dCl];refine(Ss G _ l (by omega)).mono ?_;rintro _ H1 ⟨rfl,rfl⟩;cases h:Ck l with
 | false=>
  simp(disch:=omega)only[go_sem];exact Pl.refl ⟨by rw[Bv1,h,jT],rfl⟩
 | true=>
  simp(disch:=omega)only[go_sem];refine(Ad1 G H1 (fun c=>!c.l.all Hz) l 75 [] [] (by omega) fun c hc=> ?_).mono ?_
  ·have h1:=Ng hc;have h2:=Nh c.l;rw[On] at h1;refine Bd8 hG _ c (fun x hx=> ?_) (by omega);have h3:=Up hx;exact⟨by omega,Zg (Ds2.1 (Ad5 hk c hc)) x hx⟩
  ·rintro _ H2 ⟨rfl,rfl⟩;rw[Zf];simp(disch:=omega)only[go_sem];exact Pl.refl ⟨by rw[Bv1,h,jS,Bool.not_not],rfl⟩
end
end Go.Dl

-- Chapter 3: Size, Level, Same, SameArgs, SameChoices (printed by gen_ua.py).
namespace Go.Dl
open Go Go.Proofs
set_option maxRecDepth 100000
def eqF {α:Type} (p:α->α->Bool):List α->List α->Bool
 | [],[]=>true
 | x::l,y::m=>p x y&&eqF p l m
 | _,_=>false
theorem Bv8 {α:Type} {p:α->α->Bool}: ∀ {l m:List α},eqF p l m=true->l.length=m.length
 | [],[],_=>rfl
 | [],_::_,h=>by cases h
 | _::_,[],h=>by cases h
 | x::l,y::m,h=>by
  rw[eqF,jF] at h;rw[jA,jA,Bv8 h.2]
theorem Bo7 {α:Type} {p:α->α->Bool} {l m:List α} (h:l.length≠m.length):eqF p l m=false:=by
 cases e:eqF p l m with
 | false=>rfl
 | true=>exact absurd (Bv8 e) h
theorem Ad9 {α:Type} {p:α->α->Bool} {l m:List α} {k:Nat} (h1:k<l.length) (h2:k<m.length):eqF p (l.drop k) (m.drop k)=(p l[k] m[k]&&eqF p (l.drop (k+1)) (m.drop (k+1))):=by
 rw[List.drop_eq_getElem_cons h1,List.drop_eq_getElem_cons h2,eqF]
theorem Su: ∀l m:List Ex,Gu l m=eqF Jk l m
 | [],[]=>by simp [Gu,eqF]
 | [],_::_=>by simp [Gu,eqF]
 | _::_,[]=>by simp [Gu,eqF]
 | x::l,y::m=>by rw[Gu,eqF,Su l m]
theorem Ae0: ∀l m:List As,Ij l m=eqF Yc l m
 | [],[]=>by simp [Ij,eqF]
 | [],_::_=>by simp [Ij,eqF]
 | _::_,[]=>by simp [Ij,eqF]
 | x::l,y::m=>by rw[Ij,eqF,Ae0 l m]
theorem Ae1: ∀l m:List Ch,Hu l m=eqF Yd l m
 | [],[]=>by simp [Hu,eqF]
 | [],_::_=>by simp [Hu,eqF]
 | _::_,[]=>by simp [Hu,eqF]
 | x::l,y::m=>by rw[Hu,eqF,Ae1 l m]
theorem Ct1 (x y:As):Yc x y=(Hu x.c y.c&&Jk x.e y.e):=by cases x;rw[Yc];rfl
theorem Ct2 (x y:Ch):Yd x y=(decide (x.kind=y.kind)&&Gu x.l y.l):=by cases x;rw[Yd];rfl
theorem Bv9 (G:Nat->DVal) (H:Ab) (p:Ex->Ex->Bool) (l m:List Ex) (g:FuncId) (hl:l.length<=1099511627776)
  (hp: ∀x∈l,∀y∈m,∀H,Ae Tryz.prog G g ([]++ [.agg (dEx x), .agg (dEx y)]++ []) H (Bo (.bool (p x y)) H)):
  Ae Tryz.prog G 71 [.vslice (l.flatMap dEx) l.length, .vslice (m.flatMap dEx) m.length, .func (.func g) [] []] H (Bo (.bool (eqF p l m)) H):=by
 refine Ac Tryz.func71 Tryz.call71 rfl (by kernel_rfl) ?_;by_cases hlen:l.length=m.length
 ·have hlen':(l.length:Int)=(m.length:Int):=by omega
  simp(disch:=omega)only[go_sem,hlen'];obtain⟨I,hI⟩: ∃I:Nat->(Nat->DVal)->Ab->Prop,∀k env heap,I k env heap↔(env 0= .vslice (l.flatMap dEx) l.length/\env 1= .vslice (m.flatMap dEx) m.length/\env 2= .func (.func g) [] []/\env 15= .vslice (l.flatMap dEx) l.length/\env 16=dI m.length/\env 17=dI k/\k<=l.length/\eqF p l m=eqF p (l.drop k) (m.drop k)/\Sub H heap):=⟨_,fun _ _ _=>Iff.rfl⟩;refine Bt4.run I (fun k=>l.length-k) 0 ((hI _ _ _).2 ?_) ?_
  ·simp(disch:=omega)only[go_sem];(repeat' apply And.intro)<;>(try first | rfl | assumption | omega);exact Sub.refl _
  ·intro k env heap hi;obtain⟨e0,e1,e2,e15,e16,e17,hk,hsm,hsub⟩:=(hI _ _ _).1 hi;have hfl:=Bl Ai l;have hfm:=Bl Ai m;by_cases hlt:k<l.length
   ·have hlt':(k:Int)<(m.length:Int):=by omega
    have hlt2:(k:Int)<(l.length:Int):=by omega
    have hkm:k<m.length:=by omega
    have hget:=Dc Ai l k hlt;have hgetm:=Dc Ai m k hkm;have hwd:IntKind.i64.wrap ((k:Int)+1)=((k+1:Nat):Int):=by rw[IntKind.wrap_i64];omega
    simp(disch:=omega)only[go_sem,e0,e1,e2,e15,e16,e17,hlt',hlt2,hget,hgetm,hfl,hfm,jD];intro r8 hr8;dsimp only at hr8;simp(disch:=omega)only[go_sem,e0,e1,e2,e15,e16,e17,hlt',hlt2,hget,hgetm,hfl,hfm,jD];intro r9 hr9;dsimp only at hr9;obtain⟨m2,m1,hr9'⟩:=Dk7.1 hr9;simp(disch:=omega)only[go_sem,e0,e1,e2,e15,e16,e17,m1,m2,hget,hgetm,hfl,hfm,jD];refine(hp l[k] (List.getElem_mem hlt) m[k] (List.getElem_mem hkm) _).mono ?_;rintro _ H1 ⟨rfl,rfl⟩;rw[Ad9 hlt hkm] at hsm;have hs1:=(hsub.new hr8 (some (DObj.cells (dEx l[k]) 27))).new hr9 (some (DObj.cells (dEx m[k]) 27));cases hb:p l[k] m[k] with
    | true=>
     rw[hb,jS] at hsm;simp(disch:=omega)only[go_sem,e0,e1,e2,e15,e16,e17];refine⟨k+1,_,Lq.refl _,(hI _ _ _).2 ?_,by omega⟩;simp(disch:=omega)only[go_sem,e0,e1,e2,e15,e16,e17,hwd];(repeat' apply And.intro)<;>(try first | rfl | assumption | omega)
    | false=>
     rw[hb,jT] at hsm;simp(disch:=omega)only[go_sem,e0,e1,e2,e15,e16,e17];exact Pl.sub hs1 (Pl.refl ⟨by rw[hsm],rfl⟩)
   ·have:k=l.length:=by omega
    subst this;have hlt': ¬(l.length:Int)<(m.length:Int):=by omega
    simp(disch:=omega)only[go_sem,e0,e1,e2,e15,e16,e17,hlt'];refine Pl.sub hsub (Pl.refl ⟨?_,rfl⟩);rw[hsm,List.drop_length,hlen,List.drop_length];rfl
 ·have hlen': ¬(l.length:Int)=(m.length:Int):=by omega
  simp(disch:=omega)only[go_sem,hlen'];exact Pl.refl ⟨by rw[Bo7 hlen],rfl⟩
theorem Dh1 (G:Nat->DVal) (H:Ab) (p:As->As->Bool) (l m:List As) (g:FuncId) (hl:l.length<=1099511627776)
  (hp: ∀x∈l,∀y∈m,∀H,Ae Tryz.prog G g ([]++ [.agg (dAs x), .agg (dAs y)]++ []) H (Bo (.bool (p x y)) H)):
  Ae Tryz.prog G 182 [.vslice (l.flatMap dAs) l.length, .vslice (m.flatMap dAs) m.length, .func (.func g) [] []] H (Bo (.bool (eqF p l m)) H):=by
 refine Ac Tryz.func182 Tryz.call182 rfl (by kernel_rfl) ?_;by_cases hlen:l.length=m.length
 ·have hlen':(l.length:Int)=(m.length:Int):=by omega
  simp(disch:=omega)only[go_sem,hlen'];obtain⟨I,hI⟩: ∃I:Nat->(Nat->DVal)->Ab->Prop,∀k env heap,I k env heap↔(env 0= .vslice (l.flatMap dAs) l.length/\env 1= .vslice (m.flatMap dAs) m.length/\env 2= .func (.func g) [] []/\env 15= .vslice (l.flatMap dAs) l.length/\env 16=dI m.length/\env 17=dI k/\k<=l.length/\eqF p l m=eqF p (l.drop k) (m.drop k)/\Sub H heap):=⟨_,fun _ _ _=>Iff.rfl⟩;refine Bt4.run I (fun k=>l.length-k) 0 ((hI _ _ _).2 ?_) ?_
  ·simp(disch:=omega)only[go_sem];(repeat' apply And.intro)<;>(try first | rfl | assumption | omega);exact Sub.refl _
  ·intro k env heap hi;obtain⟨e0,e1,e2,e15,e16,e17,hk,hsm,hsub⟩:=(hI _ _ _).1 hi;have hfl:=Bl Dr l;have hfm:=Bl Dr m;by_cases hlt:k<l.length
   ·have hlt':(k:Int)<(m.length:Int):=by omega
    have hlt2:(k:Int)<(l.length:Int):=by omega
    have hkm:k<m.length:=by omega
    have hget:=Dc Dr l k hlt;have hgetm:=Dc Dr m k hkm;have hwd:IntKind.i64.wrap ((k:Int)+1)=((k+1:Nat):Int):=by rw[IntKind.wrap_i64];omega
    simp(disch:=omega)only[go_sem,e0,e1,e2,e15,e16,e17,hlt',hlt2,hget,hgetm,hfl,hfm,jD];intro r8 hr8;dsimp only at hr8;simp(disch:=omega)only[go_sem,e0,e1,e2,e15,e16,e17,hlt',hlt2,hget,hgetm,hfl,hfm,jD];intro r9 hr9;dsimp only at hr9;obtain⟨m2,m1,hr9'⟩:=Dk7.1 hr9;simp(disch:=omega)only[go_sem,e0,e1,e2,e15,e16,e17,m1,m2,hget,hgetm,hfl,hfm,jD];refine(hp l[k] (List.getElem_mem hlt) m[k] (List.getElem_mem hkm) _).mono ?_;rintro _ H1 ⟨rfl,rfl⟩;rw[Ad9 hlt hkm] at hsm;have hs1:=(hsub.new hr8 (some (DObj.cells (dAs l[k]) 44))).new hr9 (some (DObj.cells (dAs m[k]) 44));cases hb:p l[k] m[k] with
    | true=>
     rw[hb,jS] at hsm;simp(disch:=omega)only[go_sem,e0,e1,e2,e15,e16,e17];refine⟨k+1,_,Lq.refl _,(hI _ _ _).2 ?_,by omega⟩;simp(disch:=omega)only[go_sem,e0,e1,e2,e15,e16,e17,hwd];(repeat' apply And.intro)<;>(try first | rfl | assumption | omega)
    | false=>
     rw[hb,jT] at hsm;simp(disch:=omega)only[go_sem,e0,e1,e2,e15,e16,e17];exact Pl.sub hs1 (Pl.refl ⟨by rw[hsm],rfl⟩)
   ·have:k=l.length:=by omega
    subst this;have hlt': ¬(l.length:Int)<(m.length:Int):=by omega
    simp(disch:=omega)only[go_sem,e0,e1,e2,e15,e16,e17,hlt'];refine Pl.sub hsub (Pl.refl ⟨?_,rfl⟩);rw[hsm,List.drop_length,hlen,List.drop_length];rfl
 ·have hlen': ¬(l.length:Int)=(m.length:Int):=by omega
  simp(disch:=omega)only[go_sem,hlen'];exact Pl.refl ⟨by rw[Bo7 hlen],rfl⟩
theorem Dh2 (G:Nat->DVal) (H:Ab) (p:Ch->Ch->Bool) (l m:List Ch) (g:FuncId) (hl:l.length<=1099511627776)
  (hp: ∀x∈l,∀y∈m,∀H,Ae Tryz.prog G g ([]++ [.agg (dCh x), .agg (dCh y)]++ []) H (Bo (.bool (p x y)) H)):
  Ae Tryz.prog G 213 [.vslice (l.flatMap dCh) l.length, .vslice (m.flatMap dCh) m.length, .func (.func g) [] []] H (Bo (.bool (eqF p l m)) H):=by
 refine Ac Tryz.func213 Tryz.call213 rfl (by kernel_rfl) ?_;by_cases hlen:l.length=m.length
 ·have hlen':(l.length:Int)=(m.length:Int):=by omega
  simp(disch:=omega)only[go_sem,hlen'];obtain⟨I,hI⟩: ∃I:Nat->(Nat->DVal)->Ab->Prop,∀k env heap,I k env heap↔(env 0= .vslice (l.flatMap dCh) l.length/\env 1= .vslice (m.flatMap dCh) m.length/\env 2= .func (.func g) [] []/\env 15= .vslice (l.flatMap dCh) l.length/\env 16=dI m.length/\env 17=dI k/\k<=l.length/\eqF p l m=eqF p (l.drop k) (m.drop k)/\Sub H heap):=⟨_,fun _ _ _=>Iff.rfl⟩;refine Bt4.run I (fun k=>l.length-k) 0 ((hI _ _ _).2 ?_) ?_
  ·simp(disch:=omega)only[go_sem];(repeat' apply And.intro)<;>(try first | rfl | assumption | omega);exact Sub.refl _
  ·intro k env heap hi;obtain⟨e0,e1,e2,e15,e16,e17,hk,hsm,hsub⟩:=(hI _ _ _).1 hi;have hfl:=Bl Ea l;have hfm:=Bl Ea m;by_cases hlt:k<l.length
   ·have hlt':(k:Int)<(m.length:Int):=by omega
    have hlt2:(k:Int)<(l.length:Int):=by omega
    have hkm:k<m.length:=by omega
    have hget:=Dc Ea l k hlt;have hgetm:=Dc Ea m k hkm;have hwd:IntKind.i64.wrap ((k:Int)+1)=((k+1:Nat):Int):=by rw[IntKind.wrap_i64];omega
    simp(disch:=omega)only[go_sem,e0,e1,e2,e15,e16,e17,hlt',hlt2,hget,hgetm,hfl,hfm,jD];intro r8 hr8;dsimp only at hr8;simp(disch:=omega)only[go_sem,e0,e1,e2,e15,e16,e17,hlt',hlt2,hget,hgetm,hfl,hfm,jD];intro r9 hr9;dsimp only at hr9;obtain⟨m2,m1,hr9'⟩:=Dk7.1 hr9;simp(disch:=omega)only[go_sem,e0,e1,e2,e15,e16,e17,m1,m2,hget,hgetm,hfl,hfm,jD];refine(hp l[k] (List.getElem_mem hlt) m[k] (List.getElem_mem hkm) _).mono ?_;rintro _ H1 ⟨rfl,rfl⟩;rw[Ad9 hlt hkm] at hsm;have hs1:=(hsub.new hr8 (some (DObj.cells (dCh l[k]) 47))).new hr9 (some (DObj.cells (dCh m[k]) 47));cases hb:p l[k] m[k] with
    | true=>
     rw[hb,jS] at hsm;simp(disch:=omega)only[go_sem,e0,e1,e2,e15,e16,e17];refine⟨k+1,_,Lq.refl _,(hI _ _ _).2 ?_,by omega⟩;simp(disch:=omega)only[go_sem,e0,e1,e2,e15,e16,e17,hwd];(repeat' apply And.intro)<;>(try first | rfl | assumption | omega)
    | false=>
     rw[hb,jT] at hsm;simp(disch:=omega)only[go_sem,e0,e1,e2,e15,e16,e17];exact Pl.sub hs1 (Pl.refl ⟨by rw[hsm],rfl⟩)
   ·have:k=l.length:=by omega
    subst this;have hlt': ¬(l.length:Int)<(m.length:Int):=by omega
    simp(disch:=omega)only[go_sem,e0,e1,e2,e15,e16,e17,hlt'];refine Pl.sub hsub (Pl.refl ⟨?_,rfl⟩);rw[hsm,List.drop_length,hlen,List.drop_length];rfl
 ·have hlen': ¬(l.length:Int)=(m.length:Int):=by omega
  simp(disch:=omega)only[go_sem,hlen'];exact Pl.refl ⟨by rw[Bo7 hlen],rfl⟩
def Wo (P:Program) (G:Nat->DVal) (f:FuncId) (x:Ex):Prop:= ∀y H,Ae P G f ([]++ [.agg (dEx x), .agg (dEx y)]++ []) H (Bo (.bool (Jk x y)) H)
theorem Bo8 (G:Nat->DVal) (H:Ab) (x y:Ch) (hl:x.l.length<=1099511627776) (hS: ∀e∈x.l,Wo Tryz.prog G 13 e):Ae Tryz.prog G 214 ([]++ [.agg (dCh x), .agg (dCh y)]++ []) H (Bo (.bool (Yd x y)) H):=by
 rw[Ct2,Su];refine Ac Tryz.func214 Tryz.call214 rfl (by kernel_rfl) ?_;simp(disch:=omega)only[go_sem,DVal.cells,jG,jH];intro r2 hr2;dsimp only at hr2;simp(disch:=omega)only[go_sem,DVal.cells];intro r3 hr3;dsimp only at hr3;obtain⟨m2,m1,hr3'⟩:=Dk7.1 hr3;by_cases h1:x.kind=y.kind
 ·simp(disch:=omega)only[go_sem,m1,m2,h1];refine(Bv9 G _ Jk x.l y.l 13 hl fun e he f _ K=>hS e he f K).mono ?_;rintro _ H1 ⟨rfl,rfl⟩;simp(disch:=omega)only[go_sem];exact Pl.sub (show Sub H _ from(by repeat (first | exact Sub.refl _ | assumption | refine Sub.up ?_ (by assumption) _))) (Pl.refl ⟨by simp,rfl⟩)
 ·simp(disch:=omega)only[go_sem,m1,m2,h1];exact Pl.sub (show Sub H _ from(by repeat (first | exact Sub.refl _ | assumption | refine Sub.up ?_ (by assumption) _))) (Pl.refl ⟨by simp,rfl⟩)
theorem Cg3 (G:Nat->DVal) (H:Ab) (l m:List Ch) (hl:Gp l<=1099511627776) (hS: ∀e∈l.flatMap Ch.l,Wo Tryz.prog G 13 e):Ae Tryz.prog G 116 [dCl l,dCl m] H (Bo (.bool (Hu l m)) H):=by
 have hll:=Ni l;refine Ac Tryz.func116 Tryz.call116 rfl (by kernel_rfl) ?_;simp(disch:=omega)only[go_sem,dCl];refine(Dh2 G _ Yd l m 214 (by omega) fun c hc d _ K=>Bo8 G K c d (by have:=Ng hc;have:=Nh c.l;rw[On] at*;omega) fun e he=>hS e (List.mem_flatMap.2 ⟨c,hc,he⟩)).mono ?_;rintro _ H1 ⟨rfl,rfl⟩;simp(disch:=omega)only[go_sem];exact Pl.refl ⟨by rw[Ae1],rfl⟩
theorem Bo9 (G:Nat->DVal) (H:Ab) (x y:As) (hl:Om x<=1099511627776) (hS: ∀e∈Ct x,Wo Tryz.prog G 13 e):Ae Tryz.prog G 183 ([]++ [.agg (dAs x), .agg (dAs y)]++ []) H (Bo (.bool (Yc x y)) H):=by
 have hb:=Uo x;have dx:=Bc9 x;have dy:=Bc9 y;rw[Ct1];refine Ac Tryz.func183 Tryz.call183 rfl (by kernel_rfl) ?_;simp(disch:=omega)only[go_sem,DVal.cells,jG,jH];intro r2 hr2;dsimp only at hr2;simp(disch:=omega)only[go_sem,DVal.cells];intro r3 hr3;dsimp only at hr3;obtain⟨m2,m1,hr3'⟩:=Dk7.1 hr3;simp(disch:=omega)only[go_sem,m1,m2];refine(Cg3 G _ x.c y.c (by omega) fun e he=>hS e (List.mem_append_left _ he)).mono ?_;rintro _ H1 ⟨rfl,rfl⟩;cases h:Hu x.c y.c with
 | false=>
  simp(disch:=omega)only[go_sem,m1,m2];exact Pl.sub (show Sub H _ from(by repeat (first | exact Sub.refl _ | assumption | refine Sub.up ?_ (by assumption) _))) (Pl.refl ⟨by simp,rfl⟩)
 | true=>
  simp(disch:=omega)only[go_sem,m1,m2,dx,dy];refine(hS x.e (Jd x) y.e _).mono ?_;rintro _ H1 ⟨rfl,rfl⟩;simp(disch:=omega)only[go_sem];exact Pl.sub (show Sub H _ from(by repeat (first | exact Sub.refl _ | assumption | refine Sub.up ?_ (by assumption) _))) (Pl.refl ⟨by simp,rfl⟩)
theorem Bd9 (G:Nat->DVal) (H:Ab) (l m:List As) (hl:Dm l<=1099511627776) (hS: ∀e∈l.flatMap Ct,Wo Tryz.prog G 13 e):Ae Tryz.prog G 72 [dAl l,dAl m] H (Bo (.bool (Ij l m)) H):=by
 have hll:=Wl l;refine Ac Tryz.func72 Tryz.call72 rfl (by kernel_rfl) ?_;simp(disch:=omega)only[go_sem,dAl];refine(Dh1 G _ Yc l m 183 (by omega) fun a ha b _ K=>Bo9 G K a b (by have:=Wk ha;omega) fun e he=>hS e (List.mem_flatMap.2 ⟨a,ha,he⟩)).mono ?_;rintro _ H1 ⟨rfl,rfl⟩;simp(disch:=omega)only[go_sem];exact Pl.refl ⟨by rw[Ae0],rfl⟩
theorem Dh3 (G:Nat->DVal): ∀x:Ex,Cz x<=1099511627776->Wo Tryz.prog G 13 x:=by
 intro x
 induction x using Ex.ind with
 | h x ih=>
  intro hb y H;have hbe:=Un x;have hbl:=Nh x.l;have ih': ∀e∈parts x,Wo Tryz.prog G 13 e:=fun e he=>ih e he (by have:=St he;omega);rw[Cs3,Su];refine Ac Tryz.func13 Tryz.call13 rfl (by kernel_rfl) ?_;simp(disch:=omega)only[go_sem,DVal.cells,jG,jH];intro r2 hr2;dsimp only at hr2;simp(disch:=omega)only[go_sem,DVal.cells];intro r3 hr3;dsimp only at hr3;obtain⟨m2,m1,hr3'⟩:=Dk7.1 hr3;by_cases h1:x.kind=y.kind
  ·by_cases h2:x.oper=y.oper
   ·by_cases h3:x.n=y.n
    ·by_cases h4:x.s=y.s
     ·simp(disch:=omega)only[go_sem,m1,m2,h1,h2,h3,h4];refine(Bv9 G _ Jk x.l y.l 13 (by omega) fun e he f _ K=>ih' e (Ar he) f K).mono ?_;rintro _ H1 ⟨rfl,rfl⟩;cases h5:eqF Jk x.l y.l with
      | true=>
       simp(disch:=omega)only[go_sem,m1,m2];refine(Bd9 G _ x.a y.a (by omega) fun e he=>ih' e (List.mem_append_right _ he)).mono ?_;rintro _ H1 ⟨rfl,rfl⟩;simp(disch:=omega)only[go_sem];exact Pl.sub (show Sub H _ from(by repeat (first | exact Sub.refl _ | assumption | refine Sub.up ?_ (by assumption) _))) (Pl.refl ⟨by simp,rfl⟩)
      | false=>
       simp(disch:=omega)only[go_sem,m1,m2];exact Pl.sub (show Sub H _ from(by repeat (first | exact Sub.refl _ | assumption | refine Sub.up ?_ (by assumption) _))) (Pl.refl ⟨by simp,rfl⟩)
     ·simp(disch:=omega)only[go_sem,m1,m2,h1,h2,h3,h4];exact Pl.sub (show Sub H _ from(by repeat (first | exact Sub.refl _ | assumption | refine Sub.up ?_ (by assumption) _))) (Pl.refl ⟨by simp,rfl⟩)
    ·simp(disch:=omega)only[go_sem,m1,m2,h1,h2,h3];exact Pl.sub (show Sub H _ from(by repeat (first | exact Sub.refl _ | assumption | refine Sub.up ?_ (by assumption) _))) (Pl.refl ⟨by simp,rfl⟩)
   ·simp(disch:=omega)only[go_sem,m1,m2,h1,h2];exact Pl.sub (show Sub H _ from(by repeat (first | exact Sub.refl _ | assumption | refine Sub.up ?_ (by assumption) _))) (Pl.refl ⟨by simp,rfl⟩)
  ·simp(disch:=omega)only[go_sem,m1,m2,h1];exact Pl.sub (show Sub H _ from(by repeat (first | exact Sub.refl _ | assumption | refine Sub.up ?_ (by assumption) _))) (Pl.refl ⟨by simp,rfl⟩)
theorem Wp (G:Nat->DVal) (H:Ab) (x y:Ex) (hx:Cz x<=1099511627776):Ae Tryz.prog G 13 [.agg (dEx x), .agg (dEx y)] H (Bo (.bool (Jk x y)) H):=Dh3 G x hx y H
def Dl7 (x:Ex) (s:Int) (b:Bool) (s':Int):Prop:=0<=s->s+Ev x<=4611686018427387904->b=true/\s'=s+Ev x
theorem Be0: ∀(l:List Ex) (s:Int) (b:Bool) (s':Int),Bd4 Dl7 l s b s'->0<=s->s+Hl l<=4611686018427387904->b=true/\s'=s+Hl l
 | [],s,b,s',h,_,_=>by
  obtain⟨rfl,rfl⟩:=h;exact⟨rfl,by simp [Hl]⟩
 | x::l,s,b,s',h,h0,h1=>by
  obtain⟨b1,s1,hx,h⟩:=h;have hsum:Hl (x::l)=Ev x+Hl l:=by simp [Hl]
  obtain⟨rfl,rfl⟩:=hx h0 (by omega);rcases h with⟨_,h⟩ | ⟨h,_⟩
  ·obtain⟨k1,k2⟩:=Be0 l _ b s' h (by omega) (by omega);exact⟨k1,by rw[k2,hsum];omega⟩
  ·cases h
theorem Wq (G:Nat->DVal): ∀(e:Ex) (H:Ab),Cz e<=1099511627776->Ae Tryz.prog G 83 [.agg (dEx e)] H (Bo (dI (Ev e)) H):=by
 intro e
 induction e using Ex.ind with
 | h e ih=>
  intro H hb;have hsz:=Wm e;have hsum:=Lg e;refine Ac Tryz.func83 Tryz.call83 rfl (by kernel_rfl) ?_;simp(disch:=omega)only[go_sem,DVal.cells];intro r1 hr1;dsimp only at hr1;simp(disch:=omega)only[go_sem,DVal.cells];intro r3 hr3;dsimp only at hr3;obtain⟨m1,m2,hr3'⟩:=Dk7.1 hr3;simp(disch:=omega)only[go_sem,m1,m2];have hs1:Sub H (upd (upd H r1 (some (.cells (dEx e) 27))) r3 (some (Ma 1))):=((Sub.refl H).new hr1 _).new hr3 _;refine(An0 G _ e hb 188 [] [.optr r3 0] Dl7 r3 1 (Aa _ _ _) fun x hx s K hK hT=> ?_).mono ?_
  ·have hbx:=St hx;unfold Ma at hK;refine Ac Tryz.func188 Tryz.call188 rfl (by kernel_rfl) ?_;simp(disch:=omega)only[go_sem,DVal.cells,jG,jI];intro q hq;dsimp only at hq;have n1:r3≠q:=Ad hq hK;have n2:q≠r3:=n1.symm;simp(disch:=omega)only[go_sem,n1,n2,hK];refine Am (by kernel_rfl) (.take 0 (.take 1 (.go 2 [0] (.take 3 (.go 4 [] .done))))) (by kernel_rfl) ?_;simp(disch:=omega)only[go_sem,n1,n2,hK];refine(ih x hx _ (by omega)).mono ?_;rintro _ H2 ⟨rfl,rfl⟩;simp(disch:=omega)only[go_sem,n1,n2,hK];refine Pl.refl ⟨true,_,rfl,fun h0 h1=>⟨rfl, ?_⟩,Aa _ _ _,((Pn.refl r3 _).new hq _).set _⟩;rw[IntKind.wrap_i64];omega
  ·rintro _ H7 ⟨b,t,rfl,hR,ht,hT⟩;unfold Ma at ht;obtain⟨_,w2⟩:=Be0 _ _ _ _ hR (by decide) (by omega);simp(disch:=omega)only[go_sem,ht];refine Pl.sub (hT.sub hs1 hr3') (Pl.refl ⟨?_,rfl⟩);have e1:t=(Ev e:Int):=by rw[w2,hsum];omega
   rw[e1]
end Go.Dl

-- Chapter 3: the reference's Same, SameArgs, SameChoices; Level (printed by gen_ub.py).
namespace Go.Dl
open Go Go.Proofs
set_option maxRecDepth 100000
section
variable {G:Nat->DVal} {H:Ab}
theorem Jz (G:Nat->DVal) (H:Ab) (e:Ex):Ae Tryz.prog G 84 [.agg (dEx e)] H (Bo (dI (Ao e)) H):=by
 refine Ac Tryz.func84 Tryz.call84 rfl (by kernel_rfl) ?_;simp(disch:=omega)only[go_sem,DVal.cells];intro r hr;dsimp only at hr;by_cases k13:e.kind=13
 ·skip
  simp(disch:=omega)only[go_sem,k13];exact Pl.dropA r hr (Pl.refl ⟨by simp [Ao,k13],rfl⟩)
 by_cases k14:e.kind=14
 ·skip
  simp(disch:=omega)only[go_sem,k13,k14];exact Pl.dropA r hr (Pl.refl ⟨by simp [Ao,k13,k14],rfl⟩)
 by_cases k11:e.kind=11
 ·by_cases o18:e.oper=18
  ·skip
   simp(disch:=omega)only[go_sem,k11,o18];exact Pl.dropA r hr (Pl.refl ⟨by simp [Ao,k11,o18],rfl⟩)
  by_cases o19:e.oper=19
  ·skip
   simp(disch:=omega)only[go_sem,k11,o18,o19];exact Pl.dropA r hr (Pl.refl ⟨by simp [Ao,k11,o18,o19],rfl⟩)
  by_cases o20:e.oper=20
  ·skip
   simp(disch:=omega)only[go_sem,k11,o18,o19,o20];exact Pl.dropA r hr (Pl.refl ⟨by simp [Ao,k11,o18,o19,o20],rfl⟩)
  by_cases o21:e.oper=21
  ·skip
   simp(disch:=omega)only[go_sem,k11,o18,o19,o20,o21];exact Pl.dropA r hr (Pl.refl ⟨by simp [Ao,k11,o18,o19,o20,o21],rfl⟩)
  simp(disch:=omega)only[go_sem,k11,o18,o19,o20,o21];exact Pl.dropA r hr (Pl.refl ⟨by simp [Ao,k11,o18,o19,o20,o21],rfl⟩)
 by_cases k12:e.kind=12
 ·by_cases a1:13<=e.oper
  ·by_cases a2:e.oper<=17
   ·skip
    simp(disch:=omega)only[go_sem,k12,k11,a1,a2];refine Pl.dropA r hr (Pl.refl ⟨?_,rfl⟩);congr 2;rw[Ao,if_neg (by omega),if_neg (by omega),if_pos (by omega)];(repeat (first | rfl | rw[if_pos (by omega)] | rw[if_neg (by omega)]))
   ·have b1:7<=e.oper:=by omega
    have b2: ¬e.oper<=12:=by omega
    have c1:3<=e.oper:=by omega
    have c2: ¬e.oper<=6:=by omega
    have x1: ¬e.oper=1:=by omega
    have x2: ¬e.oper=2:=by omega
    simp(disch:=omega)only[go_sem,k12,k11,a1,a2,b1,b2,x1,x2,c1,c2];refine Pl.dropA r hr (Pl.refl ⟨?_,rfl⟩);congr 2;rw[Ao,if_neg (by omega),if_neg (by omega),if_pos (by omega)];(repeat (first | rfl | rw[if_pos (by omega)] | rw[if_neg (by omega)]))
  ·by_cases b1:7<=e.oper
   ·have b2:e.oper<=12:=by omega
    simp(disch:=omega)only[go_sem,k12,k11,a1,b1,b2];refine Pl.dropA r hr (Pl.refl ⟨?_,rfl⟩);congr 2;rw[Ao,if_neg (by omega),if_neg (by omega),if_pos (by omega)];(repeat (first | rfl | rw[if_pos (by omega)] | rw[if_neg (by omega)]))
   ·by_cases x1:e.oper=1
    ·skip
     simp(disch:=omega)only[go_sem,k12,k11,x1];refine Pl.dropA r hr (Pl.refl ⟨?_,rfl⟩);congr 2;rw[Ao,if_neg (by omega),if_neg (by omega),if_pos (by omega)];(repeat (first | rfl | rw[if_pos (by omega)] | rw[if_neg (by omega)]))
    by_cases x2:e.oper=2
    ·skip
     simp(disch:=omega)only[go_sem,k12,k11,x2];refine Pl.dropA r hr (Pl.refl ⟨?_,rfl⟩);congr 2;rw[Ao,if_neg (by omega),if_neg (by omega),if_pos (by omega)];(repeat (first | rfl | rw[if_pos (by omega)] | rw[if_neg (by omega)]))
    by_cases c1:3<=e.oper
    ·have c2:e.oper<=6:=by omega
     simp(disch:=omega)only[go_sem,k12,k11,a1,b1,x1,x2,c1,c2];refine Pl.dropA r hr (Pl.refl ⟨?_,rfl⟩);congr 2;rw[Ao,if_neg (by omega),if_neg (by omega),if_pos (by omega)];(repeat (first | rfl | rw[if_pos (by omega)] | rw[if_neg (by omega)]))
    ·skip
     simp(disch:=omega)only[go_sem,k12,k11,a1,b1,x1,x2,c1];refine Pl.dropA r hr (Pl.refl ⟨?_,rfl⟩);congr 2;rw[Ao,if_neg (by omega),if_neg (by omega),if_pos (by omega)];(repeat (first | rfl | rw[if_pos (by omega)] | rw[if_neg (by omega)]))
 simp(disch:=omega)only[go_sem,k11,k12,k13,k14];exact Pl.dropA r hr (Pl.refl ⟨by simp [Ao,k11,k12,k13,k14],rfl⟩)
end
end Go.Dl

-- THE DATA LEVEL, PART N: a call that is put off to the end, and takes up a panic there.
namespace Go.Dl
open Go
set_option maxRecDepth 10000
section
variable {P:Program} {G:Nat->DVal}
theorem An1 {fn:Func} {args:List DVal} {H:Ab} {vs:List Value} {w:World} {T:List Deferred} {st:Bool} (hA:args.length<=fn.ntmps) (hv:An w H args vs) (hH:Av w H) (hG:GOk G w H):
  Sim G ⟨fn.ntmps,⟨w.heap.size,T,st⟩⟩ ⟨Lt args 0,H⟩ { tmps:=vs.toArray++Array.replicate (fn.ntmps-vs.toArray.size) undef,defers:=T } w:=by
 have hl:=hv.length;refine⟨by simp;omega,⟨[],rfl,List.nodup_nil,by simp⟩,fun i hi=> ?_,hH,hG,Nat.le_refl _⟩;have h0:=Vz args 0 i;rw[Nat.zero_add] at h0;show Rel w H (Lt args 0 i) _;rw[h0];by_cases hlt:i<args.length
 ·have h1:args[i]? =some (args.getD i Cr):=by simp [List.getD,List.getElem?_eq_getElem hlt]
  obtain⟨x,hx,hr⟩:=hv.get h1;have:(vs.toArray++Array.replicate (fn.ntmps-vs.toArray.size) undef).getD i undef=x:=by
   have hlt':i<vs.length:=by omega
   rw[Array.getD_eq_getD_getElem?,Array.getElem?_append_left (by simpa using hlt')];simp [hx]
  rw[this];exact hr
 ·have h1:args.getD i Cr=Cr:=by simp [List.getD,List.getElem?_eq_none (Nat.le_of_not_lt hlt)]
  have:(vs.toArray++Array.replicate (fn.ntmps-vs.toArray.size) undef).getD i undef=undef:=by
   rw[Array.getD_eq_getD_getElem?,Array.getElem?_append_right (by simp;omega)];simp only[Array.getElem?_replicate];split<;>rfl
  rw[h1,this];exact Nw w H
def Ae2 (R:Ab->Prop):DExit->DS->Prop
 | .normal,s=>R s.heap
 | .ret,s=>R s.heap
 | _,_=>False
def Rv (t ty:Nat) (ps:String) (af:Array Edge):Oper:= { dst:=some t,op:= .call { callee:= .builtin .recover,args:= #[],argTypes:= #[] },type:=ty,pos:=ps,after:=af,guard:=none }
def Yf (t t' ty:Nat) (ps:String) (af:Array Edge):Oper:= { dst:=some t',op:= .assign (.tmp t),type:=ty,pos:=ps,after:=af,guard:=none }
theorem Oo {N:Fr} {s:DS} {a:Act} {w:World} (hS:Sim G N s a w) (h:N.base.still=true):a.defers=N.base.late:=by
 obtain⟨Ds,h1,_,h3⟩:=hS.defers;cases Ds with
 | nil=>exact h1
 | cons D Ds=>have:=(h3 D (by simp)).1.2;rw[h] at this;cases this
theorem Cg4 {n:Nat} {ops:Array Oper} {Q:Exit->Act->List Frame->World->Prop} {i:Nat} {rest:List Nat} {a:Act} {cs:List Frame} {w:World} {o:Oper} (ho:ops[i]? =some o) (hg:o.guard=none) (hr:(execOp a.eval o).run P w= .ok .recover w) (hc:recoverD cs=none)
  (h:wpOpsSIn Fence.wide n P ops Q rest (a.put o.dst .nilIface) cs w):wpOpsSIn Fence.wide n P ops Q (i::rest) a cs w:=by
 unfold wpOpsSIn;rw[ho];refine⟨fun _ _=>trivial, ?_⟩;rw[if_pos (by simp [Region.wanted,hg]),hr,hc];exact h
theorem Ct3 {n:Nat} {ops:Array Oper} {Q:Exit->Act->List Frame->World->Prop} {i:Nat} {rest:List Nat} {a:Act} {cs cs':List Frame} {w:World} {o:Oper} {v:Value} (ho:ops[i]? =some o) (hg:o.guard=none) (hr:(execOp a.eval o).run P w= .ok .recover w) (hc:recoverD cs=some (v,cs'))
  (h:wpOpsSIn Fence.wide n P ops Q rest (a.put o.dst v) cs' w):wpOpsSIn Fence.wide n P ops Q (i::rest) a cs w:=by
 unfold wpOpsSIn;rw[ho];refine⟨fun _ _=>trivial, ?_⟩;rw[if_pos (by simp [Region.wanted,hg]),hr,hc];exact h
theorem Be1 {n:Nat} {ops:Array Oper} {Q:Exit->Act->List Frame->World->Prop} {i:Nat} {rest:List Nat} {a:Act} {cs:List Frame} {w:World} {o:Oper} {v:Value} (ho:ops[i]? =some o) (hg:o.guard=none) (hr:(execOp a.eval o).run P w= .ok (.value v) w)
  (h:wpOpsSIn Fence.wide n P ops Q rest (a.put o.dst v) cs w):wpOpsSIn Fence.wide n P ops Q (i::rest) a cs w:=by
 unfold wpOpsSIn;rw[ho];refine⟨fun _ _=>trivial, ?_⟩;rw[if_pos (by simp [Region.wanted,hg]),hr];exact h
theorem Be2 {f:FuncId} {fn:Func} {id:Nat} {t1 t2 y1 y2:Nat} {p1 p2:String} {af1 af2:Array Edge} {c:Code} {caps:List DVal} {H:Ab} {R:Ab->Prop} {n:Nat} {vs:List Value} {w:World} {u:FrameMode} {x:DVal}
  (hf:P.funcs[f]? =some fn) (hb:fn.body=some (.seq (.region id #[Rv t1 y1 p1 af1,Yf t1 t2 y2 p2 af2] false) c))
  (hk:(decide (caps.length<=fn.ntmps)&&Fe fn.ntmps c&&Pk c&&decide (t1<fn.ntmps)&&decide (t2<fn.ntmps))=true) (hres:fn.results= #[])
  (hv:An w H caps vs) (hH:Av w H) (hG:GOk G w H)
  (hu:(u= .returning/\x= .nilIface)\/ ∃v,u= .panicking [{ v,recovered:=false }]/\Rel w H x v)
  (h:dwp P G fn.ntmps c (Ae2 R) ⟨upd (upd (Lt caps 0) t1 x) t2 x,H⟩):
  CallsDIn Fence.wide n P f vs.toArray u w fun e u' w'=> ∃v H',e= .returned v/\settle u'= .returning/\R H'/\Av w' H'/\Ext H w H' w':=by
 simp only[jF,decide_eq_true_eq] at hk;obtain⟨⟨⟨⟨hA,hok⟩,hfl⟩,ht1⟩,ht2⟩:=hk;refine callsDIn_of_wpSIn hf hb trivial fun c₀ cs hm=>wpSIn_seq (wpSIn_region ?_);have hS:=An1 (G:=G) (T:= []) (st:=true) hA hv hH hG;have key: ∀(v:Value) (u':FrameMode),settle u'= .returning->Rel w H x v->
   c.wpSIn Fence.wide n P (bodyPostS P fn c₀ cs fun e u' w'=> ∃v H',e= .returned v/\settle u'= .returning/\R H'/\Av w' H'/\Ext H w H' w')
    (({ tmps:=vs.toArray++Array.replicate (fn.ntmps-vs.toArray.size) undef,defers:= [] }:Act).put (some t1) v |>.put (some t2) v) ({ c₀ with mode:=u' }::cs) w:=by
  intro v u' hs hx;refine wpSIn_of_wpIn rfl ?_;have hS1:=(hS.put (dst:=some t1) (by simpa [Bu] using ht1) hx).put (dst:=some t2) (by simpa [Bu] using ht2) hx;refine wpIn_mono (Em (.inl rfl) c hok (.inr hfl) _ _ h _ w hS1) ?_;rintro e a' w1 ⟨e',s',hQ,hX,hS',hE⟩;have hd:=Oo hS' rfl;have hr:(results fn a'.tmps).run P w1= .ok (.tuple #[]) w1:=by
   unfold results;rw[hres];simp [Sem.run_pure]
  cases hX with
  | normal=>exact⟨hd,u',rfl,_,hr,_,s'.heap,rfl,hs,hQ,hS'.heap,hE⟩
  | ret=>exact⟨hd,u',rfl,_,hr,_,s'.heap,rfl,hs,hQ,hS'.heap,hE⟩
  | exit id=>exact hQ.elim
  | goto l=>exact hQ.elim
  | panic d v hv=>exact hQ.elim
 have hrange:List.range (#[Rv t1 y1 p1 af1,Yf t1 t2 y2 p2 af2]:Array Oper).size= [0,1]:=rfl;have e0:(#[Rv t1 y1 p1 af1,Yf t1 t2 y2 p2 af2]:Array Oper)[0]? =some (Rv t1 y1 p1 af1):=rfl;have e1:(#[Rv t1 y1 p1 af1,Yf t1 t2 y2 p2 af2]:Array Oper)[1]? =some (Yf t1 t2 y2 p2 af2):=rfl;have r0: ∀ρ w,(execOp ρ (Rv t1 y1 p1 af1)).run P w= .ok .recover w:=fun ρ w=>by
  simp [execOp,Rv,resolve,invoke,builtin,Sem.run_pure]
 have r1: ∀ρ w,(execOp ρ (Yf t1 t2 y2 p2 af2)).run P w= .ok (.value (ρ (.tmp t1))) w:=fun ρ w=>by
  simp [execOp,Yf,Sem.run_pure]
 have hget: ∀v,(({ tmps:=vs.toArray++Array.replicate (fn.ntmps-vs.toArray.size) undef,defers:= [] }:Act).put (some t1) v).eval (.tmp t1)=v:=fun v=>by
  have hsz:=hS.size;dsimp only at hsz;simp [Act.eval,Act.put,Array.getD,hsz,ht1];intro hle;simp at hsz;omega
 rw[hrange];rcases hu with⟨rfl,rfl⟩ | ⟨v,rfl,hx⟩
 ·have hr:recoverD (c₀::cs)=none:=by simp [recoverD,hm]
  have hc: { c₀ with mode:= .returning }=c₀:=by cases c₀;simp at hm;simp [hm]
  refine Cg4 e0 rfl (r0 _ _) hr (Be1 e1 rfl (r1 _ _) ?_);rw[show(Rv t1 y1 p1 af1).dst=some t1 from rfl,hget];have:=key .nilIface .returning rfl (by simp [Rel]);rw[hc] at this;exact this
 ·have hr:recoverD (c₀::cs)=some (v,{ c₀ with mode:= .panicking [{ v,recovered:=true }] }::cs):=by simp [recoverD,hm]
  refine Ct3 e0 rfl (r0 _ _) hr (Be1 e1 rfl (r1 _ _) ?_);rw[show(Rv t1 y1 p1 af1).dst=some t1 from rfl,hget];exact key v _ rfl hx
theorem Be3 (env:Nat->DVal): ∀l:List Operand,(El G env l).length=l.length
 | []=>rfl
 | x::l=>by rw[El,jA,Be3 env l,jA]
def Bp0 (d:Nat) (g:FuncId) (caps:Array Operand) (ty:Nat) (ps:String) (af:Array Edge):Oper:= { dst:=some d,op:= .makeFunc (.func g) #[] caps,type:=ty,pos:=ps,after:=af,guard:=none }
def Ct4 (d ty:Nat) (ps:String) (af:Array Edge):Oper:= { dst:=none,op:= .defer { callee:= .value (.tmp d),args:= #[],argTypes:= #[] },type:=ty,pos:=ps,after:=af,guard:=none }
def Ct5 (P:Program) (G:Nat->DVal) (rs:List ResultVar) (R:DEnd->Ab->Prop) (m t1 t2:Nat) (cc:Code) (caps:List DVal):DExit->DS->Prop
 | .normal,s=>dwp P G m cc (Ae2 fun H'=>Al2 R H' (Hr (Kh P ⟨s.env,H'⟩ rs))) ⟨upd (upd (Lt caps 0) t1 .nilIface) t2 .nilIface,s.heap⟩
 | .ret,s=>dwp P G m cc (Ae2 fun H'=>Al2 R H' (Hr (Kh P ⟨s.env,H'⟩ rs))) ⟨upd (upd (Lt caps 0) t1 .nilIface) t2 .nilIface,s.heap⟩
 | .panic v,s=>dwp P G m cc (Ae2 fun H'=>Al2 R H' (Hr (Kh P ⟨s.env,H'⟩ rs))) ⟨upd (upd (Lt caps 0) t1 v) t2 v,s.heap⟩
 | _,_=>False
theorem Be4 {f g:FuncId} {fn fg:Func} {A1 A2 C cc:Code} {id id2 d t1 t2 y1 y2 y3 y4:Nat} {p1 p2 p3 p4:String} {af1 af2 af3 af4:Array Edge} {caps:Array Operand} {args:List DVal} {H:Ab} {R:DEnd->Ab->Prop}
  (hf:P.funcs[f]? =some fn) (hg:P.funcs[g]? =some fg) (hcall: ∀vs w,(callFunc f vs).run P w= .ok (.enter f vs) w) (hcallg: ∀vs w,(callFunc g vs).run P w= .ok (.enter g vs) w)
  (hb:fn.body=some (.seq A1 (.seq A2 (.seq (.region id #[Bp0 d g caps y1 p1 af1,Ct4 d y2 p2 af2] false) C))))
  (hbg:fg.body=some (.seq (.region id2 #[Rv t1 y3 p3 af3,Yf t1 t2 y4 p4 af4] false) cc))
  (hk:(decide (args.length<=fn.ntmps)&&(Fe fn.ntmps A1&&Pk A1)&&(Fe fn.ntmps A2&&Pk A2)&&(Fe fn.ntmps C&&Pk C)&&decide (d<fn.ntmps)&&caps.toList.all (Bf fn.ntmps)&&fn.results.toList.all (Ab1 fn.ntmps))=true)
  (hkg:(decide (caps.toList.length<=fg.ntmps)&&Fe fg.ntmps cc&&Pk cc&&decide (t1<fg.ntmps)&&decide (t2<fg.ntmps))=true) (hrg:fg.results= #[])
  (h:dwp P G fn.ntmps A1 (Xq (fun s=>dwp P G fn.ntmps A2 (Xq (fun s1=>dwp P G fn.ntmps C (Ct5 P G fn.results.toList R fg.ntmps t1 t2 cc (El G s1.env caps.toList)) ⟨upd s1.env d (.func (.func g) [] (El G s1.env caps.toList)),s1.heap⟩) fun _ _=>False) s) fun _ _=>False) ⟨Lt args 0,H⟩):Ae P G f args H R:=by
 simp only[jF,decide_eq_true_eq] at hk;obtain⟨⟨⟨⟨⟨⟨hA,hok1,hfl1⟩,hok2,hfl2⟩,hok3,hfl3⟩,hd⟩,hcp⟩,hres⟩:=hk;refine⟨hcall,fun vs w hv hH hG=> ?_⟩;refine(callsIn_wide (n:=0)).1 (callsIn_of_wp_marks hf hb trivial ?_);have hS:=An1 (G:=G) (T:= []) (st:=true) hA hv hH hG;refine wpIn_seq (wpIn_mono (Em (.inl rfl) A1 hok1 (.inr hfl1) _ _ h _ w hS) ?_);rintro e a0 w0 ⟨e',s0,hQ,hX,hS0,hE0⟩;cases hX<;>first | exact hQ.elim | skip
 refine wpIn_seq (wpIn_mono (Em (.inl rfl) A2 hok2 (.inr hfl2) _ _ hQ _ w0 hS0) ?_);rintro e a1 w1 ⟨e',s1,hQ1,hX,hS1,hE1⟩;cases hX<;>first | exact hQ1.elim | skip
 have hE1:=hE0.trans hE1;have hd1:a1.defers= []:=Oo hS1 rfl;have hrc:=Ls hS1 hcp;obtain⟨cv,hcv⟩: ∃cv:List Value,cv=caps.toList.map a1.eval:=⟨_,rfl⟩;have hcv2:caps.map a1.eval=cv.toArray:=by rw[hcv,<-Array.toList_map]
 rw[<-hcv] at hrc;have hfv:Rel w1 s1.heap (.func (.func g) [] (El G s1.env caps.toList)) (.func (.func g) #[] cv.toArray):=by
  simp only[Rel];refine⟨#[],cv.toArray,rfl, ?_, ?_⟩
  ·simp [An]
  ·simpa using hrc
 obtain⟨D,hD⟩: ∃D:Deferred,D= { target:= .fn (.func g) cv.toArray,args:= #[] }:=⟨_,rfl⟩;have hS2:Sim G ⟨fn.ntmps,⟨w.heap.size,[D],true⟩⟩ ⟨upd s1.env d (.func (.func g) [] (El G s1.env caps.toList)),s1.heap⟩ ({ (a1.put (some d) (.func (.func g) #[] cv.toArray)) with defers:= [D] }) w1:=by
  have:=hS1.put (dst:=some d) (by simpa [Bu] using hd) hfv;exact⟨this.size,⟨[],rfl,List.nodup_nil,by simp⟩,this.tmps,this.heap,this.glob,this.base⟩
 refine wpIn_seq ?_;have hreg: #[Bp0 d g caps y1 p1 af1,Ct4 d y2 p2 af2]= [Bp0 d g caps y1 p1 af1,Ct4 d y2 p2 af2].toArray:=rfl;rw[hreg];refine wpIn_region_lit (wpListIn_plain rfl fun K hK=> ?_);have rm:(execOp a1.eval (Bp0 d g caps y1 p1 af1)).run P w1= .ok (.value (.func (.func g) #[] cv.toArray)) w1:=by
  simp [execOp,Bp0,Instr.makeFunc,Sem.run_pure,hcv2]
 have hsz:=hS1.size;have hget:(a1.put (some d) (.func (.func g) #[] cv.toArray)).eval (.tmp d)= .func (.func g) #[] cv.toArray:=by
  simp [Act.eval,Act.put,Array.getD,hsz,hd]
 have rd:(execOp (a1.put (some d) (.func (.func g) #[] cv.toArray)).eval (Ct4 d y2 p2 af2)).run P w1= .ok (.defer D) w1:=by
  simp [execOp,Ct4,resolve,hget,Deferred.ofValue,Sem.run_pure,hD]
 unfold Oper.wpIn;refine⟨fun _ _=>trivial, ?_⟩;rw[Oper.semAt_eq _ _ _ (by intro c;simp [Bp0]),rm];refine hK _ _ (wpListIn_plain rfl fun K2 hK2=> ?_);unfold Oper.wpIn;refine⟨fun _ _=>trivial, ?_⟩;rw[show Fence.wide.round=none from rfl,Oper.semAt_none,show(Bp0 d g caps y1 p1 af1).dst=some d from rfl,rd];refine hK2 _ _ (wpListIn_nil ?_);have hdp:(a1.put (some d) (.func (.func g) #[] cv.toArray)).defers= []:=hd1;rw[hdp];show C.wpIn _ _ _ _ _ _;refine wpIn_mono (Em (.inl rfl) C hok3 (.inr hfl3) _ _ hQ1 _ w1 hS2) ?_;rintro e a3 w3 ⟨e',s3,hQ3,hX3,hS3,hE3⟩;have hE3':=hE1.trans hE3;have hd3:a3.defers= [D]:=Oo hS3 rfl;have hrc3:An w3 s3.heap (El G s1.env caps.toList) cv:=hrc.lasts hE3.lasts;have hinv:(invoke D.target D.args).run P w3= .ok (.enter g cv.toArray) w3:=by
  rw[hD];simp [invoke,hcallg]
 have key: ∀(u:FrameMode) (x:DVal),u≠ .run->((u= .returning/\x= .nilIface)\/ ∃v,u= .panicking [{ v,recovered:=false }]/\Rel w3 s3.heap x v)->
   dwp P G fg.ntmps cc (Ae2 fun H'=>Al2 R H' (Hr (Kh P ⟨s3.env,H'⟩ fn.results.toList))) ⟨upd (upd (Lt (El G s1.env caps.toList) 0) t1 x) t2 x,s3.heap⟩->
   LeavesInM Fence.wide 0 P fn a3.tmps (fun e w'=> ∃e' H',R e' H'/\RelE w' H' e' e/\Av w' H'/\Ext H w H' w') a3.defers u w3:=by
  intro u x hu0 hu hc;rw[hd3];refine⟨hu0, .inr ⟨(fun h=>by cases h), .func g,cv.toArray,g,cv.toArray,(by rw[hD]),hinv,fun _ _=>trivial, ?_⟩⟩;refine(Be2 hg hbg (by rw[Be3];exact(by simp only[jF,decide_eq_true_eq] at hkg⊢;exact hkg)) hrg hrc3 hS3.heap hS3.glob hu hc).mono ?_;rintro e4 u4 w4 ⟨v4,H4,rfl,hset,hfin,hH4,hE4⟩;dsimp only;rw[hset];have hS4:=hS3.ext hE4 hH4;cases hdt:Hr (Kh P ⟨s3.env,H4⟩ fn.results.toList) with
  | none=>rw[hdt] at hfin;exact hfin.elim
  | some v=>
   rw[hdt] at hfin;obtain⟨x,hx,hr⟩:=Xt (P:=P) hS4 hres hdt;obtain⟨v',H',hgg,hR⟩:=hfin;obtain⟨g1,g2,g3⟩:=hgg w4 hS4.heap;exact⟨x,hx, .ret v',H',hR, .ret v' x (g3 x hr),g1,(hE3'.trans hE4).trans ⟨rfl,rfl,rfl,Nat.le_refl _,fun _ _ _=>rfl,fun b hb=> .inl (g2 b hb),fun _ _=>rfl,fun _ _ _=>rfl⟩⟩
 cases hX3 with
 | normal=>exact key .returning .nilIface (by simp) (.inl ⟨rfl,rfl⟩) hQ3
 | ret=>exact key .returning .nilIface (by simp) (.inl ⟨rfl,rfl⟩) hQ3
 | exit id=>exact hQ3.elim
 | goto l=>exact hQ3.elim
 | panic d v hv=>exact key _ d (by simp) (.inr ⟨v,rfl,hv⟩) hQ3
end
attribute [go_sem] Ae2.eq_1 Ae2.eq_2 Ct5.eq_1 Ct5.eq_2 Ct5.eq_3
end Go.Dl

-- Chapter 3: the package's reader: tokens, words.
namespace Go.Dl
open Go Go.Proofs
set_option maxRecDepth 100000
abbrev rdO (l:List Tok) (k:Nat):DObj:= .cells [Dd l,dI k] 226
def RAt (r:Nat) (l:List Tok) (k:Nat) (H0 H:Ab):Prop:=Sub (upd H0 r (some (rdO l k))) H
section
variable {G:Nat->DVal} {H0 H:Ab} {r k:Nat} {l:List Tok}
theorem RAt.refl (h:H r=some (rdO l k)):RAt r l k H H:=fun b o hb=>by
 simp only[upd] at hb;split at hb
 ·rename_i e;subst e;rw[h];exact hb
 ·exact hb
theorem RAt.get (h:RAt r l k H0 H):H r=some (rdO l k):=h _ _ (Aa _ _ _)
theorem RAt.new (h:RAt r l k H0 H) {x:Nat} (hx:H x=none) (o:Option DObj):RAt r l k H0 (upd H x o):=Sub.new h hx o
theorem RAt.more (h:RAt r l k H0 H) {H':Ab} (s:Sub H H'):RAt r l k H0 H':=Sub.trans h s
theorem RAt.set (h:RAt r l k H0 H) (k':Nat):RAt r l k' H0 (upd H r (some (rdO l k'))):=fun b o hb=>by
 simp only[upd] at hb⊢
 by_cases e:b=r
 ·rw[if_pos e] at hb⊢;exact hb
 ·rw[if_neg e] at hb⊢;exact h b o (by simp only[upd];rw[if_neg e];exact hb)
theorem RAt.own (h:RAt r l k H0 H) {x:Nat} (hx:H0 x=none) (hr:x≠r) (o:Option DObj):RAt r l k H0 (upd H x o):=Sub.up h (by simp only[upd];rw[if_neg hr];exact hx) o
theorem RAt.lo (h:RAt r l k H0 H) {x:Nat} (hx:H x=none):H0 x=none:=by
 have:=Sub.lo h hx;simp only[upd] at this;split at this
 ·cases this
 ·exact this
theorem RAt.fin {R:DEnd->Ab->Prop} {v:DVal} (h:RAt r l k H0 H) (hR:R (.ret v) (upd H0 r (some (rdO l k)))):Pl R v H:=Pl.sub h (.refl hR)
theorem Bu0.sub {R:DEnd->Ab->Prop} {v:DVal} {H':Ab} (h:Sub H' H) (hR:R (.panic v) H'):Bu0 R v H:=⟨v,H',Ht.sub h v,hR⟩
theorem RAt.finP {R:DEnd->Ab->Prop} {v:DVal} (h:RAt r l k H0 H) (hR:R (.panic v) (upd H0 r (some (rdO l k)))):Bu0 R v H:=Bu0.sub h hR
theorem Co {H:Ab} {r:Nat} {x:Option DObj} (h:H r=x):upd H r x=H:=by
 funext b;simp only[upd];split
 ·rename_i e;rw[e,h]
 ·rfl
theorem Dw6 {i:Nat} (h:i<l.length):tk l i=l[i]:=by rw[tk,List.getD,List.getElem?_eq_getElem h];rfl
theorem Ds6 {i:Nat} (h:l.length<=i):tk l i=Wd:=by rw[tk,List.getD,List.getElem?_eq_none h];rfl
theorem Sv (G:Nat->DVal) (H:Ab) (j:Nat) (hr:H r=some (rdO l k)) (hl:l.length<=1000000) (hk:k<=1000000) (hj:j<=1000000):Ae Tryz.prog G 171 [.optr r 0,dI j] H (Bo (.agg (Dw (tk l (k+j)))) H):=by
 have hw:IntKind.i64.wrap ((k:Int)+(j:Int))=((k+j:Nat):Int):=by rw[IntKind.wrap_i64];omega
 unfold rdO at hr;refine Ac Tryz.func171 Tryz.call171 rfl (by kernel_rfl) ?_;simp(disch:=omega)only[go_sem];intro r4 hr4;dsimp only at hr4;have n1:r≠r4:=Ad hr4 hr;by_cases c:k+j<l.length
 ·have c':((k+j:Nat):Int)<(l.length:Int):=by omega
  have hget:=Dc Ca l (k+j) c;have hfl:=Bl Ca l;rw[Dw6 c];simp(disch:=omega)only[go_sem,n1,hr];refine Am (by kernel_rfl) pL6 (by kernel_rfl) ?_;simp(disch:=omega)only[go_sem,n1,hr,hw,c',Dd];refine Am (by kernel_rfl) pL4 (by kernel_rfl) ?_;simp(disch:=omega)only[go_sem,n1,hr,hw,c',Dd,hget,hfl,jD];simp(disch:=omega)only[go_sem,Dw];exact Pl.dropA r4 hr4 (Pl.refl ⟨rfl,rfl⟩)
 ·have c': ¬((k+j:Nat):Int)<(l.length:Int):=by omega
  rw[Ds6 (by omega)];simp(disch:=omega)only[go_sem,n1,hr];refine Am (by kernel_rfl) pL6 (by kernel_rfl) ?_;simp(disch:=omega)only[go_sem,n1,hr,hw,c',Dd];exact Pl.dropA r4 hr4 (Pl.refl ⟨rfl,rfl⟩)
theorem Qo (G:Nat->DVal) (H:Ab) (hr:H r=some (rdO l k)) (hl:l.length<=1000000) (hk:k<=1000000):Ae Tryz.prog G 171 [.optr r 0,dI 0] H (Bo (.agg (Dw (tk l k))) H):=
 Sv G H 0 hr hl hk (by omega)
theorem Wr (G:Nat->DVal) (H:Ab) (hr:H r=some (rdO l k)) (hl:l.length<=1000000) (hk:k<=1000000):Ae Tryz.prog G 169 [.optr r 0] H (Bo (dI (tk l k).line) H):=by
 refine Ac Tryz.func169 Tryz.call169 rfl (by kernel_rfl) ?_;simp(disch:=omega)only[go_sem];refine(Sv G H 0 hr hl hk (by omega)).mono ?_;rintro _ H1 ⟨rfl,rfl⟩;simp(disch:=omega)only[go_sem,Nat.add_zero,Dw];exact Pl.refl ⟨rfl,rfl⟩
def dW (ws:List (List UInt8)):DVal:= .vslice (ws.map .str) ws.length
theorem Ct6 {ws:List (List UInt8)} {j:Nat} (hj:j<ws.length):isW l (k+j) (ws.drop j)=(decide ((tk l (k+j)).kind=Je ws[j])&&decide ((tk l (k+j)).text=ws[j])&&isW l (k+(j+1)) (ws.drop (j+1))):=by
 rw[List.drop_eq_getElem_cons hj,isW];rfl
theorem Ut (hG:GX G) (H:Ab) (ws:List (List UInt8)) (hr:H r=some (rdO l k)) (hl:l.length<=1000000) (hk:k<=900000) (hw:ws.length<=1000):Ae Tryz.prog G 172 [.optr r 0,dW ws] H (Bo (.bool (isW l k ws)) H):=by
 refine Ac Tryz.func172 Tryz.call172 rfl (by kernel_rfl) ?_;simp(disch:=omega)only[go_sem,dW];obtain⟨I,hI⟩: ∃I:Nat->(Nat->DVal)->Ab->Prop,∀j env heap,I j env heap↔(env 0= .optr r 0/\env 9=dW ws/\env 10=dI ws.length/\env 11=dI j/\j<=ws.length/\isW l k ws=isW l (k+j) (ws.drop j)/\Sub H heap):=⟨_,fun _ _ _=>Iff.rfl⟩;refine Bt4.run I (fun j=>ws.length-j) 0 ((hI _ _ _).2 ?_) ?_
 ·simp(disch:=omega)only[go_sem];(repeat' apply And.intro)<;>(try first | rfl | assumption | omega);exact Sub.refl H
 ·intro j env heap hi;obtain⟨e0,e9,e10,e11,hj,hm,hs⟩:=(hI _ _ _).1 hi;have gr:=hs _ _ hr;by_cases hlt:j<ws.length
  ·have hlt':(j:Int)<(ws.length:Int):=by omega
   have hwj:IntKind.i64.wrap ((j:Int)+1)=((j+1:Nat):Int):=by rw[IntKind.wrap_i64];omega
   have hget:(ws.map DVal.str)[j]? =some (.str ws[j]):=by rw[List.getElem?_map,List.getElem?_eq_getElem hlt];rfl
   have hml:(ws.map DVal.str).length=ws.length:=jK _;rw[Ct6 hlt] at hm;obtain⟨s,hse⟩: ∃s,s=ws[j]:=⟨_,rfl⟩;obtain⟨t,ht⟩: ∃t,t=tk l (k+j):=⟨_,rfl⟩;rw[<-hse,<-ht] at hm;rw[<-hse] at hget;simp(disch:=omega)only[go_sem,e0,e9,e10,e11,hlt',dW,hget,hml,jD];refine(Sv G heap j gr hl (by omega) (by omega)).mono ?_;rintro _ H1 ⟨rfl,rfl⟩;rw[<-ht];simp(disch:=omega)only[go_sem,e0,e9,e10,e11];intro r7 hr7;dsimp only at hr7;have hs7: ∀x,Sub H (upd H1 r7 x):=fun x=>hs.new hr7 x;simp(disch:=omega)only[go_sem,e0,e9,e10,e11,Dw];refine(Ac2 hG _ s).mono ?_;rintro _ H2 ⟨rfl,rfl⟩;by_cases c1:t.kind=Je s
   ·by_cases c2:t.text=s
    ·rw[decide_eq_true c1,decide_eq_true c2,jS,jS] at hm;rw[Je] at c1;cases hkb:So s with
     | true=>
      rw[hkb,if_pos rfl] at c1;simp(disch:=omega)only[go_sem,e0,e9,e10,e11,c1,c2];refine⟨j+1,_,Lq.refl _,(hI _ _ _).2 ?_,by omega⟩;simp(disch:=omega)only[go_sem,e0,e9,e10,e11,hwj];(repeat' apply And.intro)<;>(try first | rfl | assumption | omega);exact hs7 _
     | false=>
      rw[hkb,if_neg (by simp)] at c1;simp(disch:=omega)only[go_sem,e0,e9,e10,e11,c1,c2];refine⟨j+1,_,Lq.refl _,(hI _ _ _).2 ?_,by omega⟩;simp(disch:=omega)only[go_sem,e0,e9,e10,e11,hwj];(repeat' apply And.intro)<;>(try first | rfl | assumption | omega);exact hs7 _
    ·rw[decide_eq_false c2,Bool.and_false,jT] at hm;rw[Je] at c1;cases hkb:So s with
     | true=>
      rw[hkb,if_pos rfl] at c1;simp(disch:=omega)only[go_sem,e0,e9,e10,e11,c1,c2];exact Pl.sub (hs7 _) (.refl ⟨by rw[hm],rfl⟩)
     | false=>
      rw[hkb,if_neg (by simp)] at c1;simp(disch:=omega)only[go_sem,e0,e9,e10,e11,c1,c2];exact Pl.sub (hs7 _) (.refl ⟨by rw[hm],rfl⟩)
   ·rw[decide_eq_false c1,jT,jT] at hm;rw[Je] at c1;cases hkb:So s with
    | true=>
     rw[hkb,if_pos rfl] at c1;simp(disch:=omega)only[go_sem,e0,e9,e10,e11,c1];exact Pl.sub (hs7 _) (.refl ⟨by rw[hm],rfl⟩)
    | false=>
     rw[hkb,if_neg (by simp)] at c1;simp(disch:=omega)only[go_sem,e0,e9,e10,e11,c1];exact Pl.sub (hs7 _) (.refl ⟨by rw[hm],rfl⟩)
  ·have:j=ws.length:=by omega
   subst this;have hlt': ¬(ws.length:Int)<(ws.length:Int):=by omega
   rw[List.drop_length,isW] at hm;simp(disch:=omega)only[go_sem,e0,e9,e10,e11,hlt'];exact Pl.sub hs (.refl ⟨by rw[hm],rfl⟩)
def RdQ (r:Nat) (l:List Tok) (H:Ab) (v:DVal) (k:Nat) (e:DEnd) (H':Ab):Prop:=e= .ret v/\H'=upd H r (some (rdO l k))
def Bp1 (k:Nat):DVal:= .iface 231 (.agg [dI k])
theorem An2 (hG:GX G) (H:Ab) (ws:List (List UInt8)) (hr:H r=some (rdO l k)) (hl:l.length<=1000000) (hk:k<=900000) (hw:ws.length<=1000):Ae Tryz.prog G 167 [.optr r 0,dW ws] H (RdQ r l H (.bool (isW l k ws)) (if isW l k ws then k+ws.length else k)):=by
 refine Ac Tryz.func167 Tryz.call167 rfl (by kernel_rfl) ?_;simp(disch:=omega)only[go_sem];refine(Ut hG H ws hr hl hk hw).mono ?_;rintro _ H1 ⟨rfl,rfl⟩;cases h:isW l k ws with
 | false=>
  simp(disch:=omega)only[go_sem];exact Pl.refl ⟨rfl,(Co hr).symm⟩
 | true=>
  have hwj:IntKind.i64.wrap ((k:Int)+(ws.length:Int))=((k+ws.length:Nat):Int):=by rw[IntKind.wrap_i64];omega
  unfold rdO at hr;simp(disch:=omega)only[go_sem,hr,dW,hwj];exact Pl.refl ⟨rfl,rfl⟩
theorem Ri (G:Nat->DVal) (H:Ab) (hr:H r=some (rdO l k)):Ae Tryz.prog G 168 [.optr r 0] H (fun e H'=>e= .panic (Bp1 k)/\H'=H):=by
 unfold rdO at hr;refine Ac Tryz.func168 Tryz.call168 rfl (by kernel_rfl) ?_;simp(disch:=omega)only[go_sem,hr];exact Bu0.refl ⟨rfl,rfl⟩
theorem Sw (hG:GX G) (H:Ab) (q:Nat) (s:List UInt8) (hq:H q=none) (hr:H r=some (rdO l k)) (hl:l.length<=1000000) (hk:k<=900000):Ae Tryz.prog G 167 [.optr r 0, .oslice 1 q 0 1 1] (upd H q (some (.cells [.str s] 9))) (RdQ r l H (.bool (isW l k [s])) (if isW l k [s] then k+1 else k)):=by
 refine Ae.fzA q hq ?_;have n:r≠q:=Ad hq hr;simp only[fzs,fz,if_neg n,if_pos];exact An2 hG H [s] hr hl hk (by simp)
theorem Dw7 (hG:GX G) (H:Ab) (q:Nat) (s t:List UInt8) (hq:H q=none) (hr:H r=some (rdO l k)) (hl:l.length<=1000000) (hk:k<=900000):Ae Tryz.prog G 167 [.optr r 0, .oslice 1 q 0 2 2] (upd H q (some (.cells [.str s, .str t] 9))) (RdQ r l H (.bool (isW l k [s,t])) (if isW l k [s,t] then k+2 else k)):=by
 refine Ae.fzA q hq ?_;have n:r≠q:=Ad hq hr;simp only[fzs,fz,if_neg n,if_pos];exact An2 hG H [s,t] hr hl hk (by simp)
theorem is1 (hG:GX G) (H:Ab) (q:Nat) (s:List UInt8) (hq:H q=none) (hr:H r=some (rdO l k)) (hl:l.length<=1000000) (hk:k<=900000):Ae Tryz.prog G 172 [.optr r 0, .oslice 1 q 0 1 1] (upd H q (some (.cells [.str s] 9))) (Bo (.bool (isW l k [s])) H):=by
 refine Ae.fzA q hq ?_;have n:r≠q:=Ad hq hr;simp only[fzs,fz,if_neg n,if_pos];exact Ut hG H [s] hr hl hk (by simp)
theorem is2 (hG:GX G) (H:Ab) (q:Nat) (s t:List UInt8) (hq:H q=none) (hr:H r=some (rdO l k)) (hl:l.length<=1000000) (hk:k<=900000):Ae Tryz.prog G 172 [.optr r 0, .oslice 1 q 0 2 2] (upd H q (some (.cells [.str s, .str t] 9))) (Bo (.bool (isW l k [s,t])) H):=by
 refine Ae.fzA q hq ?_;have n:r≠q:=Ad hq hr;simp only[fzs,fz,if_neg n,if_pos];exact Ut hG H [s,t] hr hl hk (by simp)
def RdR (r:Nat) (l:List Tok) (H:Ab):Res DVal->DEnd->Ab->Prop
 | .bot,_,_=>False
 | .fail k,e,H'=>e= .panic (Bp1 k)/\H'=upd H r (some (rdO l k))
 | .ok v k,e,H'=>e= .ret v/\H'=upd H r (some (rdO l k))
theorem Gk (hG:GX G) (H:Ab) (s:List UInt8) (hr:H r=some (rdO l k)) (hl:l.length<=1000000) (hk:k<=900000):Ae Tryz.prog G 176 [.optr r 0, .str s] H (RdR r l H (Cx l s k fun k=> .ok (.tuple []) k)):=by
 refine Ac Tryz.func176 Tryz.call176 rfl (by kernel_rfl) ?_;simp(disch:=omega)only[go_sem];intro q hq;dsimp only at hq;simp(disch:=omega)only[go_sem];refine(Sw hG H q s hq hr hl hk).mono ?_;rintro _ H1 ⟨rfl,rfl⟩;rw[Cx];cases h:isW l k [s] with
 | true=>
  simp(disch:=omega)only[go_sem];exact Pl.refl ⟨rfl,rfl⟩
 | false=>
  simp(disch:=omega)only[go_sem];refine(Ri G _ (Aa _ _ _)).mono ?_;rintro _ H2 ⟨rfl,rfl⟩;simp(disch:=omega)only[go_sem];exact Bu0.refl ⟨rfl,rfl⟩
theorem Ws (G:Nat->DVal) (H:Ab) (kd:Int) (hr:H r=some (rdO l k)) (hl:l.length<=1000000) (hk:k<=900000):Ae Tryz.prog G 174 [.optr r 0, .int .u8 kd] H (RdR r l H (if(tk l k).kind=kd then .ok (.agg (Dw (tk l k))) (k+1) else .fail k)):=by
 refine Ac Tryz.func174 Tryz.call174 rfl (by kernel_rfl) ?_;simp(disch:=omega)only[go_sem];intro r4 hr4;dsimp only at hr4;have n4:r≠r4:=Ad hr4 hr;have hr':=hr;have hw:IntKind.i64.wrap ((k:Int)+1)=((k+1:Nat):Int):=by rw[IntKind.wrap_i64];omega
 unfold rdO at hr';simp(disch:=omega)only[go_sem];refine(Qo G _ (l:=l) (k:=k) (by rw[Aj _ _ _ _ n4];exact hr) hl (by omega)).mono ?_;rintro _ H1 ⟨rfl,rfl⟩;obtain⟨t,ht⟩: ∃t,t=tk l k:=⟨_,rfl⟩;rw[<-ht];simp(disch:=omega)only[go_sem];intro r5 hr5;dsimp only at hr5;obtain⟨m1,m2,hr5'⟩:=Dk7.1 hr5;have n5:r≠r5:=Ad hr5' hr;have q4:=n4.symm;have q5:=n5.symm;by_cases c:t.kind=kd
 ·rw[if_pos c];simp(disch:=omega)only[go_sem,m1,m2,n4,n5,q4,q5,Dw,hr',hw,c];exact RAt.fin (k:=k+1) ((((RAt.refl hr).new hr4 _).new hr5 _).set (k+1) |>.own hr4 q4 _) ⟨rfl,rfl⟩
 ·rw[if_neg c];simp(disch:=omega)only[go_sem,m1,m2,n4,n5,q4,q5,Dw,hr',c];have ha:=((RAt.refl hr).new hr4 (some (.cells [.int .u8 0, .int .i64 0, .str [], .int .i64 0] 31))).new hr5 (some (.cells [.int .u8 t.kind,dI t.line, .str t.text,dI t.n] 31));refine(Ri G _ ha.get).mono ?_;rintro _ H2 ⟨rfl,rfl⟩;simp(disch:=omega)only[go_sem];exact RAt.finP ha ⟨rfl,rfl⟩
end
end Go.Dl

-- Chapter 3: the operators' words; operators (printed by gen_uh.py).
namespace Go.Dl
open Go Go.Proofs
set_option maxRecDepth 100000
section
variable {G:Nat->DVal} {H0 H:Ab} {r k:Nat} {l:List Tok}
def Jf:DVal:= .vslice (Cs4.map dW) 22
theorem Nj {x y:List DVal} (hx:x.length=9) (hy:y.length=9):
  (if 9<=(Bj 2 [DVal.int .u8 0,DVal.int .u8 0,DVal.int .i64 0,DVal.str [],DVal.nilSlice,DVal.nilSlice,DVal.int .i64 0,DVal.int .i64 0,DVal.int .i64 0]).length then
   if 18<=(x++List.drop 9 (Bj 2 [DVal.int .u8 0,DVal.int .u8 0,DVal.int .i64 0,DVal.str [],DVal.nilSlice,DVal.nilSlice,DVal.int .i64 0,DVal.int .i64 0,DVal.int .i64 0])).length then
    some (List.take 9 (x++List.drop 9 (Bj 2 [DVal.int .u8 0,DVal.int .u8 0,DVal.int .i64 0,DVal.str [],DVal.nilSlice,DVal.nilSlice,DVal.int .i64 0,DVal.int .i64 0,DVal.int .i64 0]))++y++
     List.drop 18 (x++List.drop 9 (Bj 2 [DVal.int .u8 0,DVal.int .u8 0,DVal.int .i64 0,DVal.str [],DVal.nilSlice,DVal.nilSlice,DVal.int .i64 0,DVal.int .i64 0,DVal.int .i64 0])))
   else none
  else none)=some (x++y):=by
 have e: ∀u:List DVal,Bj 2 u=u++u:=fun u=>by simp [Bj]
 rw[e];rw[if_pos (by simp),if_pos (by simp [hx]),List.take_left' hx,List.drop_eq_nil_of_le (by simp [hx]),jH]
set_option maxHeartbeats 4000000 in
theorem Gw (G:Nat->DVal) (H:Ab):Ae Tryz.prog G 248 [] H (Bo Jf H):=by
 refine Ac Tryz.func248 Tryz.call248 rfl (by kernel_rfl) ?_;simp(disch:=omega)only[go_sem];intro b1 hb1;dsimp only at hb1;obtain⟨K1,hK1⟩: ∃K,K=upd H b1 (some (.cells [.str [43]] 9)):=⟨_,rfl⟩;rw[<-hK1];simp(disch:=omega)only[go_sem];intro b2 hb2;dsimp only at hb2;obtain⟨K2,hK2⟩: ∃K,K=upd K1 b2 (some (.cells [.str [45]] 9)):=⟨_,rfl⟩;rw[<-hK2];simp(disch:=omega)only[go_sem];intro b3 hb3;dsimp only at hb3;obtain⟨K3,hK3⟩: ∃K,K=upd K2 b3 (some (.cells [.str [42]] 9)):=⟨_,rfl⟩;rw[<-hK3];simp(disch:=omega)only[go_sem];intro b4 hb4;dsimp only at hb4;obtain⟨K4,hK4⟩: ∃K,K=upd K3 b4 (some (.cells [.str [47]] 9)):=⟨_,rfl⟩;rw[<-hK4];simp(disch:=omega)only[go_sem];intro b5 hb5;dsimp only at hb5;obtain⟨K5,hK5⟩: ∃K,K=upd K4 b5 (some (.cells [.str [109,111,100]] 9)):=⟨_,rfl⟩;rw[<-hK5];simp(disch:=omega)only[go_sem];intro b6 hb6;dsimp only at hb6;obtain⟨K6,hK6⟩: ∃K,K=upd K5 b6 (some (.cells [.str [114,101,109]] 9)):=⟨_,rfl⟩;rw[<-hK6];simp(disch:=omega)only[go_sem];intro b7 hb7;dsimp only at hb7;obtain⟨K7,hK7⟩: ∃K,K=upd K6 b7 (some (.cells [.str [61]] 9)):=⟨_,rfl⟩;rw[<-hK7];simp(disch:=omega)only[go_sem];intro b8 hb8;dsimp only at hb8;obtain⟨K8,hK8⟩: ∃K,K=upd K7 b8 (some (.cells [.str [47,61]] 9)):=⟨_,rfl⟩;rw[<-hK8];simp(disch:=omega)only[go_sem];intro b9 hb9;dsimp only at hb9;obtain⟨K9,hK9⟩: ∃K,K=upd K8 b9 (some (.cells [.str [60]] 9)):=⟨_,rfl⟩;rw[<-hK9];simp(disch:=omega)only[go_sem];intro b10 hb10;dsimp only at hb10;obtain⟨K10,hK10⟩: ∃K,K=upd K9 b10 (some (.cells [.str [60,61]] 9)):=⟨_,rfl⟩;rw[<-hK10];simp(disch:=omega)only[go_sem];intro b11 hb11;dsimp only at hb11;obtain⟨K11,hK11⟩: ∃K,K=upd K10 b11 (some (.cells [.str [62]] 9)):=⟨_,rfl⟩;rw[<-hK11];simp(disch:=omega)only[go_sem];intro b12 hb12;dsimp only at hb12;obtain⟨K12,hK12⟩: ∃K,K=upd K11 b12 (some (.cells [.str [62,61]] 9)):=⟨_,rfl⟩;rw[<-hK12];simp(disch:=omega)only[go_sem];intro b13 hb13;dsimp only at hb13;obtain⟨K13,hK13⟩: ∃K,K=upd K12 b13 (some (.cells [.str [97,110,100]] 9)):=⟨_,rfl⟩;rw[<-hK13];simp(disch:=omega)only[go_sem];intro b14 hb14;dsimp only at hb14;obtain⟨K14,hK14⟩: ∃K,K=upd K13 b14 (some (.cells [.str [111,114]] 9)):=⟨_,rfl⟩;rw[<-hK14];simp(disch:=omega)only[go_sem];intro b15 hb15;dsimp only at hb15;obtain⟨K15,hK15⟩: ∃K,K=upd K14 b15 (some (.cells [.str [120,111,114]] 9)):=⟨_,rfl⟩;rw[<-hK15];simp(disch:=omega)only[go_sem];intro b16 hb16;dsimp only at hb16;obtain⟨K16,hK16⟩: ∃K,K=upd K15 b16 (some (.cells [.str [97,110,100], .str [116,104,101,110]] 9)):=⟨_,rfl⟩;rw[<-hK16];simp(disch:=omega)only[go_sem];intro b17 hb17;dsimp only at hb17;obtain⟨K17,hK17⟩: ∃K,K=upd K16 b17 (some (.cells [.str [111,114], .str [101,108,115,101]] 9)):=⟨_,rfl⟩;rw[<-hK17];simp(disch:=omega)only[go_sem];intro b18 hb18;dsimp only at hb18;obtain⟨K18,hK18⟩: ∃K,K=upd K17 b18 (some (.cells [.str [43]] 9)):=⟨_,rfl⟩;rw[<-hK18];simp(disch:=omega)only[go_sem];intro b19 hb19;dsimp only at hb19;obtain⟨K19,hK19⟩: ∃K,K=upd K18 b19 (some (.cells [.str [45]] 9)):=⟨_,rfl⟩;rw[<-hK19];simp(disch:=omega)only[go_sem];intro b20 hb20;dsimp only at hb20;obtain⟨K20,hK20⟩: ∃K,K=upd K19 b20 (some (.cells [.str [97,98,115]] 9)):=⟨_,rfl⟩;rw[<-hK20];simp(disch:=omega)only[go_sem];intro b21 hb21;dsimp only at hb21;obtain⟨K21,hK21⟩: ∃K,K=upd K20 b21 (some (.cells [.str [110,111,116]] 9)):=⟨_,rfl⟩;rw[<-hK21];simp(disch:=omega)only[go_sem];intro b22 hb22;dsimp only at hb22;obtain⟨K22,hK22⟩: ∃K,K=upd K21 b22 (some (.cells [.nilSlice, .oslice 1 b1 0 1 1, .oslice 1 b2 0 1 1, .oslice 1 b3 0 1 1, .oslice 1 b4 0 1 1, .oslice 1 b5 0 1 1, .oslice 1 b6 0 1 1, .oslice 1 b7 0 1 1, .oslice 1 b8 0 1 1, .oslice 1 b9 0 1 1, .oslice 1 b10 0 1 1, .oslice 1 b11 0 1 1, .oslice 1 b12 0 1 1, .oslice 1 b13 0 1 1, .oslice 1 b14 0 1 1, .oslice 1 b15 0 1 1, .oslice 1 b16 0 2 2, .oslice 1 b17 0 2 2, .oslice 1 b18 0 1 1, .oslice 1 b19 0 1 1, .oslice 1 b20 0 1 1, .oslice 1 b21 0 1 1] 54)):=⟨_,rfl⟩;rw[<-hK22];have s1:Sub H K1:=by rw[hK1];exact(Sub.refl _).new hb1 _
 have s2:Sub K1 K2:=by rw[hK2];exact(Sub.refl _).new hb2 _
 have s3:Sub K2 K3:=by rw[hK3];exact(Sub.refl _).new hb3 _
 have s4:Sub K3 K4:=by rw[hK4];exact(Sub.refl _).new hb4 _
 have s5:Sub K4 K5:=by rw[hK5];exact(Sub.refl _).new hb5 _
 have s6:Sub K5 K6:=by rw[hK6];exact(Sub.refl _).new hb6 _
 have s7:Sub K6 K7:=by rw[hK7];exact(Sub.refl _).new hb7 _
 have s8:Sub K7 K8:=by rw[hK8];exact(Sub.refl _).new hb8 _
 have s9:Sub K8 K9:=by rw[hK9];exact(Sub.refl _).new hb9 _
 have s10:Sub K9 K10:=by rw[hK10];exact(Sub.refl _).new hb10 _
 have s11:Sub K10 K11:=by rw[hK11];exact(Sub.refl _).new hb11 _
 have s12:Sub K11 K12:=by rw[hK12];exact(Sub.refl _).new hb12 _
 have s13:Sub K12 K13:=by rw[hK13];exact(Sub.refl _).new hb13 _
 have s14:Sub K13 K14:=by rw[hK14];exact(Sub.refl _).new hb14 _
 have s15:Sub K14 K15:=by rw[hK15];exact(Sub.refl _).new hb15 _
 have s16:Sub K15 K16:=by rw[hK16];exact(Sub.refl _).new hb16 _
 have s17:Sub K16 K17:=by rw[hK17];exact(Sub.refl _).new hb17 _
 have s18:Sub K17 K18:=by rw[hK18];exact(Sub.refl _).new hb18 _
 have s19:Sub K18 K19:=by rw[hK19];exact(Sub.refl _).new hb19 _
 have s20:Sub K19 K20:=by rw[hK20];exact(Sub.refl _).new hb20 _
 have s21:Sub K20 K21:=by rw[hK21];exact(Sub.refl _).new hb21 _
 have s22:Sub K21 K22:=by rw[hK22];exact(Sub.refl _).new hb22 _
 have t22:Sub K22 K22:=Sub.refl _;have t21:Sub K21 K22:=s22.trans t22;have t20:Sub K20 K22:=s21.trans t21;have t19:Sub K19 K22:=s20.trans t20;have t18:Sub K18 K22:=s19.trans t19;have t17:Sub K17 K22:=s18.trans t18;have t16:Sub K16 K22:=s17.trans t17;have t15:Sub K15 K22:=s16.trans t16;have t14:Sub K14 K22:=s15.trans t15;have t13:Sub K13 K22:=s14.trans t14;have t12:Sub K12 K22:=s13.trans t13;have t11:Sub K11 K22:=s12.trans t12;have t10:Sub K10 K22:=s11.trans t11;have t9:Sub K9 K22:=s10.trans t10;have t8:Sub K8 K22:=s9.trans t9;have t7:Sub K7 K22:=s8.trans t8;have t6:Sub K6 K22:=s7.trans t7;have t5:Sub K5 K22:=s6.trans t6;have t4:Sub K4 K22:=s5.trans t5;have t3:Sub K3 K22:=s4.trans t4;have t2:Sub K2 K22:=s3.trans t3;have t1:Sub K1 K22:=s2.trans t2;have t0:Sub H K22:=s1.trans t1;have u1:Sub H H:=Sub.refl H;have u2:Sub H K1:=u1.trans s1;have u3:Sub H K2:=u2.trans s2;have u4:Sub H K3:=u3.trans s3;have u5:Sub H K4:=u4.trans s4;have u6:Sub H K5:=u5.trans s5;have u7:Sub H K6:=u6.trans s6;have u8:Sub H K7:=u7.trans s7;have u9:Sub H K8:=u8.trans s8;have u10:Sub H K9:=u9.trans s9;have u11:Sub H K10:=u10.trans s10;have u12:Sub H K11:=u11.trans s11;have u13:Sub H K12:=u12.trans s12;have u14:Sub H K13:=u13.trans s13;have u15:Sub H K14:=u14.trans s14;have u16:Sub H K15:=u15.trans s15;have u17:Sub H K16:=u16.trans s16;have u18:Sub H K17:=u17.trans s17;have u19:Sub H K18:=u18.trans s18;have u20:Sub H K19:=u19.trans s19;have u21:Sub H K20:=u20.trans s20;have u22:Sub H K21:=u21.trans s21;have hsT:Sub H K22:=u22.trans s22;have c1:K22 b1=some (.cells [.str [43]] 9):=t1 _ _ (by rw[hK1];exact Aa _ _ _);have c2:K22 b2=some (.cells [.str [45]] 9):=t2 _ _ (by rw[hK2];exact Aa _ _ _);have c3:K22 b3=some (.cells [.str [42]] 9):=t3 _ _ (by rw[hK3];exact Aa _ _ _);have c4:K22 b4=some (.cells [.str [47]] 9):=t4 _ _ (by rw[hK4];exact Aa _ _ _);have c5:K22 b5=some (.cells [.str [109,111,100]] 9):=t5 _ _ (by rw[hK5];exact Aa _ _ _);have c6:K22 b6=some (.cells [.str [114,101,109]] 9):=t6 _ _ (by rw[hK6];exact Aa _ _ _);have c7:K22 b7=some (.cells [.str [61]] 9):=t7 _ _ (by rw[hK7];exact Aa _ _ _);have c8:K22 b8=some (.cells [.str [47,61]] 9):=t8 _ _ (by rw[hK8];exact Aa _ _ _);have c9:K22 b9=some (.cells [.str [60]] 9):=t9 _ _ (by rw[hK9];exact Aa _ _ _);have c10:K22 b10=some (.cells [.str [60,61]] 9):=t10 _ _ (by rw[hK10];exact Aa _ _ _);have c11:K22 b11=some (.cells [.str [62]] 9):=t11 _ _ (by rw[hK11];exact Aa _ _ _);have c12:K22 b12=some (.cells [.str [62,61]] 9):=t12 _ _ (by rw[hK12];exact Aa _ _ _);have c13:K22 b13=some (.cells [.str [97,110,100]] 9):=t13 _ _ (by rw[hK13];exact Aa _ _ _);have c14:K22 b14=some (.cells [.str [111,114]] 9):=t14 _ _ (by rw[hK14];exact Aa _ _ _);have c15:K22 b15=some (.cells [.str [120,111,114]] 9):=t15 _ _ (by rw[hK15];exact Aa _ _ _);have c16:K22 b16=some (.cells [.str [97,110,100], .str [116,104,101,110]] 9):=t16 _ _ (by rw[hK16];exact Aa _ _ _);have c17:K22 b17=some (.cells [.str [111,114], .str [101,108,115,101]] 9):=t17 _ _ (by rw[hK17];exact Aa _ _ _);have c18:K22 b18=some (.cells [.str [43]] 9):=t18 _ _ (by rw[hK18];exact Aa _ _ _);have c19:K22 b19=some (.cells [.str [45]] 9):=t19 _ _ (by rw[hK19];exact Aa _ _ _);have c20:K22 b20=some (.cells [.str [97,98,115]] 9):=t20 _ _ (by rw[hK20];exact Aa _ _ _);have c21:K22 b21=some (.cells [.str [110,111,116]] 9):=t21 _ _ (by rw[hK21];exact Aa _ _ _);have c22:K22 b22=some (.cells [.nilSlice, .oslice 1 b1 0 1 1, .oslice 1 b2 0 1 1, .oslice 1 b3 0 1 1, .oslice 1 b4 0 1 1, .oslice 1 b5 0 1 1, .oslice 1 b6 0 1 1, .oslice 1 b7 0 1 1, .oslice 1 b8 0 1 1, .oslice 1 b9 0 1 1, .oslice 1 b10 0 1 1, .oslice 1 b11 0 1 1, .oslice 1 b12 0 1 1, .oslice 1 b13 0 1 1, .oslice 1 b14 0 1 1, .oslice 1 b15 0 1 1, .oslice 1 b16 0 2 2, .oslice 1 b17 0 2 2, .oslice 1 b18 0 1 1, .oslice 1 b19 0 1 1, .oslice 1 b20 0 1 1, .oslice 1 b21 0 1 1] 54):=t22 _ _ (by rw[hK22];exact Aa _ _ _);have seenT:Fc K22 (.oslice 1 b22 0 22 22) H (.vslice (Cs4.map dW) 22):=Fc.cells (cs':=Cs4.map dW) hsT (u22.lo hb22) c22 rfl (.cons (.nil hsT) (.cons (Fc.block hsT (u1.lo hb1) c1 rfl) (.cons (Fc.block hsT (u2.lo hb2) c2 rfl) (.cons (Fc.block hsT (u3.lo hb3) c3 rfl) (.cons (Fc.block hsT (u4.lo hb4) c4 rfl) (.cons (Fc.block hsT (u5.lo hb5) c5 rfl) (.cons (Fc.block hsT (u6.lo hb6) c6 rfl) (.cons (Fc.block hsT (u7.lo hb7) c7 rfl) (.cons (Fc.block hsT (u8.lo hb8) c8 rfl) (.cons (Fc.block hsT (u9.lo hb9) c9 rfl) (.cons (Fc.block hsT (u10.lo hb10) c10 rfl) (.cons (Fc.block hsT (u11.lo hb11) c11 rfl) (.cons (Fc.block hsT (u12.lo hb12) c12 rfl) (.cons (Fc.block hsT (u13.lo hb13) c13 rfl) (.cons (Fc.block hsT (u14.lo hb14) c14 rfl) (.cons (Fc.block hsT (u15.lo hb15) c15 rfl) (.cons (Fc.block hsT (u16.lo hb16) c16 rfl) (.cons (Fc.block hsT (u17.lo hb17) c17 rfl) (.cons (Fc.block hsT (u18.lo hb18) c18 rfl) (.cons (Fc.block hsT (u19.lo hb19) c19 rfl) (.cons (Fc.block hsT (u20.lo hb20) c20 rfl) (.cons (Fc.block hsT (u21.lo hb21) c21 rfl) (.nil)))))))))))))))))))))));simp(disch:=omega)only[go_sem];exact Fc.fin hsT seenT ⟨rfl,rfl⟩
theorem Wt (G:Nat->DVal) (H:Ab) (o:Nat) (a b:Ex):Ae Tryz.prog G 166 [.int .u8 o, .agg (dEx a), .agg (dEx b)] H (Bo (.agg (dEx (both o a b))) H):=by
 have hea:both o a b= .mk 12 o 0 [] [a,b] [] a.line 0 0:=rfl;rw[hea];have hab: [a,b].flatMap dEx=dEx a++dEx b:=by simp
 have hla:(dEx a)[6]? =some (dI a.line):=by cases a;rfl
 have hlx:(dEx a).length=9:=Ai a;have hly:(dEx b).length=9:=Ai b;refine Ac Tryz.func166 Tryz.call166 rfl (by kernel_rfl) ?_;simp(disch:=omega)only[go_sem,DVal.cells];intro r4 hr4;dsimp only at hr4;simp(disch:=omega)only[go_sem,DVal.cells];intro r5 hr5;dsimp only at hr5;obtain⟨m1,m2,hr5'⟩:=Dk7.1 hr5;simp(disch:=omega)only[go_sem];intro r6 hr6;dsimp only at hr6;obtain⟨m3,m4,hr6a⟩:=Dk7.1 hr6;obtain⟨m5,m6,hr6'⟩:=Dk7.1 hr6a;simp(disch:=omega)only[go_sem,m1,m2,m3,m4,m5,m6];rw[Nj hlx hly];simp(disch:=omega)only[go_sem,m1,m2,m3,m4,m5,m6];intro r7 hr7;dsimp only at hr7;obtain⟨p1,p2,hr7a⟩:=Dk7.1 hr7;obtain⟨p3,p4,hr7b⟩:=Dk7.1 hr7a;obtain⟨p5,p6,hr7'⟩:=Dk7.1 hr7b;simp(disch:=omega)only[go_sem,m1,m2,m3,m4,m5,m6,p1,p2,p3,p4,p5,p6,hla];have hs:=(((((Sub.refl H).new hr4 (some (.cells (dEx a) 27))).new hr5 (some (.cells (dEx b) 27))).new hr6 (some (.cells [.int .u8 0, .int .u8 0, .int .i64 0, .str [], .nilSlice, .nilSlice, .int .i64 0, .int .i64 0, .int .i64 0] 27))).new hr7 (some (.cells (dEx a++dEx b) 27))).up hr6' (some (.cells [.int .u8 12, .int .u8 o, .int .i64 0, .str [], .oslice 9 r7 0 2 2, .nilSlice, .int .i64 a.line, .int .i64 0, .int .i64 0] 27));refine Fc.fin hs (Fc.agg (Fc.ex (l:= [a,b]) hs (Fc.block (e:=27) hs hr7' ?_ ?_) (.as0 hs))) ⟨rfl,rfl⟩
 ·rw[hab];simp [upd,p1,p2]
 ·rw[hab,jC,hlx,hly]
end
end Go.Dl

-- Chapter 3: the package's reader: operators.
namespace Go.Dl
open Go Go.Proofs
set_option maxRecDepth 100000
def Yt:Nat->Nat->List Nat
 | _,0=> []
 | h,n+1=>h::Yt (h-1) n
theorem Sx {o:Nat} (h:o<22):(Cs4.map dW)[o]? =some (dW (Aq o)):=by
 rw[List.getElem?_map,Aq,List.getD,List.getElem?_eq_getElem (by exact h)];rfl
theorem Bp2 (o:Nat):(Aq o).length<=2:=by
 rw[Aq,List.getD];by_cases h:o<22
 ·have: ∀i:Fin 22,((Cs4[i.1]?).getD []).length<=2:=by decide
  exact this ⟨o,h⟩
 ·rw[List.getElem?_eq_none (by have:Cs4.length=22:=rfl;omega)];decide
section
variable {G:Nat->DVal} {H0 H:Ab} {r k:Nat} {l:List Tok}
theorem Ct7 (want:Nat) (o:Nat) (m:List Nat):opF l want k (o::m)=if isW l k (Aq o) then(if want≠0/\o≠want then(0,k) else(o,k+(Aq o).length)) else opF l want k m:=rfl
set_option maxHeartbeats 4000000 in
theorem Li (hG:GX G) (H:Ab) (lo hi want:Nat) (h1:1<=lo) (h2:lo<=hi) (h3:hi<=21) (hr:H r=some (rdO l k)) (hl:l.length<=1000000) (hk:k<=900000):
  Ae Tryz.prog G 165 [.optr r 0, .int .u8 lo, .int .u8 hi, .int .u8 want] H (RdQ r l H (.int .u8 (opF l want k (Yt hi (hi+1-lo))).1) (opF l want k (Yt hi (hi+1-lo))).2):=by
 have hr':=hr;unfold rdO at hr';refine Ac Tryz.func165 Tryz.call165 rfl (by kernel_rfl) ?_;simp(disch:=omega)only[go_sem];refine(Gw G H).mono ?_;rintro _ H1 ⟨rfl,rfl⟩;simp(disch:=omega)only[go_sem];obtain⟨I,hI⟩: ∃I:Nat->(Nat->DVal)->Ab->Prop,∀j env heap,I j env heap↔(env 0= .optr r 0/\env 1= .int .u8 lo/\env 3= .int .u8 want/\env 9=Jf/\env 10= .int .u8 ((hi-j:Nat):Int)/\j<=hi+1-lo/\opF l want k (Yt hi (hi+1-lo))=opF l want k (Yt (hi-j) (hi+1-lo-j))/\heap=H1):=⟨_,fun _ _ _=>Iff.rfl⟩;refine Bt4.run I (fun j=>hi+1-lo-j) 0 ((hI _ _ _).2 ?_) ?_
 ·simp(disch:=omega)only[go_sem];(repeat' apply And.intro)<;>(try first | rfl | assumption | omega)
 ·intro j env heap hi';obtain⟨e0,e1,e3,e9,e10,hj,hm,rfl⟩:=(hI _ _ _).1 hi';by_cases hlt:j<hi+1-lo
  ·obtain⟨o,ho⟩: ∃o,o=hi-j:=⟨_,rfl⟩;have hn:hi+1-lo-j=(hi+1-lo-(j+1))+1:=by omega
   rw[hn,Yt,Ct7,<-ho] at hm;rw[<-ho] at e10;have hlt':(lo:Int)<=(o:Int):=by omega
   have hwj:IntKind.u8.wrap ((o:Int)-1)=((hi-(j+1):Nat):Int):=by
    rw[IntKind.wrap_u8];omega
   have hget:=Sx (o:=o) (by omega);have hwl:=Bp2 o;obtain⟨ws,hws⟩: ∃ws,ws=Aq o:=⟨_,rfl⟩;rw[<-hws] at hget hwl hm;have hml:(Cs4.map dW).length=22:=rfl;obtain⟨W,hW⟩: ∃W,W=Cs4.map dW:=⟨_,rfl⟩;rw[<-hW] at hget hml;simp(disch:=omega)only[go_sem,e0,e1,e3,e9,e10,hlt',Jf,<-hW,hget,hml,jD];refine(Ut hG heap ws hr hl hk (by omega)).mono ?_;rintro _ H2 ⟨rfl,rfl⟩;cases hb:isW l k ws with
   | false=>
    rw[hb] at hm;simp(disch:=omega)only[go_sem,e0,e1,e3,e9,e10];refine⟨j+1,_,Lq.refl _,(hI _ _ _).2 ?_,by omega⟩;simp(disch:=omega)only[go_sem,e0,e1,e3,e9,e10,hwj];(repeat' apply And.intro)<;>(try first | rfl | assumption | omega);rw[hm,if_neg (by simp),Nat.sub_sub,ho];rfl
   | true=>
    rw[hb,if_pos rfl] at hm;have hwk:IntKind.i64.wrap ((k:Int)+(ws.length:Int))=((k+ws.length:Nat):Int):=by rw[IntKind.wrap_i64];omega
    by_cases c1:want=0
    ·have c1':(want:Int)=0:=by omega
     rw[if_neg (by omega)] at hm;simp(disch:=omega)only[go_sem,e0,e1,e3,e9,e10,c1',Jf,<-hW,hget,hml,jD];refine Am (by kernel_rfl) pL4 (by kernel_rfl) ?_;simp(disch:=omega)only[go_sem,e0,e1,e3,e9,e10,Jf,<-hW,hget,hml,jD,hr',hwk,dW];rw[hm];exact Pl.refl ⟨rfl,rfl⟩
    ·have c1': ¬(want:Int)=0:=by omega
     by_cases c2:o=want
     ·have c2':(o:Int)=(want:Int):=by omega
      rw[if_neg (by omega)] at hm;simp(disch:=omega)only[go_sem,e0,e1,e3,e9,e10,c1',c2',Jf,<-hW,hget,hml,jD];refine Am (by kernel_rfl) pL4 (by kernel_rfl) ?_;simp(disch:=omega)only[go_sem,e0,e1,e3,e9,e10,Jf,<-hW,hget,hml,jD,hr',hwk,dW];rw[hm];exact Pl.refl ⟨rfl,rfl⟩
     ·have c2': ¬(o:Int)=(want:Int):=by omega
      rw[if_pos ⟨c1,c2⟩] at hm;simp(disch:=omega)only[go_sem,e0,e1,e3,e9,e10,c1',c2'];rw[hm];exact Pl.refl ⟨rfl,(Co hr).symm⟩
  ·have:j=hi+1-lo:=by omega
   subst this;have ho:hi-(hi+1-lo)=lo-1:=by omega
   have hlt': ¬(lo:Int)<=((lo-1:Nat):Int):=by omega
   rw[Nat.sub_self,ho,Yt,opF] at hm;rw[ho] at e10;simp(disch:=omega)only[go_sem,e0,e1,e3,e9,e10,hlt'];rw[hm];exact Pl.refl ⟨rfl,(Co hr).symm⟩
end
end Go.Dl

-- Chapter 3: the package's reader: chains of operands.
namespace Go.Dl
open Go Go.Proofs
set_option maxRecDepth 100000
def Res.mp {α:Type} (f:α->DVal):Res α->Res DVal
 | .bot=> .bot
 | .fail k=> .fail k
 | .ok x k=> .ok (f x) k
def dE (e:Ex):DVal:= .agg (dEx e)
section
variable {G:Nat->DVal} {H0 H:Ab} {r k:Nat} {l:List Tok}
def RdC (P:Program) (G:Nat->DVal) (l:List Tok) (f:FuncId) (r:Nat) (res:Nat->Res DVal):Prop:=
 ∀H k,H r=some (rdO l k)->k<=l.length->res k≠ .bot->Ae P G f [.optr r 0] H (RdR r l H (res k))
set_option maxHeartbeats 4000000 in
theorem Ae3 (hG:GX G) (g:FuncId) (T:Nat->Nat->Res Ex) (L:Nat->Ex->Nat->Res Ex) (lo hi:Nat) (h1:1<=lo) (h2:lo<=hi) (h3:hi<=21) (hl:l.length<=800000)
  (hL0: ∀x k,L 0 x k= .bot) (hL: ∀m x k,L (m+1) x k=if(opF l 0 k (Yt hi (hi+1-lo))).1=0 then .ok x k else(T m (opF l 0 k (Yt hi (hi+1-lo))).2).then fun y k'=>L m (both (opF l 0 k (Yt hi (hi+1-lo))).1 x y) k')
  (hT: ∀m k,k<=l.length->Adv l (k+1) (T m k)) (hos: ∀o∈Yt hi (hi+1-lo),o<22/\o≠0)
  (n:Nat) (hg: ∀m<n,RdC Tryz.prog G l g r fun k=>(T m k).mp dE) (H:Ab) (x:Ex) (k:Nat) (hr:H r=some (rdO l k)) (hk:k<=l.length) (hn:L n x k≠ .bot):
  Ae Tryz.prog G 170 [.optr r 0, .agg (dEx x), .int .u8 lo, .int .u8 hi, .func (.func g) [.optr r 0] []] H (RdR r l H ((L n x k).mp dE)):=by
 refine Ac Tryz.func170 Tryz.call170 rfl (by kernel_rfl) ?_;simp(disch:=omega)only[go_sem,DVal.cells];intro r6 hr6;dsimp only at hr6;simp(disch:=omega)only[go_sem,DVal.cells];intro rx hrx;dsimp only at hrx;obtain⟨m1,m2,hrx'⟩:=Dk7.1 hrx;have n6:r≠r6:=Ad hr6 hr;have nx:r≠rx:=Ad hrx' hr;have ha:=((RAt.refl hr).new hr6 (some (.cells (dEx x) 27))).new hrx (some (.cells [.int .u8 0, .int .u8 0, .int .i64 0, .str [], .nilSlice, .nilSlice, .int .i64 0, .int .i64 0, .int .i64 0] 27));simp(disch:=omega)only[go_sem,m1,m2,n6,nx];refine(Li hG _ lo hi 0 h1 h2 h3 ha.get (by omega) (by omega)).mono ?_;rintro _ H1 ⟨rfl,rfl⟩;obtain⟨os,hosd⟩: ∃os,os=Yt hi (hi+1-lo):=⟨_,rfl⟩;rw[<-hosd] at hL hos⊢
 have q6:=n6.symm;have qx:=nx.symm;obtain⟨z,hz⟩: ∃z,z=(some (.cells [.int .u8 0, .int .u8 0, .int .i64 0, .str [], .nilSlice, .nilSlice, .int .i64 0, .int .i64 0, .int .i64 0] 27):Option DObj):=⟨_,rfl⟩;rw[<-hz] at ha;obtain⟨n',rfl⟩: ∃n',n=n'+1:=by
  cases n with
  | zero=>exact absurd (hL0 _ _) hn
  | succ n'=>exact⟨n',rfl⟩
 simp(disch:=omega)only[go_sem,m1,m2,n6,nx];obtain⟨I,hI⟩: ∃I:Nat×Ex×Nat->(Nat->DVal)->Ab->Prop,∀s env heap,I s env heap↔(env 0= .optr r 0/\env 2= .int .u8 lo/\env 3= .int .u8 hi/\env 4= .func (.func g) [.optr r 0] []/\env 6= .optr r6 0/\env 10= .optr rx 0/\env 11= .int .u8 (opF l 0 s.2.2 os).1/\s.2.2<=l.length/\s.1<=n'/\L (s.1+1) s.2.1 s.2.2=L (n'+1) x k/\RAt r l (opF l 0 s.2.2 os).2 H heap/\heap r6=some (.cells (dEx s.2.1) 27)/\heap rx=z):=⟨_,fun _ _ _=>Iff.rfl⟩;refine Bt4.run I (fun s=>s.1) (n',x,k) ((hI _ _ _).2 ?_) ?_
 ·simp(disch:=omega)only[go_sem,<-hz,m1,m2,n6,nx,q6,qx];(repeat' apply And.intro)<;>(try first | rfl | assumption | omega);exact ha.set _
 ·rintro⟨m,y,k1⟩ env heap hi';obtain⟨e0,e2,e3,e4,e6,e10,e11,hk1,hm,hLm,hat,g6,gx⟩:=(hI _ _ _).1 hi';dsimp only at e11 hk1 hm hLm hat g6;rw[hL] at hLm;have hadv:=Cl (want:=0) (os:=os) (k:=k1) (l:=l) hos hk1;obtain⟨o,ho⟩: ∃o,o=(opF l 0 k1 os).1:=⟨_,rfl⟩;obtain⟨k2,hk2⟩: ∃k2,k2=(opF l 0 k1 os).2:=⟨_,rfl⟩;rw[<-ho,<-hk2] at hLm hadv;rw[<-ho] at e11;rw[<-hk2] at hat;by_cases c:o=0
  ·have c':(o:Int)=0:=by omega
   rw[if_pos c] at hLm;rw[hz] at gx;have hk21:k2=k1:=hadv.1 c;rw[hk21] at hat;simp(disch:=omega)only[go_sem,e0,e2,e3,e4,e6,e10,e11,c',g6,gx];rw[<-hLm];exact RAt.fin (hat.own hrx' qx _) ⟨rfl,rfl⟩
  ·have c': ¬(o:Int)=0:=by omega
   rw[if_neg c] at hLm;simp(disch:=omega)only[go_sem,e0,e2,e3,e4,e6,e10,e11,c'];refine Am (by kernel_rfl) pL10 (by kernel_rfl) ?_;simp(disch:=omega)only[go_sem,e0,e2,e3,e4,e6,e10,e11,g6];have hTm:=hT m k2 (by omega);have hgm:=hg m (by omega) heap k2 hat.get (by omega);dsimp only at hgm;cases hTk:T m k2 with
   | bot=>rw[hTk] at hLm;exact absurd hLm.symm hn
   | fail k3=>
    rw[hTk] at hgm hLm;refine(hgm (by simp [Res.mp])).mono ?_;rintro e H2 ⟨rfl,rfl⟩;simp(disch:=omega)only[go_sem];rw[<-hLm];exact RAt.finP (hat.set k3) ⟨rfl,rfl⟩
   | ok y2 k3=>
    rw[hTk] at hgm hLm hTm;dsimp only[Res.then,Adv] at hLm hTm;refine(hgm (by simp [Res.mp])).mono ?_;rintro e H2 ⟨rfl,rfl⟩;simp(disch:=omega)only[go_sem,e0,e2,e3,e4,e6,e10,e11,dE,q6];refine(Wt G _ o y y2).mono ?_;rintro _ H3 ⟨rfl,rfl⟩;have hby:=Ai (both o y y2);have hb1:=Bh (both o y y2);have hly:=Ai y;have hdr:(dEx y).drop 9= []:=List.drop_eq_nil_of_le (by omega);simp(disch:=omega)only[go_sem,e0,e2,e3,e4,e6,e10,e11,g6,n6,q6,hby,hb1,hly,hdr];have hat3:RAt r l k3 H (upd (upd heap r (some (rdO l k3))) r6 (some (.cells (dEx (both o y y2)) 27))):=(hat.set k3).own hr6 q6 _;refine(Li hG _ lo hi 0 h1 h2 h3 hat3.get (by omega) (by omega)).mono ?_;rintro _ H4 ⟨rfl,rfl⟩;rw[<-hosd];obtain⟨m',rfl⟩: ∃m',m=m'+1:=by
     cases m with
     | zero=>rw[hL0] at hLm;exact absurd hLm.symm hn
     | succ m'=>exact⟨m',rfl⟩
    simp(disch:=omega)only[go_sem,e0,e2,e3,e4,e6,e10];refine⟨(m',both o y y2,k3),_,Lq.refl _,(hI _ _ _).2 ?_,by dsimp only;omega⟩;simp(disch:=omega)only[go_sem,e0,e2,e3,e4,e6,e10,q6,qx,n6,nx,g6,gx,m1,m2,hLm];(repeat' apply And.intro)<;>(try first | rfl | assumption | omega);exact hat3.set _
end
end Go.Dl

-- Chapter 3: the package's reader: factors, terms, simples.
namespace Go.Dl
open Go Go.Proofs
set_option maxRecDepth 100000
section
variable {G:Nat->DVal} {H0 H:Ab} {r k:Nat} {l:List Tok}
theorem Dh4 (hG:GX G) (H:Ab) (hr:H r=some (rdO l k)) (hl:l.length<=800000) (hk:k<=l.length):Ae Tryz.prog G 165 [.optr r 0, .int .u8 20, .int .u8 21, .int .u8 0] H (RdQ r l H (.int .u8 (opF l 0 k Gf).1) (opF l 0 k Gf).2):=
 Li hG H 20 21 0 (by decide) (by decide) (by decide) hr (by omega) (by omega)
theorem Ct8 (hG:GX G) (H:Ab) (hr:H r=some (rdO l k)) (hl:l.length<=800000) (hk:k<=l.length):Ae Tryz.prog G 165 [.optr r 0, .int .u8 18, .int .u8 19, .int .u8 0] H (RdQ r l H (.int .u8 (opF l 0 k Ek).1) (opF l 0 k Ek).2):=
 Li hG H 18 19 0 (by decide) (by decide) (by decide) hr (by omega) (by omega)
theorem Dh5 (hG:GX G) (H:Ab) (hr:H r=some (rdO l k)) (hl:l.length<=800000) (hk:k<=l.length):Ae Tryz.prog G 165 [.optr r 0, .int .u8 7, .int .u8 12, .int .u8 0] H (RdQ r l H (.int .u8 (opF l 0 k Il).1) (opF l 0 k Il).2):=
 Li hG H 7 12 0 (by decide) (by decide) (by decide) hr (by omega) (by omega)
theorem Bw0 (hG:GX G) (H:Ab) (want:Nat) (hr:H r=some (rdO l k)) (hl:l.length<=800000) (hk:k<=l.length):Ae Tryz.prog G 165 [.optr r 0, .int .u8 13, .int .u8 17, .int .u8 want] H (RdQ r l H (.int .u8 (opF l want k De).1) (opF l want k De).2):=
 Li hG H 13 17 want (by decide) (by decide) (by decide) hr (by omega) (by omega)
theorem Az {α:Type} {f:α->DVal} {x:Res α} (h:x≠ .bot):x.mp f≠ .bot:=by cases x<;>simp_all [Res.mp]
theorem Lj {x:List DVal} (hx:x.length=9):
  (if 9<=(Bj 1 [DVal.int .u8 0,DVal.int .u8 0,DVal.int .i64 0,DVal.str [],DVal.nilSlice,DVal.nilSlice,DVal.int .i64 0,DVal.int .i64 0,DVal.int .i64 0]).length then
   some (x++List.drop 9 (Bj 1 [DVal.int .u8 0,DVal.int .u8 0,DVal.int .i64 0,DVal.str [],DVal.nilSlice,DVal.nilSlice,DVal.int .i64 0,DVal.int .i64 0,DVal.int .i64 0]))
  else none)=some x:=by
 have e: ∀u:List DVal,Bj 1 u=u:=fun u=>by simp [Bj]
 rw[e,if_pos (by simp),List.drop_eq_nil_of_le (by simp),jH]
theorem Ct9 {x:List DVal} (hx:x.length=9) (z:List DVal) (hz:z.length=9):x++z.drop 9=x:=by rw[List.drop_eq_nil_of_le (by omega),jH]
theorem Af {H:Ab} {r x:Nat} {y:Option DObj} {o:DObj} (h:H x=some o) (hn:x≠r):upd H r y x=some o:=by rw[Aj _ _ _ _ hn];exact h
set_option maxHeartbeats 4000000 in
theorem Be5 (hG:GX G) (hl:l.length<=800000) (p:PS) (hA:p.Adv l) (hp:RdC Tryz.prog G l 64 r fun k=>(p.primary k).mp dE):RdC Tryz.prog G l 63 r fun k=>((Aw l p).factor k).mp dE:=by
 intro H k hr hk hn;dsimp only[Aw] at hn⊢
 have hadv:=Cl (want:=0) (os:=Gf) (k:=k) (l:=l) Dy7.2.2.2.2.2 hk;refine Ac Tryz.func63 Tryz.call63 rfl (by kernel_rfl) ?_;simp(disch:=omega)only[go_sem];intro r2 hr2;dsimp only at hr2;obtain⟨Ha,hHa⟩: ∃K,K=upd H r2 (some (.cells [.int .u8 0, .int .u8 0, .int .i64 0, .str [], .nilSlice, .nilSlice, .int .i64 0, .int .i64 0, .int .i64 0] 27)):=⟨_,rfl⟩;rw[<-hHa];have gr2:Ha r2=some (.cells [.int .u8 0, .int .u8 0, .int .i64 0, .str [], .nilSlice, .nilSlice, .int .i64 0, .int .i64 0, .int .i64 0] 27):=by rw[hHa];exact Aa _ _ _
 have n2:r≠r2:=Ad hr2 hr;have q2:=n2.symm;have ha:RAt r l k H Ha:=by rw[hHa];exact(RAt.refl hr).new hr2 _
 simp(disch:=omega)only[go_sem];refine(Wr G _ ha.get (by omega) (by omega)).mono ?_;rintro _ H1 ⟨rfl,rfl⟩;simp(disch:=omega)only[go_sem];refine(Dh4 hG _ ha.get hl hk).mono ?_;rintro _ H2 ⟨rfl,hH2⟩;obtain⟨o,ho⟩: ∃o,o=(opF l 0 k Gf).1:=⟨_,rfl⟩;obtain⟨k2,hk2⟩: ∃k2,k2=(opF l 0 k Gf).2:=⟨_,rfl⟩;rw[<-ho,<-hk2] at hadv hn⊢
 rw[<-hk2] at hH2;have ha2:RAt r l k2 H H2:=by rw[hH2];exact ha.set k2
 have g2:H2 r2=some (.cells [.int .u8 0, .int .u8 0, .int .i64 0, .str [], .nilSlice, .nilSlice, .int .i64 0, .int .i64 0, .int .i64 0] 27):=by rw[hH2];exact Af gr2 q2
 simp(disch:=omega)only[go_sem];have hpk:=hp _ k2 ha2.get (by omega);dsimp only at hpk;cases hpr:p.primary k2 with
 | bot=>rw[hpr] at hn;exact absurd rfl hn
 | fail k3=>
  rw[hpr] at hpk;refine(hpk (Az (by simp))).mono ?_;rintro e H3 ⟨rfl,rfl⟩;simp(disch:=omega)only[go_sem];exact RAt.finP (ha2.set k3) ⟨rfl,rfl⟩
 | ok x k3=>
  rw[hpr] at hpk;refine(hpk (Az (by simp))).mono ?_;rintro e H3 ⟨rfl,hH3⟩;have ha3:RAt r l k3 H H3:=by rw[hH3];exact ha2.set k3
  dsimp only[Res.then];have g3:H3 r2=some (.cells [.int .u8 0, .int .u8 0, .int .i64 0, .str [], .nilSlice, .nilSlice, .int .i64 0, .int .i64 0, .int .i64 0] 27):=by rw[hH3];exact Af g2 q2
  simp(disch:=omega)only[go_sem,dE];intro r5 hr5;dsimp only at hr5;have n5:r2≠r5:=Ad hr5 g3;have q5:=n5.symm;have hlx:=Ai x;have hox:=Bh x;have hc:=Ct9 hlx [.int .u8 0, .int .u8 0, .int .i64 0, .str [], .nilSlice, .nilSlice, .int .i64 0, .int .i64 0, .int .i64 0] rfl;simp(disch:=omega)only[go_sem,n5,q5,g3,hlx,hox];by_cases c:o=0
  ·have c':(o:Int)=0:=by omega
   simp(disch:=omega)only[go_sem,n5,q5,g3,hlx,hox,c'];rw[show Jv o (tk l k).line x=x by rw[Jv,if_pos c]];exact RAt.fin ((ha3.new hr5 _).own hr2 q2 _) ⟨rfl,rfl⟩
  ·have c': ¬(o:Int)=0:=by omega
   simp(disch:=omega)only[go_sem,n5,q5,g3,hlx,hox,c'];rw[Lj hlx];simp(disch:=omega)only[go_sem,n5,q5,g3,hlx,hox,c'];intro r8 hr8;dsimp only at hr8;obtain⟨m1,m2,hr8a⟩:=Dk7.1 hr8;have n8:r2≠r8:=Ad hr8a g3;have q8:=n8.symm;simp(disch:=omega)only[go_sem,n5,q5,g3,hlx,hox,m1,m2,n8,q8];rw[show Jv o (tk l k).line x= .mk 11 o 0 [] [x] [] (tk l k).line 0 0 by rw[Jv,if_neg c]];have p5:r≠r5:=Ad hr5 ha3.get;have hs:=(((ha3.new hr5 (some (.cells (dEx x) 27))).new hr8 (some (.cells (dEx x) 27))).own (ha3.lo hr5) p5.symm (some (.cells [.int .u8 11, .int .u8 o, .int .i64 0, .str [], .oslice 9 r8 0 1 1, .nilSlice, .int .i64 (tk l k).line, .int .i64 0, .int .i64 0] 27))).own hr2 q2 (some (.cells [.int .u8 11, .int .u8 o, .int .i64 0, .str [], .oslice 9 r8 0 1 1, .nilSlice, .int .i64 (tk l k).line, .int .i64 0, .int .i64 0] 27));refine Fc.fin hs (Fc.agg (Fc.ex (l:= [x]) hs (Fc.block (e:=27) hs (Sub.lo ha3 hr8a) ?_ ?_) (.as0 hs))) ⟨rfl,rfl⟩
   ·rw[List.flatMap_singleton];simp [upd,m1,m2,n8,q8]
   ·rw[List.flatMap_singleton,hlx]
theorem Cu0 (hG:GX G) (hl:l.length<=800000) (n:Nat) (hg: ∀m<n,RdC Tryz.prog G l 63 r fun k=>((P l m).factor k).mp dE) (H:Ab) (x:Ex) (k:Nat) (hr:H r=some (rdO l k)) (hk:k<=l.length) (hn:(P l n).mulL x k≠ .bot):
  Ae Tryz.prog G 170 [.optr r 0, .agg (dEx x), .int .u8 3, .int .u8 6, .func (.func 63) [.optr r 0] []] H (RdR r l H (((P l n).mulL x k).mp dE)):=
 Ae3 hG _ (fun m=>(P l m).factor) (fun m=>(P l m).mulL) 3 6 (by decide) (by decide) (by decide) hl (fun _ _=>rfl) (fun _ _ _=>rfl) (fun m k hk=>(Fw m).factor k hk) Dy7.2.2.2.2.1 n hg H x k hr hk hn
theorem Be6 (hG:GX G) (hl:l.length<=800000) (n:Nat) (hg: ∀m<n,RdC Tryz.prog G l 62 r fun k=>((P l m).term k).mp dE) (H:Ab) (x:Ex) (k:Nat) (hr:H r=some (rdO l k)) (hk:k<=l.length) (hn:(P l n).addL x k≠ .bot):
  Ae Tryz.prog G 170 [.optr r 0, .agg (dEx x), .int .u8 1, .int .u8 2, .func (.func 62) [.optr r 0] []] H (RdR r l H (((P l n).addL x k).mp dE)):=
 Ae3 hG _ (fun m=>(P l m).term) (fun m=>(P l m).addL) 1 2 (by decide) (by decide) (by decide) hl (fun _ _=>rfl) (fun _ _ _=>rfl) (fun m k hk=>(Fw m).term k hk) Dy7.2.2.2.1 n hg H x k hr hk hn
set_option maxHeartbeats 4000000 in
theorem Cg5 (hG:GX G) (hl:l.length<=800000) (n:Nat) (hg: ∀m≤n,RdC Tryz.prog G l 63 r fun k=>((P l m).factor k).mp dE):RdC Tryz.prog G l 62 r fun k=>((P l (n+1)).term k).mp dE:=by
 intro H k hr hk hn;have e:(P l (n+1)).term k=((P l n).factor k).then fun x k=>(P l n).mulL x k:=rfl
 dsimp only at hn⊢
 rw[e] at hn⊢
 refine Ac Tryz.func62 Tryz.call62 rfl (by kernel_rfl) ?_;simp(disch:=omega)only[go_sem];intro r2 hr2;dsimp only at hr2;obtain⟨Ha,hHa⟩: ∃K,K=upd H r2 (some (.cells [.int .u8 0, .int .u8 0, .int .i64 0, .str [], .nilSlice, .nilSlice, .int .i64 0, .int .i64 0, .int .i64 0] 27)):=⟨_,rfl⟩;rw[<-hHa];have gr2:Ha r2=some (.cells [.int .u8 0, .int .u8 0, .int .i64 0, .str [], .nilSlice, .nilSlice, .int .i64 0, .int .i64 0, .int .i64 0] 27):=by rw[hHa];exact Aa _ _ _
 have n2:r≠r2:=Ad hr2 hr;have q2:=n2.symm;have ha:RAt r l k H Ha:=by rw[hHa];exact(RAt.refl hr).new hr2 _
 simp(disch:=omega)only[go_sem];have hpk:=hg n (Nat.le_refl _) _ k ha.get hk;have had:=(Fw (l:=l) n).factor k hk;dsimp only at hpk;cases hpr:(P l n).factor k with
 | bot=>rw[hpr] at hn;exact absurd rfl hn
 | fail k3=>
  rw[hpr] at hpk;refine(hpk (Az (by simp))).mono ?_;rintro e H3 ⟨rfl,rfl⟩;simp(disch:=omega)only[go_sem];exact RAt.finP (ha.set k3) ⟨rfl,rfl⟩
 | ok x k3=>
  rw[hpr] at hpk hn had;refine(hpk (Az (by simp))).mono ?_;rintro e H3 ⟨rfl,hH3⟩;have ha3:RAt r l k3 H H3:=by rw[hH3];exact ha.set k3
  dsimp only[Res.then,Adv] at hn had⊢
  have g3:H3 r2=some (.cells [.int .u8 0, .int .u8 0, .int .i64 0, .str [], .nilSlice, .nilSlice, .int .i64 0, .int .i64 0, .int .i64 0] 27):=by rw[hH3];exact Af gr2 q2
  simp(disch:=omega)only[go_sem,dE];have hn2:(P l n).mulL x k3≠ .bot:=fun h=>hn (by rw[h];rfl);have hch:=Cu0 hG hl n (fun m hm=>hg m (by omega)) H3 x k3 ha3.get (by omega) hn2;cases hpc:(P l n).mulL x k3 with
  | bot=>exact absurd hpc hn2
  | fail k4=>
   rw[hpc] at hch;refine hch.mono ?_;rintro e H4 ⟨rfl,rfl⟩;simp(disch:=omega)only[go_sem];exact RAt.finP (ha3.set k4) ⟨rfl,rfl⟩
  | ok y k4=>
   rw[hpc] at hch;refine hch.mono ?_;rintro e H4 ⟨rfl,hH4⟩;have ha4:RAt r l k4 H H4:=by rw[hH4];exact ha3.set k4
   have g4:H4 r2=some (.cells [.int .u8 0, .int .u8 0, .int .i64 0, .str [], .nilSlice, .nilSlice, .int .i64 0, .int .i64 0, .int .i64 0] 27):=by rw[hH4];exact Af g3 q2
   have hly:=Ai y;have hoy:=Bh y;simp(disch:=omega)only[go_sem,dE,g4,hly,hoy];exact RAt.fin (ha4.own hr2 q2 _) ⟨rfl,rfl⟩
end
end Go.Dl

-- Chapter 3: the package's reader: simples.
namespace Go.Dl
open Go Go.Proofs
set_option maxRecDepth 100000
section
variable {G:Nat->DVal} {H0 H:Ab} {r k:Nat} {l:List Tok}
set_option maxHeartbeats 4000000 in
theorem Be7 (hG:GX G) (hl:l.length<=800000) (n:Nat) (hg: ∀m≤n,RdC Tryz.prog G l 62 r fun k=>((P l m).term k).mp dE):RdC Tryz.prog G l 61 r fun k=>((P l (n+1)).simple k).mp dE:=by
 intro H k hr hk hn;have e:(P l (n+1)).simple k=((P l n).term (opF l 0 k Ek).2).then fun x k'=>(P l n).addL (Jv (opF l 0 k Ek).1 (tk l k).line x) k':=rfl
 dsimp only at hn⊢
 rw[e] at hn⊢
 have hadv:=Cl (want:=0) (os:=Ek) (k:=k) (l:=l) Dy7.2.2.1 hk;refine Ac Tryz.func61 Tryz.call61 rfl (by kernel_rfl) ?_;simp(disch:=omega)only[go_sem];intro r2 hr2;dsimp only at hr2;obtain⟨Ha,hHa⟩: ∃K,K=upd H r2 (some (.cells [.int .u8 0, .int .u8 0, .int .i64 0, .str [], .nilSlice, .nilSlice, .int .i64 0, .int .i64 0, .int .i64 0] 27)):=⟨_,rfl⟩;rw[<-hHa];have gr2:Ha r2=some (.cells [.int .u8 0, .int .u8 0, .int .i64 0, .str [], .nilSlice, .nilSlice, .int .i64 0, .int .i64 0, .int .i64 0] 27):=by rw[hHa];exact Aa _ _ _
 have n2:r≠r2:=Ad hr2 hr;have q2:=n2.symm;have ha:RAt r l k H Ha:=by rw[hHa];exact(RAt.refl hr).new hr2 _
 simp(disch:=omega)only[go_sem];refine(Wr G _ ha.get (by omega) (by omega)).mono ?_;rintro _ H1 ⟨rfl,rfl⟩;simp(disch:=omega)only[go_sem];refine(Ct8 hG _ ha.get hl hk).mono ?_;rintro _ H2 ⟨rfl,hH2⟩;obtain⟨o,ho⟩: ∃o,o=(opF l 0 k Ek).1:=⟨_,rfl⟩;obtain⟨k2,hk2⟩: ∃k2,k2=(opF l 0 k Ek).2:=⟨_,rfl⟩;rw[<-ho,<-hk2] at hadv hn⊢
 rw[<-hk2] at hH2;have ha2:RAt r l k2 H H2:=by rw[hH2];exact ha.set k2
 have g2:H2 r2=some (.cells [.int .u8 0, .int .u8 0, .int .i64 0, .str [], .nilSlice, .nilSlice, .int .i64 0, .int .i64 0, .int .i64 0] 27):=by rw[hH2];exact Af gr2 q2
 simp(disch:=omega)only[go_sem];have hpk:=hg n (Nat.le_refl _) _ k2 ha2.get (by omega);have had:=(Fw (l:=l) n).term k2 (by omega);dsimp only at hpk;cases hpr:(P l n).term k2 with
 | bot=>rw[hpr] at hn;exact absurd rfl hn
 | fail k3=>
  rw[hpr] at hpk;refine(hpk (Az (by simp))).mono ?_;rintro e H3 ⟨rfl,rfl⟩;simp(disch:=omega)only[go_sem];exact RAt.finP (ha2.set k3) ⟨rfl,rfl⟩
 | ok x k3=>
  rw[hpr] at hpk hn had;refine(hpk (Az (by simp))).mono ?_;rintro e H3 ⟨rfl,hH3⟩;have ha3:RAt r l k3 H H3:=by rw[hH3];exact ha2.set k3
  dsimp only[Res.then,Adv] at hn had⊢
  have g3:H3 r2=some (.cells [.int .u8 0, .int .u8 0, .int .i64 0, .str [], .nilSlice, .nilSlice, .int .i64 0, .int .i64 0, .int .i64 0] 27):=by rw[hH3];exact Af g2 q2
  have hn2:(P l n).addL (Jv o (tk l k).line x) k3≠ .bot:=fun h=>hn (by rw[h];rfl);simp(disch:=omega)only[go_sem,dE];intro r5 hr5;dsimp only at hr5;have n5:r2≠r5:=Ad hr5 g3;have q5:=n5.symm;have p5:r≠r5:=Ad hr5 ha3.get;have hlx:=Ai x;have hox:=Bh x;simp(disch:=omega)only[go_sem,n5,q5,g3,hlx,hox];by_cases c:o=0
  ·have c':(o:Int)=0:=by omega
   simp(disch:=omega)only[go_sem,n5,q5,g3,hlx,hox,c'];rw[show Jv o (tk l k).line x=x by rw[Jv,if_pos c]] at hn2⊢
   have ha5:=ha3.new hr5 (some (.cells (dEx x) 27));have g5:upd H3 r5 (some (.cells (dEx x) 27)) r2=some (.cells [.int .u8 0, .int .u8 0, .int .i64 0, .str [], .nilSlice, .nilSlice, .int .i64 0, .int .i64 0, .int .i64 0] 27):=Af g3 n5;obtain⟨H5,hH5⟩: ∃H5,H5=upd H3 r5 (some (.cells (dEx x) 27)):=⟨_,rfl⟩;rw[<-hH5] at ha5 g5⊢
   have hch:=Be6 hG hl n (fun m hm=>hg m (by omega)) H5 x k3 ha5.get (by omega) hn2;cases hpc:(P l n).addL x k3 with
   | bot=>exact absurd hpc hn2
   | fail k4=>
    rw[hpc] at hch;refine hch.mono ?_;rintro e H4 ⟨rfl,rfl⟩;simp(disch:=omega)only[go_sem];exact RAt.finP (ha5.set k4) ⟨rfl,rfl⟩
   | ok y k4=>
    rw[hpc] at hch;refine hch.mono ?_;rintro e H4 ⟨rfl,hH4⟩;have ha4:RAt r l k4 H H4:=by rw[hH4];exact ha5.set k4
    have g4:H4 r2=some (.cells [.int .u8 0, .int .u8 0, .int .i64 0, .str [], .nilSlice, .nilSlice, .int .i64 0, .int .i64 0, .int .i64 0] 27):=by rw[hH4];exact Af g5 q2
    have hly:=Ai y;have hoy:=Bh y;simp(disch:=omega)only[go_sem,dE,g4,hly,hoy];exact RAt.fin (ha4.own hr2 q2 _) ⟨rfl,rfl⟩
  ·have c': ¬(o:Int)=0:=by omega
   simp(disch:=omega)only[go_sem,n5,q5,g3,hlx,hox,c'];rw[Lj hlx];simp(disch:=omega)only[go_sem,n5,q5,g3,hlx,hox,c'];intro r8 hr8;dsimp only at hr8;obtain⟨m1,m2,hr8a⟩:=Dk7.1 hr8;have n8:r2≠r8:=Ad hr8a g3;have q8:=n8.symm;simp(disch:=omega)only[go_sem,n5,q5,g3,hlx,hox,m1,m2,n8,q8];obtain⟨xe,hxe⟩: ∃xe,xe=Jv o (tk l k).line x:=⟨_,rfl⟩;rw[<-hxe] at hn2⊢
   rw[show Jv o (tk l k).line x= .mk 11 o 0 [] [x] [] (tk l k).line 0 0 by rw[Jv,if_neg c]] at hxe;obtain⟨c5,hc5⟩: ∃c5,c5=(some (.cells [.int .u8 11, .int .u8 o, .int .i64 0, .str [], .oslice 9 r8 0 1 1, .nilSlice, .int .i64 (tk l k).line, .int .i64 0, .int .i64 0] 27):Option DObj):=⟨_,rfl⟩;obtain⟨H5,hH5⟩: ∃H5,H5=upd H3 r5 c5:=⟨_,rfl⟩;have ha5:RAt r l k3 H H5:=by rw[hH5];exact ha3.new hr5 _
   have g5:H5 r2=some (.cells [.int .u8 0, .int .u8 0, .int .i64 0, .str [], .nilSlice, .nilSlice, .int .i64 0, .int .i64 0, .int .i64 0] 27):=by rw[hH5];exact Af g3 n5
   rw[<-hc5];have hs8:Sub H5 (upd (upd (upd H3 r5 (some (.cells (dEx x) 27))) r8 (some (.cells (dEx x) 27))) r5 c5):=by
    intro b ob hb;rw[hH5] at hb;simp only[upd] at hb⊢
    by_cases e1:b=r5
    ·rw[if_pos e1] at hb⊢;exact hb
    ·rw[if_neg e1] at hb⊢
     have e2:b≠r8:=fun e=>by rw[e,hr8a] at hb;cases hb
     rw[if_neg e2,if_neg e1];exact hb
   have h58:H5 r8=none:=by rw[hH5,Aj _ _ _ _ m1];exact hr8a
   have hch:=Be6 hG hl n (fun m hm=>hg m (by omega)) H5 xe k3 ha5.get (by omega) hn2;have hse:Df (upd (upd (upd H3 r5 (some (.cells (dEx x) 27))) r8 (some (.cells (dEx x) 27))) r5 c5)
     [.optr r 0, .agg [.int .u8 11, .int .u8 o, .int .i64 0, .str [], .oslice 9 r8 0 1 1, .nilSlice, .int .i64 (tk l k).line, .int .i64 0, .int .i64 0], .int .u8 1, .int .u8 2, .func (.func 62) [.optr r 0] []] H5
     [.optr r 0, .agg (dEx xe), .int .u8 1, .int .u8 2, .func (.func 62) [.optr r 0] []]:=by
    rw[hxe];refine .cons (.keep hs8 _) (.cons (Fc.agg (Fc.ex (l:= [x]) hs8 (Fc.block (e:=27) hs8 h58 ?_ ?_) (.as0 hs8))) (.keep hs8 _))
    ·rw[List.flatMap_singleton];simp [upd,m1,m2]
    ·rw[List.flatMap_singleton,hlx]
   refine hse.call hs8 ?_;cases hpc:(P l n).addL xe k3 with
   | bot=>exact absurd hpc hn2
   | fail k4=>
    rw[hpc] at hch;refine hch.mono ?_;rintro e H4 ⟨rfl,rfl⟩;simp(disch:=omega)only[go_sem];exact RAt.finP (ha5.set k4) ⟨rfl,rfl⟩
   | ok y k4=>
    rw[hpc] at hch;refine hch.mono ?_;rintro e H4 ⟨rfl,hH4⟩;have ha4:RAt r l k4 H H4:=by rw[hH4];exact ha5.set k4
    have g4:H4 r2=some (.cells [.int .u8 0, .int .u8 0, .int .i64 0, .str [], .nilSlice, .nilSlice, .int .i64 0, .int .i64 0, .int .i64 0] 27):=by rw[hH4];exact Af g5 q2
    have hly:=Ai y;have hoy:=Bh y;simp(disch:=omega)only[go_sem,dE,g4,hly,hoy];exact RAt.fin (ha4.own hr2 q2 _) ⟨rfl,rfl⟩
end
end Go.Dl

-- Chapter 3: the package's reader: relations.
namespace Go.Dl
open Go Go.Proofs
set_option maxRecDepth 100000
section
variable {G:Nat->DVal} {H0 H:Ab} {r k:Nat} {l:List Tok}
def Bp3 (P:Program) (G:Nat->DVal) (l:List Tok) (f:FuncId) (r:Nat) (a:DVal) (res:Nat->Res DVal):Prop:=
 ∀H k,H r=some (rdO l k)->k<=l.length->res k≠ .bot->Ae P G f [.optr r 0,a] H (RdR r l H (res k))
theorem Er.set {H B H':Ab} {e:TypeId} {size n:Nat} {cs:List DVal} {v:DVal} {x:Nat} {o:DObj} (h:Er B e size n cs v H') (s:Sub H B) (hx:H x=none) (hB:B x=some o) (y:Option DObj):Er H e size n cs v (upd H' x y):=by
 rcases h with⟨a,b,c,d⟩ | ⟨q,h1,h2,h3,h4,h5⟩
 ·exact .inl ⟨a,b,c,Sub.up (s.trans d) hx _⟩
 ·have hq:q≠x:=fun e=>by rw[e,hB] at h1;cases h1
  exact .inr ⟨q,s.lo h1,h2,h3,by rw[Aj _ _ _ _ hq];exact h4,Sub.up (s.trans h5) hx _⟩
theorem Sub.move {H H':Ab} (h:Sub H H') (r:Nat) (x:Option DObj):Sub (upd H r x) (upd H' r x):=h.both r x
set_option maxHeartbeats 4000000 in
theorem Aj8 (hG:GX G) (hl:l.length<=800000) (p:PS) (hA:p.Adv l) (hp:RdC Tryz.prog G l 61 r fun k=>(p.simple k).mp dE) (x:Ex):Bp3 Tryz.prog G l 60 r (.agg (dEx x)) fun k=>((Aw l p).relation x k).mp dE:=by
 intro H k hr hk hn;dsimp only[Aw] at hn⊢
 have hadv:=Cl (want:=0) (os:=Il) (k:=k) (l:=l) Dy7.2.1 hk;have hlx:=Ai x;have hox:=Bh x;have hla:(dEx x)[6]? =some (dI x.line):=by cases x;rfl
 refine Ac Tryz.func60 Tryz.call60 rfl (by kernel_rfl) ?_;simp(disch:=omega)only[go_sem,DVal.cells];intro r3 hr3;dsimp only at hr3;obtain⟨Hb,hHb⟩: ∃K,K=upd H r3 (some (.cells (dEx x) 27)):=⟨_,rfl⟩;rw[<-hHb];have gr3:Hb r3=some (.cells (dEx x) 27):=by rw[hHb];exact Aa _ _ _
 have n3:r≠r3:=Ad hr3 hr;have q3:=n3.symm;simp(disch:=omega)only[go_sem,DVal.cells];intro r4 hr4;dsimp only at hr4;obtain⟨Ha,hHa⟩: ∃K,K=upd Hb r4 (some (.cells [.int .u8 0, .int .u8 0, .int .i64 0, .str [], .nilSlice, .nilSlice, .int .i64 0, .int .i64 0, .int .i64 0] 27)):=⟨_,rfl⟩;rw[<-hHa];have gr4:Ha r4=some (.cells [.int .u8 0, .int .u8 0, .int .i64 0, .str [], .nilSlice, .nilSlice, .int .i64 0, .int .i64 0, .int .i64 0] 27):=by rw[hHa];exact Aa _ _ _
 have hab:RAt r l k H Hb:=by rw[hHb];exact(RAt.refl hr).new hr3 _
 have n4:r≠r4:=Ad hr4 hab.get;have q4:=n4.symm;have m3:r3≠r4:=Ad hr4 gr3;have m4:=m3.symm;have h04:H r4=none:=hab.lo hr4;have ha:RAt r l k H Ha:=by rw[hHa];exact hab.new hr4 _
 have g3:Ha r3=some (.cells (dEx x) 27):=by rw[hHa];exact Af gr3 m3
 simp(disch:=omega)only[go_sem];refine(Dh5 hG _ ha.get hl hk).mono ?_;rintro _ H2 ⟨rfl,hH2⟩;obtain⟨o,ho⟩: ∃o,o=(opF l 0 k Il).1:=⟨_,rfl⟩;obtain⟨k2,hk2⟩: ∃k2,k2=(opF l 0 k Il).2:=⟨_,rfl⟩;rw[<-ho,<-hk2] at hadv hn⊢
 rw[<-hk2] at hH2;have ha2:RAt r l k2 H H2:=by rw[hH2];exact ha.set k2
 have g23:H2 r3=some (.cells (dEx x) 27):=by rw[hH2];exact Af g3 q3
 have g24:H2 r4=some (.cells [.int .u8 0, .int .u8 0, .int .i64 0, .str [], .nilSlice, .nilSlice, .int .i64 0, .int .i64 0, .int .i64 0] 27):=by rw[hH2];exact Af gr4 q4
 by_cases c:o=0
 ·have c':(o:Int)=0:=by omega
  have hk21:k2=k:=hadv.1 c;rw[if_neg (by omega)] at hn⊢
  rw[hk21] at ha2;simp(disch:=omega)only[go_sem,c'];intro q1 hq1;dsimp only at hq1;simp(disch:=omega)only[go_sem];refine(Sw hG H2 q1 wIn hq1 ha2.get (by omega) (by omega)).mono ?_;rintro _ H4 ⟨rfl,hH4⟩;by_cases b1:isW l k [wIn]=true
  ·rw[if_pos b1] at hn hH4⊢
   have ha4:RAt r l (k+1) H H4:=by rw[hH4];exact ha2.set _
   have g43:H4 r3=some (.cells (dEx x) 27):=by rw[hH4];exact Af g23 q3
   have g44:H4 r4=some (.cells [.int .u8 0, .int .u8 0, .int .i64 0, .str [], .nilSlice, .nilSlice, .int .i64 0, .int .i64 0, .int .i64 0] 27):=by rw[hH4];exact Af g24 q4
   have hk4l:=Ap b1 hk;obtain⟨k4,hk4⟩: ∃k4,k4=k+1:=⟨_,rfl⟩;rw[<-hk4] at hn ha4⊢
   rw[jQ,<-hk4] at hk4l;simp(disch:=omega)only[go_sem,b1];refine Am (by kernel_rfl) (.take 0 (.take 1 (.go 2 [0] (.go 3 [] (.take 4 .done))))) (by kernel_rfl) ?_;simp(disch:=omega)only[go_sem,g43];unfold inK at hn⊢
   have hpk:=hp _ k4 ha4.get hk4l;dsimp only at hpk;have had:=hA.simple k4 hk4l;cases hpr:p.simple k4 with
   | bot=>rw[hpr] at hn;exact absurd rfl hn
   | fail k5=>
    rw[hpr] at hpk;refine(hpk (Az (by simp))).mono ?_;rintro e H5 ⟨rfl,rfl⟩;simp(disch:=omega)only[go_sem];exact RAt.finP (ha4.set k5) ⟨rfl,rfl⟩
   | ok y k5=>
    rw[hpr] at hpk hn had;refine(hpk (Az (by simp))).mono ?_;rintro e H5 ⟨rfl,hH5⟩;have ha5:RAt r l k5 H H5:=by rw[hH5];exact ha4.set k5
    have g53:H5 r3=some (.cells (dEx x) 27):=by rw[hH5];exact Af g43 q3
    have g54:H5 r4=some (.cells [.int .u8 0, .int .u8 0, .int .i64 0, .str [], .nilSlice, .nilSlice, .int .i64 0, .int .i64 0, .int .i64 0] 27):=by rw[hH5];exact Af g44 q4
    dsimp only[Res.then,Adv] at hn had⊢
    have hly:=Ai y;simp(disch:=omega)only[go_sem,dE,g43,g53];rw[Nj hlx hly];simp(disch:=omega)only[go_sem];intro r7 hr7;dsimp only at hr7;have hxy: [x,y].flatMap dEx=dEx x++dEx y:=by simp
    obtain⟨H7,hH7⟩: ∃K,K=upd H5 r7 (some (.cells (dEx x++dEx y) 27)):=⟨_,rfl⟩;rw[<-hH7];have g77:H7 r7=some (.cells (dEx x++dEx y) 27):=by rw[hH7];exact Aa _ _ _
    have n37:r3≠r7:=Ad hr7 g53;have n47:r4≠r7:=Ad hr7 g54;have nr7:r≠r7:=Ad hr7 ha5.get;have ha7:RAt r l k5 H H7:=by rw[hH7];exact ha5.new hr7 _
    have g73:H7 r3=some (.cells (dEx x) 27):=by rw[hH7];exact Af g53 n37
    have g74:H7 r4=some (.cells [.int .u8 0, .int .u8 0, .int .i64 0, .str [], .nilSlice, .nilSlice, .int .i64 0, .int .i64 0, .int .i64 0] 27):=by rw[hH7];exact Af g54 n47
    have s57:Sub H5 H7:=by rw[hH7];exact(Sub.refl _).new hr7 _
    simp(disch:=omega)only[go_sem];intro q7 hq7;dsimp only at hq7;simp(disch:=omega)only[go_sem];refine(Sw hG H7 q7 Ee hq7 ha7.get (by omega) (by omega)).mono ?_;rintro _ H8 ⟨rfl,hH8⟩;by_cases b3:isW l k5 [Ee]=true
    ·rw[if_pos b3] at hn hH8⊢
     simp(disch:=omega)only[go_sem,b3];have ha8:RAt r l (k5+1) H H8:=by rw[hH8];exact ha7.set _
     have g83:H8 r3=some (.cells (dEx x) 27):=by rw[hH8];exact Af g73 q3
     have g84:H8 r4=some (.cells [.int .u8 0, .int .u8 0, .int .i64 0, .str [], .nilSlice, .nilSlice, .int .i64 0, .int .i64 0, .int .i64 0] 27):=by rw[hH8];exact Af g74 q4
     have hk5:=Ap b3 (by omega);rw[jQ] at hk5;have hpz:=hp _ (k5+1) ha8.get hk5;dsimp only at hpz;cases hpz2:p.simple (k5+1) with
     | bot=>rw[hpz2] at hn;exact absurd rfl hn
     | fail k6=>
      rw[hpz2] at hpz;refine(hpz (Az (by simp))).mono ?_;rintro e H9 ⟨rfl,rfl⟩;simp(disch:=omega)only[go_sem];exact RAt.finP (ha8.set k6) ⟨rfl,rfl⟩
     | ok z k6=>
      rw[hpz2] at hpz hn;refine(hpz (Az (by simp))).mono ?_;rintro e H9 ⟨rfl,hH9⟩;have hlz:=Ai z;dsimp only[Res.then];simp(disch:=omega)only[go_sem,dE];rw[Lj hlz];simp(disch:=omega)only[go_sem];intro r10 hr10;dsimp only at hr10;obtain⟨Bk,hBk⟩: ∃K,K=upd H5 r (some (rdO l k6)):=⟨_,rfl⟩;have hH9':H9=upd H7 r (some (rdO l k6)):=by
       rw[hH9,hH8];funext b;simp only[upd];split<;>rfl
      have hBH:Sub Bk H9:=by rw[hBk,hH9'];exact s57.move r _
      have hv:Er Bk 27 9 2 ([x,y].flatMap dEx) (.oslice 9 r7 0 2 2) H9:= .inr ⟨r7,by rw[hBk,Aj _ _ _ _ nr7.symm];exact hr7,by rw[hxy,jC,hlx,hly],rfl,by rw[hxy,hH9'];exact Af g77 nr7.symm,hBH⟩;rw[hxy] at hv;have g97:H9 r7=some (.cells (dEx x++dEx y) 27):=by rw[hH9'];exact Af g77 nr7.symm
      have n710:r7≠r10:=Ad hr10 g97;simp(disch:=omega)only[go_sem];rw[if_neg n710,g97];refine Er.appendO (m:=1) (hv.new hr10 _) hlz (by omega) fun v2 H10 hv2=> ?_;have e3:dEx x++dEx y++dEx z= [x,y,z].flatMap dEx:=by simp
      rw[e3] at hv2;have h9:RAt r l k6 H Bk:=by rw[hBk];exact ha5.set k6
      have b3:Bk r3=some (.cells (dEx x) 27):=by rw[hBk];exact Af g53 q3
      have b4:Bk r4=some (.cells [.int .u8 0, .int .u8 0, .int .i64 0, .str [], .nilSlice, .nilSlice, .int .i64 0, .int .i64 0, .int .i64 0] 27):=by rw[hBk];exact Af g54 q4
      have g103:=hv2.keep b3;have g104:=hv2.keep b4;obtain⟨hc1,hc2⟩:=hv2.cell1;have hvf:=fun yy=>hv2.set h9 (x:=r4) (by rw[Aj _ _ _ _ q4];exact h04) b4 yy;simp(disch:=omega)only[go_sem,g103,g104,hc1,hc2,hla];exact Fc.fin (hvf _).sub (Fc.agg (Fc.ex (l:= [x,y,z]) (hvf _).sub (Fc.own (hvf _)) (.as0 (hvf _).sub))) ⟨rfl,rfl⟩
    ·have b3':isW l k5 [Ee]=false:=by simpa using b3
     rw[if_neg b3] at hn hH8⊢
     rw[Co ha7.get] at hH8;subst hH8;have hgy:List.take 9 (List.drop 9 (dEx x++dEx y))=dEx y:=by rw[List.drop_left' hlx];exact List.take_of_length_le (by omega)
     have hl18:18<=(dEx x++dEx y).length:=by rw[jC];omega
     simp(disch:=omega)only[go_sem,b3',g77,hgy,hlx,hly,hl18];refine(Ef G _ y).mono ?_;rintro _ H9 ⟨rfl,rfl⟩;by_cases b4:Bg y=true
     ·rw[if_pos b4] at hn⊢
      have hv:Er H5 27 9 2 ([x,y].flatMap dEx) (.oslice 9 r7 0 2 2) H9:= .inr ⟨r7,hr7,by rw[hxy,jC,hlx,hly],rfl,by rw[hxy];exact g77,s57⟩;have hvf:=fun yy=>hv.set ha5 (x:=r4) (by rw[Aj _ _ _ _ q4];exact h04) g54 yy;simp(disch:=omega)only[go_sem,b4,g73,g74,hla];exact Fc.fin (hvf _).sub (Fc.agg (Fc.ex (l:= [x,y]) (hvf _).sub (Fc.own (hvf _)) (.as0 (hvf _).sub))) ⟨rfl,rfl⟩
     ·have b4':Bg y=false:=by simpa using b4
      rw[if_neg b4] at hn⊢
      simp(disch:=omega)only[go_sem,b4'];refine(Ri G _ ha7.get).mono ?_;rintro _ H10 ⟨rfl,rfl⟩;simp(disch:=omega)only[go_sem];exact RAt.finP ha7 ⟨rfl,rfl⟩
  ·have b1':isW l k [wIn]=false:=by simpa using b1
   rw[if_neg b1] at hn hH4⊢
   rw[Co ha2.get] at hH4;subst hH4;simp(disch:=omega)only[go_sem,b1'];intro q2 hq2;dsimp only at hq2;simp(disch:=omega)only[go_sem];refine(Dw7 hG _ q2 Lz wIn hq2 ha2.get (by omega) (by omega)).mono ?_;rintro _ H4 ⟨rfl,hH4⟩;by_cases b2:isW l k [Lz,wIn]=true
   ·rw[if_pos b2] at hn hH4⊢
    have ha4:RAt r l (k+2) H H4:=by rw[hH4];exact ha2.set _
    have g43:H4 r3=some (.cells (dEx x) 27):=by rw[hH4];exact Af g23 q3
    have g44:H4 r4=some (.cells [.int .u8 0, .int .u8 0, .int .i64 0, .str [], .nilSlice, .nilSlice, .int .i64 0, .int .i64 0, .int .i64 0] 27):=by rw[hH4];exact Af g24 q4
    have hk4l:=Ap b2 hk;obtain⟨k4,hk4⟩: ∃k4,k4=k+2:=⟨_,rfl⟩;rw[<-hk4] at hn ha4⊢
    rw[show [Lz,wIn].length=2 from rfl,<-hk4] at hk4l;simp(disch:=omega)only[go_sem,b2];refine Am (by kernel_rfl) (.take 0 (.take 1 (.go 2 [0] (.go 3 [] (.take 4 .done))))) (by kernel_rfl) ?_;simp(disch:=omega)only[go_sem,g43];unfold inK at hn⊢
    have hpk:=hp _ k4 ha4.get hk4l;dsimp only at hpk;have had:=hA.simple k4 hk4l;cases hpr:p.simple k4 with
    | bot=>rw[hpr] at hn;exact absurd rfl hn
    | fail k5=>
     rw[hpr] at hpk;refine(hpk (Az (by simp))).mono ?_;rintro e H5 ⟨rfl,rfl⟩;simp(disch:=omega)only[go_sem];exact RAt.finP (ha4.set k5) ⟨rfl,rfl⟩
    | ok y k5=>
     rw[hpr] at hpk hn had;refine(hpk (Az (by simp))).mono ?_;rintro e H5 ⟨rfl,hH5⟩;have ha5:RAt r l k5 H H5:=by rw[hH5];exact ha4.set k5
     have g53:H5 r3=some (.cells (dEx x) 27):=by rw[hH5];exact Af g43 q3
     have g54:H5 r4=some (.cells [.int .u8 0, .int .u8 0, .int .i64 0, .str [], .nilSlice, .nilSlice, .int .i64 0, .int .i64 0, .int .i64 0] 27):=by rw[hH5];exact Af g44 q4
     dsimp only[Res.then,Adv] at hn had⊢
     have hly:=Ai y;simp(disch:=omega)only[go_sem,dE,g43,g53];rw[Nj hlx hly];simp(disch:=omega)only[go_sem];intro r7 hr7;dsimp only at hr7;have hxy: [x,y].flatMap dEx=dEx x++dEx y:=by simp
     obtain⟨H7,hH7⟩: ∃K,K=upd H5 r7 (some (.cells (dEx x++dEx y) 27)):=⟨_,rfl⟩;rw[<-hH7];have g77:H7 r7=some (.cells (dEx x++dEx y) 27):=by rw[hH7];exact Aa _ _ _
     have n37:r3≠r7:=Ad hr7 g53;have n47:r4≠r7:=Ad hr7 g54;have nr7:r≠r7:=Ad hr7 ha5.get;have ha7:RAt r l k5 H H7:=by rw[hH7];exact ha5.new hr7 _
     have g73:H7 r3=some (.cells (dEx x) 27):=by rw[hH7];exact Af g53 n37
     have g74:H7 r4=some (.cells [.int .u8 0, .int .u8 0, .int .i64 0, .str [], .nilSlice, .nilSlice, .int .i64 0, .int .i64 0, .int .i64 0] 27):=by rw[hH7];exact Af g54 n47
     have s57:Sub H5 H7:=by rw[hH7];exact(Sub.refl _).new hr7 _
     simp(disch:=omega)only[go_sem];intro q7 hq7;dsimp only at hq7;simp(disch:=omega)only[go_sem];refine(Sw hG H7 q7 Ee hq7 ha7.get (by omega) (by omega)).mono ?_;rintro _ H8 ⟨rfl,hH8⟩;by_cases b3:isW l k5 [Ee]=true
     ·rw[if_pos b3] at hn hH8⊢
      simp(disch:=omega)only[go_sem,b3];have ha8:RAt r l (k5+1) H H8:=by rw[hH8];exact ha7.set _
      have g83:H8 r3=some (.cells (dEx x) 27):=by rw[hH8];exact Af g73 q3
      have g84:H8 r4=some (.cells [.int .u8 0, .int .u8 0, .int .i64 0, .str [], .nilSlice, .nilSlice, .int .i64 0, .int .i64 0, .int .i64 0] 27):=by rw[hH8];exact Af g74 q4
      have hk5:=Ap b3 (by omega);rw[jQ] at hk5;have hpz:=hp _ (k5+1) ha8.get hk5;dsimp only at hpz;cases hpz2:p.simple (k5+1) with
      | bot=>rw[hpz2] at hn;exact absurd rfl hn
      | fail k6=>
       rw[hpz2] at hpz;refine(hpz (Az (by simp))).mono ?_;rintro e H9 ⟨rfl,rfl⟩;simp(disch:=omega)only[go_sem];exact RAt.finP (ha8.set k6) ⟨rfl,rfl⟩
      | ok z k6=>
       rw[hpz2] at hpz hn;refine(hpz (Az (by simp))).mono ?_;rintro e H9 ⟨rfl,hH9⟩;have hlz:=Ai z;dsimp only[Res.then];simp(disch:=omega)only[go_sem,dE];rw[Lj hlz];simp(disch:=omega)only[go_sem];intro r10 hr10;dsimp only at hr10;obtain⟨Bk,hBk⟩: ∃K,K=upd H5 r (some (rdO l k6)):=⟨_,rfl⟩;have hH9':H9=upd H7 r (some (rdO l k6)):=by
        rw[hH9,hH8];funext b;simp only[upd];split<;>rfl
       have hBH:Sub Bk H9:=by rw[hBk,hH9'];exact s57.move r _
       have hv:Er Bk 27 9 2 ([x,y].flatMap dEx) (.oslice 9 r7 0 2 2) H9:= .inr ⟨r7,by rw[hBk,Aj _ _ _ _ nr7.symm];exact hr7,by rw[hxy,jC,hlx,hly],rfl,by rw[hxy,hH9'];exact Af g77 nr7.symm,hBH⟩;rw[hxy] at hv;have g97:H9 r7=some (.cells (dEx x++dEx y) 27):=by rw[hH9'];exact Af g77 nr7.symm
       have n710:r7≠r10:=Ad hr10 g97;simp(disch:=omega)only[go_sem];rw[if_neg n710,g97];refine Er.appendO (m:=1) (hv.new hr10 _) hlz (by omega) fun v2 H10 hv2=> ?_;have e3:dEx x++dEx y++dEx z= [x,y,z].flatMap dEx:=by simp
       rw[e3] at hv2;have h9:RAt r l k6 H Bk:=by rw[hBk];exact ha5.set k6
       have b3:Bk r3=some (.cells (dEx x) 27):=by rw[hBk];exact Af g53 q3
       have b4:Bk r4=some (.cells [.int .u8 0, .int .u8 0, .int .i64 0, .str [], .nilSlice, .nilSlice, .int .i64 0, .int .i64 0, .int .i64 0] 27):=by rw[hBk];exact Af g54 q4
       have g103:=hv2.keep b3;have g104:=hv2.keep b4;obtain⟨hc1,hc2⟩:=hv2.cell1;have hvf:=fun yy=>hv2.set h9 (x:=r4) (by rw[Aj _ _ _ _ q4];exact h04) b4 yy;simp(disch:=omega)only[go_sem,g103,g104,hc1,hc2,hla];exact Fc.fin (hvf _).sub (Fc.agg (Fc.ex (l:= [x,y,z]) (hvf _).sub (Fc.own (hvf _)) (.as0 (hvf _).sub))) ⟨rfl,rfl⟩
     ·have b3':isW l k5 [Ee]=false:=by simpa using b3
      rw[if_neg b3] at hn hH8⊢
      rw[Co ha7.get] at hH8;subst hH8;have hgy:List.take 9 (List.drop 9 (dEx x++dEx y))=dEx y:=by rw[List.drop_left' hlx];exact List.take_of_length_le (by omega)
      have hl18:18<=(dEx x++dEx y).length:=by rw[jC];omega
      simp(disch:=omega)only[go_sem,b3',g77,hgy,hlx,hly,hl18];refine(Ef G _ y).mono ?_;rintro _ H9 ⟨rfl,rfl⟩;by_cases b4:Bg y=true
      ·rw[if_pos b4] at hn⊢
       have hv:Er H5 27 9 2 ([x,y].flatMap dEx) (.oslice 9 r7 0 2 2) H9:= .inr ⟨r7,hr7,by rw[hxy,jC,hlx,hly],rfl,by rw[hxy];exact g77,s57⟩;have hvf:=fun yy=>hv.set ha5 (x:=r4) (by rw[Aj _ _ _ _ q4];exact h04) g54 yy;simp(disch:=omega)only[go_sem,b4,g73,g74,hla];exact Fc.fin (hvf _).sub (Fc.agg (Fc.ex (l:= [x,y]) (hvf _).sub (Fc.own (hvf _)) (.as0 (hvf _).sub))) ⟨rfl,rfl⟩
      ·have b4':Bg y=false:=by simpa using b4
       rw[if_neg b4] at hn⊢
       simp(disch:=omega)only[go_sem,b4'];refine(Ri G _ ha7.get).mono ?_;rintro _ H10 ⟨rfl,rfl⟩;simp(disch:=omega)only[go_sem];exact RAt.finP ha7 ⟨rfl,rfl⟩
   ·have b2':isW l k [Lz,wIn]=false:=by simpa using b2
    rw[if_neg b2] at hn hH4⊢
    rw[Co ha2.get] at hH4;subst hH4;simp(disch:=omega)only[go_sem,b2',g23,g24,hlx,hox];exact RAt.fin (ha2.own h04 q4 _) ⟨rfl,rfl⟩
 ·have c': ¬(o:Int)=0:=by omega
  rw[if_pos c] at hn⊢
  simp(disch:=omega)only[go_sem,c'];refine Am (by kernel_rfl) pL10 (by kernel_rfl) ?_;simp(disch:=omega)only[go_sem,g23];have hpk:=hp _ k2 ha2.get (by omega);dsimp only at hpk;cases hpr:p.simple k2 with
  | bot=>rw[hpr] at hn;exact absurd rfl hn
  | fail k3=>
   rw[hpr] at hpk;refine(hpk (Az (by simp))).mono ?_;rintro e H3 ⟨rfl,rfl⟩;simp(disch:=omega)only[go_sem];exact RAt.finP (ha2.set k3) ⟨rfl,rfl⟩
  | ok y k3=>
   rw[hpr] at hpk;refine(hpk (Az (by simp))).mono ?_;rintro e H3 ⟨rfl,hH3⟩;have ha3:RAt r l k3 H H3:=by rw[hH3];exact ha2.set k3
   have g33:H3 r3=some (.cells (dEx x) 27):=by rw[hH3];exact Af g23 q3
   have g34:H3 r4=some (.cells [.int .u8 0, .int .u8 0, .int .i64 0, .str [], .nilSlice, .nilSlice, .int .i64 0, .int .i64 0, .int .i64 0] 27):=by rw[hH3];exact Af g24 q4
   dsimp only[Res.then];simp(disch:=omega)only[go_sem,dE,g23,g33];refine(Wt G _ o x y).mono ?_;rintro _ H5 ⟨rfl,rfl⟩;have hly:=Ai (both o x y);have hoy:=Bh (both o x y);simp(disch:=omega)only[go_sem,g34,hly,hoy];exact RAt.fin (ha3.own h04 q4 _) ⟨rfl,rfl⟩
end
end Go.Dl
