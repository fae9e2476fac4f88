/- The data level and the contracts of the functions that are reached (part 6). -/
import Derived.Test.YtkieniphnglaaaaGreatDoorPce
set_option linter.unusedSimpArgs false
set_option linter.unusedVariables false
set_option linter.unusedSectionVars false
-- Chapter 3: the package's reader: chains of operands.
namespace Go.Dl
open Go Go.Proofs
set_option maxRecDepth 100000
def Res.mp {α:Type} (f:α->DVal):Res α->Res DVal
 | .bot=> .bot
 | .fail k=> .fail k
 | .ok x k=> .ok (f x) k
def dE (e:Ex):DVal:= .agg (dEx e)
section
variable {G:Nat->DVal} {H0 H:Ab} {r k:Nat} {l:List Tok}
def RdC (P:Program) (G:Nat->DVal) (l:List Tok) (f:FuncId) (r:Nat) (res:Nat->Res DVal):Prop:=
 ∀H k,H r=some (rdO l k)->k<=l.length->res k≠ .bot->Ah P G f [.optr r 0] H (RdR r l H (res k))
set_option maxHeartbeats 4000000 in
theorem Ae9 (hG:GX G) (g:FuncId) (T:Nat->Nat->Res Ex) (L:Nat->Ex->Nat->Res Ex) (lo hi:Nat) (h1:1<=lo) (h2:lo<=hi) (h3:hi<=21) (hl:l.length<=800000)
  (hL0: ∀x k,L 0 x k= .bot) (hL: ∀m x k,L (m+1) x k=if(opF l 0 k (Yx hi (hi+1-lo))).1=0 then .ok x k else(T m (opF l 0 k (Yx hi (hi+1-lo))).2).then fun y k'=>L m (both (opF l 0 k (Yx hi (hi+1-lo))).1 x y) k')
  (hT: ∀m k,k<=l.length->Adv l (k+1) (T m k)) (hos: ∀o∈Yx hi (hi+1-lo),o<22/\o≠0)
  (n:Nat) (hg: ∀m<n,RdC Tryz.prog G l g r fun k=>(T m k).mp dE) (H:Ab) (x:Ex) (k:Nat) (hr:H r=some (rdO l k)) (hk:k<=l.length) (hn:L n x k≠ .bot):
  Ah Tryz.prog G 246 [.optr r 0, .agg (dEx x), .int .u8 lo, .int .u8 hi, .func (.func g) [.optr r 0] []] H (RdR r l H ((L n x k).mp dE)):=by
 refine Ac Tryz.func246 Tryz.call246 rfl (by kernel_rfl) ?_;simp(disch:=omega) only[go_sem,↓reduceIte,DVal.cells];intro r6 hr6;dsimp only at hr6;simp(disch:=omega) only[go_sem,↓reduceIte,DVal.cells];intro rx hrx;dsimp only at hrx;obtain⟨m1,m2,hrx'⟩:=Dj1.1 hrx;have n6:r≠r6:=Af hr6 hr;have nx:r≠rx:=Af hrx' hr;have ha:=((RAt.refl hr).new hr6 (some (.cells (dEx x) 36))).new hrx (some (.cells [.int .u8 0, .int .u8 0, .int .i64 0, .str [], .nilSlice, .nilSlice, .int .i64 0, .int .i64 0, .int .i64 0] 36));simp(disch:=omega) only[go_sem,↓reduceIte,m1,m2,n6,nx];refine(Lj hG _ lo hi 0 h1 h2 h3 ha.get (by omega) (by omega)).mono ?_;rintro _ H1 ⟨rfl,rfl⟩;obtain⟨os,hosd⟩: ∃os,os=Yx hi (hi+1-lo):=⟨_,rfl⟩;rw[<-hosd] at hL hos⊢
 have q6:=n6.symm;have qx:=nx.symm;obtain⟨z,hz⟩: ∃z,z=(some (.cells [.int .u8 0, .int .u8 0, .int .i64 0, .str [], .nilSlice, .nilSlice, .int .i64 0, .int .i64 0, .int .i64 0] 36):Option DObj):=⟨_,rfl⟩;rw[<-hz] at ha;obtain⟨n',rfl⟩: ∃n',n=n'+1:=by
  cases n with
  | zero=>exact absurd (hL0 _ _) hn
  | succ n'=>exact⟨n',rfl⟩
 simp(disch:=omega) only[go_sem,↓reduceIte,m1,m2,n6,nx];obtain⟨I,hI⟩: ∃I:Nat×Ex×Nat->(Nat->DVal)->Ab->Prop,∀s env heap,I s env heap↔(env 0= .optr r 0/\env 2= .int .u8 lo/\env 3= .int .u8 hi/\env 4= .func (.func g) [.optr r 0] []/\env 6= .optr r6 0/\env 10= .optr rx 0/\env 11= .int .u8 (opF l 0 s.2.2 os).1/\s.2.2<=l.length/\s.1<=n'/\L (s.1+1) s.2.1 s.2.2=L (n'+1) x k/\RAt r l (opF l 0 s.2.2 os).2 H heap/\heap r6=some (.cells (dEx s.2.1) 36)/\heap rx=z):=⟨_,fun _ _ _=>Iff.rfl⟩;refine Bs7.run I (fun s=>s.1) (n',x,k) ((hI _ _ _).2 ?_) ?_
 ·simp(disch:=omega) only[go_sem,↓reduceIte,<-hz,m1,m2,n6,nx,q6,qx];(repeat' apply And.intro)<;>(try first | rfl | assumption | omega);exact ha.set _
 ·rintro⟨m,y,k1⟩ env heap hi';obtain⟨e0,e2,e3,e4,e6,e10,e11,hk1,hm,hLm,hat,g6,gx⟩:=(hI _ _ _).1 hi';dsimp only at e11 hk1 hm hLm hat g6;rw[hL] at hLm;have hadv:=Cl (want:=0) (os:=os) (k:=k1) (l:=l) hos hk1;obtain⟨o,ho⟩: ∃o,o=(opF l 0 k1 os).1:=⟨_,rfl⟩;obtain⟨k2,hk2⟩: ∃k2,k2=(opF l 0 k1 os).2:=⟨_,rfl⟩;rw[<-ho,<-hk2] at hLm hadv;rw[<-ho] at e11;rw[<-hk2] at hat;by_cases c:o=0
  ·have c':(o:Int)=0:=by omega
   rw[if_pos c] at hLm;rw[hz] at gx;have hk21:k2=k1:=hadv.1 c;rw[hk21] at hat;simp(disch:=omega) only[go_sem,↓reduceIte,e0,e2,e3,e4,e6,e10,e11,c',g6,gx];rw[<-hLm];exact RAt.fin (hat.own hrx' qx _) ⟨rfl,rfl⟩
  ·have c': ¬(o:Int)=0:=by omega
   rw[if_neg c] at hLm;simp(disch:=omega) only[go_sem,↓reduceIte,e0,e2,e3,e4,e6,e10,e11,c'];refine An (by kernel_rfl) (.take 0 (.take 1 (.take 2 (.go 3 [1] (.go 4 [] (.go 5 [] .done)))))) (by kernel_rfl) ?_;simp(disch:=omega) only[go_sem,↓reduceIte,e0,e2,e3,e4,e6,e10,e11,g6];have hTm:=hT m k2 (by omega);have hgm:=hg m (by omega) heap k2 hat.get (by omega);dsimp only at hgm;cases hTk:T m k2 with
   | bot=>rw[hTk] at hLm;exact absurd hLm.symm hn
   | fail k3=>
    rw[hTk] at hgm hLm;refine(hgm (by simp [Res.mp])).mono ?_;rintro e H2 ⟨rfl,rfl⟩;simp(disch:=omega) only[go_sem,↓reduceIte];rw[<-hLm];exact RAt.finP (hat.set k3) ⟨rfl,rfl⟩
   | ok y2 k3=>
    rw[hTk] at hgm hLm hTm;dsimp only[Res.then,Adv] at hLm hTm;refine(hgm (by simp [Res.mp])).mono ?_;rintro e H2 ⟨rfl,rfl⟩;simp(disch:=omega) only[go_sem,↓reduceIte,e0,e2,e3,e4,e6,e10,e11,dE,q6];refine(Wv G _ o y y2).mono ?_;rintro _ H3 ⟨rfl,rfl⟩;have hby:=Aj (both o y y2);have hb1:=Ba (both o y y2);have hly:=Aj y;have hdr:(dEx y).drop 9= []:=List.drop_eq_nil_of_le (by omega);simp(disch:=omega) only[go_sem,↓reduceIte,e0,e2,e3,e4,e6,e10,e11,g6,n6,q6,hby,hb1,hly,hdr];have hat3:RAt r l k3 H (upd (upd heap r (some (rdO l k3))) r6 (some (.cells (dEx (both o y y2)) 36))):=(hat.set k3).own hr6 q6 _;refine(Lj hG _ lo hi 0 h1 h2 h3 hat3.get (by omega) (by omega)).mono ?_;rintro _ H4 ⟨rfl,rfl⟩;rw[<-hosd];obtain⟨m',rfl⟩: ∃m',m=m'+1:=by
     cases m with
     | zero=>rw[hL0] at hLm;exact absurd hLm.symm hn
     | succ m'=>exact⟨m',rfl⟩
    simp(disch:=omega) only[go_sem,↓reduceIte,e0,e2,e3,e4,e6,e10];refine⟨(m',both o y y2,k3),_,Ik.refl _,(hI _ _ _).2 ?_,by dsimp only;omega⟩;simp(disch:=omega) only[go_sem,↓reduceIte,e0,e2,e3,e4,e6,e10,q6,qx,n6,nx,g6,gx,m1,m2,hLm];(repeat' apply And.intro)<;>(try first | rfl | assumption | omega);exact hat3.set _
end
end Go.Dl

-- Chapter 3: the package's reader: factors, terms, simples.
namespace Go.Dl
open Go Go.Proofs
set_option maxRecDepth 100000
section
variable {G:Nat->DVal} {H0 H:Ab} {r k:Nat} {l:List Tok}
theorem Df8 (hG:GX G) (H:Ab) (hr:H r=some (rdO l k)) (hl:l.length<=800000) (hk:k<=l.length):Ah Tryz.prog G 241 [.optr r 0, .int .u8 20, .int .u8 21, .int .u8 0] H (RdQ r l H (.int .u8 (opF l 0 k Gp).1) (opF l 0 k Gp).2):=
 Lj hG H 20 21 0 (by decide) (by decide) (by decide) hr (by omega) (by omega)
theorem Cs8 (hG:GX G) (H:Ab) (hr:H r=some (rdO l k)) (hl:l.length<=800000) (hk:k<=l.length):Ah Tryz.prog G 241 [.optr r 0, .int .u8 18, .int .u8 19, .int .u8 0] H (RdQ r l H (.int .u8 (opF l 0 k Ej).1) (opF l 0 k Ej).2):=
 Lj hG H 18 19 0 (by decide) (by decide) (by decide) hr (by omega) (by omega)
theorem Df9 (hG:GX G) (H:Ab) (hr:H r=some (rdO l k)) (hl:l.length<=800000) (hk:k<=l.length):Ah Tryz.prog G 241 [.optr r 0, .int .u8 7, .int .u8 12, .int .u8 0] H (RdQ r l H (.int .u8 (opF l 0 k Io).1) (opF l 0 k Io).2):=
 Lj hG H 7 12 0 (by decide) (by decide) (by decide) hr (by omega) (by omega)
theorem Bv3 (hG:GX G) (H:Ab) (want:Nat) (hr:H r=some (rdO l k)) (hl:l.length<=800000) (hk:k<=l.length):Ah Tryz.prog G 241 [.optr r 0, .int .u8 13, .int .u8 17, .int .u8 want] H (RdQ r l H (.int .u8 (opF l want k Ci).1) (opF l want k Ci).2):=
 Lj hG H 13 17 want (by decide) (by decide) (by decide) hr (by omega) (by omega)
theorem Ay {α:Type} {f:α->DVal} {x:Res α} (h:x≠ .bot):x.mp f≠ .bot:=by cases x<;>simp_all [Res.mp]
theorem Lk {x:List DVal} (hx:x.length=9):
  (if 9<=(Cm 1 [DVal.int .u8 0,DVal.int .u8 0,DVal.int .i64 0,DVal.str [],DVal.nilSlice,DVal.nilSlice,DVal.int .i64 0,DVal.int .i64 0,DVal.int .i64 0]).length then
   some (x++List.drop 9 (Cm 1 [DVal.int .u8 0,DVal.int .u8 0,DVal.int .i64 0,DVal.str [],DVal.nilSlice,DVal.nilSlice,DVal.int .i64 0,DVal.int .i64 0,DVal.int .i64 0]))
  else none)=some x:=by
 have e: ∀u:List DVal,Cm 1 u=u:=fun u=>by simp [Cm]
 rw[e,if_pos (by simp),List.drop_eq_nil_of_le (by simp),List.append_nil]
theorem Cs9 {x:List DVal} (hx:x.length=9) (z:List DVal) (hz:z.length=9):x++z.drop 9=x:=by rw[List.drop_eq_nil_of_le (by omega),List.append_nil]
theorem Ai {H:Ab} {r x:Nat} {y:Option DObj} {o:DObj} (h:H x=some o) (hn:x≠r):upd H r y x=some o:=by rw[Aq _ _ _ _ hn];exact h
set_option maxHeartbeats 4000000 in
theorem Bd2 (hG:GX G) (hl:l.length<=800000) (p:PS) (hA:p.Adv l) (hp:RdC Tryz.prog G l 111 r fun k=>(p.primary k).mp dE):RdC Tryz.prog G l 110 r fun k=>((Av l p).factor k).mp dE:=by
 intro H k hr hk hn;dsimp only[Av] at hn⊢
 have hadv:=Cl (want:=0) (os:=Gp) (k:=k) (l:=l) Dw0.2.2.2.2.2 hk;refine Ac Tryz.func110 Tryz.call110 rfl (by kernel_rfl) ?_;simp(disch:=omega) only[go_sem,↓reduceIte];intro r2 hr2;dsimp only at hr2;obtain⟨Ha,hHa⟩: ∃K,K=upd H r2 (some (.cells [.int .u8 0, .int .u8 0, .int .i64 0, .str [], .nilSlice, .nilSlice, .int .i64 0, .int .i64 0, .int .i64 0] 36)):=⟨_,rfl⟩;rw[<-hHa];have gr2:Ha r2=some (.cells [.int .u8 0, .int .u8 0, .int .i64 0, .str [], .nilSlice, .nilSlice, .int .i64 0, .int .i64 0, .int .i64 0] 36):=by rw[hHa];exact Aa _ _ _
 have n2:r≠r2:=Af hr2 hr;have q2:=n2.symm;have ha:RAt r l k H Ha:=by rw[hHa];exact(RAt.refl hr).new hr2 _
 simp(disch:=omega) only[go_sem,↓reduceIte];refine(Wt G _ ha.get (by omega) (by omega)).mono ?_;rintro _ H1 ⟨rfl,rfl⟩;simp(disch:=omega) only[go_sem,↓reduceIte];refine(Df8 hG _ ha.get hl hk).mono ?_;rintro _ H2 ⟨rfl,hH2⟩;obtain⟨o,ho⟩: ∃o,o=(opF l 0 k Gp).1:=⟨_,rfl⟩;obtain⟨k2,hk2⟩: ∃k2,k2=(opF l 0 k Gp).2:=⟨_,rfl⟩;rw[<-ho,<-hk2] at hadv hn⊢
 rw[<-hk2] at hH2;have ha2:RAt r l k2 H H2:=by rw[hH2];exact ha.set k2
 have g2:H2 r2=some (.cells [.int .u8 0, .int .u8 0, .int .i64 0, .str [], .nilSlice, .nilSlice, .int .i64 0, .int .i64 0, .int .i64 0] 36):=by rw[hH2];exact Ai gr2 q2
 simp(disch:=omega) only[go_sem,↓reduceIte];have hpk:=hp _ k2 ha2.get (by omega);dsimp only at hpk;cases hpr:p.primary k2 with
 | bot=>rw[hpr] at hn;exact absurd rfl hn
 | fail k3=>
  rw[hpr] at hpk;refine(hpk (Ay (by simp))).mono ?_;rintro e H3 ⟨rfl,rfl⟩;simp(disch:=omega) only[go_sem,↓reduceIte];exact RAt.finP (ha2.set k3) ⟨rfl,rfl⟩
 | ok x k3=>
  rw[hpr] at hpk;refine(hpk (Ay (by simp))).mono ?_;rintro e H3 ⟨rfl,hH3⟩;have ha3:RAt r l k3 H H3:=by rw[hH3];exact ha2.set k3
  dsimp only[Res.then];have g3:H3 r2=some (.cells [.int .u8 0, .int .u8 0, .int .i64 0, .str [], .nilSlice, .nilSlice, .int .i64 0, .int .i64 0, .int .i64 0] 36):=by rw[hH3];exact Ai g2 q2
  simp(disch:=omega) only[go_sem,↓reduceIte,dE];intro r5 hr5;dsimp only at hr5;have n5:r2≠r5:=Af hr5 g3;have q5:=n5.symm;have hlx:=Aj x;have hox:=Ba x;have hc:=Cs9 hlx [.int .u8 0, .int .u8 0, .int .i64 0, .str [], .nilSlice, .nilSlice, .int .i64 0, .int .i64 0, .int .i64 0] rfl;simp(disch:=omega) only[go_sem,↓reduceIte,n5,q5,g3,hlx,hox];by_cases c:o=0
  ·have c':(o:Int)=0:=by omega
   simp(disch:=omega) only[go_sem,↓reduceIte,n5,q5,g3,hlx,hox,c'];rw[show Kf o (tk l k).line x=x by rw[Kf,if_pos c]];exact RAt.fin ((ha3.new hr5 _).own hr2 q2 _) ⟨rfl,rfl⟩
  ·have c': ¬(o:Int)=0:=by omega
   simp(disch:=omega) only[go_sem,↓reduceIte,n5,q5,g3,hlx,hox,c'];rw[Lk hlx];simp(disch:=omega) only[go_sem,↓reduceIte,n5,q5,g3,hlx,hox,c'];intro r8 hr8;dsimp only at hr8;obtain⟨m1,m2,hr8a⟩:=Dj1.1 hr8;have n8:r2≠r8:=Af hr8a g3;have q8:=n8.symm;simp(disch:=omega) only[go_sem,↓reduceIte,n5,q5,g3,hlx,hox,m1,m2,n8,q8];rw[show Kf o (tk l k).line x= .mk 11 o 0 [] [x] [] (tk l k).line 0 0 by rw[Kf,if_neg c]];have p5:r≠r5:=Af hr5 ha3.get;have hs:=(((ha3.new hr5 (some (.cells (dEx x) 36))).new hr8 (some (.cells (dEx x) 36))).own (ha3.lo hr5) p5.symm (some (.cells [.int .u8 11, .int .u8 o, .int .i64 0, .str [], .oslice 9 r8 0 1 1, .nilSlice, .int .i64 (tk l k).line, .int .i64 0, .int .i64 0] 36))).own hr2 q2 (some (.cells [.int .u8 11, .int .u8 o, .int .i64 0, .str [], .oslice 9 r8 0 1 1, .nilSlice, .int .i64 (tk l k).line, .int .i64 0, .int .i64 0] 36));refine Fv.fin hs (Fv.agg (Fv.ex (l:= [x]) hs (Fv.block (e:=36) hs (Sub.lo ha3 hr8a) ?_ ?_) (.as0 hs))) ⟨rfl,rfl⟩
   ·rw[List.flatMap_singleton];simp [upd,m1,m2,n8,q8]
   ·rw[List.flatMap_singleton,hlx]
theorem Ct0 (hG:GX G) (hl:l.length<=800000) (n:Nat) (hg: ∀m<n,RdC Tryz.prog G l 110 r fun k=>((P l m).factor k).mp dE) (H:Ab) (x:Ex) (k:Nat) (hr:H r=some (rdO l k)) (hk:k<=l.length) (hn:(P l n).mulL x k≠ .bot):
  Ah Tryz.prog G 246 [.optr r 0, .agg (dEx x), .int .u8 3, .int .u8 6, .func (.func 110) [.optr r 0] []] H (RdR r l H (((P l n).mulL x k).mp dE)):=
 Ae9 hG _ (fun m=>(P l m).factor) (fun m=>(P l m).mulL) 3 6 (by decide) (by decide) (by decide) hl (fun _ _=>rfl) (fun _ _ _=>rfl) (fun m k hk=>(Fu m).factor k hk) Dw0.2.2.2.2.1 n hg H x k hr hk hn
theorem Bd3 (hG:GX G) (hl:l.length<=800000) (n:Nat) (hg: ∀m<n,RdC Tryz.prog G l 109 r fun k=>((P l m).term k).mp dE) (H:Ab) (x:Ex) (k:Nat) (hr:H r=some (rdO l k)) (hk:k<=l.length) (hn:(P l n).addL x k≠ .bot):
  Ah Tryz.prog G 246 [.optr r 0, .agg (dEx x), .int .u8 1, .int .u8 2, .func (.func 109) [.optr r 0] []] H (RdR r l H (((P l n).addL x k).mp dE)):=
 Ae9 hG _ (fun m=>(P l m).term) (fun m=>(P l m).addL) 1 2 (by decide) (by decide) (by decide) hl (fun _ _=>rfl) (fun _ _ _=>rfl) (fun m k hk=>(Fu m).term k hk) Dw0.2.2.2.1 n hg H x k hr hk hn
set_option maxHeartbeats 4000000 in
theorem Cf2 (hG:GX G) (hl:l.length<=800000) (n:Nat) (hg: ∀m≤n,RdC Tryz.prog G l 110 r fun k=>((P l m).factor k).mp dE):RdC Tryz.prog G l 109 r fun k=>((P l (n+1)).term k).mp dE:=by
 intro H k hr hk hn;have e:(P l (n+1)).term k=((P l n).factor k).then fun x k=>(P l n).mulL x k:=rfl
 dsimp only at hn⊢
 rw[e] at hn⊢
 refine Ac Tryz.func109 Tryz.call109 rfl (by kernel_rfl) ?_;simp(disch:=omega) only[go_sem,↓reduceIte];intro r2 hr2;dsimp only at hr2;obtain⟨Ha,hHa⟩: ∃K,K=upd H r2 (some (.cells [.int .u8 0, .int .u8 0, .int .i64 0, .str [], .nilSlice, .nilSlice, .int .i64 0, .int .i64 0, .int .i64 0] 36)):=⟨_,rfl⟩;rw[<-hHa];have gr2:Ha r2=some (.cells [.int .u8 0, .int .u8 0, .int .i64 0, .str [], .nilSlice, .nilSlice, .int .i64 0, .int .i64 0, .int .i64 0] 36):=by rw[hHa];exact Aa _ _ _
 have n2:r≠r2:=Af hr2 hr;have q2:=n2.symm;have ha:RAt r l k H Ha:=by rw[hHa];exact(RAt.refl hr).new hr2 _
 simp(disch:=omega) only[go_sem,↓reduceIte];have hpk:=hg n (Nat.le_refl _) _ k ha.get hk;have had:=(Fu (l:=l) n).factor k hk;dsimp only at hpk;cases hpr:(P l n).factor k with
 | bot=>rw[hpr] at hn;exact absurd rfl hn
 | fail k3=>
  rw[hpr] at hpk;refine(hpk (Ay (by simp))).mono ?_;rintro e H3 ⟨rfl,rfl⟩;simp(disch:=omega) only[go_sem,↓reduceIte];exact RAt.finP (ha.set k3) ⟨rfl,rfl⟩
 | ok x k3=>
  rw[hpr] at hpk hn had;refine(hpk (Ay (by simp))).mono ?_;rintro e H3 ⟨rfl,hH3⟩;have ha3:RAt r l k3 H H3:=by rw[hH3];exact ha.set k3
  dsimp only[Res.then,Adv] at hn had⊢
  have g3:H3 r2=some (.cells [.int .u8 0, .int .u8 0, .int .i64 0, .str [], .nilSlice, .nilSlice, .int .i64 0, .int .i64 0, .int .i64 0] 36):=by rw[hH3];exact Ai gr2 q2
  simp(disch:=omega) only[go_sem,↓reduceIte,dE];have hn2:(P l n).mulL x k3≠ .bot:=fun h=>hn (by rw[h];rfl);have hch:=Ct0 hG hl n (fun m hm=>hg m (by omega)) H3 x k3 ha3.get (by omega) hn2;cases hpc:(P l n).mulL x k3 with
  | bot=>exact absurd hpc hn2
  | fail k4=>
   rw[hpc] at hch;refine hch.mono ?_;rintro e H4 ⟨rfl,rfl⟩;simp(disch:=omega) only[go_sem,↓reduceIte];exact RAt.finP (ha3.set k4) ⟨rfl,rfl⟩
  | ok y k4=>
   rw[hpc] at hch;refine hch.mono ?_;rintro e H4 ⟨rfl,hH4⟩;have ha4:RAt r l k4 H H4:=by rw[hH4];exact ha3.set k4
   have g4:H4 r2=some (.cells [.int .u8 0, .int .u8 0, .int .i64 0, .str [], .nilSlice, .nilSlice, .int .i64 0, .int .i64 0, .int .i64 0] 36):=by rw[hH4];exact Ai g3 q2
   have hly:=Aj y;have hoy:=Ba y;simp(disch:=omega) only[go_sem,↓reduceIte,dE,g4,hly,hoy];exact RAt.fin (ha4.own hr2 q2 _) ⟨rfl,rfl⟩
end
end Go.Dl

-- Chapter 3: the package's reader: simples.
namespace Go.Dl
open Go Go.Proofs
set_option maxRecDepth 100000
section
variable {G:Nat->DVal} {H0 H:Ab} {r k:Nat} {l:List Tok}
set_option maxHeartbeats 4000000 in
theorem Bd4 (hG:GX G) (hl:l.length<=800000) (n:Nat) (hg: ∀m≤n,RdC Tryz.prog G l 109 r fun k=>((P l m).term k).mp dE):RdC Tryz.prog G l 108 r fun k=>((P l (n+1)).simple k).mp dE:=by
 intro H k hr hk hn;have e:(P l (n+1)).simple k=((P l n).term (opF l 0 k Ej).2).then fun x k'=>(P l n).addL (Kf (opF l 0 k Ej).1 (tk l k).line x) k':=rfl
 dsimp only at hn⊢
 rw[e] at hn⊢
 have hadv:=Cl (want:=0) (os:=Ej) (k:=k) (l:=l) Dw0.2.2.1 hk;refine Ac Tryz.func108 Tryz.call108 rfl (by kernel_rfl) ?_;simp(disch:=omega) only[go_sem,↓reduceIte];intro r2 hr2;dsimp only at hr2;obtain⟨Ha,hHa⟩: ∃K,K=upd H r2 (some (.cells [.int .u8 0, .int .u8 0, .int .i64 0, .str [], .nilSlice, .nilSlice, .int .i64 0, .int .i64 0, .int .i64 0] 36)):=⟨_,rfl⟩;rw[<-hHa];have gr2:Ha r2=some (.cells [.int .u8 0, .int .u8 0, .int .i64 0, .str [], .nilSlice, .nilSlice, .int .i64 0, .int .i64 0, .int .i64 0] 36):=by rw[hHa];exact Aa _ _ _
 have n2:r≠r2:=Af hr2 hr;have q2:=n2.symm;have ha:RAt r l k H Ha:=by rw[hHa];exact(RAt.refl hr).new hr2 _
 simp(disch:=omega) only[go_sem,↓reduceIte];refine(Wt G _ ha.get (by omega) (by omega)).mono ?_;rintro _ H1 ⟨rfl,rfl⟩;simp(disch:=omega) only[go_sem,↓reduceIte];refine(Cs8 hG _ ha.get hl hk).mono ?_;rintro _ H2 ⟨rfl,hH2⟩;obtain⟨o,ho⟩: ∃o,o=(opF l 0 k Ej).1:=⟨_,rfl⟩;obtain⟨k2,hk2⟩: ∃k2,k2=(opF l 0 k Ej).2:=⟨_,rfl⟩;rw[<-ho,<-hk2] at hadv hn⊢
 rw[<-hk2] at hH2;have ha2:RAt r l k2 H H2:=by rw[hH2];exact ha.set k2
 have g2:H2 r2=some (.cells [.int .u8 0, .int .u8 0, .int .i64 0, .str [], .nilSlice, .nilSlice, .int .i64 0, .int .i64 0, .int .i64 0] 36):=by rw[hH2];exact Ai gr2 q2
 simp(disch:=omega) only[go_sem,↓reduceIte];have hpk:=hg n (Nat.le_refl _) _ k2 ha2.get (by omega);have had:=(Fu (l:=l) n).term k2 (by omega);dsimp only at hpk;cases hpr:(P l n).term k2 with
 | bot=>rw[hpr] at hn;exact absurd rfl hn
 | fail k3=>
  rw[hpr] at hpk;refine(hpk (Ay (by simp))).mono ?_;rintro e H3 ⟨rfl,rfl⟩;simp(disch:=omega) only[go_sem,↓reduceIte];exact RAt.finP (ha2.set k3) ⟨rfl,rfl⟩
 | ok x k3=>
  rw[hpr] at hpk hn had;refine(hpk (Ay (by simp))).mono ?_;rintro e H3 ⟨rfl,hH3⟩;have ha3:RAt r l k3 H H3:=by rw[hH3];exact ha2.set k3
  dsimp only[Res.then,Adv] at hn had⊢
  have g3:H3 r2=some (.cells [.int .u8 0, .int .u8 0, .int .i64 0, .str [], .nilSlice, .nilSlice, .int .i64 0, .int .i64 0, .int .i64 0] 36):=by rw[hH3];exact Ai g2 q2
  have hn2:(P l n).addL (Kf o (tk l k).line x) k3≠ .bot:=fun h=>hn (by rw[h];rfl);simp(disch:=omega) only[go_sem,↓reduceIte,dE];intro r5 hr5;dsimp only at hr5;have n5:r2≠r5:=Af hr5 g3;have q5:=n5.symm;have p5:r≠r5:=Af hr5 ha3.get;have hlx:=Aj x;have hox:=Ba x;simp(disch:=omega) only[go_sem,↓reduceIte,n5,q5,g3,hlx,hox];by_cases c:o=0
  ·have c':(o:Int)=0:=by omega
   simp(disch:=omega) only[go_sem,↓reduceIte,n5,q5,g3,hlx,hox,c'];rw[show Kf o (tk l k).line x=x by rw[Kf,if_pos c]] at hn2⊢
   have ha5:=ha3.new hr5 (some (.cells (dEx x) 36));have g5:upd H3 r5 (some (.cells (dEx x) 36)) r2=some (.cells [.int .u8 0, .int .u8 0, .int .i64 0, .str [], .nilSlice, .nilSlice, .int .i64 0, .int .i64 0, .int .i64 0] 36):=Ai g3 n5;obtain⟨H5,hH5⟩: ∃H5,H5=upd H3 r5 (some (.cells (dEx x) 36)):=⟨_,rfl⟩;rw[<-hH5] at ha5 g5⊢
   have hch:=Bd3 hG hl n (fun m hm=>hg m (by omega)) H5 x k3 ha5.get (by omega) hn2;cases hpc:(P l n).addL x k3 with
   | bot=>exact absurd hpc hn2
   | fail k4=>
    rw[hpc] at hch;refine hch.mono ?_;rintro e H4 ⟨rfl,rfl⟩;simp(disch:=omega) only[go_sem,↓reduceIte];exact RAt.finP (ha5.set k4) ⟨rfl,rfl⟩
   | ok y k4=>
    rw[hpc] at hch;refine hch.mono ?_;rintro e H4 ⟨rfl,hH4⟩;have ha4:RAt r l k4 H H4:=by rw[hH4];exact ha5.set k4
    have g4:H4 r2=some (.cells [.int .u8 0, .int .u8 0, .int .i64 0, .str [], .nilSlice, .nilSlice, .int .i64 0, .int .i64 0, .int .i64 0] 36):=by rw[hH4];exact Ai g5 q2
    have hly:=Aj y;have hoy:=Ba y;simp(disch:=omega) only[go_sem,↓reduceIte,dE,g4,hly,hoy];exact RAt.fin (ha4.own hr2 q2 _) ⟨rfl,rfl⟩
  ·have c': ¬(o:Int)=0:=by omega
   simp(disch:=omega) only[go_sem,↓reduceIte,n5,q5,g3,hlx,hox,c'];rw[Lk hlx];simp(disch:=omega) only[go_sem,↓reduceIte,n5,q5,g3,hlx,hox,c'];intro r8 hr8;dsimp only at hr8;obtain⟨m1,m2,hr8a⟩:=Dj1.1 hr8;have n8:r2≠r8:=Af hr8a g3;have q8:=n8.symm;simp(disch:=omega) only[go_sem,↓reduceIte,n5,q5,g3,hlx,hox,m1,m2,n8,q8];obtain⟨xe,hxe⟩: ∃xe,xe=Kf o (tk l k).line x:=⟨_,rfl⟩;rw[<-hxe] at hn2⊢
   rw[show Kf o (tk l k).line x= .mk 11 o 0 [] [x] [] (tk l k).line 0 0 by rw[Kf,if_neg c]] at hxe;obtain⟨c5,hc5⟩: ∃c5,c5=(some (.cells [.int .u8 11, .int .u8 o, .int .i64 0, .str [], .oslice 9 r8 0 1 1, .nilSlice, .int .i64 (tk l k).line, .int .i64 0, .int .i64 0] 36):Option DObj):=⟨_,rfl⟩;obtain⟨H5,hH5⟩: ∃H5,H5=upd H3 r5 c5:=⟨_,rfl⟩;have ha5:RAt r l k3 H H5:=by rw[hH5];exact ha3.new hr5 _
   have g5:H5 r2=some (.cells [.int .u8 0, .int .u8 0, .int .i64 0, .str [], .nilSlice, .nilSlice, .int .i64 0, .int .i64 0, .int .i64 0] 36):=by rw[hH5];exact Ai g3 n5
   rw[<-hc5];have hs8:Sub H5 (upd (upd (upd H3 r5 (some (.cells (dEx x) 36))) r8 (some (.cells (dEx x) 36))) r5 c5):=by
    intro b ob hb;rw[hH5] at hb;simp only[upd] at hb⊢
    by_cases e1:b=r5
    ·rw[if_pos e1] at hb⊢;exact hb
    ·rw[if_neg e1] at hb⊢
     have e2:b≠r8:=fun e=>by rw[e,hr8a] at hb;cases hb
     rw[if_neg e2,if_neg e1];exact hb
   have h58:H5 r8=none:=by rw[hH5,Aq _ _ _ _ m1];exact hr8a
   have hch:=Bd3 hG hl n (fun m hm=>hg m (by omega)) H5 xe k3 ha5.get (by omega) hn2;have hse:Dp (upd (upd (upd H3 r5 (some (.cells (dEx x) 36))) r8 (some (.cells (dEx x) 36))) r5 c5)
     [.optr r 0, .agg [.int .u8 11, .int .u8 o, .int .i64 0, .str [], .oslice 9 r8 0 1 1, .nilSlice, .int .i64 (tk l k).line, .int .i64 0, .int .i64 0], .int .u8 1, .int .u8 2, .func (.func 109) [.optr r 0] []] H5
     [.optr r 0, .agg (dEx xe), .int .u8 1, .int .u8 2, .func (.func 109) [.optr r 0] []]:=by
    rw[hxe];refine .cons (.keep hs8 _) (.cons (Fv.agg (Fv.ex (l:= [x]) hs8 (Fv.block (e:=36) hs8 h58 ?_ ?_) (.as0 hs8))) (.keep hs8 _))
    ·rw[List.flatMap_singleton];simp [upd,m1,m2]
    ·rw[List.flatMap_singleton,hlx]
   refine hse.call hs8 ?_;cases hpc:(P l n).addL xe k3 with
   | bot=>exact absurd hpc hn2
   | fail k4=>
    rw[hpc] at hch;refine hch.mono ?_;rintro e H4 ⟨rfl,rfl⟩;simp(disch:=omega) only[go_sem,↓reduceIte];exact RAt.finP (ha5.set k4) ⟨rfl,rfl⟩
   | ok y k4=>
    rw[hpc] at hch;refine hch.mono ?_;rintro e H4 ⟨rfl,hH4⟩;have ha4:RAt r l k4 H H4:=by rw[hH4];exact ha5.set k4
    have g4:H4 r2=some (.cells [.int .u8 0, .int .u8 0, .int .i64 0, .str [], .nilSlice, .nilSlice, .int .i64 0, .int .i64 0, .int .i64 0] 36):=by rw[hH4];exact Ai g5 q2
    have hly:=Aj y;have hoy:=Ba y;simp(disch:=omega) only[go_sem,↓reduceIte,dE,g4,hly,hoy];exact RAt.fin (ha4.own hr2 q2 _) ⟨rfl,rfl⟩
end
end Go.Dl

-- Chapter 3: the package's reader: relations.
namespace Go.Dl
open Go Go.Proofs
set_option maxRecDepth 100000
section
variable {G:Nat->DVal} {H0 H:Ab} {r k:Nat} {l:List Tok}
def Bo3 (P:Program) (G:Nat->DVal) (l:List Tok) (f:FuncId) (r:Nat) (a:DVal) (res:Nat->Res DVal):Prop:=
 ∀H k,H r=some (rdO l k)->k<=l.length->res k≠ .bot->Ah P G f [.optr r 0,a] H (RdR r l H (res k))
theorem Ea.set {H B H':Ab} {e:TypeId} {size n:Nat} {cs:List DVal} {v:DVal} {x:Nat} {o:DObj} (h:Ea B e size n cs v H') (s:Sub H B) (hx:H x=none) (hB:B x=some o) (y:Option DObj):Ea H e size n cs v (upd H' x y):=by
 rcases h with⟨a,b,c,d⟩ | ⟨q,h1,h2,h3,h4,h5⟩
 ·exact .inl ⟨a,b,c,Sub.up (s.trans d) hx _⟩
 ·have hq:q≠x:=fun e=>by rw[e,hB] at h1;cases h1
  exact .inr ⟨q,s.lo h1,h2,h3,by rw[Aq _ _ _ _ hq];exact h4,Sub.up (s.trans h5) hx _⟩
theorem Sub.move {H H':Ab} (h:Sub H H') (r:Nat) (x:Option DObj):Sub (upd H r x) (upd H' r x):=h.both r x
set_option maxHeartbeats 4000000 in
theorem Ak9 (hG:GX G) (hl:l.length<=800000) (p:PS) (hA:p.Adv l) (hp:RdC Tryz.prog G l 108 r fun k=>(p.simple k).mp dE) (x:Ex):Bo3 Tryz.prog G l 107 r (.agg (dEx x)) fun k=>((Av l p).relation x k).mp dE:=by
 intro H k hr hk hn;dsimp only[Av] at hn⊢
 have hadv:=Cl (want:=0) (os:=Io) (k:=k) (l:=l) Dw0.2.1 hk;have hlx:=Aj x;have hox:=Ba x;have hla:(dEx x)[6]? =some (dI x.line):=by cases x;rfl
 refine Ac Tryz.func107 Tryz.call107 rfl (by kernel_rfl) ?_;simp(disch:=omega) only[go_sem,↓reduceIte,DVal.cells];intro r3 hr3;dsimp only at hr3;obtain⟨Hb,hHb⟩: ∃K,K=upd H r3 (some (.cells (dEx x) 36)):=⟨_,rfl⟩;rw[<-hHb];have gr3:Hb r3=some (.cells (dEx x) 36):=by rw[hHb];exact Aa _ _ _
 have n3:r≠r3:=Af hr3 hr;have q3:=n3.symm;simp(disch:=omega) only[go_sem,↓reduceIte,DVal.cells];intro r4 hr4;dsimp only at hr4;obtain⟨Ha,hHa⟩: ∃K,K=upd Hb r4 (some (.cells [.int .u8 0, .int .u8 0, .int .i64 0, .str [], .nilSlice, .nilSlice, .int .i64 0, .int .i64 0, .int .i64 0] 36)):=⟨_,rfl⟩;rw[<-hHa];have gr4:Ha r4=some (.cells [.int .u8 0, .int .u8 0, .int .i64 0, .str [], .nilSlice, .nilSlice, .int .i64 0, .int .i64 0, .int .i64 0] 36):=by rw[hHa];exact Aa _ _ _
 have hab:RAt r l k H Hb:=by rw[hHb];exact(RAt.refl hr).new hr3 _
 have n4:r≠r4:=Af hr4 hab.get;have q4:=n4.symm;have m3:r3≠r4:=Af hr4 gr3;have m4:=m3.symm;have h04:H r4=none:=hab.lo hr4;have ha:RAt r l k H Ha:=by rw[hHa];exact hab.new hr4 _
 have g3:Ha r3=some (.cells (dEx x) 36):=by rw[hHa];exact Ai gr3 m3
 simp(disch:=omega) only[go_sem,↓reduceIte];refine(Df9 hG _ ha.get hl hk).mono ?_;rintro _ H2 ⟨rfl,hH2⟩;obtain⟨o,ho⟩: ∃o,o=(opF l 0 k Io).1:=⟨_,rfl⟩;obtain⟨k2,hk2⟩: ∃k2,k2=(opF l 0 k Io).2:=⟨_,rfl⟩;rw[<-ho,<-hk2] at hadv hn⊢
 rw[<-hk2] at hH2;have ha2:RAt r l k2 H H2:=by rw[hH2];exact ha.set k2
 have g23:H2 r3=some (.cells (dEx x) 36):=by rw[hH2];exact Ai g3 q3
 have g24:H2 r4=some (.cells [.int .u8 0, .int .u8 0, .int .i64 0, .str [], .nilSlice, .nilSlice, .int .i64 0, .int .i64 0, .int .i64 0] 36):=by rw[hH2];exact Ai gr4 q4
 by_cases c:o=0
 ·have c':(o:Int)=0:=by omega
  have hk21:k2=k:=hadv.1 c;rw[if_neg (by omega)] at hn⊢
  rw[hk21] at ha2;simp(disch:=omega) only[go_sem,↓reduceIte,c'];intro q1 hq1;dsimp only at hq1;simp(disch:=omega) only[go_sem,↓reduceIte];refine(Sy hG H2 q1 wIn hq1 ha2.get (by omega) (by omega)).mono ?_;rintro _ H4 ⟨rfl,hH4⟩;by_cases b1:isW l k [wIn]=true
  ·rw[if_pos b1] at hn hH4⊢
   have ha4:RAt r l (k+1) H H4:=by rw[hH4];exact ha2.set _
   have g43:H4 r3=some (.cells (dEx x) 36):=by rw[hH4];exact Ai g23 q3
   have g44:H4 r4=some (.cells [.int .u8 0, .int .u8 0, .int .i64 0, .str [], .nilSlice, .nilSlice, .int .i64 0, .int .i64 0, .int .i64 0] 36):=by rw[hH4];exact Ai g24 q4
   have hk4l:=Ao b1 hk;obtain⟨k4,hk4⟩: ∃k4,k4=k+1:=⟨_,rfl⟩;rw[<-hk4] at hn ha4⊢
   rw[List.length_singleton,<-hk4] at hk4l;simp(disch:=omega) only[go_sem,↓reduceIte,b1];refine An (by kernel_rfl) (.take 0 (.take 1 (.go 2 [0] (.go 3 [] (.take 4 .done))))) (by kernel_rfl) ?_;simp(disch:=omega) only[go_sem,↓reduceIte,g43];unfold inK at hn⊢
   have hpk:=hp _ k4 ha4.get hk4l;dsimp only at hpk;have had:=hA.simple k4 hk4l;cases hpr:p.simple k4 with
   | bot=>rw[hpr] at hn;exact absurd rfl hn
   | fail k5=>
    rw[hpr] at hpk;refine(hpk (Ay (by simp))).mono ?_;rintro e H5 ⟨rfl,rfl⟩;simp(disch:=omega) only[go_sem,↓reduceIte];exact RAt.finP (ha4.set k5) ⟨rfl,rfl⟩
   | ok y k5=>
    rw[hpr] at hpk hn had;refine(hpk (Ay (by simp))).mono ?_;rintro e H5 ⟨rfl,hH5⟩;have ha5:RAt r l k5 H H5:=by rw[hH5];exact ha4.set k5
    have g53:H5 r3=some (.cells (dEx x) 36):=by rw[hH5];exact Ai g43 q3
    have g54:H5 r4=some (.cells [.int .u8 0, .int .u8 0, .int .i64 0, .str [], .nilSlice, .nilSlice, .int .i64 0, .int .i64 0, .int .i64 0] 36):=by rw[hH5];exact Ai g44 q4
    dsimp only[Res.then,Adv] at hn had⊢
    have hly:=Aj y;simp(disch:=omega) only[go_sem,↓reduceIte,dE,g43,g53];rw[Nq hlx hly];simp(disch:=omega) only[go_sem,↓reduceIte];intro r7 hr7;dsimp only at hr7;have hxy: [x,y].flatMap dEx=dEx x++dEx y:=by simp
    obtain⟨H7,hH7⟩: ∃K,K=upd H5 r7 (some (.cells (dEx x++dEx y) 36)):=⟨_,rfl⟩;rw[<-hH7];have g77:H7 r7=some (.cells (dEx x++dEx y) 36):=by rw[hH7];exact Aa _ _ _
    have n37:r3≠r7:=Af hr7 g53;have n47:r4≠r7:=Af hr7 g54;have nr7:r≠r7:=Af hr7 ha5.get;have ha7:RAt r l k5 H H7:=by rw[hH7];exact ha5.new hr7 _
    have g73:H7 r3=some (.cells (dEx x) 36):=by rw[hH7];exact Ai g53 n37
    have g74:H7 r4=some (.cells [.int .u8 0, .int .u8 0, .int .i64 0, .str [], .nilSlice, .nilSlice, .int .i64 0, .int .i64 0, .int .i64 0] 36):=by rw[hH7];exact Ai g54 n47
    have s57:Sub H5 H7:=by rw[hH7];exact(Sub.refl _).new hr7 _
    simp(disch:=omega) only[go_sem,↓reduceIte];intro q7 hq7;dsimp only at hq7;simp(disch:=omega) only[go_sem,↓reduceIte];refine(Sy hG H7 q7 Ef hq7 ha7.get (by omega) (by omega)).mono ?_;rintro _ H8 ⟨rfl,hH8⟩;by_cases b3:isW l k5 [Ef]=true
    ·rw[if_pos b3] at hn hH8⊢
     simp(disch:=omega) only[go_sem,↓reduceIte,b3];have ha8:RAt r l (k5+1) H H8:=by rw[hH8];exact ha7.set _
     have g83:H8 r3=some (.cells (dEx x) 36):=by rw[hH8];exact Ai g73 q3
     have g84:H8 r4=some (.cells [.int .u8 0, .int .u8 0, .int .i64 0, .str [], .nilSlice, .nilSlice, .int .i64 0, .int .i64 0, .int .i64 0] 36):=by rw[hH8];exact Ai g74 q4
     have hk5:=Ao b3 (by omega);rw[List.length_singleton] at hk5;have hpz:=hp _ (k5+1) ha8.get hk5;dsimp only at hpz;cases hpz2:p.simple (k5+1) with
     | bot=>rw[hpz2] at hn;exact absurd rfl hn
     | fail k6=>
      rw[hpz2] at hpz;refine(hpz (Ay (by simp))).mono ?_;rintro e H9 ⟨rfl,rfl⟩;simp(disch:=omega) only[go_sem,↓reduceIte];exact RAt.finP (ha8.set k6) ⟨rfl,rfl⟩
     | ok z k6=>
      rw[hpz2] at hpz hn;refine(hpz (Ay (by simp))).mono ?_;rintro e H9 ⟨rfl,hH9⟩;have hlz:=Aj z;dsimp only[Res.then];simp(disch:=omega) only[go_sem,↓reduceIte,dE];rw[Lk hlz];simp(disch:=omega) only[go_sem,↓reduceIte];intro r10 hr10;dsimp only at hr10;obtain⟨Bk,hBk⟩: ∃K,K=upd H5 r (some (rdO l k6)):=⟨_,rfl⟩;have hH9':H9=upd H7 r (some (rdO l k6)):=by
       rw[hH9,hH8];funext b;simp only[upd];split<;>rfl
      have hBH:Sub Bk H9:=by rw[hBk,hH9'];exact s57.move r _
      have hv:Ea Bk 36 9 2 ([x,y].flatMap dEx) (.oslice 9 r7 0 2 2) H9:= .inr ⟨r7,by rw[hBk,Aq _ _ _ _ nr7.symm];exact hr7,by rw[hxy,List.length_append,hlx,hly],rfl,by rw[hxy,hH9'];exact Ai g77 nr7.symm,hBH⟩;rw[hxy] at hv;have g97:H9 r7=some (.cells (dEx x++dEx y) 36):=by rw[hH9'];exact Ai g77 nr7.symm
      have n710:r7≠r10:=Af hr10 g97;simp(disch:=omega) only[go_sem,↓reduceIte];rw[if_neg n710,g97];refine Ea.appendO (m:=1) (hv.new hr10 _) hlz (by omega) fun v2 H10 hv2=> ?_;have e3:dEx x++dEx y++dEx z= [x,y,z].flatMap dEx:=by simp
      rw[e3] at hv2;have h9:RAt r l k6 H Bk:=by rw[hBk];exact ha5.set k6
      have b3:Bk r3=some (.cells (dEx x) 36):=by rw[hBk];exact Ai g53 q3
      have b4:Bk r4=some (.cells [.int .u8 0, .int .u8 0, .int .i64 0, .str [], .nilSlice, .nilSlice, .int .i64 0, .int .i64 0, .int .i64 0] 36):=by rw[hBk];exact Ai g54 q4
      have g103:=hv2.keep b3;have g104:=hv2.keep b4;obtain⟨hc1,hc2⟩:=hv2.cell1;have hvf:=fun yy=>hv2.set h9 (x:=r4) (by rw[Aq _ _ _ _ q4];exact h04) b4 yy;simp(disch:=omega) only[go_sem,↓reduceIte,g103,g104,hc1,hc2,hla];exact Fv.fin (hvf _).sub (Fv.agg (Fv.ex (l:= [x,y,z]) (hvf _).sub (Fv.own (hvf _)) (.as0 (hvf _).sub))) ⟨rfl,rfl⟩
    ·have b3':isW l k5 [Ef]=false:=by simpa using b3
     rw[if_neg b3] at hn hH8⊢
     rw[Cq ha7.get] at hH8;subst hH8;have hgy:List.take 9 (List.drop 9 (dEx x++dEx y))=dEx y:=by rw[List.drop_left' hlx];exact List.take_of_length_le (by omega)
     have hl18:18<=(dEx x++dEx y).length:=by rw[List.length_append];omega
     simp(disch:=omega) only[go_sem,↓reduceIte,b3',g77,hgy,hlx,hly,hl18];refine(Dn G _ y).mono ?_;rintro _ H9 ⟨rfl,rfl⟩;by_cases b4:Az y=true
     ·rw[if_pos b4] at hn⊢
      have hv:Ea H5 36 9 2 ([x,y].flatMap dEx) (.oslice 9 r7 0 2 2) H9:= .inr ⟨r7,hr7,by rw[hxy,List.length_append,hlx,hly],rfl,by rw[hxy];exact g77,s57⟩;have hvf:=fun yy=>hv.set ha5 (x:=r4) (by rw[Aq _ _ _ _ q4];exact h04) g54 yy;simp(disch:=omega) only[go_sem,↓reduceIte,b4,g73,g74,hla];exact Fv.fin (hvf _).sub (Fv.agg (Fv.ex (l:= [x,y]) (hvf _).sub (Fv.own (hvf _)) (.as0 (hvf _).sub))) ⟨rfl,rfl⟩
     ·have b4':Az y=false:=by simpa using b4
      rw[if_neg b4] at hn⊢
      simp(disch:=omega) only[go_sem,↓reduceIte,b4'];refine(Ri G _ ha7.get).mono ?_;rintro _ H10 ⟨rfl,rfl⟩;simp(disch:=omega) only[go_sem,↓reduceIte];exact RAt.finP ha7 ⟨rfl,rfl⟩
  ·have b1':isW l k [wIn]=false:=by simpa using b1
   rw[if_neg b1] at hn hH4⊢
   rw[Cq ha2.get] at hH4;subst hH4;simp(disch:=omega) only[go_sem,↓reduceIte,b1'];intro q2 hq2;dsimp only at hq2;simp(disch:=omega) only[go_sem,↓reduceIte];refine(Du0 hG _ q2 Nf wIn hq2 ha2.get (by omega) (by omega)).mono ?_;rintro _ H4 ⟨rfl,hH4⟩;by_cases b2:isW l k [Nf,wIn]=true
   ·rw[if_pos b2] at hn hH4⊢
    have ha4:RAt r l (k+2) H H4:=by rw[hH4];exact ha2.set _
    have g43:H4 r3=some (.cells (dEx x) 36):=by rw[hH4];exact Ai g23 q3
    have g44:H4 r4=some (.cells [.int .u8 0, .int .u8 0, .int .i64 0, .str [], .nilSlice, .nilSlice, .int .i64 0, .int .i64 0, .int .i64 0] 36):=by rw[hH4];exact Ai g24 q4
    have hk4l:=Ao b2 hk;obtain⟨k4,hk4⟩: ∃k4,k4=k+2:=⟨_,rfl⟩;rw[<-hk4] at hn ha4⊢
    rw[show [Nf,wIn].length=2 from rfl,<-hk4] at hk4l;simp(disch:=omega) only[go_sem,↓reduceIte,b2];refine An (by kernel_rfl) (.take 0 (.take 1 (.go 2 [0] (.go 3 [] (.take 4 .done))))) (by kernel_rfl) ?_;simp(disch:=omega) only[go_sem,↓reduceIte,g43];unfold inK at hn⊢
    have hpk:=hp _ k4 ha4.get hk4l;dsimp only at hpk;have had:=hA.simple k4 hk4l;cases hpr:p.simple k4 with
    | bot=>rw[hpr] at hn;exact absurd rfl hn
    | fail k5=>
     rw[hpr] at hpk;refine(hpk (Ay (by simp))).mono ?_;rintro e H5 ⟨rfl,rfl⟩;simp(disch:=omega) only[go_sem,↓reduceIte];exact RAt.finP (ha4.set k5) ⟨rfl,rfl⟩
    | ok y k5=>
     rw[hpr] at hpk hn had;refine(hpk (Ay (by simp))).mono ?_;rintro e H5 ⟨rfl,hH5⟩;have ha5:RAt r l k5 H H5:=by rw[hH5];exact ha4.set k5
     have g53:H5 r3=some (.cells (dEx x) 36):=by rw[hH5];exact Ai g43 q3
     have g54:H5 r4=some (.cells [.int .u8 0, .int .u8 0, .int .i64 0, .str [], .nilSlice, .nilSlice, .int .i64 0, .int .i64 0, .int .i64 0] 36):=by rw[hH5];exact Ai g44 q4
     dsimp only[Res.then,Adv] at hn had⊢
     have hly:=Aj y;simp(disch:=omega) only[go_sem,↓reduceIte,dE,g43,g53];rw[Nq hlx hly];simp(disch:=omega) only[go_sem,↓reduceIte];intro r7 hr7;dsimp only at hr7;have hxy: [x,y].flatMap dEx=dEx x++dEx y:=by simp
     obtain⟨H7,hH7⟩: ∃K,K=upd H5 r7 (some (.cells (dEx x++dEx y) 36)):=⟨_,rfl⟩;rw[<-hH7];have g77:H7 r7=some (.cells (dEx x++dEx y) 36):=by rw[hH7];exact Aa _ _ _
     have n37:r3≠r7:=Af hr7 g53;have n47:r4≠r7:=Af hr7 g54;have nr7:r≠r7:=Af hr7 ha5.get;have ha7:RAt r l k5 H H7:=by rw[hH7];exact ha5.new hr7 _
     have g73:H7 r3=some (.cells (dEx x) 36):=by rw[hH7];exact Ai g53 n37
     have g74:H7 r4=some (.cells [.int .u8 0, .int .u8 0, .int .i64 0, .str [], .nilSlice, .nilSlice, .int .i64 0, .int .i64 0, .int .i64 0] 36):=by rw[hH7];exact Ai g54 n47
     have s57:Sub H5 H7:=by rw[hH7];exact(Sub.refl _).new hr7 _
     simp(disch:=omega) only[go_sem,↓reduceIte];intro q7 hq7;dsimp only at hq7;simp(disch:=omega) only[go_sem,↓reduceIte];refine(Sy hG H7 q7 Ef hq7 ha7.get (by omega) (by omega)).mono ?_;rintro _ H8 ⟨rfl,hH8⟩;by_cases b3:isW l k5 [Ef]=true
     ·rw[if_pos b3] at hn hH8⊢
      simp(disch:=omega) only[go_sem,↓reduceIte,b3];have ha8:RAt r l (k5+1) H H8:=by rw[hH8];exact ha7.set _
      have g83:H8 r3=some (.cells (dEx x) 36):=by rw[hH8];exact Ai g73 q3
      have g84:H8 r4=some (.cells [.int .u8 0, .int .u8 0, .int .i64 0, .str [], .nilSlice, .nilSlice, .int .i64 0, .int .i64 0, .int .i64 0] 36):=by rw[hH8];exact Ai g74 q4
      have hk5:=Ao b3 (by omega);rw[List.length_singleton] at hk5;have hpz:=hp _ (k5+1) ha8.get hk5;dsimp only at hpz;cases hpz2:p.simple (k5+1) with
      | bot=>rw[hpz2] at hn;exact absurd rfl hn
      | fail k6=>
       rw[hpz2] at hpz;refine(hpz (Ay (by simp))).mono ?_;rintro e H9 ⟨rfl,rfl⟩;simp(disch:=omega) only[go_sem,↓reduceIte];exact RAt.finP (ha8.set k6) ⟨rfl,rfl⟩
      | ok z k6=>
       rw[hpz2] at hpz hn;refine(hpz (Ay (by simp))).mono ?_;rintro e H9 ⟨rfl,hH9⟩;have hlz:=Aj z;dsimp only[Res.then];simp(disch:=omega) only[go_sem,↓reduceIte,dE];rw[Lk hlz];simp(disch:=omega) only[go_sem,↓reduceIte];intro r10 hr10;dsimp only at hr10;obtain⟨Bk,hBk⟩: ∃K,K=upd H5 r (some (rdO l k6)):=⟨_,rfl⟩;have hH9':H9=upd H7 r (some (rdO l k6)):=by
        rw[hH9,hH8];funext b;simp only[upd];split<;>rfl
       have hBH:Sub Bk H9:=by rw[hBk,hH9'];exact s57.move r _
       have hv:Ea Bk 36 9 2 ([x,y].flatMap dEx) (.oslice 9 r7 0 2 2) H9:= .inr ⟨r7,by rw[hBk,Aq _ _ _ _ nr7.symm];exact hr7,by rw[hxy,List.length_append,hlx,hly],rfl,by rw[hxy,hH9'];exact Ai g77 nr7.symm,hBH⟩;rw[hxy] at hv;have g97:H9 r7=some (.cells (dEx x++dEx y) 36):=by rw[hH9'];exact Ai g77 nr7.symm
       have n710:r7≠r10:=Af hr10 g97;simp(disch:=omega) only[go_sem,↓reduceIte];rw[if_neg n710,g97];refine Ea.appendO (m:=1) (hv.new hr10 _) hlz (by omega) fun v2 H10 hv2=> ?_;have e3:dEx x++dEx y++dEx z= [x,y,z].flatMap dEx:=by simp
       rw[e3] at hv2;have h9:RAt r l k6 H Bk:=by rw[hBk];exact ha5.set k6
       have b3:Bk r3=some (.cells (dEx x) 36):=by rw[hBk];exact Ai g53 q3
       have b4:Bk r4=some (.cells [.int .u8 0, .int .u8 0, .int .i64 0, .str [], .nilSlice, .nilSlice, .int .i64 0, .int .i64 0, .int .i64 0] 36):=by rw[hBk];exact Ai g54 q4
       have g103:=hv2.keep b3;have g104:=hv2.keep b4;obtain⟨hc1,hc2⟩:=hv2.cell1;have hvf:=fun yy=>hv2.set h9 (x:=r4) (by rw[Aq _ _ _ _ q4];exact h04) b4 yy;simp(disch:=omega) only[go_sem,↓reduceIte,g103,g104,hc1,hc2,hla];exact Fv.fin (hvf _).sub (Fv.agg (Fv.ex (l:= [x,y,z]) (hvf _).sub (Fv.own (hvf _)) (.as0 (hvf _).sub))) ⟨rfl,rfl⟩
     ·have b3':isW l k5 [Ef]=false:=by simpa using b3
      rw[if_neg b3] at hn hH8⊢
      rw[Cq ha7.get] at hH8;subst hH8;have hgy:List.take 9 (List.drop 9 (dEx x++dEx y))=dEx y:=by rw[List.drop_left' hlx];exact List.take_of_length_le (by omega)
      have hl18:18<=(dEx x++dEx y).length:=by rw[List.length_append];omega
      simp(disch:=omega) only[go_sem,↓reduceIte,b3',g77,hgy,hlx,hly,hl18];refine(Dn G _ y).mono ?_;rintro _ H9 ⟨rfl,rfl⟩;by_cases b4:Az y=true
      ·rw[if_pos b4] at hn⊢
       have hv:Ea H5 36 9 2 ([x,y].flatMap dEx) (.oslice 9 r7 0 2 2) H9:= .inr ⟨r7,hr7,by rw[hxy,List.length_append,hlx,hly],rfl,by rw[hxy];exact g77,s57⟩;have hvf:=fun yy=>hv.set ha5 (x:=r4) (by rw[Aq _ _ _ _ q4];exact h04) g54 yy;simp(disch:=omega) only[go_sem,↓reduceIte,b4,g73,g74,hla];exact Fv.fin (hvf _).sub (Fv.agg (Fv.ex (l:= [x,y]) (hvf _).sub (Fv.own (hvf _)) (.as0 (hvf _).sub))) ⟨rfl,rfl⟩
      ·have b4':Az y=false:=by simpa using b4
       rw[if_neg b4] at hn⊢
       simp(disch:=omega) only[go_sem,↓reduceIte,b4'];refine(Ri G _ ha7.get).mono ?_;rintro _ H10 ⟨rfl,rfl⟩;simp(disch:=omega) only[go_sem,↓reduceIte];exact RAt.finP ha7 ⟨rfl,rfl⟩
   ·have b2':isW l k [Nf,wIn]=false:=by simpa using b2
    rw[if_neg b2] at hn hH4⊢
    rw[Cq ha2.get] at hH4;subst hH4;simp(disch:=omega) only[go_sem,↓reduceIte,b2',g23,g24,hlx,hox];exact RAt.fin (ha2.own h04 q4 _) ⟨rfl,rfl⟩
 ·have c': ¬(o:Int)=0:=by omega
  rw[if_pos c] at hn⊢
  simp(disch:=omega) only[go_sem,↓reduceIte,c'];refine An (by kernel_rfl) (.take 0 (.take 1 (.take 2 (.go 3 [1] (.go 4 [] (.go 5 [] .done)))))) (by kernel_rfl) ?_;simp(disch:=omega) only[go_sem,↓reduceIte,g23];have hpk:=hp _ k2 ha2.get (by omega);dsimp only at hpk;cases hpr:p.simple k2 with
  | bot=>rw[hpr] at hn;exact absurd rfl hn
  | fail k3=>
   rw[hpr] at hpk;refine(hpk (Ay (by simp))).mono ?_;rintro e H3 ⟨rfl,rfl⟩;simp(disch:=omega) only[go_sem,↓reduceIte];exact RAt.finP (ha2.set k3) ⟨rfl,rfl⟩
  | ok y k3=>
   rw[hpr] at hpk;refine(hpk (Ay (by simp))).mono ?_;rintro e H3 ⟨rfl,hH3⟩;have ha3:RAt r l k3 H H3:=by rw[hH3];exact ha2.set k3
   have g33:H3 r3=some (.cells (dEx x) 36):=by rw[hH3];exact Ai g23 q3
   have g34:H3 r4=some (.cells [.int .u8 0, .int .u8 0, .int .i64 0, .str [], .nilSlice, .nilSlice, .int .i64 0, .int .i64 0, .int .i64 0] 36):=by rw[hH3];exact Ai g24 q4
   dsimp only[Res.then];simp(disch:=omega) only[go_sem,↓reduceIte,dE,g23,g33];refine(Wv G _ o x y).mono ?_;rintro _ H5 ⟨rfl,rfl⟩;have hly:=Aj (both o x y);have hoy:=Ba (both o x y);simp(disch:=omega) only[go_sem,↓reduceIte,g34,hly,hoy];exact RAt.fin (ha3.own h04 q4 _) ⟨rfl,rfl⟩
end
end Go.Dl

-- Chapter 3: the package's reader: expressions.
namespace Go.Dl
open Go Go.Proofs
set_option maxRecDepth 100000
section
variable {G:Nat->DVal} {H0 H:Ab} {r k:Nat} {l:List Tok}
set_option maxHeartbeats 4000000 in
theorem Cf3 (hl:l.length<=800000) (p:PS) (hA:p.Adv l) (hs:RdC Tryz.prog G l 108 r fun k=>(p.simple k).mp dE) (hr1: ∀x,Bo3 Tryz.prog G l 240 r (.agg (dEx x)) fun k=>(p.rest x k).mp dE):RdC Tryz.prog G l 105 r fun k=>((Av l p).expr k).mp dE:=by
 intro H k hr hk hn;dsimp only[Av] at hn⊢
 refine Ac Tryz.func105 Tryz.call105 rfl (by kernel_rfl) ?_;simp(disch:=omega) only[go_sem,↓reduceIte];intro r2 hr2;dsimp only at hr2;obtain⟨Ha,hHa⟩: ∃K,K=upd H r2 (some (.cells [.int .u8 0, .int .u8 0, .int .i64 0, .str [], .nilSlice, .nilSlice, .int .i64 0, .int .i64 0, .int .i64 0] 36)):=⟨_,rfl⟩;rw[<-hHa];have gr2:Ha r2=some (.cells [.int .u8 0, .int .u8 0, .int .i64 0, .str [], .nilSlice, .nilSlice, .int .i64 0, .int .i64 0, .int .i64 0] 36):=by rw[hHa];exact Aa _ _ _
 have n2:r≠r2:=Af hr2 hr;have q2:=n2.symm;have ha:RAt r l k H Ha:=by rw[hHa];exact(RAt.refl hr).new hr2 _
 simp(disch:=omega) only[go_sem,↓reduceIte];have hpk:=hs _ k ha.get hk;have had:=hA.simple k hk;dsimp only at hpk;cases hpr:p.simple k with
 | bot=>rw[hpr] at hn;exact absurd rfl hn
 | fail k3=>
  rw[hpr] at hpk;refine(hpk (Ay (by simp))).mono ?_;rintro e H3 ⟨rfl,rfl⟩;simp(disch:=omega) only[go_sem,↓reduceIte];exact RAt.finP (ha.set k3) ⟨rfl,rfl⟩
 | ok x k3=>
  rw[hpr] at hpk hn had;refine(hpk (Ay (by simp))).mono ?_;rintro e H3 ⟨rfl,hH3⟩;have ha3:RAt r l k3 H H3:=by rw[hH3];exact ha.set k3
  dsimp only[Res.then,Adv] at hn had⊢
  have g3:H3 r2=some (.cells [.int .u8 0, .int .u8 0, .int .i64 0, .str [], .nilSlice, .nilSlice, .int .i64 0, .int .i64 0, .int .i64 0] 36):=by rw[hH3];exact Ai gr2 q2
  simp(disch:=omega) only[go_sem,↓reduceIte,dE];have hn2:p.rest x k3≠ .bot:=fun h=>hn (by rw[h];rfl);have hch:=hr1 x H3 k3 ha3.get (by omega) (Ay hn2);dsimp only at hch;cases hpc:p.rest x k3 with
  | bot=>exact absurd hpc hn2
  | fail k4=>
   rw[hpc] at hch;refine hch.mono ?_;rintro e H4 ⟨rfl,rfl⟩;simp(disch:=omega) only[go_sem,↓reduceIte];exact RAt.finP (ha3.set k4) ⟨rfl,rfl⟩
  | ok y k4=>
   rw[hpc] at hch;refine hch.mono ?_;rintro e H4 ⟨rfl,hH4⟩;have ha4:RAt r l k4 H H4:=by rw[hH4];exact ha3.set k4
   have g4:H4 r2=some (.cells [.int .u8 0, .int .u8 0, .int .i64 0, .str [], .nilSlice, .nilSlice, .int .i64 0, .int .i64 0, .int .i64 0] 36):=by rw[hH4];exact Ai g3 q2
   have hly:=Aj y;have hoy:=Ba y;simp(disch:=omega) only[go_sem,↓reduceIte,dE,g4,hly,hoy];exact RAt.fin (ha4.own hr2 q2 _) ⟨rfl,rfl⟩
theorem Cf4 {os:List Nat} (h:(opF l 0 k os).1≠0):opF l (opF l 0 k os).1 k os=opF l 0 k os:=by
 have key: ∀ {os:List Nat} {w:Nat},(opF l 0 k os).1=w->w≠0->opF l w k os=opF l 0 k os:=by
  intro os w hw h
  induction os with
  | nil=>rfl
  | cons o m ih=>
   simp only[opF] at hw⊢
   by_cases hi:isW l k (Al o)=true
   ·simp only[hi,if_true,ne_eq,not_true_eq_false,false_and,if_false] at hw⊢
    rw[if_neg (by rintro⟨_,h2⟩;exact h2 hw)]
   ·simp only[hi,if_false,Bool.false_eq_true] at hw⊢
    exact ih hw
 exact key rfl h
set_option maxHeartbeats 4000000 in
theorem Cf5 (hG:GX G) (hl:l.length<=800000) (n:Nat) (hs: ∀m≤n,RdC Tryz.prog G l 108 r fun k=>((P l m).simple k).mp dE) (hrl: ∀m≤n,∀x,Bo3 Tryz.prog G l 107 r (.agg (dEx x)) fun k=>((P l m).relation x k).mp dE) (x:Ex):Bo3 Tryz.prog G l 240 r (.agg (dEx x)) fun k=>((P l (n+1)).rest x k).mp dE:=by
 intro H k hr hk hn;have e:(P l (n+1)).rest x k=((P l n).relation x k).then fun x k=>(P l n).restL (opF l 0 k Ci).1 x k:=rfl
 dsimp only at hn⊢
 rw[e] at hn⊢
 refine Ac Tryz.func240 Tryz.call240 rfl (by kernel_rfl) ?_;simp(disch:=omega) only[go_sem,↓reduceIte,DVal.cells];intro r3 hr3;dsimp only at hr3;obtain⟨Hb,hHb⟩: ∃K,K=upd H r3 (some (.cells (dEx x) 36)):=⟨_,rfl⟩;rw[<-hHb];have gr3:Hb r3=some (.cells (dEx x) 36):=by rw[hHb];exact Aa _ _ _
 have n3:r≠r3:=Af hr3 hr;have q3:=n3.symm;simp(disch:=omega) only[go_sem,↓reduceIte,DVal.cells];intro r4 hr4;dsimp only at hr4;obtain⟨Ha,hHa⟩: ∃K,K=upd Hb r4 (some (.cells [.int .u8 0, .int .u8 0, .int .i64 0, .str [], .nilSlice, .nilSlice, .int .i64 0, .int .i64 0, .int .i64 0] 36)):=⟨_,rfl⟩;rw[<-hHa];have gr4:Ha r4=some (.cells [.int .u8 0, .int .u8 0, .int .i64 0, .str [], .nilSlice, .nilSlice, .int .i64 0, .int .i64 0, .int .i64 0] 36):=by rw[hHa];exact Aa _ _ _
 have hab:RAt r l k H Hb:=by rw[hHb];exact(RAt.refl hr).new hr3 _
 have n4:r≠r4:=Af hr4 hab.get;have q4:=n4.symm;have m3:r3≠r4:=Af hr4 gr3;have m4:=m3.symm;have h04:H r4=none:=hab.lo hr4;have ha:RAt r l k H Ha:=by rw[hHa];exact hab.new hr4 _
 have g3:Ha r3=some (.cells (dEx x) 36):=by rw[hHa];exact Ai gr3 m3
 have hlx:=Aj x;simp(disch:=omega) only[go_sem,↓reduceIte,g3];have hpk:=hrl n (Nat.le_refl _) x _ k ha.get hk;have had:=(Fu (l:=l) n).relation x k hk;dsimp only at hpk;cases hpr:(P l n).relation x k with
 | bot=>rw[hpr] at hn;exact absurd rfl hn
 | fail k3=>
  rw[hpr] at hpk;refine(hpk (Ay (by simp))).mono ?_;rintro e H3 ⟨rfl,rfl⟩;simp(disch:=omega) only[go_sem,↓reduceIte];exact RAt.finP (ha.set k3) ⟨rfl,rfl⟩
 | ok y0 k3=>
  rw[hpr] at hpk hn had;refine(hpk (Ay (by simp))).mono ?_;rintro e H3 ⟨rfl,hH3⟩;have ha3:RAt r l k3 H H3:=by rw[hH3];exact ha.set k3
  dsimp only[Res.then,Adv] at hn had⊢
  have g33:H3 r3=some (.cells (dEx x) 36):=by rw[hH3];exact Ai g3 q3
  have g34:H3 r4=some (.cells [.int .u8 0, .int .u8 0, .int .i64 0, .str [], .nilSlice, .nilSlice, .int .i64 0, .int .i64 0, .int .i64 0] 36):=by rw[hH3];exact Ai gr4 q4
  have hly0:=Aj y0;have hoy0:=Ba y0;have hdr:(dEx x).drop 9= []:=List.drop_eq_nil_of_le (by omega);simp(disch:=omega) only[go_sem,↓reduceIte,dE,g33,hly0,hoy0,hlx,hdr];obtain⟨Hc,hHc⟩: ∃K,K=upd H3 r3 (some (.cells (dEx y0) 36)):=⟨_,rfl⟩;rw[<-hHc];have hac:RAt r l k3 H Hc:=by rw[hHc];exact ha3.own hr3 q3 _
  have gc3:Hc r3=some (.cells (dEx y0) 36):=by rw[hHc];exact Aa _ _ _
  have gc4:Hc r4=some (.cells [.int .u8 0, .int .u8 0, .int .i64 0, .str [], .nilSlice, .nilSlice, .int .i64 0, .int .i64 0, .int .i64 0] 36):=by rw[hHc];exact Ai g34 m4
  refine(Bv3 hG _ 0 hac.get hl had.2).mono ?_;rintro _ H5 ⟨rfl,hH5⟩;obtain⟨o,ho⟩: ∃o,o=(opF l 0 k3 Ci).1:=⟨_,rfl⟩;obtain⟨q,hq⟩: ∃q:Nat->Nat×Nat,∀k,q k=if o=0 then(0,k) else opF l o k Ci:=⟨_,fun _=>rfl⟩
  have hqa: ∀k,k<=l.length->((q k).1=0->(q k).2=k)/\((q k).1≠0->k+1<=(q k).2)/\(q k).2<=l.length:=by
   intro k hk;rw[hq];by_cases c:o=0
   ·rw[if_pos c];exact⟨fun _=>rfl,fun h=>absurd rfl h,hk⟩
   ·rw[if_neg c];have:=Cl (want:=o) (os:=Ci) (k:=k) (l:=l) Dw0.1 hk;exact⟨this.1,this.2.1,this.2.2.1⟩
  have hL: ∀m x k,(P l (m+1)).restL o x k=if(q k).1=0 then .ok x k else((P l m).simple (q k).2).then fun y k=>((P l m).relation y k).then fun y k=>(P l m).restL o (both o x y) k:=by
   intro m x k;have:(P l (m+1)).restL o x k=if o=0 then .ok x k else if(opF l o k Ci).1=0 then .ok x k else((P l m).simple (opF l o k Ci).2).then fun y k=>((P l m).relation y k).then fun y k=>(P l m).restL o (both o x y) k:=rfl
   rw[this,hq];by_cases c:o=0
   ·rw[if_pos c,if_pos c,if_pos rfl]
   ·rw[if_neg c,if_neg c]
  have hq3:(opF l 0 k3 Ci)=(o,(q k3).2)/\(q k3).1=o:=by
   rw[hq];by_cases c:o=0
   ·have h0:=Cl (want:=0) (os:=Ci) (k:=k3) (l:=l) Dw0.1 had.2;rw[if_pos c];exact⟨Prod.ext ho.symm (h0.1 (ho▸c)),c.symm⟩
   ·have h0:=Cf4 (l:=l) (k:=k3) (os:=Ci) (ho▸c);rw[<-ho] at h0;rw[if_neg c,h0];exact⟨Prod.ext ho.symm rfl,ho.symm⟩
  rw[hq3.1] at hn⊢
  rw[hq3.1] at hH5;dsimp only at hn hH5⊢
  have hn2:(P l n).restL o y0 k3≠ .bot:=fun h=>hn (by rw[h];rfl);obtain⟨n',rfl⟩: ∃n',n=n'+1:=by
   cases n with
   | zero=>exact absurd rfl hn2
   | succ n'=>exact⟨n',rfl⟩
  have ha5:RAt r l (q k3).2 H H5:=by rw[hH5];exact hac.set _
  have g53:H5 r3=some (.cells (dEx y0) 36):=by rw[hH5];exact Ai gc3 q3
  have g54:H5 r4=some (.cells [.int .u8 0, .int .u8 0, .int .i64 0, .str [], .nilSlice, .nilSlice, .int .i64 0, .int .i64 0, .int .i64 0] 36):=by rw[hH5];exact Ai gc4 q4
  simp(disch:=omega) only[go_sem,↓reduceIte];obtain⟨I,hI⟩: ∃I:Nat×Ex×Nat->(Nat->DVal)->Ab->Prop,∀s env heap,I s env heap↔(env 0= .optr r 0/\env 3= .optr r3 0/\env 4= .optr r4 0/\env 5= .int .u8 o/\env 6= .int .u8 (q s.2.2).1/\s.2.2<=l.length/\s.1<=n'/\(P l (s.1+1)).restL o s.2.1 s.2.2=(P l (n'+1)).restL o y0 k3/\RAt r l (q s.2.2).2 H heap/\heap r3=some (.cells (dEx s.2.1) 36)/\heap r4=some (.cells [.int .u8 0, .int .u8 0, .int .i64 0, .str [], .nilSlice, .nilSlice, .int .i64 0, .int .i64 0, .int .i64 0] 36)):=⟨_,fun _ _ _=>Iff.rfl⟩;refine Bs7.run I (fun s=>s.1) (n',y0,k3) ((hI _ _ _).2 ?_) ?_
  ·simp(disch:=omega) only[go_sem,↓reduceIte,hq3.2];(repeat' apply And.intro)<;>(try first | rfl | assumption | omega)
   done
  ·rintro⟨m,y,k1⟩ env heap hi';obtain⟨e0,e3,e4,e5,e6,hk1,hm,hLm,hat,g6,gx⟩:=(hI _ _ _).1 hi';dsimp only at e6 hk1 hm hLm hat g6;rw[hL] at hLm;have hadv:=hqa k1 hk1;obtain⟨o1,ho1⟩: ∃o1,o1=(q k1).1:=⟨_,rfl⟩;obtain⟨k2,hk2⟩: ∃k2,k2=(q k1).2:=⟨_,rfl⟩;rw[<-ho1,<-hk2] at hLm hadv;rw[<-ho1] at e6;rw[<-hk2] at hat;by_cases c:o1=0
   ·have c':(o1:Int)=0:=by omega
    rw[if_pos c] at hLm;have hk21:k2=k1:=hadv.1 c;rw[hk21] at hat;simp(disch:=omega) only[go_sem,↓reduceIte,e0,e3,e4,e5,e6,c',g6,gx];rw[<-hLm];exact RAt.fin (hat.own h04 q4 _) ⟨rfl,rfl⟩
   ·have c': ¬(o1:Int)=0:=by omega
    rw[if_neg c] at hLm;simp(disch:=omega) only[go_sem,↓reduceIte,e0,e3,e4,e5,e6,c'];refine An (by kernel_rfl) (.take 0 (.take 1 (.take 2 (.take 3 (.go 4 [1] (.go 5 [1] (.go 6 [] (.go 7 [] .done)))))))) (by kernel_rfl) ?_;simp(disch:=omega) only[go_sem,↓reduceIte,e0,e3,e4,e5,e6,g6];have ho0:o≠0:=by
     intro h0;rw[hq,if_pos h0] at ho1;exact c ho1
    have hqo: ∀k,q k=opF l o k Ci:=fun k=>by rw[hq,if_neg ho0]
    have hs1:=hs m (by omega) heap k2 hat.get (by omega);have had1:=(Fu (l:=l) m).simple k2 (by omega);dsimp only at hs1;cases hp1:(P l m).simple k2 with
    | bot=>rw[hp1] at hLm;exact absurd hLm.symm hn2
    | fail k4=>
     rw[hp1] at hs1 hLm;refine(hs1 (Ay (by simp))).mono ?_;rintro e H6 ⟨rfl,rfl⟩;simp(disch:=omega) only[go_sem,↓reduceIte];rw[<-hLm];exact RAt.finP (hat.set k4) ⟨rfl,rfl⟩
    | ok y1 k4=>
     rw[hp1] at hs1 hLm had1;dsimp only[Res.then,Adv] at hLm had1;refine(hs1 (Ay (by simp))).mono ?_;rintro e H6 ⟨rfl,hH6⟩;have ha6:RAt r l k4 H H6:=by rw[hH6];exact hat.set k4
     have g63:H6 r3=some (.cells (dEx y) 36):=by rw[hH6];exact Ai g6 q3
     have g64:H6 r4=some (.cells [.int .u8 0, .int .u8 0, .int .i64 0, .str [], .nilSlice, .nilSlice, .int .i64 0, .int .i64 0, .int .i64 0] 36):=by rw[hH6];exact Ai gx q4
     simp(disch:=omega) only[go_sem,↓reduceIte,e0,e3,e4,e5,e6,dE,g6,g63];have hs2:=hrl m (by omega) y1 H6 k4 ha6.get (by omega);have had2:=(Fu (l:=l) m).relation y1 k4 (by omega);dsimp only at hs2;cases hp2:(P l m).relation y1 k4 with
     | bot=>rw[hp2] at hLm;exact absurd hLm.symm hn2
     | fail k5=>
      rw[hp2] at hs2 hLm;refine(hs2 (Ay (by simp))).mono ?_;rintro e H7 ⟨rfl,rfl⟩;simp(disch:=omega) only[go_sem,↓reduceIte];rw[<-hLm];exact RAt.finP (ha6.set k5) ⟨rfl,rfl⟩
     | ok y2 k5=>
      rw[hp2] at hs2 hLm had2;dsimp only[Res.then,Adv] at hLm had2;refine(hs2 (Ay (by simp))).mono ?_;rintro e H7 ⟨rfl,hH7⟩;have ha7:RAt r l k5 H H7:=by rw[hH7];exact ha6.set k5
      have g73:H7 r3=some (.cells (dEx y) 36):=by rw[hH7];exact Ai g63 q3
      have g74:H7 r4=some (.cells [.int .u8 0, .int .u8 0, .int .i64 0, .str [], .nilSlice, .nilSlice, .int .i64 0, .int .i64 0, .int .i64 0] 36):=by rw[hH7];exact Ai g64 q4
      simp(disch:=omega) only[go_sem,↓reduceIte,e0,e3,e4,e5,e6,dE,g63,g73];refine(Wv G _ o y y2).mono ?_;rintro _ H8 ⟨rfl,rfl⟩;have hby:=Aj (both o y y2);have hb1:=Ba (both o y y2);have hly:=Aj y;have hdr2:(dEx y).drop 9= []:=List.drop_eq_nil_of_le (by omega);simp(disch:=omega) only[go_sem,↓reduceIte,e0,e3,e4,e5,e6,g73,hby,hb1,hly,hdr2];have ha8:RAt r l k5 H (upd H8 r3 (some (.cells (dEx (both o y y2)) 36))):=ha7.own hr3 q3 _;refine(Bv3 hG _ o ha8.get hl (by omega)).mono ?_;rintro _ H9 ⟨rfl,rfl⟩;rw[<-hqo];obtain⟨m',rfl⟩: ∃m',m=m'+1:=by
       cases m with
       | zero=>exact absurd hLm.symm hn2
       | succ m'=>exact⟨m',rfl⟩
      simp(disch:=omega) only[go_sem,↓reduceIte,e0,e3,e4,e5];refine⟨(m',both o y y2,k5),_,Ik.refl _,(hI _ _ _).2 ?_,by dsimp only;omega⟩;simp(disch:=omega) only[go_sem,↓reduceIte,e0,e3,e4,e5,q3,q4,m3,m4,g74,hLm];(repeat' apply And.intro)<;>(try first | rfl | assumption | omega);exact ha8.set _
end
end Go.Dl

-- Chapter 3: the package's reader: primaries, choices.
namespace Go.Dl
open Go Go.Proofs
set_option maxRecDepth 100000
section
variable {G:Nat->DVal} {H0 H:Ab} {r k:Nat} {l:List Tok}
set_option maxHeartbeats 4000000 in
theorem At5 (hG:GX G) (hl:l.length<=800000) (p:PS) (hpa:RdC Tryz.prog G l 249 r fun k=>(p.paren k).mp dE) (hna:RdC Tryz.prog G l 112 r fun k=>(p.name k).mp dE):RdC Tryz.prog G l 111 r fun k=>((Av l p).primary k).mp dE:=by
 intro H k hr hk hn;dsimp only[Av] at hn⊢
 obtain⟨t,ht⟩: ∃t,t=tk l k:=⟨_,rfl⟩;rw[<-ht] at hn⊢
 have hw:IntKind.i64.wrap ((k:Int)+1)=((k+1:Nat):Int):=by rw[IntKind.wrap_i64];omega
 refine Ac Tryz.func111 Tryz.call111 rfl (by kernel_rfl) ?_;simp(disch:=omega) only[go_sem,↓reduceIte];intro r2 hr2;dsimp only at hr2;obtain⟨Ha,hHa⟩: ∃K,K=upd H r2 (some (.cells [.int .u8 0, .int .u8 0, .int .i64 0, .str [], .nilSlice, .nilSlice, .int .i64 0, .int .i64 0, .int .i64 0] 36)):=⟨_,rfl⟩;rw[<-hHa];have gr2:Ha r2=some (.cells [.int .u8 0, .int .u8 0, .int .i64 0, .str [], .nilSlice, .nilSlice, .int .i64 0, .int .i64 0, .int .i64 0] 36):=by rw[hHa];exact Aa _ _ _
 have n2:r≠r2:=Af hr2 hr;have q2:=n2.symm;have ha:RAt r l k H Ha:=by rw[hHa];exact(RAt.refl hr).new hr2 _
 simp(disch:=omega) only[go_sem,↓reduceIte];refine(Qm G _ ha.get (by omega) (by omega)).mono ?_;rintro _ H1 ⟨rfl,rfl⟩;rw[<-ht];simp(disch:=omega) only[go_sem,↓reduceIte];intro r3 hr3;dsimp only at hr3;have n23:r2≠r3:=Af hr3 gr2;have m23:=n23.symm;have n3:r≠r3:=Af hr3 ha.get;have q3:=n3.symm;simp(disch:=omega) only[go_sem,↓reduceIte,Dd];obtain⟨Hc,hHc⟩: ∃K,K=upd H1 r3 (some (.cells [.int .u8 t.kind,dI t.line, .str t.text,dI t.n] 31)):=⟨_,rfl⟩;rw[<-hHc];have hac:RAt r l k H Hc:=by rw[hHc];exact ha.new hr3 _
 have gc2:Hc r2=some (.cells [.int .u8 0, .int .u8 0, .int .i64 0, .str [], .nilSlice, .nilSlice, .int .i64 0, .int .i64 0, .int .i64 0] 36):=by rw[hHc];exact Ai gr2 n23
 have gc3:Hc r3=some (.cells [.int .u8 t.kind,dI t.line, .str t.text,dI t.n] 31):=by rw[hHc];exact Aa _ _ _
 have gcr:=hac.get;unfold rdO at gcr;by_cases c:t.kind=3
 ·rw[if_pos c] at hn⊢
  simp(disch:=omega) only[go_sem,↓reduceIte,gc3,c,gcr,hw,n3,n2,q3,q2,gc2,n23,m23];have hat:=fun y=>(hac.set (k+1)).own hr2 q2 y;exact Fv.fin (hat _) (Fv.agg (Fv.ex (hat _) (.exs0 (hat _)) (.as0 (hat _)))) ⟨rfl,rfl⟩
 ·rw[if_neg c] at hn⊢
  simp(disch:=omega) only[go_sem,↓reduceIte,gc3,c,gc2];intro w1 hw1;dsimp only at hw1;simp(disch:=omega) only[go_sem,↓reduceIte];refine(Sy hG _ w1 Mz hw1 hac.get (by omega) (by omega)).mono ?_;rintro _ H2 ⟨rfl,hH2⟩;by_cases c2:isW l k [Mz]=true
  ·rw[if_pos c2] at hn hH2⊢
   have ha2:RAt r l (k+1) H H2:=by rw[hH2];exact hac.set _
   have g22:H2 r2=some (.cells [.int .u8 0, .int .u8 0, .int .i64 0, .str [], .nilSlice, .nilSlice, .int .i64 0, .int .i64 0, .int .i64 0] 36):=by rw[hH2];exact Ai gc2 q2
   have g23:H2 r3=some (.cells [.int .u8 t.kind,dI t.line, .str t.text,dI t.n] 31):=by rw[hH2];exact Ai gc3 q3
   simp(disch:=omega) only[go_sem,↓reduceIte,c2,g22,g23];have hat:=fun y=>ha2.own hr2 q2 y;exact Fv.fin (hat _) (Fv.agg (Fv.ex (hat _) (.exs0 (hat _)) (.as0 (hat _)))) ⟨rfl,rfl⟩
  ·have c2':isW l k [Mz]=false:=by simpa using c2
   rw[if_neg c2] at hn hH2⊢
   rw[Cq hac.get] at hH2;subst hH2;simp(disch:=omega) only[go_sem,↓reduceIte,c2'];intro w2 hw2;dsimp only at hw2;simp(disch:=omega) only[go_sem,↓reduceIte];refine(is1 hG _ w2 Bo hw2 hac.get (by omega) (by omega)).mono ?_;rintro _ H3 ⟨rfl,rfl⟩;by_cases c3:isW l k [Bo]=true
   ·rw[if_pos c3] at hn⊢
    simp(disch:=omega) only[go_sem,↓reduceIte,c3];have hpk:=hpa _ k hac.get hk;dsimp only at hpk;cases hpr:p.paren k with
    | bot=>rw[hpr] at hn;exact absurd rfl hn
    | fail k3=>
     rw[hpr] at hpk;refine(hpk (Ay (by simp))).mono ?_;rintro e H4 ⟨rfl,rfl⟩;simp(disch:=omega) only[go_sem,↓reduceIte];exact RAt.finP (hac.set k3) ⟨rfl,rfl⟩
    | ok y k3=>
     rw[hpr] at hpk;refine(hpk (Ay (by simp))).mono ?_;rintro e H4 ⟨rfl,hH4⟩;have ha4:RAt r l k3 H H4:=by rw[hH4];exact hac.set k3
     have g4:H4 r2=some (.cells [.int .u8 0, .int .u8 0, .int .i64 0, .str [], .nilSlice, .nilSlice, .int .i64 0, .int .i64 0, .int .i64 0] 36):=by rw[hH4];exact Ai gc2 q2
     have hly:=Aj y;have hoy:=Ba y;simp(disch:=omega) only[go_sem,↓reduceIte,dE,g4,hly,hoy];exact RAt.fin (ha4.own hr2 q2 _) ⟨rfl,rfl⟩
   ·have c3':isW l k [Bo]=false:=by simpa using c3
    rw[if_neg c3] at hn⊢
    simp(disch:=omega) only[go_sem,↓reduceIte,c3'];have hpk:=hna _ k hac.get hk;dsimp only at hpk;cases hpr:p.name k with
    | bot=>rw[hpr] at hn;exact absurd rfl hn
    | fail k3=>
     rw[hpr] at hpk;refine(hpk (Ay (by simp))).mono ?_;rintro e H4 ⟨rfl,rfl⟩;simp(disch:=omega) only[go_sem,↓reduceIte];exact RAt.finP (hac.set k3) ⟨rfl,rfl⟩
    | ok y k3=>
     rw[hpr] at hpk;refine(hpk (Ay (by simp))).mono ?_;rintro e H4 ⟨rfl,hH4⟩;have ha4:RAt r l k3 H H4:=by rw[hH4];exact hac.set k3
     have g4:H4 r2=some (.cells [.int .u8 0, .int .u8 0, .int .i64 0, .str [], .nilSlice, .nilSlice, .int .i64 0, .int .i64 0, .int .i64 0] 36):=by rw[hH4];exact Ai gc2 q2
     have hly:=Aj y;have hoy:=Ba y;simp(disch:=omega) only[go_sem,↓reduceIte,dE,g4,hly,hoy];exact RAt.fin (ha4.own hr2 q2 _) ⟨rfl,rfl⟩
end
end Go.Dl

-- Chapter 3: the package's reader: choices.
namespace Go.Dl
open Go Go.Proofs
set_option maxRecDepth 100000
def dC (c:Ch):DVal:= .agg (dCh c)
def dA (a:As):DVal:= .agg (dAs a)
section
variable {G:Nat->DVal} {H0 H H':Ab} {r k:Nat} {l:List Tok}
theorem Fv.choice {kd:Int} {v:DVal} {m:List Ex} (hs:Sub H H') (h:Fv H' v H (dXs m)):Dp H' [.int .u8 kd,v] H (dCh (.mk kd m)):=by
 rw[Qj];exact .cons (.keep hs _) (.cons h .nil)
set_option maxHeartbeats 4000000 in
theorem Bd5 (hG:GX G) (hl:l.length<=800000) (p:PS) (hA:p.Adv l) (hs:RdC Tryz.prog G l 108 r fun k=>(p.simple k).mp dE) (hr1: ∀x,Bo3 Tryz.prog G l 240 r (.agg (dEx x)) fun k=>(p.rest x k).mp dE):RdC Tryz.prog G l 281 r fun k=>((Av l p).choice k).mp dC:=by
 intro H k hr hk hn;dsimp only[Av] at hn⊢
 refine Ac Tryz.func281 Tryz.call281 rfl (by kernel_rfl) ?_;simp(disch:=omega) only[go_sem,↓reduceIte];intro r2 hr2;dsimp only at hr2;obtain⟨Ha,hHa⟩: ∃K,K=upd H r2 (some (.cells [.int .u8 0, .nilSlice] 54)):=⟨_,rfl⟩;rw[<-hHa];have gr2:Ha r2=some (.cells [.int .u8 0, .nilSlice] 54):=by rw[hHa];exact Aa _ _ _
 have n2:r≠r2:=Af hr2 hr;have q2:=n2.symm;have ha:RAt r l k H Ha:=by rw[hHa];exact(RAt.refl hr).new hr2 _
 simp(disch:=omega) only[go_sem,↓reduceIte];intro w1 hw1;dsimp only at hw1;simp(disch:=omega) only[go_sem,↓reduceIte];refine(Sy hG _ w1 Gr hw1 ha.get (by omega) (by omega)).mono ?_;rintro _ H2 ⟨rfl,hH2⟩;by_cases c:isW l k [Gr]=true
 ·rw[if_pos c] at hn hH2⊢
  have ha2:RAt r l (k+1) H H2:=by rw[hH2];exact ha.set _
  have g2:H2 r2=some (.cells [.int .u8 0, .nilSlice] 54):=by rw[hH2];exact Ai gr2 q2
  simp(disch:=omega) only[go_sem,↓reduceIte,c,g2];have hat:=fun y=>ha2.own hr2 q2 y;exact Fv.fin (hat _) (Fv.agg (Fv.choice (hat _) (.exs0 (hat _)))) ⟨rfl,rfl⟩
 ·have c':isW l k [Gr]=false:=by simpa using c
  rw[if_neg c] at hn hH2⊢
  rw[Cq ha.get] at hH2;subst hH2;simp(disch:=omega) only[go_sem,↓reduceIte,c'];have hpk:=hs _ k ha.get hk;have had:=hA.simple k hk;dsimp only at hpk;cases hpr:p.simple k with
  | bot=>rw[hpr] at hn;exact absurd rfl hn
  | fail k3=>
   rw[hpr] at hpk;refine(hpk (Ay (by simp))).mono ?_;rintro e H3 ⟨rfl,rfl⟩;simp(disch:=omega) only[go_sem,↓reduceIte];exact RAt.finP (ha.set k3) ⟨rfl,rfl⟩
  | ok x k3=>
   rw[hpr] at hpk hn had;refine(hpk (Ay (by simp))).mono ?_;rintro e H3 ⟨rfl,hH3⟩;have ha3:RAt r l k3 H H3:=by rw[hH3];exact ha.set k3
   dsimp only[Res.then,Adv] at hn had⊢
   have g3:H3 r2=some (.cells [.int .u8 0, .nilSlice] 54):=by rw[hH3];exact Ai gr2 q2
   have hlx:=Aj x;have hox:=Ba x;simp(disch:=omega) only[go_sem,↓reduceIte,dE];intro r3 hr3;dsimp only at hr3;have n23:r2≠r3:=Af hr3 g3;have m23:=n23.symm;have n3:r≠r3:=Af hr3 ha3.get;have q3:=n3.symm;simp(disch:=omega) only[go_sem,↓reduceIte,hlx,hox];obtain⟨Hc,hHc⟩: ∃K,K=upd H3 r3 (some (.cells (dEx x) 36)):=⟨_,rfl⟩;rw[<-hHc];have hac:RAt r l k3 H Hc:=by rw[hHc];exact ha3.new hr3 _
   have gc2:Hc r2=some (.cells [.int .u8 0, .nilSlice] 54):=by rw[hHc];exact Ai g3 n23
   have gc3:Hc r3=some (.cells (dEx x) 36):=by rw[hHc];exact Aa _ _ _
   intro w2 hw2;dsimp only at hw2;simp(disch:=omega) only[go_sem,↓reduceIte];refine(Sy hG _ w2 Ef hw2 hac.get (by omega) (by omega)).mono ?_;rintro _ H4 ⟨rfl,hH4⟩;by_cases c2:isW l k3 [Ef]=true
   ·rw[if_pos c2] at hn hH4⊢
    have ha4:RAt r l (k3+1) H H4:=by rw[hH4];exact hac.set _
    have g42:H4 r2=some (.cells [.int .u8 0, .nilSlice] 54):=by rw[hH4];exact Ai gc2 q2
    have g43:H4 r3=some (.cells (dEx x) 36):=by rw[hH4];exact Ai gc3 q3
    have hk4:=Ao c2 had.2;rw[List.length_singleton] at hk4;simp(disch:=omega) only[go_sem,↓reduceIte,c2];refine An (by kernel_rfl) (.take 0 (.take 1 (.go 2 [0] (.go 3 [] (.take 4 (.go 5 [] .done)))))) (by kernel_rfl) ?_;simp(disch:=omega) only[go_sem,↓reduceIte,g43];have hp2:=hs _ (k3+1) ha4.get hk4;dsimp only at hp2;cases hpr2:p.simple (k3+1) with
    | bot=>rw[hpr2] at hn;exact absurd rfl hn
    | fail k5=>
     rw[hpr2] at hp2;refine(hp2 (Ay (by simp))).mono ?_;rintro e H5 ⟨rfl,rfl⟩;simp(disch:=omega) only[go_sem,↓reduceIte];exact RAt.finP (ha4.set k5) ⟨rfl,rfl⟩
    | ok y k5=>
     rw[hpr2] at hp2;refine(hp2 (Ay (by simp))).mono ?_;rintro e H5 ⟨rfl,hH5⟩;have ha5:RAt r l k5 H H5:=by rw[hH5];exact ha4.set k5
     have g52:H5 r2=some (.cells [.int .u8 0, .nilSlice] 54):=by rw[hH5];exact Ai g42 q2
     have g53:H5 r3=some (.cells (dEx x) 36):=by rw[hH5];exact Ai g43 q3
     have hly:=Aj y;dsimp only[Res.then];simp(disch:=omega) only[go_sem,↓reduceIte,dE,g43,g53];rw[Nq hlx hly];simp(disch:=omega) only[go_sem,↓reduceIte];intro r7 hr7;dsimp only at hr7;have n27:r2≠r7:=Af hr7 g52;have m27:=n27.symm;simp(disch:=omega) only[go_sem,↓reduceIte,g52,n27,m27];have hxy: [x,y].flatMap dEx=dEx x++dEx y:=by simp
     have hat:=fun z=>(ha5.new hr7 (some (.cells (dEx x++dEx y) 36))).own hr2 q2 z;refine Fv.fin (hat _) (Fv.agg (Fv.choice (m:= [x,y]) (hat _) (Fv.block (e:=36) (hat _) (Sub.lo ha5 hr7) ?_ ?_))) ⟨rfl,rfl⟩
     ·rw[hxy];simp [upd,m27]
     ·rw[hxy,List.length_append,hlx,hly]
   ·have c2':isW l k3 [Ef]=false:=by simpa using c2
    rw[if_neg c2] at hn hH4⊢
    rw[Cq hac.get] at hH4;subst hH4;simp(disch:=omega) only[go_sem,↓reduceIte,c2',gc3];have hn2:p.rest x k3≠ .bot:=fun h=>hn (by rw[h];rfl);have hch:=hr1 x _ k3 hac.get had.2 (Ay hn2);dsimp only at hch;cases hpc:p.rest x k3 with
    | bot=>exact absurd hpc hn2
    | fail k4=>
     rw[hpc] at hch;refine hch.mono ?_;rintro e H5 ⟨rfl,rfl⟩;simp(disch:=omega) only[go_sem,↓reduceIte];exact RAt.finP (hac.set k4) ⟨rfl,rfl⟩
    | ok y k4=>
     rw[hpc] at hch;refine hch.mono ?_;rintro e H5 ⟨rfl,hH5⟩;have ha5:RAt r l k4 H H5:=by rw[hH5];exact hac.set k4
     have g52:H5 r2=some (.cells [.int .u8 0, .nilSlice] 54):=by rw[hH5];exact Ai gc2 q2
     have hly:=Aj y;dsimp only[Res.then];simp(disch:=omega) only[go_sem,↓reduceIte,dE];rw[Lk hly];simp(disch:=omega) only[go_sem,↓reduceIte];intro r7 hr7;dsimp only at hr7;have n27:r2≠r7:=Af hr7 g52;have m27:=n27.symm;simp(disch:=omega) only[go_sem,↓reduceIte,g52,n27,m27];have hat:=fun z=>(ha5.new hr7 (some (.cells (dEx y) 36))).own hr2 q2 z;refine Fv.fin (hat _) (Fv.agg (Fv.choice (m:= [y]) (hat _) (Fv.block (e:=36) (hat _) (Sub.lo ha5 hr7) ?_ ?_))) ⟨rfl,rfl⟩
     ·rw[List.flatMap_singleton];simp [upd,m27]
     ·rw[List.flatMap_singleton,hly]
end
end Go.Dl

-- Chapter 3: the package's reader: several (printed by gen_uq.py).
namespace Go.Dl
open Go Go.Proofs
set_option maxRecDepth 100000
section
variable {G:Nat->DVal} {H0 H H':Ab} {r k:Nat} {l:List Tok}
theorem Ea.move {H H':Ab} {e:TypeId} {size n:Nat} {cs:List DVal} {v:DVal} {r:Nat} {o:DObj} (h:Ea (upd H r (some o)) e size n cs v H') (y:Option DObj):Ea (upd H r y) e size n cs v (upd H' r y):=by
 have mv: ∀ {K:Ab},Sub (upd H r (some o)) K->Sub (upd H r y) (upd K r y):=fun s b ob hb=>by
  simp only[upd] at hb⊢
  by_cases c:b=r
  ·rw[if_pos c] at hb⊢;exact hb
  ·rw[if_neg c] at hb⊢
   exact s b ob (by simp only[upd];rw[if_neg c];exact hb)
 rcases h with⟨a,b,c,d⟩ | ⟨q,h1,h2,h3,h4,h5⟩
 ·exact .inl ⟨a,b,c,mv d⟩
 ·have hq:q≠r:=fun e=>by rw[e,Aa] at h1;cases h1
  exact .inr ⟨q,by rw[Aq _ _ _ _ hq] at h1⊢;exact h1,h2,h3,by rw[Aq _ _ _ _ hq];exact h4,mv h5⟩
theorem Bd6 {x:List DVal} (hx:x.length=10):
  (if 10<=(Cm 1 [DVal.nilSlice,DVal.int .u8 0,DVal.int .u8 0,DVal.int .i64 0,DVal.str [],DVal.nilSlice,DVal.nilSlice,DVal.int .i64 0,DVal.int .i64 0,DVal.int .i64 0]).length then some (x++List.drop 10 (Cm 1 [DVal.nilSlice,DVal.int .u8 0,DVal.int .u8 0,DVal.int .i64 0,DVal.str [],DVal.nilSlice,DVal.nilSlice,DVal.int .i64 0,DVal.int .i64 0,DVal.int .i64 0])) else none)=some x:=by
 have e: ∀u:List DVal,Cm 1 u=u:=fun u=>by simp [Cm]
 rw[e,if_pos (by simp),List.drop_eq_nil_of_le (by simp),List.append_nil]
def Af0 (H:Ab) (l:List As) (v:DVal) (H':Ab):Prop:=Ea H 51 10 l.length (l.flatMap dAs) v H'
set_option maxHeartbeats 4000000 in
theorem Ao0 (hG:GX G) (hl:l.length<=800000) (g:FuncId) (T:Nat->Nat->Res As) (L:Nat->List As->Nat->Res (List As)) (sep:List UInt8)
  (hL0: ∀x k,L 0 x k= .bot) (hL: ∀m x k,L (m+1) x k=if isW l k [sep] then(T m (k+1)).then fun a k=>L m (x++ [a]) k else .ok x k)
  (hT: ∀m k,k<=l.length->Adv l (k+1) (T m k)) (n:Nat) (hg: ∀m≤n,RdC Tryz.prog G l g r fun k=>(T m k).mp dA) (H:Ab) (k:Nat) (hr:H r=some (rdO l k)) (hk:k<=l.length) (hn:((T n k).then fun a k=>L n [a] k)≠ .bot):
  Ah Tryz.prog G 276 [.optr r 0, .str sep, .func (.func g) [.optr r 0] []] H (RdR r l H (((T n k).then fun a k=>L n [a] k).mp dAl)):=by
 refine Ac Tryz.func276 Tryz.call276 rfl (by kernel_rfl) ?_;simp(disch:=omega) only[go_sem,↓reduceIte];have hpk:=hg n (Nat.le_refl _) _ k hr hk;have had:=hT n k hk;dsimp only at hpk;cases hpr:T n k with
 | bot=>rw[hpr] at hn;exact absurd rfl hn
 | fail k3=>
  rw[hpr] at hpk;refine(hpk (Ay (by simp))).mono ?_;rintro e H3 ⟨rfl,rfl⟩;simp(disch:=omega) only[go_sem,↓reduceIte];exact Bt2.refl ⟨rfl,rfl⟩
 | ok a0 k3=>
  rw[hpr] at hpk hn had;refine(hpk (Ay (by simp))).mono ?_;rintro e H3 ⟨rfl,hH3⟩;dsimp only[Res.then,Adv] at hn had⊢
  have hla:=Dv a0;simp(disch:=omega) only[go_sem,↓reduceIte,dA];rw[Bd6 hla];simp(disch:=omega) only[go_sem,↓reduceIte];intro r7 hr7;dsimp only at hr7;obtain⟨n',rfl⟩: ∃n',n=n'+1:=by
   cases n with
   | zero=>exact absurd (hL0 _ _) hn
   | succ n'=>exact⟨n',rfl⟩
  have hv0:Af0 (upd H r (some (rdO l k3))) [a0] (.oslice 10 r7 0 1 1) (upd H3 r7 (some (.cells (dAs a0) 51))):=
   .inr ⟨r7,by rw[<-hH3];exact hr7,by rw[List.flatMap_singleton,hla];rfl,rfl,by rw[List.flatMap_singleton];exact Aa _ _ _,by rw[hH3] at hr7⊢;exact(Sub.refl _).new hr7 _⟩
  simp(disch:=omega) only[go_sem,↓reduceIte];obtain⟨I,hI⟩: ∃I:Nat×List As×Nat->(Nat->DVal)->Ab->Prop,∀s env heap,I s env heap↔(env 0= .optr r 0/\env 1= .str sep/\env 2= .func (.func g) [.optr r 0] []/\s.2.2<=l.length/\s.2.1.length<=s.2.2/\s.1<=n'/\L (s.1+1) s.2.1 s.2.2=L (n'+1) [a0] k3/\Af0 (upd H r (some (rdO l s.2.2))) s.2.1 (env 7) heap):=⟨_,fun _ _ _=>Iff.rfl⟩;refine Bs7.run I (fun s=>s.1) (n',[a0],k3) ((hI _ _ _).2 ?_) ?_
  ·simp(disch:=omega) only[go_sem,↓reduceIte];(repeat' apply And.intro)<;>(try first | rfl | assumption | omega)
  ·rintro⟨m,xs,k1⟩ env heap hi';obtain⟨e0,e1,e2,hk1,hlen,hm,hLm,hv⟩:=(hI _ _ _).1 hi';dsimp only at hk1 hlen hm hLm hv;rw[hL] at hLm;obtain⟨v,e7⟩: ∃v,env 7=v:=⟨_,rfl⟩;rw[e7] at hv;have gr:heap r=some (rdO l k1):=Ea.keep hv (Aa _ _ _);simp(disch:=omega) only[go_sem,↓reduceIte,e0,e1,e2,e7];intro w1 hw1;dsimp only at hw1;simp(disch:=omega) only[go_sem,↓reduceIte,e0,e1,e2,e7];refine(Sy hG _ w1 sep hw1 gr (by omega) (by omega)).mono ?_;rintro _ H4 ⟨rfl,hH4⟩;by_cases c:isW l k1 [sep]=true
   ·rw[if_pos c] at hLm hH4;have hk4:=Ao c hk1;rw[List.length_singleton] at hk4;have hv4:Af0 (upd H r (some (rdO l (k1+1)))) xs v H4:=by rw[hH4];exact Ea.move hv _
    have gr4:H4 r=some (rdO l (k1+1)):=Ea.keep hv4 (Aa _ _ _);simp(disch:=omega) only[go_sem,↓reduceIte,e0,e1,e2,e7,c];have hp2:=hg m (by omega) _ (k1+1) gr4 hk4;have had2:=hT m (k1+1) hk4;dsimp only at hp2;cases hpr2:T m (k1+1) with
    | bot=>rw[hpr2] at hLm;exact absurd hLm.symm hn
    | fail k5=>
     rw[hpr2] at hp2 hLm;refine(hp2 (Ay (by simp))).mono ?_;rintro e H5 ⟨rfl,hH5⟩;have hv5:Af0 (upd H r (some (rdO l k5))) xs v H5:=by rw[hH5];exact Ea.move hv4 _
     simp(disch:=omega) only[go_sem,↓reduceIte];rw[<-hLm];exact Bt2.sub (Ea.sub hv5) ⟨rfl,rfl⟩
    | ok a k5=>
     rw[hpr2] at hp2 hLm had2;dsimp only[Res.then,Adv] at hLm had2;refine(hp2 (Ay (by simp))).mono ?_;rintro e H5 ⟨rfl,hH5⟩;have hv5:Af0 (upd H r (some (rdO l k5))) xs v H5:=by rw[hH5];exact Ea.move hv4 _
     have hla2:=Dv a;simp(disch:=omega) only[go_sem,↓reduceIte,e0,e1,e2,e7,dA];rw[Bd6 hla2];simp(disch:=omega) only[go_sem,↓reduceIte,e0,e1,e2,e7];intro r8 hr8;dsimp only at hr8;simp(disch:=omega) only[go_sem,↓reduceIte,e0,e1,e2,e7];refine Ea.append (m:=1) (Ea.new hv5 hr8 _) (by rw[hla2]) (by omega) fun v2 H6 hv2=> ?_;simp(disch:=omega) only[go_sem,↓reduceIte,e0,e1,e2];obtain⟨m',rfl⟩: ∃m',m=m'+1:=by
      cases m with
      | zero=>rw[hL0] at hLm;exact absurd hLm.symm hn
      | succ m'=>exact⟨m',rfl⟩
     have hlen2:(xs++ [a]).length<=k5:=by rw[List.length_append,List.length_singleton];omega
     have hv3:Af0 (upd H r (some (rdO l k5))) (xs++ [a]) v2 H6:=by
      unfold Af0;rw[List.length_append,List.length_singleton,List.flatMap_append,List.flatMap_singleton];exact hv2
     refine⟨(m',xs++ [a],k5),_,Ik.refl _,(hI _ _ _).2 ?_,by dsimp only;omega⟩;simp(disch:=omega) only[go_sem,↓reduceIte,e0,e1,e2];(repeat' apply And.intro)<;>(try first | rfl | assumption | omega)
   ·have c':isW l k1 [sep]=false:=by simpa using c
    rw[if_neg c] at hLm hH4;rw[Cq gr] at hH4;subst hH4;simp(disch:=omega) only[go_sem,↓reduceIte,e0,e1,e2,e7,c'];rw[<-hLm];exact Ea.fin hv ⟨rfl,rfl⟩
theorem Af1 {x:List DVal} (hx:x.length=2):
  (if 2<=(Cm 1 [DVal.int .u8 0,DVal.nilSlice]).length then some (x++List.drop 2 (Cm 1 [DVal.int .u8 0,DVal.nilSlice])) else none)=some x:=by
 have e: ∀u:List DVal,Cm 1 u=u:=fun u=>by simp [Cm]
 rw[e,if_pos (by simp),List.drop_eq_nil_of_le (by simp),List.append_nil]
def Cf (H:Ab) (l:List Ch) (v:DVal) (H':Ab):Prop:=Ea H 54 2 l.length (l.flatMap dCh) v H'
theorem Cf6 (hG:GX G) (hl:l.length<=800000) (n:Nat) (hg: ∀m≤n,RdC Tryz.prog G l 277 r fun k=>((P l m).arg k).mp dA):RdC Tryz.prog G l 140 r fun k=>(((P l n).arg k).then fun a k=>(P l n).argsL [a] k).mp dAl:=by
 intro H k hr hk hn;refine Ac Tryz.func140 Tryz.call140 rfl (by kernel_rfl) ?_;simp(disch:=omega) only[go_sem,↓reduceIte];have hs:=Ao0 hG hl 277 (fun m=>(P l m).arg) (fun m=>(P l m).argsL) Gx (fun _ _=>rfl) (fun _ _ _=>rfl) (fun m k hk=>(Fu m).arg k hk) n hg H k hr hk (fun h=>hn (by dsimp only;rw[h];rfl));refine hs.mono ?_;intro e H' h;dsimp only at hn⊢
 cases hc:(((P l n).arg k).then fun a k=>(P l n).argsL [a] k) with
 | bot=>rw[hc] at h;exact h.elim
 | fail k3=>
  rw[hc] at h;obtain⟨rfl,rfl⟩:=h;simp(disch:=omega) only[go_sem,↓reduceIte];exact Bt2.refl ⟨rfl,rfl⟩
 | ok x k3=>
  rw[hc] at h;obtain⟨rfl,rfl⟩:=h;simp(disch:=omega) only[go_sem,↓reduceIte];exact Pm.refl ⟨rfl,rfl⟩
end
end Go.Dl

-- Chapter 3: the package's reader: arguments.
namespace Go.Dl
open Go Go.Proofs
set_option maxRecDepth 100000
section
variable {G:Nat->DVal} {H0 H H':Ab} {r k:Nat} {l:List Tok}
theorem Du1 (hG:GX G) (H:Ab) (q:Nat) (s:List UInt8) (hq:H q=some (.cells [.str s] 9)) (hr:H r=some (rdO l k)) (hrq:r≠q) (hl:l.length<=1000000) (hk:k<=900000):Ah Tryz.prog G 248 [.optr r 0, .oslice 1 q 0 1 1] H (Bp (.bool (isW l k [s])) (upd H q none)):=by
 refine Ah.fzArgs q hq ?_;simp only[fzs,fz,if_neg hrq,if_pos];exact Uv hG _ [s] (by rw[Aq _ _ _ _ hrq];exact hr) hl hk (by simp)
theorem Fv.assoc {v:DVal} {c:List Ch} {e:Ex} (hs:Sub H H') (h:Fv H' v H (dCl c)):Dp H' (v::dEx e) H (dAs (.mk c e)):=by
 rw[Su];exact .cons h (.keep hs _)
set_option maxHeartbeats 4000000 in
theorem Al0 (hG:GX G) (hl:l.length<=800000) (p:PS) (hpa:RdC Tryz.prog G l 105 r fun k=>(p.expr k).mp dE):RdC Tryz.prog G l 277 r fun k=>((Av l p).arg k).mp dA:=by
 intro H k hr hk hn;dsimp only[Av] at hn⊢
 obtain⟨t,ht⟩: ∃t,t=tk l k:=⟨_,rfl⟩;rw[<-ht] at hn⊢
 have hw1:IntKind.i64.wrap ((k:Int)+1)=((k+1:Nat):Int):=by rw[IntKind.wrap_i64];omega
 have hw2:IntKind.i64.wrap ((k:Int)+2)=((k+2:Nat):Int):=by rw[IntKind.wrap_i64];omega
 refine Ac Tryz.func277 Tryz.call277 rfl (by kernel_rfl) ?_;simp(disch:=omega) only[go_sem,↓reduceIte];intro r2 hr2;dsimp only at hr2;obtain⟨Ha,hHa⟩: ∃K,K=upd H r2 (some (.cells [.nilSlice, .int .u8 0, .int .u8 0, .int .i64 0, .str [], .nilSlice, .nilSlice, .int .i64 0, .int .i64 0, .int .i64 0] 51)):=⟨_,rfl⟩;rw[<-hHa];have gr2:Ha r2=some (.cells [.nilSlice, .int .u8 0, .int .u8 0, .int .i64 0, .str [], .nilSlice, .nilSlice, .int .i64 0, .int .i64 0, .int .i64 0] 51):=by rw[hHa];exact Aa _ _ _
 have n2:r≠r2:=Af hr2 hr;have q2:=n2.symm;have ha:RAt r l k H Ha:=by rw[hHa];exact(RAt.refl hr).new hr2 _
 simp(disch:=omega) only[go_sem,↓reduceIte];refine(Qm G _ ha.get (by omega) (by omega)).mono ?_;rintro _ H1 ⟨rfl,rfl⟩;rw[<-ht];simp(disch:=omega) only[go_sem,↓reduceIte];intro r3 hr3;dsimp only at hr3;have n23:r2≠r3:=Af hr3 gr2;have m23:=n23.symm;have n3:r≠r3:=Af hr3 ha.get;have q3:=n3.symm;simp(disch:=omega) only[go_sem,↓reduceIte,Dd];obtain⟨Hc,hHc⟩: ∃K,K=upd H1 r3 (some (.cells [.int .u8 t.kind,dI t.line, .str t.text,dI t.n] 31)):=⟨_,rfl⟩;rw[<-hHc];have hac:RAt r l k H Hc:=by rw[hHc];exact ha.new hr3 _
 have gc2:Hc r2=some (.cells [.nilSlice, .int .u8 0, .int .u8 0, .int .i64 0, .str [], .nilSlice, .nilSlice, .int .i64 0, .int .i64 0, .int .i64 0] 51):=by rw[hHc];exact Ai gr2 n23
 have gc3:Hc r3=some (.cells [.int .u8 t.kind,dI t.line, .str t.text,dI t.n] 31):=by rw[hHc];exact Aa _ _ _
 have gcr:=hac.get;unfold rdO at gcr;by_cases c:t.kind=1
 ·refine An (by kernel_rfl) (.take 0 (.take 1 (.take 2 (.take 3 (.take 4 (.take 5 (.take 6 (.take 7 (.take 8 (.take 9 (.take 10 (.take 11 (.take 12 (.take 13 (.alt (.go 15 [11,7] (.go 14 [] (.go 16 [] (.take 17 .done)))) (.go 14 [] (.go 15 [11,7] (.go 16 [] (.take 17 .done))))))))))))))))))) (by kernel_rfl) ?_;have hdc:(Bv l).cells= [Bv l]:=rfl;simp(disch:=omega) only[go_sem,↓reduceIte,gc3,c,gcr,hw1,hdc];have hk1:k+1<=l.length:=Ks (by rw[<-ht,c];decide);refine⟨?_,?_⟩
  ·intro w1 hw;dsimp only at hw;have nr1:r≠w1:=Af hw hac.get;simp(disch:=omega) only[go_sem,↓reduceIte,nr1];intro r20 h20;dsimp only at h20;obtain⟨m1,m2,h20'⟩:=Dj1.1 h20;have nr20:r≠r20:=Af h20' hac.get;simp(disch:=omega) only[go_sem,↓reduceIte,nr1,nr20,m1,m2];refine(Du1 hG _ w1 Bc (r:=r20) (k:=k+1) (by rw[Aq _ _ _ _ m2];exact Aa _ _ _) (Aa _ _ _) m1 (by omega) (by omega)).mono ?_;rintro _ H5 ⟨rfl,hH5⟩;have n52:r2≠w1:=Af hw gc2;have n53:r3≠w1:=Af hw gc3;have n62:r2≠r20:=Af h20' gc2;have n63:r3≠r20:=Af h20' gc3;have g52:H5 r2=some (.cells [.nilSlice, .int .u8 0, .int .u8 0, .int .i64 0, .str [], .nilSlice, .nilSlice, .int .i64 0, .int .i64 0, .int .i64 0] 51):=by rw[hH5,Aq _ _ _ _ n52];exact Ai (Ai gc2 n52) n62
   have g53:H5 r3=some (.cells [.int .u8 t.kind,dI t.line, .str t.text,dI t.n] 31):=by rw[hH5,Aq _ _ _ _ n53];exact Ai (Ai gc3 n53) n63
   have ha5:RAt r l k H H5:=by rw[hH5];exact((hac.new hw (some (.cells [.str Bc] 9))).new h20 (some (rdO l (k+1)))).own (hac.lo hw) nr1.symm none
   have gr5:=ha5.get;unfold rdO at gr5;by_cases c2:isW l (k+1) [Bc]=true
   ·rw[if_pos ⟨c,c2⟩] at hn;rw[if_pos c2];have hk2:=Ao c2 hk1;rw[List.length_singleton] at hk2;simp(disch:=omega) only[go_sem,↓reduceIte,c2,gr5,hw2,q3,g53];obtain⟨H6,hH6⟩: ∃H6,H6=upd H5 r (some (rdO l (k+2))):=⟨_,rfl⟩;have hH6':=hH6;unfold rdO at hH6';rw[<-hH6'];have ha6:RAt r l (k+2) H H6:=by rw[hH6];exact ha5.set _
    have g62:H6 r2=some (.cells [.nilSlice, .int .u8 0, .int .u8 0, .int .i64 0, .str [], .nilSlice, .nilSlice, .int .i64 0, .int .i64 0, .int .i64 0] 51):=by rw[hH6];exact Ai g52 q2
    have g63:H6 r3=some (.cells [.int .u8 t.kind,dI t.line, .str t.text,dI t.n] 31):=by rw[hH6];exact Ai g53 q3
    intro r36 h36;dsimp only at h36;have p236:r2≠r36:=Af h36 g62;have z236:=p236.symm;have pr36:r≠r36:=Af h36 ha6.get;simp(disch:=omega) only[go_sem,↓reduceIte];intro r38 h38;dsimp only at h38;obtain⟨a1,a2,h38'⟩:=Dj1.1 h38;have p238:r2≠r38:=Af h38' g62;have z238:=p238.symm;have pr38:r≠r38:=Af h38' ha6.get;simp(disch:=omega) only[go_sem,↓reduceIte,p236,p238,g62];obtain⟨H7,hH7⟩: ∃H7,H7=upd (upd (upd H6 r36 (some (.cells [.int .u8 3, .int .u8 0, .int .i64 0, .str t.text, .nilSlice, .nilSlice, .int .i64 t.line, .int .i64 0, .int .i64 0] 36))) r38 (some (.cells [.int .u8 1, .oslice 9 r36 0 1 1] 54))) r2 (some (.cells [.oslice 2 r38 0 1 1, .int .u8 0, .int .u8 0, .int .i64 0, .str [], .nilSlice, .nilSlice, .int .i64 0, .int .i64 0, .int .i64 0] 51)):=⟨_,rfl⟩;rw[show List.drop 9 (Cm 1 [DVal.int .u8 0,DVal.int .u8 0,DVal.int .i64 0,DVal.str [],DVal.nilSlice,DVal.nilSlice,DVal.int .i64 0,DVal.int .i64 0,DVal.int .i64 0])= [] from rfl,show List.drop 2 (Cm 1 [DVal.int .u8 0,DVal.nilSlice])= [] from rfl,<-hH7];have ha7:RAt r l (k+2) H H7:=by rw[hH7];exact((ha6.new h36 _).new h38 _).own hr2 q2 _
    have g736:H7 r36=some (.cells [.int .u8 3, .int .u8 0, .int .i64 0, .str t.text, .nilSlice, .nilSlice, .int .i64 t.line, .int .i64 0, .int .i64 0] 36):=by rw[hH7];simp [upd,z236,a1,a2]
    have g738:H7 r38=some (.cells [.int .u8 1, .oslice 9 r36 0 1 1] 54):=by rw[hH7];simp [upd,z238]
    have g72:H7 r2=some (.cells [.oslice 2 r38 0 1 1, .int .u8 0, .int .u8 0, .int .i64 0, .str [], .nilSlice, .nilSlice, .int .i64 0, .int .i64 0, .int .i64 0] 51):=by rw[hH7];exact Aa _ _ _
    have hpk:=hpa _ (k+2) ha7.get (by omega);dsimp only at hpk;cases hpr:p.expr (k+2) with
    | bot=>rw[hpr] at hn;exact absurd rfl hn
    | fail k3=>
     rw[hpr] at hpk;refine(hpk (Ay (by simp))).mono ?_;rintro e H4 ⟨rfl,rfl⟩;simp(disch:=omega) only[go_sem,↓reduceIte];exact RAt.finP (ha7.set k3) ⟨rfl,rfl⟩
    | ok y k3=>
     rw[hpr] at hpk;refine(hpk (Ay (by simp))).mono ?_;rintro e H4 ⟨rfl,hH4⟩;have ha4:RAt r l k3 H H4:=by rw[hH4];exact ha7.set k3
     have g42:=Ai (y:=some (rdO l k3)) g72 q2;have g436:=Ai (y:=some (rdO l k3)) g736 pr36.symm;have g438:=Ai (y:=some (rdO l k3)) g738 pr38.symm;rw[<-hH4] at g42 g436 g438;have hly:=Aj y;have hoy:=Ba y;dsimp only[Res.then];simp(disch:=omega) only[go_sem,↓reduceIte,dE,g42,hly,hoy];have hat:=fun z=>ha4.own hr2 q2 z;refine Fv.fin (hat _) (Fv.agg (Fv.assoc (c:= [.mk 1 [.mk 3 0 0 t.text [] [] t.line 0 0]]) (hat _) (Fv.cells (e:=54) (cs':= [Ch.mk 1 [.mk 3 0 0 t.text [] [] t.line 0 0]].flatMap dCh) (hat _) ?_ (Ai g438 z238) rfl ?_))) ⟨rfl,rfl⟩
     ·rw[Aq _ _ _ _ pr38.symm];exact ha6.lo h38'
     ·rw[List.flatMap_singleton];refine Fv.choice (m:= [.mk 3 0 0 t.text [] [] t.line 0 0]) (hat _) (Fv.cells (e:=36) (cs':= [Ex.mk 3 0 0 t.text [] [] t.line 0 0].flatMap dEx) (hat _) ?_ (Ai g436 z236) rfl ?_)
      ·rw[Aq _ _ _ _ pr36.symm];exact ha6.lo h36
      ·rw[List.flatMap_singleton];exact Fv.ex (hat _) (.exs0 (hat _)) (.as0 (hat _))
   ·have c2':isW l (k+1) [Bc]=false:=by simpa using c2
    rw[if_neg (fun h=>c2 h.2)] at hn;rw[if_neg c2];simp(disch:=omega) only[go_sem,↓reduceIte,c2'];have hpk:=hpa _ k ha5.get hk;dsimp only at hpk;cases hpr:p.expr k with
    | bot=>rw[hpr] at hn;exact absurd rfl hn
    | fail k3=>
     rw[hpr] at hpk;refine(hpk (Ay (by simp))).mono ?_;rintro e H4 ⟨rfl,rfl⟩;simp(disch:=omega) only[go_sem,↓reduceIte];exact RAt.finP (ha5.set k3) ⟨rfl,rfl⟩
    | ok y k3=>
     rw[hpr] at hpk;refine(hpk (Ay (by simp))).mono ?_;rintro e H4 ⟨rfl,hH4⟩;have ha4:RAt r l k3 H H4:=by rw[hH4];exact ha5.set k3
     have g4:H4 r2=some (.cells [.nilSlice, .int .u8 0, .int .u8 0, .int .i64 0, .str [], .nilSlice, .nilSlice, .int .i64 0, .int .i64 0, .int .i64 0] 51):=by rw[hH4];exact Ai g52 q2
     have hly:=Aj y;have hoy:=Ba y;dsimp only[Res.then];simp(disch:=omega) only[go_sem,↓reduceIte,dE,g4,hly,hoy];have hat:=fun z=>ha4.own hr2 q2 z;exact Fv.fin (hat _) (Fv.agg (Fv.assoc (c:= []) (hat _) (.ch0 (hat _)))) ⟨rfl,rfl⟩
  ·intro r20 h20;dsimp only at h20;have nr20:r≠r20:=Af h20 hac.get;simp(disch:=omega) only[go_sem,↓reduceIte,nr20];intro w1 hwq;dsimp only at hwq;obtain⟨m1,m2,hw⟩:=Dj1.1 hwq;have nr1:r≠w1:=Af hw hac.get;simp(disch:=omega) only[go_sem,↓reduceIte,nr1,nr20,m1,m2];refine(Du1 hG _ w1 Bc (r:=r20) (k:=k+1) (Aa _ _ _) (by rw[Aq _ _ _ _ m2];exact Aa _ _ _) m2 (by omega) (by omega)).mono ?_;rintro _ H5 ⟨rfl,hH5⟩;have n52:r2≠w1:=Af hw gc2;have n53:r3≠w1:=Af hw gc3;have n62:r2≠r20:=Af h20 gc2;have n63:r3≠r20:=Af h20 gc3;have g52:H5 r2=some (.cells [.nilSlice, .int .u8 0, .int .u8 0, .int .i64 0, .str [], .nilSlice, .nilSlice, .int .i64 0, .int .i64 0, .int .i64 0] 51):=by rw[hH5,Aq _ _ _ _ n52];exact Ai (Ai gc2 n62) n52
   have g53:H5 r3=some (.cells [.int .u8 t.kind,dI t.line, .str t.text,dI t.n] 31):=by rw[hH5,Aq _ _ _ _ n53];exact Ai (Ai gc3 n63) n53
   have ha5:RAt r l k H H5:=by rw[hH5];exact((hac.new h20 (some (rdO l (k+1)))).new hwq (some (.cells [.str Bc] 9))).own (hac.lo hw) nr1.symm none
   have gr5:=ha5.get;unfold rdO at gr5;by_cases c2:isW l (k+1) [Bc]=true
   ·rw[if_pos ⟨c,c2⟩] at hn;rw[if_pos c2];have hk2:=Ao c2 hk1;rw[List.length_singleton] at hk2;simp(disch:=omega) only[go_sem,↓reduceIte,c2,gr5,hw2,q3,g53];obtain⟨H6,hH6⟩: ∃H6,H6=upd H5 r (some (rdO l (k+2))):=⟨_,rfl⟩;have hH6':=hH6;unfold rdO at hH6';rw[<-hH6'];have ha6:RAt r l (k+2) H H6:=by rw[hH6];exact ha5.set _
    have g62:H6 r2=some (.cells [.nilSlice, .int .u8 0, .int .u8 0, .int .i64 0, .str [], .nilSlice, .nilSlice, .int .i64 0, .int .i64 0, .int .i64 0] 51):=by rw[hH6];exact Ai g52 q2
    have g63:H6 r3=some (.cells [.int .u8 t.kind,dI t.line, .str t.text,dI t.n] 31):=by rw[hH6];exact Ai g53 q3
    intro r36 h36;dsimp only at h36;have p236:r2≠r36:=Af h36 g62;have z236:=p236.symm;have pr36:r≠r36:=Af h36 ha6.get;simp(disch:=omega) only[go_sem,↓reduceIte];intro r38 h38;dsimp only at h38;obtain⟨a1,a2,h38'⟩:=Dj1.1 h38;have p238:r2≠r38:=Af h38' g62;have z238:=p238.symm;have pr38:r≠r38:=Af h38' ha6.get;simp(disch:=omega) only[go_sem,↓reduceIte,p236,p238,g62];obtain⟨H7,hH7⟩: ∃H7,H7=upd (upd (upd H6 r36 (some (.cells [.int .u8 3, .int .u8 0, .int .i64 0, .str t.text, .nilSlice, .nilSlice, .int .i64 t.line, .int .i64 0, .int .i64 0] 36))) r38 (some (.cells [.int .u8 1, .oslice 9 r36 0 1 1] 54))) r2 (some (.cells [.oslice 2 r38 0 1 1, .int .u8 0, .int .u8 0, .int .i64 0, .str [], .nilSlice, .nilSlice, .int .i64 0, .int .i64 0, .int .i64 0] 51)):=⟨_,rfl⟩;rw[show List.drop 9 (Cm 1 [DVal.int .u8 0,DVal.int .u8 0,DVal.int .i64 0,DVal.str [],DVal.nilSlice,DVal.nilSlice,DVal.int .i64 0,DVal.int .i64 0,DVal.int .i64 0])= [] from rfl,show List.drop 2 (Cm 1 [DVal.int .u8 0,DVal.nilSlice])= [] from rfl,<-hH7];have ha7:RAt r l (k+2) H H7:=by rw[hH7];exact((ha6.new h36 _).new h38 _).own hr2 q2 _
    have g736:H7 r36=some (.cells [.int .u8 3, .int .u8 0, .int .i64 0, .str t.text, .nilSlice, .nilSlice, .int .i64 t.line, .int .i64 0, .int .i64 0] 36):=by rw[hH7];simp [upd,z236,a1,a2]
    have g738:H7 r38=some (.cells [.int .u8 1, .oslice 9 r36 0 1 1] 54):=by rw[hH7];simp [upd,z238]
    have g72:H7 r2=some (.cells [.oslice 2 r38 0 1 1, .int .u8 0, .int .u8 0, .int .i64 0, .str [], .nilSlice, .nilSlice, .int .i64 0, .int .i64 0, .int .i64 0] 51):=by rw[hH7];exact Aa _ _ _
    have hpk:=hpa _ (k+2) ha7.get (by omega);dsimp only at hpk;cases hpr:p.expr (k+2) with
    | bot=>rw[hpr] at hn;exact absurd rfl hn
    | fail k3=>
     rw[hpr] at hpk;refine(hpk (Ay (by simp))).mono ?_;rintro e H4 ⟨rfl,rfl⟩;simp(disch:=omega) only[go_sem,↓reduceIte];exact RAt.finP (ha7.set k3) ⟨rfl,rfl⟩
    | ok y k3=>
     rw[hpr] at hpk;refine(hpk (Ay (by simp))).mono ?_;rintro e H4 ⟨rfl,hH4⟩;have ha4:RAt r l k3 H H4:=by rw[hH4];exact ha7.set k3
     have g42:=Ai (y:=some (rdO l k3)) g72 q2;have g436:=Ai (y:=some (rdO l k3)) g736 pr36.symm;have g438:=Ai (y:=some (rdO l k3)) g738 pr38.symm;rw[<-hH4] at g42 g436 g438;have hly:=Aj y;have hoy:=Ba y;dsimp only[Res.then];simp(disch:=omega) only[go_sem,↓reduceIte,dE,g42,hly,hoy];have hat:=fun z=>ha4.own hr2 q2 z;refine Fv.fin (hat _) (Fv.agg (Fv.assoc (c:= [.mk 1 [.mk 3 0 0 t.text [] [] t.line 0 0]]) (hat _) (Fv.cells (e:=54) (cs':= [Ch.mk 1 [.mk 3 0 0 t.text [] [] t.line 0 0]].flatMap dCh) (hat _) ?_ (Ai g438 z238) rfl ?_))) ⟨rfl,rfl⟩
     ·rw[Aq _ _ _ _ pr38.symm];exact ha6.lo h38'
     ·rw[List.flatMap_singleton];refine Fv.choice (m:= [.mk 3 0 0 t.text [] [] t.line 0 0]) (hat _) (Fv.cells (e:=36) (cs':= [Ex.mk 3 0 0 t.text [] [] t.line 0 0].flatMap dEx) (hat _) ?_ (Ai g436 z236) rfl ?_)
      ·rw[Aq _ _ _ _ pr36.symm];exact ha6.lo h36
      ·rw[List.flatMap_singleton];exact Fv.ex (hat _) (.exs0 (hat _)) (.as0 (hat _))
   ·have c2':isW l (k+1) [Bc]=false:=by simpa using c2
    rw[if_neg (fun h=>c2 h.2)] at hn;rw[if_neg c2];simp(disch:=omega) only[go_sem,↓reduceIte,c2'];have hpk:=hpa _ k ha5.get hk;dsimp only at hpk;cases hpr:p.expr k with
    | bot=>rw[hpr] at hn;exact absurd rfl hn
    | fail k3=>
     rw[hpr] at hpk;refine(hpk (Ay (by simp))).mono ?_;rintro e H4 ⟨rfl,rfl⟩;simp(disch:=omega) only[go_sem,↓reduceIte];exact RAt.finP (ha5.set k3) ⟨rfl,rfl⟩
    | ok y k3=>
     rw[hpr] at hpk;refine(hpk (Ay (by simp))).mono ?_;rintro e H4 ⟨rfl,hH4⟩;have ha4:RAt r l k3 H H4:=by rw[hH4];exact ha5.set k3
     have g4:H4 r2=some (.cells [.nilSlice, .int .u8 0, .int .u8 0, .int .i64 0, .str [], .nilSlice, .nilSlice, .int .i64 0, .int .i64 0, .int .i64 0] 51):=by rw[hH4];exact Ai g52 q2
     have hly:=Aj y;have hoy:=Ba y;dsimp only[Res.then];simp(disch:=omega) only[go_sem,↓reduceIte,dE,g4,hly,hoy];have hat:=fun z=>ha4.own hr2 q2 z;exact Fv.fin (hat _) (Fv.agg (Fv.assoc (c:= []) (hat _) (.ch0 (hat _)))) ⟨rfl,rfl⟩
 ·rw[if_neg (fun h=>c h.1)] at hn⊢
  refine An (by kernel_rfl) (.take 0 (.take 1 (.take 2 (.take 3 (.take 4 (.take 5 (.take 6 (.take 7 (.take 8 (.take 9 (.take 10 (.take 11 (.take 12 (.take 13 (.alt (.go 15 [11,7] (.go 14 [] (.go 16 [] (.take 17 .done)))) (.go 14 [] (.go 15 [11,7] (.go 16 [] (.take 17 .done))))))))))))))))))) (by kernel_rfl) ?_;simp(disch:=omega) only[go_sem,↓reduceIte,gc3,c];refine⟨⟨⟨Fy,Fy⟩,?_⟩,⟨Fy,Fy⟩,?_⟩;all_goals
   have hpk:=hpa _ k hac.get hk;dsimp only at hpk;cases hpr:p.expr k with
   | bot=>rw[hpr] at hn;exact absurd rfl hn
   | fail k3=>
    rw[hpr] at hpk;refine(hpk (Ay (by simp))).mono ?_;rintro e H4 ⟨rfl,rfl⟩;simp(disch:=omega) only[go_sem,↓reduceIte];exact RAt.finP (hac.set k3) ⟨rfl,rfl⟩
   | ok y k3=>
    rw[hpr] at hpk;refine(hpk (Ay (by simp))).mono ?_;rintro e H4 ⟨rfl,hH4⟩;have ha4:RAt r l k3 H H4:=by rw[hH4];exact hac.set k3
    have g4:H4 r2=some (.cells [.nilSlice, .int .u8 0, .int .u8 0, .int .i64 0, .str [], .nilSlice, .nilSlice, .int .i64 0, .int .i64 0, .int .i64 0] 51):=by rw[hH4];exact Ai gc2 q2
    have hly:=Aj y;have hoy:=Ba y;dsimp only[Res.then];simp(disch:=omega) only[go_sem,↓reduceIte,dE,g4,hly,hoy];have hat:=fun z=>ha4.own hr2 q2 z;exact Fv.fin (hat _) (Fv.agg (Fv.assoc (c:= []) (hat _) (.ch0 (hat _)))) ⟨rfl,rfl⟩
end
end Go.Dl

-- Chapter 3: the package's reader: associations.
namespace Go.Dl
open Go Go.Proofs
set_option maxRecDepth 100000
section
variable {G:Nat->DVal} {H0 H H':Ab} {r k:Nat} {l:List Tok}
theorem Ek {α β:Type} (x:α) (k:Nat) (f:α->Nat->Res β):(Res.ok x k).then f=f x k:=rfl
theorem Dk {α β:Type} (k:Nat) (f:α->Nat->Res β):(Res.fail k).then f= .fail k:=rfl
theorem Dy {α β:Type} (f:α->Nat->Res β):Res.bot.then f= .bot:=rfl
theorem Ea.at {B H':Ab} {e:TypeId} {size n:Nat} {cs:List DVal} {v:DVal} {r:Nat} {o:DObj} (h:Ea B e size n cs v H') (hr:B r=some o) (y:Option DObj):Ea (upd B r y) e size n cs v (upd H' r y):=by
 have h2:Ea (upd B r (some o)) e size n cs v H':=by rw[Cq hr];exact h
 exact h2.move y
theorem La {n k:Nat} {c:Ch} {k':Nat} (h:(P l n).choice k= .ok c k'):(c.kind=3/\c.l= [])\/(c.kind=2/\ ∃x y,c.l= [x,y])\/(c.kind=1/\ ∃x,c.l= [x]):=by
 cases n with
 | zero=>cases h
 | succ n=>
  have e:(P l (n+1)).choice k=if isW l k [Gr] then .ok (.mk 3 []) (k+1) else((P l n).simple k).then fun x k=>if isW l k [Ef] then((P l n).simple (k+1)).then fun y k=> .ok (.mk 2 [x,y]) k else((P l n).rest x k).then fun x k=> .ok (.mk 1 [x]) k:=rfl
  rw[e] at h;split at h
  ·cases h;exact .inl ⟨rfl,rfl⟩
  ·cases h1:(P l n).simple k with
   | bot=>rw[h1] at h;cases h
   | fail k=>rw[h1] at h;cases h
   | ok x k1=>
    rw[h1] at h;dsimp only[Res.then] at h;split at h
    ·cases h2:(P l n).simple (k1+1) with
     | bot=>rw[h2] at h;cases h
     | fail k=>rw[h2] at h;cases h
     | ok y k2=>rw[h2] at h;cases h;exact .inr (.inl ⟨rfl,x,y,rfl⟩)
    ·cases h2:(P l n).rest x k1 with
     | bot=>rw[h2] at h;cases h
     | fail k=>rw[h2] at h;cases h
     | ok y k2=>rw[h2] at h;cases h;exact .inr (.inr ⟨rfl,y,rfl⟩)
set_option maxHeartbeats 4000000 in
theorem At6 (hG:GX G) (hl:l.length<=800000) (n:Nat) (hc: ∀m≤n,RdC Tryz.prog G l 281 r fun k=>((P l m).choice k).mp dC) (hpa:RdC Tryz.prog G l 105 r fun k=>((P l n).expr k).mp dE):RdC Tryz.prog G l 370 r fun k=>((P l (n+1)).assoc k).mp dA:=by
 intro H k hr hk hn;obtain⟨F,hF⟩: ∃F:Ch->Nat->Res As,∀c k,F c k=if c.kind=1/\isW l k [Fk]=false/\isW l k [Bc]=false then .ok (.mk [] (c.l.getD 0 ex0)) k else if c.kind=3 then Da l Bc k fun k=>((P l n).expr k).then fun e k=> .ok (.mk [c] e) k else((P l n).choicesL [c] k).then fun cs k=>Da l Bc k fun k=>((P l n).expr k).then fun e k=> .ok (.mk cs e) k:=⟨_,fun _ _=>rfl⟩
 have e:(P l (n+1)).assoc k=((P l n).choice k).then F:=by
  have:F=fun c k=>if c.kind=1/\isW l k [Fk]=false/\isW l k [Bc]=false then .ok (.mk [] (c.l.getD 0 ex0)) k else if c.kind=3 then Da l Bc k fun k=>((P l n).expr k).then fun e k=> .ok (.mk [c] e) k else((P l n).choicesL [c] k).then fun cs k=>Da l Bc k fun k=>((P l n).expr k).then fun e k=> .ok (.mk cs e) k:=funext fun c=>funext fun k=>hF c k
  rw[this];rfl
 dsimp only at hn⊢
 rw[e] at hn⊢
 refine Ac Tryz.func370 Tryz.call370 rfl (by kernel_rfl) ?_;simp(disch:=omega) only[go_sem,↓reduceIte];intro r2 hr2;dsimp only at hr2;obtain⟨Ha,hHa⟩: ∃K,K=upd H r2 (some (.cells [.nilSlice, .int .u8 0, .int .u8 0, .int .i64 0, .str [], .nilSlice, .nilSlice, .int .i64 0, .int .i64 0, .int .i64 0] 51)):=⟨_,rfl⟩;rw[<-hHa];have gr2:Ha r2=some (.cells [.nilSlice, .int .u8 0, .int .u8 0, .int .i64 0, .str [], .nilSlice, .nilSlice, .int .i64 0, .int .i64 0, .int .i64 0] 51):=by rw[hHa];exact Aa _ _ _
 have n2:r≠r2:=Af hr2 hr;have q2:=n2.symm;have ha:RAt r l k H Ha:=by rw[hHa];exact(RAt.refl hr).new hr2 _
 simp(disch:=omega) only[go_sem,↓reduceIte];have hpk:=hc n (Nat.le_refl _) _ k ha.get hk;have had:=(Fu (l:=l) n).choice k hk;dsimp only at hpk;cases hpr:(P l n).choice k with
 | bot=>rw[hpr] at hn;exact absurd rfl hn
 | fail k3=>
  rw[hpr] at hpk;refine(hpk (Ay (by simp))).mono ?_;rintro e H4 ⟨rfl,rfl⟩;simp(disch:=omega) only[go_sem,↓reduceIte];exact RAt.finP (ha.set k3) ⟨rfl,rfl⟩
 | ok c k3=>
  rw[hpr] at hpk hn had;refine(hpk (Ay (by simp))).mono ?_;rintro e H3 ⟨rfl,hH3⟩;have ha3:RAt r l k3 H H3:=by rw[hH3];exact ha.set k3
  dsimp only[Res.then,Adv] at hn had⊢
  have hres:=hF c k3;obtain⟨res,hrs⟩: ∃res,res=F c k3:=⟨_,rfl⟩;rw[<-hrs] at hn hres⊢
  have g3:H3 r2=some (.cells [.nilSlice, .int .u8 0, .int .u8 0, .int .i64 0, .str [], .nilSlice, .nilSlice, .int .i64 0, .int .i64 0, .int .i64 0] 51):=by rw[hH3];exact Ai gr2 q2
  have hlc:=Ec c;have hoc:=Bu6 c;simp(disch:=omega) only[go_sem,↓reduceIte,dC];intro r3 hr3;dsimp only at hr3;have n23:r2≠r3:=Af hr3 g3;have m23:=n23.symm;have n3:r≠r3:=Af hr3 ha3.get;have q3:=n3.symm;simp(disch:=omega) only[go_sem,↓reduceIte,hlc,hoc];obtain⟨Hc,hHc⟩: ∃K,K=upd H3 r3 (some (.cells (dCh c) 54)):=⟨_,rfl⟩;rw[<-hHc];have hac:RAt r l k3 H Hc:=by rw[hHc];exact ha3.new hr3 _
  have gc2:Hc r2=some (.cells [.nilSlice, .int .u8 0, .int .u8 0, .int .i64 0, .str [], .nilSlice, .nilSlice, .int .i64 0, .int .i64 0, .int .i64 0] 51):=by rw[hHc];exact Ai g3 n23
  have gc3:Hc r3=some (.cells (dCh c) 54):=by rw[hHc];exact Aa _ _ _
  have gk:(dCh c)[0]? =some (.int .u8 c.kind):=by rw[Qj];rfl
  by_cases c1:c.kind=1
  ·simp(disch:=omega) only[go_sem,↓reduceIte,gc3,gk,c1];intro w1 hw1;dsimp only at hw1;simp(disch:=omega) only[go_sem,↓reduceIte];refine(is1 hG _ w1 Fk hw1 hac.get (by omega) (by omega)).mono ?_;rintro _ H5 ⟨rfl,hH5⟩;rw[hH5];by_cases b1:isW l k3 [Fk]=true
   ·simp(disch:=omega) only[go_sem,↓reduceIte,b1];have hnc: ¬(c.kind=1/\isW l k3 [Fk]=false/\isW l k3 [Bc]=false):=fun h=>by rw[b1] at h;exact absurd h.2.1 (by decide)
    have hsh:=La hpr;obtain⟨n',rfl⟩: ∃n',n=n'+1:=by
     cases n with
     | zero=>cases hpr
     | succ n'=>exact⟨n',rfl⟩
    obtain⟨L',hL0,hL,hres2⟩: ∃L':Nat->List Ch->Nat->Res (List Ch),(c.kind≠3-> ∀x k,L' 0 x k= .bot)/\(∀m x k,L' (m+1) x k=if c.kind≠3/\isW l k [Fk]=true then((P l m).choice (k+1)).then fun a k=>L' m (x++ [a]) k else .ok x k)/\res=(L' (n'+1) [c] k3).then fun cs k=>Da l Bc k fun k=>((P l (n'+1)).expr k).then fun e k=> .ok (.mk cs e) k:=by
     rw[hres];by_cases c3:c.kind=3
     ·refine⟨fun _ x k=> .ok x k,fun h=>absurd c3 h,fun m x k=>by rw[if_neg (fun h=>h.1 c3)],?_⟩;rw[if_neg (fun h=>by rw[c3] at h;exact absurd h.1 (by decide)),if_pos c3];rfl
     ·refine⟨fun m=>(P l m).choicesL,fun _ _ _=>rfl,fun m x k=> ?_,?_⟩
      ·have e:(P l (m+1)).choicesL x k=if isW l k [Fk] then((P l m).choice (k+1)).then fun c k=>(P l m).choicesL (x++ [c]) k else .ok x k:=rfl
       show(P l (m+1)).choicesL x k=_;rw[e];by_cases hb:isW l k [Fk]=true
       ·rw[if_pos hb,if_pos ⟨c3,hb⟩]
       ·rw[if_neg hb,if_neg (fun h=>hb h.2)]
      ·rw[if_neg hnc,if_neg c3]
    obtain⟨AB,hAB⟩: ∃AB:DVal->Nat->Ab,∀v k,AB v k=upd (upd Hc r2 (some (.cells [v, .int .u8 0, .int .u8 0, .int .i64 0, .str [], .nilSlice, .nilSlice, .int .i64 0, .int .i64 0, .int .i64 0] 51))) r (some (rdO l k)):=⟨_,fun _ _=>rfl⟩;have hABr: ∀v k,AB v k r=some (rdO l k):=fun v k=>by rw[hAB];exact Aa _ _ _
    have hAB2: ∀v k,AB v k r2=some (.cells [v, .int .u8 0, .int .u8 0, .int .i64 0, .str [], .nilSlice, .nilSlice, .int .i64 0, .int .i64 0, .int .i64 0] 51):=fun v k=>by rw[hAB,Aq _ _ _ _ q2];exact Aa _ _ _
    have hAB3: ∀v k,AB v k r3=some (.cells (dCh c) 54):=fun v k=>by rw[hAB,Aq _ _ _ _ q3,Aq _ _ _ _ m23];exact gc3
    have hABk: ∀v k k',upd (AB v k) r (some (rdO l k'))=AB v k':=fun v k k'=>by rw[hAB,hAB,Hj]
    have hABv: ∀v v' k,upd (AB v k) r2 (some (.cells [v', .int .u8 0, .int .u8 0, .int .i64 0, .str [], .nilSlice, .nilSlice, .int .i64 0, .int .i64 0, .int .i64 0] 51))=AB v' k:=fun v v' k=>by rw[hAB,hAB,Qd q2,Hj]
    have hABa: ∀v k,RAt r l k H (AB v k):=fun v k=>by rw[hAB];exact(hac.own hr2 q2 _).set k
    simp(disch:=omega) only[go_sem,↓reduceIte,gc2,gc3,hlc];rw[show List.drop 2 (Cm 1 [DVal.int .u8 0,DVal.nilSlice])= [] from rfl];simp(disch:=omega) only[go_sem,↓reduceIte,hlc,hoc];intro r28 h28;dsimp only at h28;simp(disch:=omega) only[go_sem,↓reduceIte];intro r29 h29;dsimp only at h29;obtain⟨H6,hH6⟩: ∃K,K=upd (upd Hc r28 (some (.cells (dCh c) 54))) r29 (some (.cells (dCh c) 54)):=⟨_,rfl⟩;rw[<-hH6];have s28:Sub Hc (upd Hc r28 (some (.cells (dCh c) 54))):=(Sub.refl Hc).new h28 _;have hv6:Ea Hc 54 2 1 (dCh c) (.oslice 2 r29 0 1 1) H6:= .inr ⟨r29,s28.lo h29,hlc,rfl,by rw[hH6];exact Aa _ _ _,by rw[hH6];exact s28.new h29 _⟩;obtain⟨v1,hv1⟩: ∃v1,v1=DVal.oslice 2 r29 0 1 1:=⟨_,rfl⟩;rw[<-hv1] at hv6⊢
    have g62:=hv6.keep gc2;obtain⟨k1a,k1b⟩:=hv6.cell1;simp(disch:=omega) only[go_sem,↓reduceIte,g62,k1a,k1b];have hv7:Cf (AB v1 k3) [c] v1 (upd H6 r2 (some (.cells [v1, .int .u8 0, .int .u8 0, .int .i64 0, .str [], .nilSlice, .nilSlice, .int .i64 0, .int .i64 0, .int .i64 0] 51))):=by
     have:=hv6.at gc2 (some (.cells [v1, .int .u8 0, .int .u8 0, .int .i64 0, .str [], .nilSlice, .nilSlice, .int .i64 0, .int .i64 0, .int .i64 0] 51));rw[show AB v1 k3=upd Hc r2 (some (.cells [v1, .int .u8 0, .int .u8 0, .int .i64 0, .str [], .nilSlice, .nilSlice, .int .i64 0, .int .i64 0, .int .i64 0] 51)) by rw[hAB];exact Cq (Ai hac.get n2)];unfold Cf;rw[List.flatMap_singleton];exact this
    obtain⟨I,hI⟩: ∃I:Nat×List Ch×Nat->(Nat->DVal)->Ab->Prop,∀s env heap,I s env heap↔(env 0= .optr r 0/\env 2= .optr r2 0/\env 3= .optr r3 0/\s.2.2<=l.length/\s.2.1.length<=s.2.2/\s.1<=n'/\L' (s.1+1) s.2.1 s.2.2=L' (n'+1) [c] k3/\ ∃v,Cf (AB v s.2.2) s.2.1 v heap):=⟨_,fun _ _ _=>Iff.rfl⟩;refine Bs7.run I (fun s=>s.1) (n',[c],k3) ((hI _ _ _).2 ?_) ?_
    ·simp(disch:=omega) only[go_sem,↓reduceIte];(repeat' apply And.intro)<;>(try first | rfl | assumption | omega);exact⟨v1,hv7⟩
    ·rintro⟨m,xs,k1⟩ env heap hi';obtain⟨e0,e2,e3,hk1,hlen,hm,hLm,v,hv⟩:=(hI _ _ _).1 hi';dsimp only at hk1 hlen hm hLm hv;rw[hL] at hLm;have gr:heap r=some (rdO l k1):=Ea.keep hv (hABr _ _);have g2:=Ea.keep hv (hAB2 _ _);have g3:=Ea.keep hv (hAB3 _ _);by_cases c3:c.kind=3
     ·rw[if_neg (fun h=>h.1 c3)] at hLm;simp(disch:=omega) only[go_sem,↓reduceIte,e0,e2,e3,g3,gk,c3];refine(Gm hG heap Bc gr (by omega) (by omega)).mono ?_;intro e1 H8 hq;rw[<-hLm,Ek] at hres2;unfold Da at hq hres2;by_cases b5:isW l k1 [Bc]=true
      ·rw[if_pos b5] at hq hres2;obtain⟨rfl,hH8⟩:=hq;dsimp only at hres2;have hk5:=Ao b5 hk1;rw[List.length_singleton] at hk5;have hv8:Cf (AB v (k1+1)) xs v H8:=by rw[hH8,<-hABk v k1];exact Ea.at hv (hABr _ _) _
       simp(disch:=omega) only[go_sem,↓reduceIte,e0,e2,e3];have hpk:=hpa _ (k1+1) (Ea.keep hv8 (hABr _ _)) hk5;dsimp only at hpk;cases hpe:(P l (n'+1)).expr (k1+1) with
       | bot=>rw[hpe,Dy] at hres2;rw[hres2] at hn;exact absurd rfl hn
       | fail k6=>
        rw[hpe] at hpk;rw[hpe,Dk] at hres2;refine(hpk (Ay (by simp))).mono ?_;rintro e H9 ⟨rfl,hH9⟩;have hv9:Cf (AB v k6) xs v H9:=by rw[hH9,<-hABk v (k1+1)];exact Ea.at hv8 (hABr _ _) _
        simp(disch:=omega) only[go_sem,↓reduceIte];rw[hres2];exact RAt.finP ((hABa v k6).more (Ea.sub hv9)) ⟨rfl,rfl⟩
       | ok y k6=>
        rw[hpe] at hpk;rw[hpe,Ek] at hres2;refine(hpk (Ay (by simp))).mono ?_;rintro e H9 ⟨rfl,hH9⟩;have hv9:Cf (AB v k6) xs v H9:=by rw[hH9,<-hABk v (k1+1)];exact Ea.at hv8 (hABr _ _) _
        have g92:=Ea.keep hv9 (hAB2 v k6);obtain⟨j1,j2⟩:=Ea.cell1 hv9;have hly:=Aj y;have hoy:=Ba y;simp(disch:=omega) only[go_sem,↓reduceIte,e0,e2,e3,dE,g92,hly,hoy,j1,j2];rw[hres2];have hvf:=fun z=>Ea.less (Ea.at hv9 (hAB2 v k6) z) ((hABa v k6).own hr2 q2 z);refine Fv.fin (Ea.sub (hvf _)) (Fv.agg (Fv.assoc (c:=xs) (Ea.sub (hvf _)) (Fv.own (hvf _)))) ⟨rfl,rfl⟩
      ·rw[if_neg b5] at hq hres2;obtain⟨rfl,hH8⟩:=hq;have hv8:Cf (AB v k1) xs v H8:=by rw[hH8,<-hABk v k1];exact Ea.at hv (hABr _ _) _
       simp(disch:=omega) only[go_sem,↓reduceIte];rw[hres2];exact RAt.finP ((hABa v k1).more (Ea.sub hv8)) ⟨rfl,rfl⟩
     ·simp(disch:=omega) only[go_sem,↓reduceIte,e0,e2,e3,g3,gk,c3];intro w1 hw1;dsimp only at hw1;simp(disch:=omega) only[go_sem,↓reduceIte,e0,e2,e3,g3,gk,c3];refine(Sy hG _ w1 Fk hw1 gr (by omega) (by omega)).mono ?_;rintro _ H4 ⟨rfl,hH4⟩;by_cases b:isW l k1 [Fk]=true
      ·rw[if_pos ⟨c3,b⟩] at hLm;rw[if_pos b] at hH4;have hk4:=Ao b hk1;rw[List.length_singleton] at hk4;have hv4:Cf (AB v (k1+1)) xs v H4:=by rw[hH4,<-hABk v k1];exact Ea.at hv (hABr _ _) _
       have g42:=Ea.keep hv4 (hAB2 _ _);simp(disch:=omega) only[go_sem,↓reduceIte,e0,e2,e3,b];refine An (by kernel_rfl) (.take 0 (.take 1 (.take 2 (.go 3 [1] (.go 4 [1] (.go 5 [] (.take 6 (.go 7 [] .done)))))))) (by kernel_rfl) ?_;simp(disch:=omega) only[go_sem,↓reduceIte,e0,e2,e3,g42];have hp2:=hc m (by omega) _ (k1+1) (Ea.keep hv4 (hABr _ _)) hk4;have had2:=(Fu (l:=l) m).choice (k1+1) hk4;dsimp only at hp2;cases hpr2:(P l m).choice (k1+1) with
       | bot=>
        rw[hpr2,Dy] at hLm;rw[<-hLm,Dy] at hres2;rw[hres2] at hn;exact absurd rfl hn
       | fail k5=>
        rw[hpr2] at hp2;rw[hpr2,Dk] at hLm;rw[<-hLm,Dk] at hres2;refine(hp2 (Ay (by simp))).mono ?_;rintro e H5 ⟨rfl,hH5⟩;have hv5:Cf (AB v k5) xs v H5:=by rw[hH5,<-hABk v (k1+1)];exact Ea.at hv4 (hABr _ _) _
        simp(disch:=omega) only[go_sem,↓reduceIte];rw[hres2];exact RAt.finP ((hABa v k5).more (Ea.sub hv5)) ⟨rfl,rfl⟩
       | ok a k5=>
        rw[hpr2] at hp2 had2;rw[hpr2,Ek] at hLm;dsimp only[Adv] at had2;refine(hp2 (Ay (by simp))).mono ?_;rintro e H5 ⟨rfl,hH5⟩;have hv5:Cf (AB v k5) xs v H5:=by rw[hH5,<-hABk v (k1+1)];exact Ea.at hv4 (hABr _ _) _
        have g52:=Ea.keep hv5 (hAB2 _ _);have hla2:=Ec a;simp(disch:=omega) only[go_sem,↓reduceIte,e0,e2,e3,g42,g52,dC];rw[Af1 hla2];simp(disch:=omega) only[go_sem,↓reduceIte,e0,e2,e3,g42,g52];intro r8 hr8;dsimp only at hr8;have n8:r2≠r8:=Af hr8 g52;simp(disch:=omega) only[go_sem,↓reduceIte,e0,e2,e3,g52,n8];refine Ea.append (m:=1) (Ea.new hv5 hr8 _) (by rw[hla2]) (by omega) fun v2 H6 hv2=> ?_;have g62:=Ea.keep hv2 (hAB2 _ _);obtain⟨j1,j2⟩:=Ea.cell1 hv2;simp(disch:=omega) only[go_sem,↓reduceIte,e0,e2,e3,g62,j1,j2];obtain⟨m',rfl⟩: ∃m',m=m'+1:=by
         cases m with
         | zero=>rw[hL0 c3] at hLm;rw[<-hLm,Dy] at hres2;rw[hres2] at hn;exact absurd rfl hn
         | succ m'=>exact⟨m',rfl⟩
        have hlen2:(xs++ [a]).length<=k5:=by rw[List.length_append,List.length_singleton];omega
        have hv3:Cf (AB v2 k5) (xs++ [a]) v2 (upd H6 r2 (some (.cells [v2, .int .u8 0, .int .u8 0, .int .i64 0, .str [], .nilSlice, .nilSlice, .int .i64 0, .int .i64 0, .int .i64 0] 51))):=by
         have:=Ea.at hv2 (hAB2 _ _) (some (.cells [v2, .int .u8 0, .int .u8 0, .int .i64 0, .str [], .nilSlice, .nilSlice, .int .i64 0, .int .i64 0, .int .i64 0] 51));rw[hABv] at this;unfold Cf;rw[List.length_append,List.length_singleton,List.flatMap_append,List.flatMap_singleton];exact this
        refine⟨(m',xs++ [a],k5),_,Ik.refl _,(hI _ _ _).2 ?_,by dsimp only;omega⟩;simp(disch:=omega) only[go_sem,↓reduceIte,e0,e2,e3];(repeat' apply And.intro)<;>(try first | rfl | assumption | omega);exact⟨v2,hv3⟩
      ·have b':isW l k1 [Fk]=false:=by simpa using b
       rw[if_neg (fun h=>b h.2)] at hLm;rw[if_neg b,Cq gr] at hH4;rw[hH4];simp(disch:=omega) only[go_sem,↓reduceIte,e0,e2,e3,b'];refine(Gm hG heap Bc gr (by omega) (by omega)).mono ?_;intro e1 H8 hq;rw[<-hLm,Ek] at hres2;unfold Da at hq hres2;by_cases b5:isW l k1 [Bc]=true
       ·rw[if_pos b5] at hq hres2;obtain⟨rfl,hH8⟩:=hq;dsimp only at hres2;have hk5:=Ao b5 hk1;rw[List.length_singleton] at hk5;have hv8:Cf (AB v (k1+1)) xs v H8:=by rw[hH8,<-hABk v k1];exact Ea.at hv (hABr _ _) _
        simp(disch:=omega) only[go_sem,↓reduceIte,e0,e2,e3];have hpk:=hpa _ (k1+1) (Ea.keep hv8 (hABr _ _)) hk5;dsimp only at hpk;cases hpe:(P l (n'+1)).expr (k1+1) with
        | bot=>rw[hpe,Dy] at hres2;rw[hres2] at hn;exact absurd rfl hn
        | fail k6=>
         rw[hpe] at hpk;rw[hpe,Dk] at hres2;refine(hpk (Ay (by simp))).mono ?_;rintro e H9 ⟨rfl,hH9⟩;have hv9:Cf (AB v k6) xs v H9:=by rw[hH9,<-hABk v (k1+1)];exact Ea.at hv8 (hABr _ _) _
         simp(disch:=omega) only[go_sem,↓reduceIte];rw[hres2];exact RAt.finP ((hABa v k6).more (Ea.sub hv9)) ⟨rfl,rfl⟩
        | ok y k6=>
         rw[hpe] at hpk;rw[hpe,Ek] at hres2;refine(hpk (Ay (by simp))).mono ?_;rintro e H9 ⟨rfl,hH9⟩;have hv9:Cf (AB v k6) xs v H9:=by rw[hH9,<-hABk v (k1+1)];exact Ea.at hv8 (hABr _ _) _
         have g92:=Ea.keep hv9 (hAB2 v k6);obtain⟨j1,j2⟩:=Ea.cell1 hv9;have hly:=Aj y;have hoy:=Ba y;simp(disch:=omega) only[go_sem,↓reduceIte,e0,e2,e3,dE,g92,hly,hoy,j1,j2];rw[hres2];have hvf:=fun z=>Ea.less (Ea.at hv9 (hAB2 v k6) z) ((hABa v k6).own hr2 q2 z);refine Fv.fin (Ea.sub (hvf _)) (Fv.agg (Fv.assoc (c:=xs) (Ea.sub (hvf _)) (Fv.own (hvf _)))) ⟨rfl,rfl⟩
       ·rw[if_neg b5] at hq hres2;obtain⟨rfl,hH8⟩:=hq;have hv8:Cf (AB v k1) xs v H8:=by rw[hH8,<-hABk v k1];exact Ea.at hv (hABr _ _) _
        simp(disch:=omega) only[go_sem,↓reduceIte];rw[hres2];exact RAt.finP ((hABa v k1).more (Ea.sub hv8)) ⟨rfl,rfl⟩
   ·have b1':isW l k3 [Fk]=false:=by simpa using b1
    simp(disch:=omega) only[go_sem,↓reduceIte,b1'];intro w2 hw2;dsimp only at hw2;simp(disch:=omega) only[go_sem,↓reduceIte];refine(is1 hG _ w2 Bc hw2 hac.get (by omega) (by omega)).mono ?_;rintro _ H6 ⟨rfl,hH6⟩;rw[hH6];by_cases b2:isW l k3 [Bc]=true
    ·simp(disch:=omega) only[go_sem,↓reduceIte,b2];have hnc: ¬(c.kind=1/\isW l k3 [Fk]=false/\isW l k3 [Bc]=false):=fun h=>by rw[b2] at h;exact absurd h.2.2 (by decide)
     have hsh:=La hpr;obtain⟨n',rfl⟩: ∃n',n=n'+1:=by
      cases n with
      | zero=>cases hpr
      | succ n'=>exact⟨n',rfl⟩
     obtain⟨L',hL0,hL,hres2⟩: ∃L':Nat->List Ch->Nat->Res (List Ch),(c.kind≠3-> ∀x k,L' 0 x k= .bot)/\(∀m x k,L' (m+1) x k=if c.kind≠3/\isW l k [Fk]=true then((P l m).choice (k+1)).then fun a k=>L' m (x++ [a]) k else .ok x k)/\res=(L' (n'+1) [c] k3).then fun cs k=>Da l Bc k fun k=>((P l (n'+1)).expr k).then fun e k=> .ok (.mk cs e) k:=by
      rw[hres];by_cases c3:c.kind=3
      ·refine⟨fun _ x k=> .ok x k,fun h=>absurd c3 h,fun m x k=>by rw[if_neg (fun h=>h.1 c3)],?_⟩;rw[if_neg (fun h=>by rw[c3] at h;exact absurd h.1 (by decide)),if_pos c3];rfl
      ·refine⟨fun m=>(P l m).choicesL,fun _ _ _=>rfl,fun m x k=> ?_,?_⟩
       ·have e:(P l (m+1)).choicesL x k=if isW l k [Fk] then((P l m).choice (k+1)).then fun c k=>(P l m).choicesL (x++ [c]) k else .ok x k:=rfl
        show(P l (m+1)).choicesL x k=_;rw[e];by_cases hb:isW l k [Fk]=true
        ·rw[if_pos hb,if_pos ⟨c3,hb⟩]
        ·rw[if_neg hb,if_neg (fun h=>hb h.2)]
       ·rw[if_neg hnc,if_neg c3]
     obtain⟨AB,hAB⟩: ∃AB:DVal->Nat->Ab,∀v k,AB v k=upd (upd Hc r2 (some (.cells [v, .int .u8 0, .int .u8 0, .int .i64 0, .str [], .nilSlice, .nilSlice, .int .i64 0, .int .i64 0, .int .i64 0] 51))) r (some (rdO l k)):=⟨_,fun _ _=>rfl⟩;have hABr: ∀v k,AB v k r=some (rdO l k):=fun v k=>by rw[hAB];exact Aa _ _ _
     have hAB2: ∀v k,AB v k r2=some (.cells [v, .int .u8 0, .int .u8 0, .int .i64 0, .str [], .nilSlice, .nilSlice, .int .i64 0, .int .i64 0, .int .i64 0] 51):=fun v k=>by rw[hAB,Aq _ _ _ _ q2];exact Aa _ _ _
     have hAB3: ∀v k,AB v k r3=some (.cells (dCh c) 54):=fun v k=>by rw[hAB,Aq _ _ _ _ q3,Aq _ _ _ _ m23];exact gc3
     have hABk: ∀v k k',upd (AB v k) r (some (rdO l k'))=AB v k':=fun v k k'=>by rw[hAB,hAB,Hj]
     have hABv: ∀v v' k,upd (AB v k) r2 (some (.cells [v', .int .u8 0, .int .u8 0, .int .i64 0, .str [], .nilSlice, .nilSlice, .int .i64 0, .int .i64 0, .int .i64 0] 51))=AB v' k:=fun v v' k=>by rw[hAB,hAB,Qd q2,Hj]
     have hABa: ∀v k,RAt r l k H (AB v k):=fun v k=>by rw[hAB];exact(hac.own hr2 q2 _).set k
     simp(disch:=omega) only[go_sem,↓reduceIte,gc2,gc3,hlc];rw[show List.drop 2 (Cm 1 [DVal.int .u8 0,DVal.nilSlice])= [] from rfl];simp(disch:=omega) only[go_sem,↓reduceIte,hlc,hoc];intro r28 h28;dsimp only at h28;simp(disch:=omega) only[go_sem,↓reduceIte];intro r29 h29;dsimp only at h29;obtain⟨H6,hH6⟩: ∃K,K=upd (upd Hc r28 (some (.cells (dCh c) 54))) r29 (some (.cells (dCh c) 54)):=⟨_,rfl⟩;rw[<-hH6];have s28:Sub Hc (upd Hc r28 (some (.cells (dCh c) 54))):=(Sub.refl Hc).new h28 _;have hv6:Ea Hc 54 2 1 (dCh c) (.oslice 2 r29 0 1 1) H6:= .inr ⟨r29,s28.lo h29,hlc,rfl,by rw[hH6];exact Aa _ _ _,by rw[hH6];exact s28.new h29 _⟩;obtain⟨v1,hv1⟩: ∃v1,v1=DVal.oslice 2 r29 0 1 1:=⟨_,rfl⟩;rw[<-hv1] at hv6⊢
     have g62:=hv6.keep gc2;obtain⟨k1a,k1b⟩:=hv6.cell1;simp(disch:=omega) only[go_sem,↓reduceIte,g62,k1a,k1b];have hv7:Cf (AB v1 k3) [c] v1 (upd H6 r2 (some (.cells [v1, .int .u8 0, .int .u8 0, .int .i64 0, .str [], .nilSlice, .nilSlice, .int .i64 0, .int .i64 0, .int .i64 0] 51))):=by
      have:=hv6.at gc2 (some (.cells [v1, .int .u8 0, .int .u8 0, .int .i64 0, .str [], .nilSlice, .nilSlice, .int .i64 0, .int .i64 0, .int .i64 0] 51));rw[show AB v1 k3=upd Hc r2 (some (.cells [v1, .int .u8 0, .int .u8 0, .int .i64 0, .str [], .nilSlice, .nilSlice, .int .i64 0, .int .i64 0, .int .i64 0] 51)) by rw[hAB];exact Cq (Ai hac.get n2)];unfold Cf;rw[List.flatMap_singleton];exact this
     obtain⟨I,hI⟩: ∃I:Nat×List Ch×Nat->(Nat->DVal)->Ab->Prop,∀s env heap,I s env heap↔(env 0= .optr r 0/\env 2= .optr r2 0/\env 3= .optr r3 0/\s.2.2<=l.length/\s.2.1.length<=s.2.2/\s.1<=n'/\L' (s.1+1) s.2.1 s.2.2=L' (n'+1) [c] k3/\ ∃v,Cf (AB v s.2.2) s.2.1 v heap):=⟨_,fun _ _ _=>Iff.rfl⟩;refine Bs7.run I (fun s=>s.1) (n',[c],k3) ((hI _ _ _).2 ?_) ?_
     ·simp(disch:=omega) only[go_sem,↓reduceIte];(repeat' apply And.intro)<;>(try first | rfl | assumption | omega);exact⟨v1,hv7⟩
     ·rintro⟨m,xs,k1⟩ env heap hi';obtain⟨e0,e2,e3,hk1,hlen,hm,hLm,v,hv⟩:=(hI _ _ _).1 hi';dsimp only at hk1 hlen hm hLm hv;rw[hL] at hLm;have gr:heap r=some (rdO l k1):=Ea.keep hv (hABr _ _);have g2:=Ea.keep hv (hAB2 _ _);have g3:=Ea.keep hv (hAB3 _ _);by_cases c3:c.kind=3
      ·rw[if_neg (fun h=>h.1 c3)] at hLm;simp(disch:=omega) only[go_sem,↓reduceIte,e0,e2,e3,g3,gk,c3];refine(Gm hG heap Bc gr (by omega) (by omega)).mono ?_;intro e1 H8 hq;rw[<-hLm,Ek] at hres2;unfold Da at hq hres2;by_cases b5:isW l k1 [Bc]=true
       ·rw[if_pos b5] at hq hres2;obtain⟨rfl,hH8⟩:=hq;dsimp only at hres2;have hk5:=Ao b5 hk1;rw[List.length_singleton] at hk5;have hv8:Cf (AB v (k1+1)) xs v H8:=by rw[hH8,<-hABk v k1];exact Ea.at hv (hABr _ _) _
        simp(disch:=omega) only[go_sem,↓reduceIte,e0,e2,e3];have hpk:=hpa _ (k1+1) (Ea.keep hv8 (hABr _ _)) hk5;dsimp only at hpk;cases hpe:(P l (n'+1)).expr (k1+1) with
        | bot=>rw[hpe,Dy] at hres2;rw[hres2] at hn;exact absurd rfl hn
        | fail k6=>
         rw[hpe] at hpk;rw[hpe,Dk] at hres2;refine(hpk (Ay (by simp))).mono ?_;rintro e H9 ⟨rfl,hH9⟩;have hv9:Cf (AB v k6) xs v H9:=by rw[hH9,<-hABk v (k1+1)];exact Ea.at hv8 (hABr _ _) _
         simp(disch:=omega) only[go_sem,↓reduceIte];rw[hres2];exact RAt.finP ((hABa v k6).more (Ea.sub hv9)) ⟨rfl,rfl⟩
        | ok y k6=>
         rw[hpe] at hpk;rw[hpe,Ek] at hres2;refine(hpk (Ay (by simp))).mono ?_;rintro e H9 ⟨rfl,hH9⟩;have hv9:Cf (AB v k6) xs v H9:=by rw[hH9,<-hABk v (k1+1)];exact Ea.at hv8 (hABr _ _) _
         have g92:=Ea.keep hv9 (hAB2 v k6);obtain⟨j1,j2⟩:=Ea.cell1 hv9;have hly:=Aj y;have hoy:=Ba y;simp(disch:=omega) only[go_sem,↓reduceIte,e0,e2,e3,dE,g92,hly,hoy,j1,j2];rw[hres2];have hvf:=fun z=>Ea.less (Ea.at hv9 (hAB2 v k6) z) ((hABa v k6).own hr2 q2 z);refine Fv.fin (Ea.sub (hvf _)) (Fv.agg (Fv.assoc (c:=xs) (Ea.sub (hvf _)) (Fv.own (hvf _)))) ⟨rfl,rfl⟩
       ·rw[if_neg b5] at hq hres2;obtain⟨rfl,hH8⟩:=hq;have hv8:Cf (AB v k1) xs v H8:=by rw[hH8,<-hABk v k1];exact Ea.at hv (hABr _ _) _
        simp(disch:=omega) only[go_sem,↓reduceIte];rw[hres2];exact RAt.finP ((hABa v k1).more (Ea.sub hv8)) ⟨rfl,rfl⟩
      ·simp(disch:=omega) only[go_sem,↓reduceIte,e0,e2,e3,g3,gk,c3];intro w1 hw1;dsimp only at hw1;simp(disch:=omega) only[go_sem,↓reduceIte,e0,e2,e3,g3,gk,c3];refine(Sy hG _ w1 Fk hw1 gr (by omega) (by omega)).mono ?_;rintro _ H4 ⟨rfl,hH4⟩;by_cases b:isW l k1 [Fk]=true
       ·rw[if_pos ⟨c3,b⟩] at hLm;rw[if_pos b] at hH4;have hk4:=Ao b hk1;rw[List.length_singleton] at hk4;have hv4:Cf (AB v (k1+1)) xs v H4:=by rw[hH4,<-hABk v k1];exact Ea.at hv (hABr _ _) _
        have g42:=Ea.keep hv4 (hAB2 _ _);simp(disch:=omega) only[go_sem,↓reduceIte,e0,e2,e3,b];refine An (by kernel_rfl) (.take 0 (.take 1 (.take 2 (.go 3 [1] (.go 4 [1] (.go 5 [] (.take 6 (.go 7 [] .done)))))))) (by kernel_rfl) ?_;simp(disch:=omega) only[go_sem,↓reduceIte,e0,e2,e3,g42];have hp2:=hc m (by omega) _ (k1+1) (Ea.keep hv4 (hABr _ _)) hk4;have had2:=(Fu (l:=l) m).choice (k1+1) hk4;dsimp only at hp2;cases hpr2:(P l m).choice (k1+1) with
        | bot=>
         rw[hpr2,Dy] at hLm;rw[<-hLm,Dy] at hres2;rw[hres2] at hn;exact absurd rfl hn
        | fail k5=>
         rw[hpr2] at hp2;rw[hpr2,Dk] at hLm;rw[<-hLm,Dk] at hres2;refine(hp2 (Ay (by simp))).mono ?_;rintro e H5 ⟨rfl,hH5⟩;have hv5:Cf (AB v k5) xs v H5:=by rw[hH5,<-hABk v (k1+1)];exact Ea.at hv4 (hABr _ _) _
         simp(disch:=omega) only[go_sem,↓reduceIte];rw[hres2];exact RAt.finP ((hABa v k5).more (Ea.sub hv5)) ⟨rfl,rfl⟩
        | ok a k5=>
         rw[hpr2] at hp2 had2;rw[hpr2,Ek] at hLm;dsimp only[Adv] at had2;refine(hp2 (Ay (by simp))).mono ?_;rintro e H5 ⟨rfl,hH5⟩;have hv5:Cf (AB v k5) xs v H5:=by rw[hH5,<-hABk v (k1+1)];exact Ea.at hv4 (hABr _ _) _
         have g52:=Ea.keep hv5 (hAB2 _ _);have hla2:=Ec a;simp(disch:=omega) only[go_sem,↓reduceIte,e0,e2,e3,g42,g52,dC];rw[Af1 hla2];simp(disch:=omega) only[go_sem,↓reduceIte,e0,e2,e3,g42,g52];intro r8 hr8;dsimp only at hr8;have n8:r2≠r8:=Af hr8 g52;simp(disch:=omega) only[go_sem,↓reduceIte,e0,e2,e3,g52,n8];refine Ea.append (m:=1) (Ea.new hv5 hr8 _) (by rw[hla2]) (by omega) fun v2 H6 hv2=> ?_;have g62:=Ea.keep hv2 (hAB2 _ _);obtain⟨j1,j2⟩:=Ea.cell1 hv2;simp(disch:=omega) only[go_sem,↓reduceIte,e0,e2,e3,g62,j1,j2];obtain⟨m',rfl⟩: ∃m',m=m'+1:=by
          cases m with
          | zero=>rw[hL0 c3] at hLm;rw[<-hLm,Dy] at hres2;rw[hres2] at hn;exact absurd rfl hn
          | succ m'=>exact⟨m',rfl⟩
         have hlen2:(xs++ [a]).length<=k5:=by rw[List.length_append,List.length_singleton];omega
         have hv3:Cf (AB v2 k5) (xs++ [a]) v2 (upd H6 r2 (some (.cells [v2, .int .u8 0, .int .u8 0, .int .i64 0, .str [], .nilSlice, .nilSlice, .int .i64 0, .int .i64 0, .int .i64 0] 51))):=by
          have:=Ea.at hv2 (hAB2 _ _) (some (.cells [v2, .int .u8 0, .int .u8 0, .int .i64 0, .str [], .nilSlice, .nilSlice, .int .i64 0, .int .i64 0, .int .i64 0] 51));rw[hABv] at this;unfold Cf;rw[List.length_append,List.length_singleton,List.flatMap_append,List.flatMap_singleton];exact this
         refine⟨(m',xs++ [a],k5),_,Ik.refl _,(hI _ _ _).2 ?_,by dsimp only;omega⟩;simp(disch:=omega) only[go_sem,↓reduceIte,e0,e2,e3];(repeat' apply And.intro)<;>(try first | rfl | assumption | omega);exact⟨v2,hv3⟩
       ·have b':isW l k1 [Fk]=false:=by simpa using b
        rw[if_neg (fun h=>b h.2)] at hLm;rw[if_neg b,Cq gr] at hH4;rw[hH4];simp(disch:=omega) only[go_sem,↓reduceIte,e0,e2,e3,b'];refine(Gm hG heap Bc gr (by omega) (by omega)).mono ?_;intro e1 H8 hq;rw[<-hLm,Ek] at hres2;unfold Da at hq hres2;by_cases b5:isW l k1 [Bc]=true
        ·rw[if_pos b5] at hq hres2;obtain⟨rfl,hH8⟩:=hq;dsimp only at hres2;have hk5:=Ao b5 hk1;rw[List.length_singleton] at hk5;have hv8:Cf (AB v (k1+1)) xs v H8:=by rw[hH8,<-hABk v k1];exact Ea.at hv (hABr _ _) _
         simp(disch:=omega) only[go_sem,↓reduceIte,e0,e2,e3];have hpk:=hpa _ (k1+1) (Ea.keep hv8 (hABr _ _)) hk5;dsimp only at hpk;cases hpe:(P l (n'+1)).expr (k1+1) with
         | bot=>rw[hpe,Dy] at hres2;rw[hres2] at hn;exact absurd rfl hn
         | fail k6=>
          rw[hpe] at hpk;rw[hpe,Dk] at hres2;refine(hpk (Ay (by simp))).mono ?_;rintro e H9 ⟨rfl,hH9⟩;have hv9:Cf (AB v k6) xs v H9:=by rw[hH9,<-hABk v (k1+1)];exact Ea.at hv8 (hABr _ _) _
          simp(disch:=omega) only[go_sem,↓reduceIte];rw[hres2];exact RAt.finP ((hABa v k6).more (Ea.sub hv9)) ⟨rfl,rfl⟩
         | ok y k6=>
          rw[hpe] at hpk;rw[hpe,Ek] at hres2;refine(hpk (Ay (by simp))).mono ?_;rintro e H9 ⟨rfl,hH9⟩;have hv9:Cf (AB v k6) xs v H9:=by rw[hH9,<-hABk v (k1+1)];exact Ea.at hv8 (hABr _ _) _
          have g92:=Ea.keep hv9 (hAB2 v k6);obtain⟨j1,j2⟩:=Ea.cell1 hv9;have hly:=Aj y;have hoy:=Ba y;simp(disch:=omega) only[go_sem,↓reduceIte,e0,e2,e3,dE,g92,hly,hoy,j1,j2];rw[hres2];have hvf:=fun z=>Ea.less (Ea.at hv9 (hAB2 v k6) z) ((hABa v k6).own hr2 q2 z);refine Fv.fin (Ea.sub (hvf _)) (Fv.agg (Fv.assoc (c:=xs) (Ea.sub (hvf _)) (Fv.own (hvf _)))) ⟨rfl,rfl⟩
        ·rw[if_neg b5] at hq hres2;obtain⟨rfl,hH8⟩:=hq;have hv8:Cf (AB v k1) xs v H8:=by rw[hH8,<-hABk v k1];exact Ea.at hv (hABr _ _) _
         simp(disch:=omega) only[go_sem,↓reduceIte];rw[hres2];exact RAt.finP ((hABa v k1).more (Ea.sub hv8)) ⟨rfl,rfl⟩
    ·have b2':isW l k3 [Bc]=false:=by simpa using b2
     rw[if_pos ⟨c1,b1',b2'⟩] at hres;obtain⟨x,hx⟩: ∃x,c.l= [x]:=by
      rcases La hpr with h | h | h
      ·rw[h.1] at c1;cases c1
      ·rw[h.1] at c1;cases c1
      ·exact h.2
     have gl:(dCh c)[1]? =some (.vslice (dEx x) 1):=by rw[Cr8,hx,List.flatMap_singleton];rfl
     rw[hx] at hres;have hlx:=Aj x;have hox:=Ba x;have htx:List.take 9 (List.drop 0 (dEx x))=dEx x:=List.take_of_length_le (by rw[List.drop_zero];omega);simp(disch:=omega) only[go_sem,↓reduceIte,b2',gc3,gl,hlx,htx,List.drop_zero,gc2,hox];rw[hres];have hat:=fun z=>hac.own hr2 q2 z;exact Fv.fin (hat _) (Fv.agg (Fv.assoc (c:= []) (hat _) (.ch0 (hat _)))) ⟨rfl,rfl⟩
  ·simp(disch:=omega) only[go_sem,↓reduceIte,gc3,gk,c1];have hnc: ¬(c.kind=1/\isW l k3 [Fk]=false/\isW l k3 [Bc]=false):=fun h=>c1 h.1;have hsh:=La hpr;obtain⟨n',rfl⟩: ∃n',n=n'+1:=by
    cases n with
    | zero=>cases hpr
    | succ n'=>exact⟨n',rfl⟩
   obtain⟨L',hL0,hL,hres2⟩: ∃L':Nat->List Ch->Nat->Res (List Ch),(c.kind≠3-> ∀x k,L' 0 x k= .bot)/\(∀m x k,L' (m+1) x k=if c.kind≠3/\isW l k [Fk]=true then((P l m).choice (k+1)).then fun a k=>L' m (x++ [a]) k else .ok x k)/\res=(L' (n'+1) [c] k3).then fun cs k=>Da l Bc k fun k=>((P l (n'+1)).expr k).then fun e k=> .ok (.mk cs e) k:=by
    rw[hres];by_cases c3:c.kind=3
    ·refine⟨fun _ x k=> .ok x k,fun h=>absurd c3 h,fun m x k=>by rw[if_neg (fun h=>h.1 c3)],?_⟩;rw[if_neg (fun h=>by rw[c3] at h;exact absurd h.1 (by decide)),if_pos c3];rfl
    ·refine⟨fun m=>(P l m).choicesL,fun _ _ _=>rfl,fun m x k=> ?_,?_⟩
     ·have e:(P l (m+1)).choicesL x k=if isW l k [Fk] then((P l m).choice (k+1)).then fun c k=>(P l m).choicesL (x++ [c]) k else .ok x k:=rfl
      show(P l (m+1)).choicesL x k=_;rw[e];by_cases hb:isW l k [Fk]=true
      ·rw[if_pos hb,if_pos ⟨c3,hb⟩]
      ·rw[if_neg hb,if_neg (fun h=>hb h.2)]
     ·rw[if_neg hnc,if_neg c3]
   obtain⟨AB,hAB⟩: ∃AB:DVal->Nat->Ab,∀v k,AB v k=upd (upd Hc r2 (some (.cells [v, .int .u8 0, .int .u8 0, .int .i64 0, .str [], .nilSlice, .nilSlice, .int .i64 0, .int .i64 0, .int .i64 0] 51))) r (some (rdO l k)):=⟨_,fun _ _=>rfl⟩;have hABr: ∀v k,AB v k r=some (rdO l k):=fun v k=>by rw[hAB];exact Aa _ _ _
   have hAB2: ∀v k,AB v k r2=some (.cells [v, .int .u8 0, .int .u8 0, .int .i64 0, .str [], .nilSlice, .nilSlice, .int .i64 0, .int .i64 0, .int .i64 0] 51):=fun v k=>by rw[hAB,Aq _ _ _ _ q2];exact Aa _ _ _
   have hAB3: ∀v k,AB v k r3=some (.cells (dCh c) 54):=fun v k=>by rw[hAB,Aq _ _ _ _ q3,Aq _ _ _ _ m23];exact gc3
   have hABk: ∀v k k',upd (AB v k) r (some (rdO l k'))=AB v k':=fun v k k'=>by rw[hAB,hAB,Hj]
   have hABv: ∀v v' k,upd (AB v k) r2 (some (.cells [v', .int .u8 0, .int .u8 0, .int .i64 0, .str [], .nilSlice, .nilSlice, .int .i64 0, .int .i64 0, .int .i64 0] 51))=AB v' k:=fun v v' k=>by rw[hAB,hAB,Qd q2,Hj]
   have hABa: ∀v k,RAt r l k H (AB v k):=fun v k=>by rw[hAB];exact(hac.own hr2 q2 _).set k
   simp(disch:=omega) only[go_sem,↓reduceIte,gc2,gc3,hlc];rw[show List.drop 2 (Cm 1 [DVal.int .u8 0,DVal.nilSlice])= [] from rfl];simp(disch:=omega) only[go_sem,↓reduceIte,hlc,hoc];intro r28 h28;dsimp only at h28;simp(disch:=omega) only[go_sem,↓reduceIte];intro r29 h29;dsimp only at h29;obtain⟨H6,hH6⟩: ∃K,K=upd (upd Hc r28 (some (.cells (dCh c) 54))) r29 (some (.cells (dCh c) 54)):=⟨_,rfl⟩;rw[<-hH6];have s28:Sub Hc (upd Hc r28 (some (.cells (dCh c) 54))):=(Sub.refl Hc).new h28 _;have hv6:Ea Hc 54 2 1 (dCh c) (.oslice 2 r29 0 1 1) H6:= .inr ⟨r29,s28.lo h29,hlc,rfl,by rw[hH6];exact Aa _ _ _,by rw[hH6];exact s28.new h29 _⟩;obtain⟨v1,hv1⟩: ∃v1,v1=DVal.oslice 2 r29 0 1 1:=⟨_,rfl⟩;rw[<-hv1] at hv6⊢
   have g62:=hv6.keep gc2;obtain⟨k1a,k1b⟩:=hv6.cell1;simp(disch:=omega) only[go_sem,↓reduceIte,g62,k1a,k1b];have hv7:Cf (AB v1 k3) [c] v1 (upd H6 r2 (some (.cells [v1, .int .u8 0, .int .u8 0, .int .i64 0, .str [], .nilSlice, .nilSlice, .int .i64 0, .int .i64 0, .int .i64 0] 51))):=by
    have:=hv6.at gc2 (some (.cells [v1, .int .u8 0, .int .u8 0, .int .i64 0, .str [], .nilSlice, .nilSlice, .int .i64 0, .int .i64 0, .int .i64 0] 51));rw[show AB v1 k3=upd Hc r2 (some (.cells [v1, .int .u8 0, .int .u8 0, .int .i64 0, .str [], .nilSlice, .nilSlice, .int .i64 0, .int .i64 0, .int .i64 0] 51)) by rw[hAB];exact Cq (Ai hac.get n2)];unfold Cf;rw[List.flatMap_singleton];exact this
   obtain⟨I,hI⟩: ∃I:Nat×List Ch×Nat->(Nat->DVal)->Ab->Prop,∀s env heap,I s env heap↔(env 0= .optr r 0/\env 2= .optr r2 0/\env 3= .optr r3 0/\s.2.2<=l.length/\s.2.1.length<=s.2.2/\s.1<=n'/\L' (s.1+1) s.2.1 s.2.2=L' (n'+1) [c] k3/\ ∃v,Cf (AB v s.2.2) s.2.1 v heap):=⟨_,fun _ _ _=>Iff.rfl⟩;refine Bs7.run I (fun s=>s.1) (n',[c],k3) ((hI _ _ _).2 ?_) ?_
   ·simp(disch:=omega) only[go_sem,↓reduceIte];(repeat' apply And.intro)<;>(try first | rfl | assumption | omega);exact⟨v1,hv7⟩
   ·rintro⟨m,xs,k1⟩ env heap hi';obtain⟨e0,e2,e3,hk1,hlen,hm,hLm,v,hv⟩:=(hI _ _ _).1 hi';dsimp only at hk1 hlen hm hLm hv;rw[hL] at hLm;have gr:heap r=some (rdO l k1):=Ea.keep hv (hABr _ _);have g2:=Ea.keep hv (hAB2 _ _);have g3:=Ea.keep hv (hAB3 _ _);by_cases c3:c.kind=3
    ·rw[if_neg (fun h=>h.1 c3)] at hLm;simp(disch:=omega) only[go_sem,↓reduceIte,e0,e2,e3,g3,gk,c3];refine(Gm hG heap Bc gr (by omega) (by omega)).mono ?_;intro e1 H8 hq;rw[<-hLm,Ek] at hres2;unfold Da at hq hres2;by_cases b5:isW l k1 [Bc]=true
     ·rw[if_pos b5] at hq hres2;obtain⟨rfl,hH8⟩:=hq;dsimp only at hres2;have hk5:=Ao b5 hk1;rw[List.length_singleton] at hk5;have hv8:Cf (AB v (k1+1)) xs v H8:=by rw[hH8,<-hABk v k1];exact Ea.at hv (hABr _ _) _
      simp(disch:=omega) only[go_sem,↓reduceIte,e0,e2,e3];have hpk:=hpa _ (k1+1) (Ea.keep hv8 (hABr _ _)) hk5;dsimp only at hpk;cases hpe:(P l (n'+1)).expr (k1+1) with
      | bot=>rw[hpe,Dy] at hres2;rw[hres2] at hn;exact absurd rfl hn
      | fail k6=>
       rw[hpe] at hpk;rw[hpe,Dk] at hres2;refine(hpk (Ay (by simp))).mono ?_;rintro e H9 ⟨rfl,hH9⟩;have hv9:Cf (AB v k6) xs v H9:=by rw[hH9,<-hABk v (k1+1)];exact Ea.at hv8 (hABr _ _) _
       simp(disch:=omega) only[go_sem,↓reduceIte];rw[hres2];exact RAt.finP ((hABa v k6).more (Ea.sub hv9)) ⟨rfl,rfl⟩
      | ok y k6=>
       rw[hpe] at hpk;rw[hpe,Ek] at hres2;refine(hpk (Ay (by simp))).mono ?_;rintro e H9 ⟨rfl,hH9⟩;have hv9:Cf (AB v k6) xs v H9:=by rw[hH9,<-hABk v (k1+1)];exact Ea.at hv8 (hABr _ _) _
       have g92:=Ea.keep hv9 (hAB2 v k6);obtain⟨j1,j2⟩:=Ea.cell1 hv9;have hly:=Aj y;have hoy:=Ba y;simp(disch:=omega) only[go_sem,↓reduceIte,e0,e2,e3,dE,g92,hly,hoy,j1,j2];rw[hres2];have hvf:=fun z=>Ea.less (Ea.at hv9 (hAB2 v k6) z) ((hABa v k6).own hr2 q2 z);refine Fv.fin (Ea.sub (hvf _)) (Fv.agg (Fv.assoc (c:=xs) (Ea.sub (hvf _)) (Fv.own (hvf _)))) ⟨rfl,rfl⟩
     ·rw[if_neg b5] at hq hres2;obtain⟨rfl,hH8⟩:=hq;have hv8:Cf (AB v k1) xs v H8:=by rw[hH8,<-hABk v k1];exact Ea.at hv (hABr _ _) _
      simp(disch:=omega) only[go_sem,↓reduceIte];rw[hres2];exact RAt.finP ((hABa v k1).more (Ea.sub hv8)) ⟨rfl,rfl⟩
    ·simp(disch:=omega) only[go_sem,↓reduceIte,e0,e2,e3,g3,gk,c3];intro w1 hw1;dsimp only at hw1;simp(disch:=omega) only[go_sem,↓reduceIte,e0,e2,e3,g3,gk,c3];refine(Sy hG _ w1 Fk hw1 gr (by omega) (by omega)).mono ?_;rintro _ H4 ⟨rfl,hH4⟩;by_cases b:isW l k1 [Fk]=true
     ·rw[if_pos ⟨c3,b⟩] at hLm;rw[if_pos b] at hH4;have hk4:=Ao b hk1;rw[List.length_singleton] at hk4;have hv4:Cf (AB v (k1+1)) xs v H4:=by rw[hH4,<-hABk v k1];exact Ea.at hv (hABr _ _) _
      have g42:=Ea.keep hv4 (hAB2 _ _);simp(disch:=omega) only[go_sem,↓reduceIte,e0,e2,e3,b];refine An (by kernel_rfl) (.take 0 (.take 1 (.take 2 (.go 3 [1] (.go 4 [1] (.go 5 [] (.take 6 (.go 7 [] .done)))))))) (by kernel_rfl) ?_;simp(disch:=omega) only[go_sem,↓reduceIte,e0,e2,e3,g42];have hp2:=hc m (by omega) _ (k1+1) (Ea.keep hv4 (hABr _ _)) hk4;have had2:=(Fu (l:=l) m).choice (k1+1) hk4;dsimp only at hp2;cases hpr2:(P l m).choice (k1+1) with
      | bot=>
       rw[hpr2,Dy] at hLm;rw[<-hLm,Dy] at hres2;rw[hres2] at hn;exact absurd rfl hn
      | fail k5=>
       rw[hpr2] at hp2;rw[hpr2,Dk] at hLm;rw[<-hLm,Dk] at hres2;refine(hp2 (Ay (by simp))).mono ?_;rintro e H5 ⟨rfl,hH5⟩;have hv5:Cf (AB v k5) xs v H5:=by rw[hH5,<-hABk v (k1+1)];exact Ea.at hv4 (hABr _ _) _
       simp(disch:=omega) only[go_sem,↓reduceIte];rw[hres2];exact RAt.finP ((hABa v k5).more (Ea.sub hv5)) ⟨rfl,rfl⟩
      | ok a k5=>
       rw[hpr2] at hp2 had2;rw[hpr2,Ek] at hLm;dsimp only[Adv] at had2;refine(hp2 (Ay (by simp))).mono ?_;rintro e H5 ⟨rfl,hH5⟩;have hv5:Cf (AB v k5) xs v H5:=by rw[hH5,<-hABk v (k1+1)];exact Ea.at hv4 (hABr _ _) _
       have g52:=Ea.keep hv5 (hAB2 _ _);have hla2:=Ec a;simp(disch:=omega) only[go_sem,↓reduceIte,e0,e2,e3,g42,g52,dC];rw[Af1 hla2];simp(disch:=omega) only[go_sem,↓reduceIte,e0,e2,e3,g42,g52];intro r8 hr8;dsimp only at hr8;have n8:r2≠r8:=Af hr8 g52;simp(disch:=omega) only[go_sem,↓reduceIte,e0,e2,e3,g52,n8];refine Ea.append (m:=1) (Ea.new hv5 hr8 _) (by rw[hla2]) (by omega) fun v2 H6 hv2=> ?_;have g62:=Ea.keep hv2 (hAB2 _ _);obtain⟨j1,j2⟩:=Ea.cell1 hv2;simp(disch:=omega) only[go_sem,↓reduceIte,e0,e2,e3,g62,j1,j2];obtain⟨m',rfl⟩: ∃m',m=m'+1:=by
        cases m with
        | zero=>rw[hL0 c3] at hLm;rw[<-hLm,Dy] at hres2;rw[hres2] at hn;exact absurd rfl hn
        | succ m'=>exact⟨m',rfl⟩
       have hlen2:(xs++ [a]).length<=k5:=by rw[List.length_append,List.length_singleton];omega
       have hv3:Cf (AB v2 k5) (xs++ [a]) v2 (upd H6 r2 (some (.cells [v2, .int .u8 0, .int .u8 0, .int .i64 0, .str [], .nilSlice, .nilSlice, .int .i64 0, .int .i64 0, .int .i64 0] 51))):=by
        have:=Ea.at hv2 (hAB2 _ _) (some (.cells [v2, .int .u8 0, .int .u8 0, .int .i64 0, .str [], .nilSlice, .nilSlice, .int .i64 0, .int .i64 0, .int .i64 0] 51));rw[hABv] at this;unfold Cf;rw[List.length_append,List.length_singleton,List.flatMap_append,List.flatMap_singleton];exact this
       refine⟨(m',xs++ [a],k5),_,Ik.refl _,(hI _ _ _).2 ?_,by dsimp only;omega⟩;simp(disch:=omega) only[go_sem,↓reduceIte,e0,e2,e3];(repeat' apply And.intro)<;>(try first | rfl | assumption | omega);exact⟨v2,hv3⟩
     ·have b':isW l k1 [Fk]=false:=by simpa using b
      rw[if_neg (fun h=>b h.2)] at hLm;rw[if_neg b,Cq gr] at hH4;rw[hH4];simp(disch:=omega) only[go_sem,↓reduceIte,e0,e2,e3,b'];refine(Gm hG heap Bc gr (by omega) (by omega)).mono ?_;intro e1 H8 hq;rw[<-hLm,Ek] at hres2;unfold Da at hq hres2;by_cases b5:isW l k1 [Bc]=true
      ·rw[if_pos b5] at hq hres2;obtain⟨rfl,hH8⟩:=hq;dsimp only at hres2;have hk5:=Ao b5 hk1;rw[List.length_singleton] at hk5;have hv8:Cf (AB v (k1+1)) xs v H8:=by rw[hH8,<-hABk v k1];exact Ea.at hv (hABr _ _) _
       simp(disch:=omega) only[go_sem,↓reduceIte,e0,e2,e3];have hpk:=hpa _ (k1+1) (Ea.keep hv8 (hABr _ _)) hk5;dsimp only at hpk;cases hpe:(P l (n'+1)).expr (k1+1) with
       | bot=>rw[hpe,Dy] at hres2;rw[hres2] at hn;exact absurd rfl hn
       | fail k6=>
        rw[hpe] at hpk;rw[hpe,Dk] at hres2;refine(hpk (Ay (by simp))).mono ?_;rintro e H9 ⟨rfl,hH9⟩;have hv9:Cf (AB v k6) xs v H9:=by rw[hH9,<-hABk v (k1+1)];exact Ea.at hv8 (hABr _ _) _
        simp(disch:=omega) only[go_sem,↓reduceIte];rw[hres2];exact RAt.finP ((hABa v k6).more (Ea.sub hv9)) ⟨rfl,rfl⟩
       | ok y k6=>
        rw[hpe] at hpk;rw[hpe,Ek] at hres2;refine(hpk (Ay (by simp))).mono ?_;rintro e H9 ⟨rfl,hH9⟩;have hv9:Cf (AB v k6) xs v H9:=by rw[hH9,<-hABk v (k1+1)];exact Ea.at hv8 (hABr _ _) _
        have g92:=Ea.keep hv9 (hAB2 v k6);obtain⟨j1,j2⟩:=Ea.cell1 hv9;have hly:=Aj y;have hoy:=Ba y;simp(disch:=omega) only[go_sem,↓reduceIte,e0,e2,e3,dE,g92,hly,hoy,j1,j2];rw[hres2];have hvf:=fun z=>Ea.less (Ea.at hv9 (hAB2 v k6) z) ((hABa v k6).own hr2 q2 z);refine Fv.fin (Ea.sub (hvf _)) (Fv.agg (Fv.assoc (c:=xs) (Ea.sub (hvf _)) (Fv.own (hvf _)))) ⟨rfl,rfl⟩
      ·rw[if_neg b5] at hq hres2;obtain⟨rfl,hH8⟩:=hq;have hv8:Cf (AB v k1) xs v H8:=by rw[hH8,<-hABk v k1];exact Ea.at hv (hABr _ _) _
       simp(disch:=omega) only[go_sem,↓reduceIte];rw[hres2];exact RAt.finP ((hABa v k1).more (Ea.sub hv8)) ⟨rfl,rfl⟩
end
end Go.Dl
