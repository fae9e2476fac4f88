/- The data level and the contracts of the functions that are reached (part 7). -/
import Derived.Test.YtpcbhialfjiaaaaGreatDoorPff
set_option linter.unusedSimpArgs false
set_option linter.unusedVariables false
set_option linter.unusedSectionVars false
-- Chapter 3: the package's reader: simples.
namespace Go.Dl
open Go Go.Proofs
set_option maxRecDepth 100000
section
variable {G:Nat->DVal} {H0 H:Ac} {r k:Nat} {l:List Tok}
set_option maxHeartbeats 4000000 in
theorem Bf3 (hG:GX G) (hl:l.length<=800000) (n:Nat) (hg: ∀m≤n,RdC Tryz.prog G l 33 r fun k=>((P l m).term k).mp dE):RdC Tryz.prog G l 32 r fun k=>((P l (n+1)).simple k).mp dE:=by
 intro H k hr hk hn;have e:(P l (n+1)).simple k=((P l n).term (opF l 0 k Fb).2).then fun x k'=>(P l n).addL (Kk (opF l 0 k Fb).1 (tk l k).line x) k':=rfl
 dsimp only at hn⊢
 rw[e] at hn⊢
 have hadv:=Ca (want:=0) (os:=Fb) (k:=k) (l:=l) Dr5.2.2.1 hk;refine Ad Tryz.func32 Tryz.call32 rfl (by kernel_rfl) ?_;simp(disch:=omega) only[go_sem,↓reduceIte];intro r2 hr2;dsimp only at hr2;obtain⟨Ha,hHa⟩: ∃K,K=upd H r2 (some (.cells [.int .u8 0, .int .u8 0, .int .i64 0, .str [], .nilSlice, .nilSlice, .int .i64 0, .int .i64 0, .int .i64 0] 27)):=⟨_,rfl⟩;rw[<-hHa];have gr2:Ha r2=some (.cells [.int .u8 0, .int .u8 0, .int .i64 0, .str [], .nilSlice, .nilSlice, .int .i64 0, .int .i64 0, .int .i64 0] 27):=by rw[hHa];exact Aa _ _ _
 have n2:r≠r2:=Ae hr2 hr;have q2:=n2.symm;have ha:RAt r l k H Ha:=by rw[hHa];exact(RAt.refl hr).new hr2 _
 simp(disch:=omega) only[go_sem,↓reduceIte];refine(Wx G _ ha.get (by omega) (by omega)).mono ?_;rintro _ H1 ⟨rfl,rfl⟩;simp(disch:=omega) only[go_sem,↓reduceIte];refine(Cq6 hG _ ha.get hl hk).mono ?_;rintro _ H2 ⟨rfl,hH2⟩;obtain⟨o,ho⟩: ∃o,o=(opF l 0 k Fb).1:=⟨_,rfl⟩;obtain⟨k2,hk2⟩: ∃k2,k2=(opF l 0 k Fb).2:=⟨_,rfl⟩;rw[<-ho,<-hk2] at hadv hn⊢
 rw[<-hk2] at hH2;have ha2:RAt r l k2 H H2:=by rw[hH2];exact ha.set k2
 have g2:H2 r2=some (.cells [.int .u8 0, .int .u8 0, .int .i64 0, .str [], .nilSlice, .nilSlice, .int .i64 0, .int .i64 0, .int .i64 0] 27):=by rw[hH2];exact Ag gr2 q2
 simp(disch:=omega) only[go_sem,↓reduceIte];have hpk:=hg n (Nat.le_refl _) _ k2 ha2.get (by omega);have had:=(Bn (l:=l) n).term k2 (by omega);dsimp only at hpk;cases hpr:(P l n).term k2 with
 | bot=>rw[hpr] at hn;exact absurd rfl hn
 | fail k3=>
  rw[hpr] at hpk;refine(hpk (Aw (by simp))).mono ?_;rintro e H3 ⟨rfl,rfl⟩;simp(disch:=omega) only[go_sem,↓reduceIte];exact RAt.finP (ha2.set k3) ⟨rfl,rfl⟩
 | ok x k3=>
  rw[hpr] at hpk hn had;refine(hpk (Aw (by simp))).mono ?_;rintro e H3 ⟨rfl,hH3⟩;have ha3:RAt r l k3 H H3:=by rw[hH3];exact ha2.set k3
  dsimp only[Res.then,Adv] at hn had⊢
  have g3:H3 r2=some (.cells [.int .u8 0, .int .u8 0, .int .i64 0, .str [], .nilSlice, .nilSlice, .int .i64 0, .int .i64 0, .int .i64 0] 27):=by rw[hH3];exact Ag g2 q2
  have hn2:(P l n).addL (Kk o (tk l k).line x) k3≠ .bot:=fun h=>hn (by rw[h];rfl);simp(disch:=omega) only[go_sem,↓reduceIte,dE];intro r5 hr5;dsimp only at hr5;have n5:r2≠r5:=Ae hr5 g3;have q5:=n5.symm;have p5:r≠r5:=Ae hr5 ha3.get;have hlx:=Ah x;have hox:=Al x;simp(disch:=omega) only[go_sem,↓reduceIte,n5,q5,g3,hlx,hox];by_cases c:o=0
  ·have c':(o:Int)=0:=by omega
   simp(disch:=omega) only[go_sem,↓reduceIte,n5,q5,g3,hlx,hox,c'];rw[show Kk o (tk l k).line x=x by rw[Kk,if_pos c]] at hn2⊢
   have ha5:=ha3.new hr5 (some (.cells (dEx x) 27));have g5:upd H3 r5 (some (.cells (dEx x) 27)) r2=some (.cells [.int .u8 0, .int .u8 0, .int .i64 0, .str [], .nilSlice, .nilSlice, .int .i64 0, .int .i64 0, .int .i64 0] 27):=Ag g3 n5;obtain⟨H5,hH5⟩: ∃H5,H5=upd H3 r5 (some (.cells (dEx x) 27)):=⟨_,rfl⟩;rw[<-hH5] at ha5 g5⊢
   have hch:=Bf2 hG hl n (fun m hm=>hg m (by omega)) H5 x k3 ha5.get (by omega) hn2;cases hpc:(P l n).addL x k3 with
   | bot=>exact absurd hpc hn2
   | fail k4=>
    rw[hpc] at hch;refine hch.mono ?_;rintro e H4 ⟨rfl,rfl⟩;simp(disch:=omega) only[go_sem,↓reduceIte];exact RAt.finP (ha5.set k4) ⟨rfl,rfl⟩
   | ok y k4=>
    rw[hpc] at hch;refine hch.mono ?_;rintro e H4 ⟨rfl,hH4⟩;have ha4:RAt r l k4 H H4:=by rw[hH4];exact ha5.set k4
    have g4:H4 r2=some (.cells [.int .u8 0, .int .u8 0, .int .i64 0, .str [], .nilSlice, .nilSlice, .int .i64 0, .int .i64 0, .int .i64 0] 27):=by rw[hH4];exact Ag g5 q2
    have hly:=Ah y;have hoy:=Al y;simp(disch:=omega) only[go_sem,↓reduceIte,dE,g4,hly,hoy];exact RAt.fin (ha4.own hr2 q2 _) ⟨rfl,rfl⟩
  ·have c': ¬(o:Int)=0:=by omega
   simp(disch:=omega) only[go_sem,↓reduceIte,n5,q5,g3,hlx,hox,c'];rw[Cy hlx];simp(disch:=omega) only[go_sem,↓reduceIte,n5,q5,g3,hlx,hox,c'];intro r8 hr8;dsimp only at hr8;obtain⟨m1,m2,hr8a⟩:=De7.1 hr8;have n8:r2≠r8:=Ae hr8a g3;have q8:=n8.symm;simp(disch:=omega) only[go_sem,↓reduceIte,n5,q5,g3,hlx,hox,m1,m2,n8,q8];obtain⟨xe,hxe⟩: ∃xe,xe=Kk o (tk l k).line x:=⟨_,rfl⟩;rw[<-hxe] at hn2⊢
   rw[show Kk o (tk l k).line x= .mk 11 o 0 [] [x] [] (tk l k).line 0 0 by rw[Kk,if_neg c]] at hxe;obtain⟨c5,hc5⟩: ∃c5,c5=(some (.cells [.int .u8 11, .int .u8 o, .int .i64 0, .str [], .oslice 9 r8 0 1 1, .nilSlice, .int .i64 (tk l k).line, .int .i64 0, .int .i64 0] 27):Option DObj):=⟨_,rfl⟩;obtain⟨H5,hH5⟩: ∃H5,H5=upd H3 r5 c5:=⟨_,rfl⟩;have ha5:RAt r l k3 H H5:=by rw[hH5];exact ha3.new hr5 _
   have g5:H5 r2=some (.cells [.int .u8 0, .int .u8 0, .int .i64 0, .str [], .nilSlice, .nilSlice, .int .i64 0, .int .i64 0, .int .i64 0] 27):=by rw[hH5];exact Ag g3 n5
   rw[<-hc5];have hs8:Sub H5 (upd (upd (upd H3 r5 (some (.cells (dEx x) 27))) r8 (some (.cells (dEx x) 27))) r5 c5):=by
    intro b ob hb;rw[hH5] at hb;simp only[upd] at hb⊢
    by_cases e1:b=r5
    ·rw[if_pos e1] at hb⊢;exact hb
    ·rw[if_neg e1] at hb⊢
     have e2:b≠r8:=fun e=>by rw[e,hr8a] at hb;cases hb
     rw[if_neg e2,if_neg e1];exact hb
   have h58:H5 r8=none:=by rw[hH5,Ao _ _ _ _ m1];exact hr8a
   have hch:=Bf2 hG hl n (fun m hm=>hg m (by omega)) H5 xe k3 ha5.get (by omega) hn2;have hse:Ek (upd (upd (upd H3 r5 (some (.cells (dEx x) 27))) r8 (some (.cells (dEx x) 27))) r5 c5)
     [.optr r 0, .agg [.int .u8 11, .int .u8 o, .int .i64 0, .str [], .oslice 9 r8 0 1 1, .nilSlice, .int .i64 (tk l k).line, .int .i64 0, .int .i64 0], .int .u8 1, .int .u8 2, .func (.func 33) [.optr r 0] []] H5
     [.optr r 0, .agg (dEx xe), .int .u8 1, .int .u8 2, .func (.func 33) [.optr r 0] []]:=by
    rw[hxe];refine .cons (.keep hs8 _) (.cons (Fc.agg (Fc.ex (l:= [x]) hs8 (Fc.block (e:=27) hs8 h58 ?_ ?_) (.as0 hs8))) (.keep hs8 _))
    ·rw[List.flatMap_singleton];simp [upd,m1,m2]
    ·rw[List.flatMap_singleton,hlx]
   refine hse.call hs8 ?_;cases hpc:(P l n).addL xe k3 with
   | bot=>exact absurd hpc hn2
   | fail k4=>
    rw[hpc] at hch;refine hch.mono ?_;rintro e H4 ⟨rfl,rfl⟩;simp(disch:=omega) only[go_sem,↓reduceIte];exact RAt.finP (ha5.set k4) ⟨rfl,rfl⟩
   | ok y k4=>
    rw[hpc] at hch;refine hch.mono ?_;rintro e H4 ⟨rfl,hH4⟩;have ha4:RAt r l k4 H H4:=by rw[hH4];exact ha5.set k4
    have g4:H4 r2=some (.cells [.int .u8 0, .int .u8 0, .int .i64 0, .str [], .nilSlice, .nilSlice, .int .i64 0, .int .i64 0, .int .i64 0] 27):=by rw[hH4];exact Ag g5 q2
    have hly:=Ah y;have hoy:=Al y;simp(disch:=omega) only[go_sem,↓reduceIte,dE,g4,hly,hoy];exact RAt.fin (ha4.own hr2 q2 _) ⟨rfl,rfl⟩
end
end Go.Dl

-- Chapter 3: the package's reader: relations.
namespace Go.Dl
open Go Go.Proofs
set_option maxRecDepth 100000
section
variable {G:Nat->DVal} {H0 H:Ac} {r k:Nat} {l:List Tok}
def Bq0 (P:Program) (G:Nat->DVal) (l:List Tok) (f:FuncId) (r:Nat) (a:DVal) (res:Nat->Res DVal):Prop:=
 ∀H k,H r=some (rdO l k)->k<=l.length->res k≠ .bot->Ai P G f [.optr r 0,a] H (RdR r l H (res k))
theorem Dj.set {H B H':Ac} {e:TypeId} {size n:Nat} {cs:List DVal} {v:DVal} {x:Nat} {o:DObj} (h:Dj B e size n cs v H') (s:Sub H B) (hx:H x=none) (hB:B x=some o) (y:Option DObj):Dj H e size n cs v (upd H' x y):=by
 rcases h with⟨a,b,c,d⟩ | ⟨q,h1,h2,h3,h4,h5⟩
 ·exact .inl ⟨a,b,c,Sub.up (s.trans d) hx _⟩
 ·have hq:q≠x:=fun e=>by rw[e,hB] at h1;cases h1
  exact .inr ⟨q,s.lo h1,h2,h3,by rw[Ao _ _ _ _ hq];exact h4,Sub.up (s.trans h5) hx _⟩
theorem Sub.move {H H':Ac} (h:Sub H H') (r:Nat) (x:Option DObj):Sub (upd H r x) (upd H' r x):=h.both r x
set_option maxHeartbeats 4000000 in
theorem Al3 (hG:GX G) (hl:l.length<=800000) (p:PS) (hA:p.Adv l) (hp:RdC Tryz.prog G l 32 r fun k=>(p.simple k).mp dE) (x:Ex):Bq0 Tryz.prog G l 31 r (.agg (dEx x)) fun k=>((Ba l p).relation x k).mp dE:=by
 intro H k hr hk hn;dsimp only[Ba] at hn⊢
 have hadv:=Ca (want:=0) (os:=Gx) (k:=k) (l:=l) Dr5.2.1 hk;have hlx:=Ah x;have hox:=Al x;have hla:(dEx x)[6]? =some (dI x.line):=by cases x;rfl
 refine Ad Tryz.func31 Tryz.call31 rfl (by kernel_rfl) ?_;simp(disch:=omega) only[go_sem,↓reduceIte,DVal.cells];intro r3 hr3;dsimp only at hr3;obtain⟨Hb,hHb⟩: ∃K,K=upd H r3 (some (.cells (dEx x) 27)):=⟨_,rfl⟩;rw[<-hHb];have gr3:Hb r3=some (.cells (dEx x) 27):=by rw[hHb];exact Aa _ _ _
 have n3:r≠r3:=Ae hr3 hr;have q3:=n3.symm;simp(disch:=omega) only[go_sem,↓reduceIte,DVal.cells];intro r4 hr4;dsimp only at hr4;obtain⟨Ha,hHa⟩: ∃K,K=upd Hb r4 (some (.cells [.int .u8 0, .int .u8 0, .int .i64 0, .str [], .nilSlice, .nilSlice, .int .i64 0, .int .i64 0, .int .i64 0] 27)):=⟨_,rfl⟩;rw[<-hHa];have gr4:Ha r4=some (.cells [.int .u8 0, .int .u8 0, .int .i64 0, .str [], .nilSlice, .nilSlice, .int .i64 0, .int .i64 0, .int .i64 0] 27):=by rw[hHa];exact Aa _ _ _
 have hab:RAt r l k H Hb:=by rw[hHb];exact(RAt.refl hr).new hr3 _
 have n4:r≠r4:=Ae hr4 hab.get;have q4:=n4.symm;have m3:r3≠r4:=Ae hr4 gr3;have m4:=m3.symm;have h04:H r4=none:=hab.lo hr4;have ha:RAt r l k H Ha:=by rw[hHa];exact hab.new hr4 _
 have g3:Ha r3=some (.cells (dEx x) 27):=by rw[hHa];exact Ag gr3 m3
 simp(disch:=omega) only[go_sem,↓reduceIte];refine(Dc3 hG _ ha.get hl hk).mono ?_;rintro _ H2 ⟨rfl,hH2⟩;obtain⟨o,ho⟩: ∃o,o=(opF l 0 k Gx).1:=⟨_,rfl⟩;obtain⟨k2,hk2⟩: ∃k2,k2=(opF l 0 k Gx).2:=⟨_,rfl⟩;rw[<-ho,<-hk2] at hadv hn⊢
 rw[<-hk2] at hH2;have ha2:RAt r l k2 H H2:=by rw[hH2];exact ha.set k2
 have g23:H2 r3=some (.cells (dEx x) 27):=by rw[hH2];exact Ag g3 q3
 have g24:H2 r4=some (.cells [.int .u8 0, .int .u8 0, .int .i64 0, .str [], .nilSlice, .nilSlice, .int .i64 0, .int .i64 0, .int .i64 0] 27):=by rw[hH2];exact Ag gr4 q4
 by_cases c:o=0
 ·have c':(o:Int)=0:=by omega
  have hk21:k2=k:=hadv.1 c;rw[if_neg (by omega)] at hn⊢
  rw[hk21] at ha2;simp(disch:=omega) only[go_sem,↓reduceIte,c'];intro q1 hq1;dsimp only at hq1;simp(disch:=omega) only[go_sem,↓reduceIte];refine(Rv hG H2 q1 wIn hq1 ha2.get (by omega) (by omega)).mono ?_;rintro _ H4 ⟨rfl,hH4⟩;by_cases b1:isW l k [wIn]=true
  ·rw[if_pos b1] at hn hH4⊢
   have ha4:RAt r l (k+1) H H4:=by rw[hH4];exact ha2.set _
   have g43:H4 r3=some (.cells (dEx x) 27):=by rw[hH4];exact Ag g23 q3
   have g44:H4 r4=some (.cells [.int .u8 0, .int .u8 0, .int .i64 0, .str [], .nilSlice, .nilSlice, .int .i64 0, .int .i64 0, .int .i64 0] 27):=by rw[hH4];exact Ag g24 q4
   have hk4l:=Am b1 hk;obtain⟨k4,hk4⟩: ∃k4,k4=k+1:=⟨_,rfl⟩;rw[<-hk4] at hn ha4⊢
   rw[List.length_singleton,<-hk4] at hk4l;simp(disch:=omega) only[go_sem,↓reduceIte,b1];refine Aj (by kernel_rfl) (.take 0 (.take 1 (.go 2 [0] (.go 3 [] (.take 4 .done))))) (by kernel_rfl) ?_;simp(disch:=omega) only[go_sem,↓reduceIte,g43];unfold inK at hn⊢
   have hpk:=hp _ k4 ha4.get hk4l;dsimp only at hpk;have had:=hA.simple k4 hk4l;cases hpr:p.simple k4 with
   | bot=>rw[hpr] at hn;exact absurd rfl hn
   | fail k5=>
    rw[hpr] at hpk;refine(hpk (Aw (by simp))).mono ?_;rintro e H5 ⟨rfl,rfl⟩;simp(disch:=omega) only[go_sem,↓reduceIte];exact RAt.finP (ha4.set k5) ⟨rfl,rfl⟩
   | ok y k5=>
    rw[hpr] at hpk hn had;refine(hpk (Aw (by simp))).mono ?_;rintro e H5 ⟨rfl,hH5⟩;have ha5:RAt r l k5 H H5:=by rw[hH5];exact ha4.set k5
    have g53:H5 r3=some (.cells (dEx x) 27):=by rw[hH5];exact Ag g43 q3
    have g54:H5 r4=some (.cells [.int .u8 0, .int .u8 0, .int .i64 0, .str [], .nilSlice, .nilSlice, .int .i64 0, .int .i64 0, .int .i64 0] 27):=by rw[hH5];exact Ag g44 q4
    dsimp only[Res.then,Adv] at hn had⊢
    have hly:=Ah y;simp(disch:=omega) only[go_sem,↓reduceIte,dE,g43,g53];rw[Gk hlx hly];simp(disch:=omega) only[go_sem,↓reduceIte];intro r7 hr7;dsimp only at hr7;have hxy: [x,y].flatMap dEx=dEx x++dEx y:=by simp
    obtain⟨H7,hH7⟩: ∃K,K=upd H5 r7 (some (.cells (dEx x++dEx y) 27)):=⟨_,rfl⟩;rw[<-hH7];have g77:H7 r7=some (.cells (dEx x++dEx y) 27):=by rw[hH7];exact Aa _ _ _
    have n37:r3≠r7:=Ae hr7 g53;have n47:r4≠r7:=Ae hr7 g54;have nr7:r≠r7:=Ae hr7 ha5.get;have ha7:RAt r l k5 H H7:=by rw[hH7];exact ha5.new hr7 _
    have g73:H7 r3=some (.cells (dEx x) 27):=by rw[hH7];exact Ag g53 n37
    have g74:H7 r4=some (.cells [.int .u8 0, .int .u8 0, .int .i64 0, .str [], .nilSlice, .nilSlice, .int .i64 0, .int .i64 0, .int .i64 0] 27):=by rw[hH7];exact Ag g54 n47
    have s57:Sub H5 H7:=by rw[hH7];exact(Sub.refl _).new hr7 _
    simp(disch:=omega) only[go_sem,↓reduceIte];intro q7 hq7;dsimp only at hq7;simp(disch:=omega) only[go_sem,↓reduceIte];refine(Rv hG H7 q7 Dz hq7 ha7.get (by omega) (by omega)).mono ?_;rintro _ H8 ⟨rfl,hH8⟩;by_cases b3:isW l k5 [Dz]=true
    ·rw[if_pos b3] at hn hH8⊢
     simp(disch:=omega) only[go_sem,↓reduceIte,b3];have ha8:RAt r l (k5+1) H H8:=by rw[hH8];exact ha7.set _
     have g83:H8 r3=some (.cells (dEx x) 27):=by rw[hH8];exact Ag g73 q3
     have g84:H8 r4=some (.cells [.int .u8 0, .int .u8 0, .int .i64 0, .str [], .nilSlice, .nilSlice, .int .i64 0, .int .i64 0, .int .i64 0] 27):=by rw[hH8];exact Ag g74 q4
     have hk5:=Am b3 (by omega);rw[List.length_singleton] at hk5;have hpz:=hp _ (k5+1) ha8.get hk5;dsimp only at hpz;cases hpz2:p.simple (k5+1) with
     | bot=>rw[hpz2] at hn;exact absurd rfl hn
     | fail k6=>
      rw[hpz2] at hpz;refine(hpz (Aw (by simp))).mono ?_;rintro e H9 ⟨rfl,rfl⟩;simp(disch:=omega) only[go_sem,↓reduceIte];exact RAt.finP (ha8.set k6) ⟨rfl,rfl⟩
     | ok z k6=>
      rw[hpz2] at hpz hn;refine(hpz (Aw (by simp))).mono ?_;rintro e H9 ⟨rfl,hH9⟩;have hlz:=Ah z;dsimp only[Res.then];simp(disch:=omega) only[go_sem,↓reduceIte,dE];rw[Cy hlz];simp(disch:=omega) only[go_sem,↓reduceIte];intro r10 hr10;dsimp only at hr10;obtain⟨Bk,hBk⟩: ∃K,K=upd H5 r (some (rdO l k6)):=⟨_,rfl⟩;have hH9':H9=upd H7 r (some (rdO l k6)):=by
       rw[hH9,hH8];funext b;simp only[upd];split<;>rfl
      have hBH:Sub Bk H9:=by rw[hBk,hH9'];exact s57.move r _
      have hv:Dj Bk 27 9 2 ([x,y].flatMap dEx) (.oslice 9 r7 0 2 2) H9:= .inr ⟨r7,by rw[hBk,Ao _ _ _ _ nr7.symm];exact hr7,by rw[hxy,List.length_append,hlx,hly],rfl,by rw[hxy,hH9'];exact Ag g77 nr7.symm,hBH⟩;rw[hxy] at hv;have g97:H9 r7=some (.cells (dEx x++dEx y) 27):=by rw[hH9'];exact Ag g77 nr7.symm
      have n710:r7≠r10:=Ae hr10 g97;simp(disch:=omega) only[go_sem,↓reduceIte];rw[if_neg n710,g97];refine Dj.appendO (m:=1) (hv.new hr10 _) hlz (by omega) fun v2 H10 hv2=> ?_;have e3:dEx x++dEx y++dEx z= [x,y,z].flatMap dEx:=by simp
      rw[e3] at hv2;have h9:RAt r l k6 H Bk:=by rw[hBk];exact ha5.set k6
      have b3:Bk r3=some (.cells (dEx x) 27):=by rw[hBk];exact Ag g53 q3
      have b4:Bk r4=some (.cells [.int .u8 0, .int .u8 0, .int .i64 0, .str [], .nilSlice, .nilSlice, .int .i64 0, .int .i64 0, .int .i64 0] 27):=by rw[hBk];exact Ag g54 q4
      have g103:=hv2.keep b3;have g104:=hv2.keep b4;obtain⟨hc1,hc2⟩:=hv2.cell1;have hvf:=fun yy=>hv2.set h9 (x:=r4) (by rw[Ao _ _ _ _ q4];exact h04) b4 yy;simp(disch:=omega) only[go_sem,↓reduceIte,g103,g104,hc1,hc2,hla];exact Fc.fin (hvf _).sub (Fc.agg (Fc.ex (l:= [x,y,z]) (hvf _).sub (Fc.own (hvf _)) (.as0 (hvf _).sub))) ⟨rfl,rfl⟩
    ·have b3':isW l k5 [Dz]=false:=by simpa using b3
     rw[if_neg b3] at hn hH8⊢
     rw[Be ha7.get] at hH8;subst hH8;have hgy:List.take 9 (List.drop 9 (dEx x++dEx y))=dEx y:=by rw[List.drop_left' hlx];exact List.take_of_length_le (by omega)
     have hl18:18<=(dEx x++dEx y).length:=by rw[List.length_append];omega
     simp(disch:=omega) only[go_sem,↓reduceIte,b3',g77,hgy,hlx,hly,hl18];refine(Du G _ y).mono ?_;rintro _ H9 ⟨rfl,rfl⟩;by_cases b4:Bc y=true
     ·rw[if_pos b4] at hn⊢
      have hv:Dj H5 27 9 2 ([x,y].flatMap dEx) (.oslice 9 r7 0 2 2) H9:= .inr ⟨r7,hr7,by rw[hxy,List.length_append,hlx,hly],rfl,by rw[hxy];exact g77,s57⟩;have hvf:=fun yy=>hv.set ha5 (x:=r4) (by rw[Ao _ _ _ _ q4];exact h04) g54 yy;simp(disch:=omega) only[go_sem,↓reduceIte,b4,g73,g74,hla];exact Fc.fin (hvf _).sub (Fc.agg (Fc.ex (l:= [x,y]) (hvf _).sub (Fc.own (hvf _)) (.as0 (hvf _).sub))) ⟨rfl,rfl⟩
     ·have b4':Bc y=false:=by simpa using b4
      rw[if_neg b4] at hn⊢
      simp(disch:=omega) only[go_sem,↓reduceIte,b4'];refine(Rp G _ ha7.get).mono ?_;rintro _ H10 ⟨rfl,rfl⟩;simp(disch:=omega) only[go_sem,↓reduceIte];exact RAt.finP ha7 ⟨rfl,rfl⟩
  ·have b1':isW l k [wIn]=false:=by simpa using b1
   rw[if_neg b1] at hn hH4⊢
   rw[Be ha2.get] at hH4;subst hH4;simp(disch:=omega) only[go_sem,↓reduceIte,b1'];intro q2 hq2;dsimp only at hq2;simp(disch:=omega) only[go_sem,↓reduceIte];refine(Dp6 hG _ q2 Rt wIn hq2 ha2.get (by omega) (by omega)).mono ?_;rintro _ H4 ⟨rfl,hH4⟩;by_cases b2:isW l k [Rt,wIn]=true
   ·rw[if_pos b2] at hn hH4⊢
    have ha4:RAt r l (k+2) H H4:=by rw[hH4];exact ha2.set _
    have g43:H4 r3=some (.cells (dEx x) 27):=by rw[hH4];exact Ag g23 q3
    have g44:H4 r4=some (.cells [.int .u8 0, .int .u8 0, .int .i64 0, .str [], .nilSlice, .nilSlice, .int .i64 0, .int .i64 0, .int .i64 0] 27):=by rw[hH4];exact Ag g24 q4
    have hk4l:=Am b2 hk;obtain⟨k4,hk4⟩: ∃k4,k4=k+2:=⟨_,rfl⟩;rw[<-hk4] at hn ha4⊢
    rw[show [Rt,wIn].length=2 from rfl,<-hk4] at hk4l;simp(disch:=omega) only[go_sem,↓reduceIte,b2];refine Aj (by kernel_rfl) (.take 0 (.take 1 (.go 2 [0] (.go 3 [] (.take 4 .done))))) (by kernel_rfl) ?_;simp(disch:=omega) only[go_sem,↓reduceIte,g43];unfold inK at hn⊢
    have hpk:=hp _ k4 ha4.get hk4l;dsimp only at hpk;have had:=hA.simple k4 hk4l;cases hpr:p.simple k4 with
    | bot=>rw[hpr] at hn;exact absurd rfl hn
    | fail k5=>
     rw[hpr] at hpk;refine(hpk (Aw (by simp))).mono ?_;rintro e H5 ⟨rfl,rfl⟩;simp(disch:=omega) only[go_sem,↓reduceIte];exact RAt.finP (ha4.set k5) ⟨rfl,rfl⟩
    | ok y k5=>
     rw[hpr] at hpk hn had;refine(hpk (Aw (by simp))).mono ?_;rintro e H5 ⟨rfl,hH5⟩;have ha5:RAt r l k5 H H5:=by rw[hH5];exact ha4.set k5
     have g53:H5 r3=some (.cells (dEx x) 27):=by rw[hH5];exact Ag g43 q3
     have g54:H5 r4=some (.cells [.int .u8 0, .int .u8 0, .int .i64 0, .str [], .nilSlice, .nilSlice, .int .i64 0, .int .i64 0, .int .i64 0] 27):=by rw[hH5];exact Ag g44 q4
     dsimp only[Res.then,Adv] at hn had⊢
     have hly:=Ah y;simp(disch:=omega) only[go_sem,↓reduceIte,dE,g43,g53];rw[Gk hlx hly];simp(disch:=omega) only[go_sem,↓reduceIte];intro r7 hr7;dsimp only at hr7;have hxy: [x,y].flatMap dEx=dEx x++dEx y:=by simp
     obtain⟨H7,hH7⟩: ∃K,K=upd H5 r7 (some (.cells (dEx x++dEx y) 27)):=⟨_,rfl⟩;rw[<-hH7];have g77:H7 r7=some (.cells (dEx x++dEx y) 27):=by rw[hH7];exact Aa _ _ _
     have n37:r3≠r7:=Ae hr7 g53;have n47:r4≠r7:=Ae hr7 g54;have nr7:r≠r7:=Ae hr7 ha5.get;have ha7:RAt r l k5 H H7:=by rw[hH7];exact ha5.new hr7 _
     have g73:H7 r3=some (.cells (dEx x) 27):=by rw[hH7];exact Ag g53 n37
     have g74:H7 r4=some (.cells [.int .u8 0, .int .u8 0, .int .i64 0, .str [], .nilSlice, .nilSlice, .int .i64 0, .int .i64 0, .int .i64 0] 27):=by rw[hH7];exact Ag g54 n47
     have s57:Sub H5 H7:=by rw[hH7];exact(Sub.refl _).new hr7 _
     simp(disch:=omega) only[go_sem,↓reduceIte];intro q7 hq7;dsimp only at hq7;simp(disch:=omega) only[go_sem,↓reduceIte];refine(Rv hG H7 q7 Dz hq7 ha7.get (by omega) (by omega)).mono ?_;rintro _ H8 ⟨rfl,hH8⟩;by_cases b3:isW l k5 [Dz]=true
     ·rw[if_pos b3] at hn hH8⊢
      simp(disch:=omega) only[go_sem,↓reduceIte,b3];have ha8:RAt r l (k5+1) H H8:=by rw[hH8];exact ha7.set _
      have g83:H8 r3=some (.cells (dEx x) 27):=by rw[hH8];exact Ag g73 q3
      have g84:H8 r4=some (.cells [.int .u8 0, .int .u8 0, .int .i64 0, .str [], .nilSlice, .nilSlice, .int .i64 0, .int .i64 0, .int .i64 0] 27):=by rw[hH8];exact Ag g74 q4
      have hk5:=Am b3 (by omega);rw[List.length_singleton] at hk5;have hpz:=hp _ (k5+1) ha8.get hk5;dsimp only at hpz;cases hpz2:p.simple (k5+1) with
      | bot=>rw[hpz2] at hn;exact absurd rfl hn
      | fail k6=>
       rw[hpz2] at hpz;refine(hpz (Aw (by simp))).mono ?_;rintro e H9 ⟨rfl,rfl⟩;simp(disch:=omega) only[go_sem,↓reduceIte];exact RAt.finP (ha8.set k6) ⟨rfl,rfl⟩
      | ok z k6=>
       rw[hpz2] at hpz hn;refine(hpz (Aw (by simp))).mono ?_;rintro e H9 ⟨rfl,hH9⟩;have hlz:=Ah z;dsimp only[Res.then];simp(disch:=omega) only[go_sem,↓reduceIte,dE];rw[Cy hlz];simp(disch:=omega) only[go_sem,↓reduceIte];intro r10 hr10;dsimp only at hr10;obtain⟨Bk,hBk⟩: ∃K,K=upd H5 r (some (rdO l k6)):=⟨_,rfl⟩;have hH9':H9=upd H7 r (some (rdO l k6)):=by
        rw[hH9,hH8];funext b;simp only[upd];split<;>rfl
       have hBH:Sub Bk H9:=by rw[hBk,hH9'];exact s57.move r _
       have hv:Dj Bk 27 9 2 ([x,y].flatMap dEx) (.oslice 9 r7 0 2 2) H9:= .inr ⟨r7,by rw[hBk,Ao _ _ _ _ nr7.symm];exact hr7,by rw[hxy,List.length_append,hlx,hly],rfl,by rw[hxy,hH9'];exact Ag g77 nr7.symm,hBH⟩;rw[hxy] at hv;have g97:H9 r7=some (.cells (dEx x++dEx y) 27):=by rw[hH9'];exact Ag g77 nr7.symm
       have n710:r7≠r10:=Ae hr10 g97;simp(disch:=omega) only[go_sem,↓reduceIte];rw[if_neg n710,g97];refine Dj.appendO (m:=1) (hv.new hr10 _) hlz (by omega) fun v2 H10 hv2=> ?_;have e3:dEx x++dEx y++dEx z= [x,y,z].flatMap dEx:=by simp
       rw[e3] at hv2;have h9:RAt r l k6 H Bk:=by rw[hBk];exact ha5.set k6
       have b3:Bk r3=some (.cells (dEx x) 27):=by rw[hBk];exact Ag g53 q3
       have b4:Bk r4=some (.cells [.int .u8 0, .int .u8 0, .int .i64 0, .str [], .nilSlice, .nilSlice, .int .i64 0, .int .i64 0, .int .i64 0] 27):=by rw[hBk];exact Ag g54 q4
       have g103:=hv2.keep b3;have g104:=hv2.keep b4;obtain⟨hc1,hc2⟩:=hv2.cell1;have hvf:=fun yy=>hv2.set h9 (x:=r4) (by rw[Ao _ _ _ _ q4];exact h04) b4 yy;simp(disch:=omega) only[go_sem,↓reduceIte,g103,g104,hc1,hc2,hla];exact Fc.fin (hvf _).sub (Fc.agg (Fc.ex (l:= [x,y,z]) (hvf _).sub (Fc.own (hvf _)) (.as0 (hvf _).sub))) ⟨rfl,rfl⟩
     ·have b3':isW l k5 [Dz]=false:=by simpa using b3
      rw[if_neg b3] at hn hH8⊢
      rw[Be ha7.get] at hH8;subst hH8;have hgy:List.take 9 (List.drop 9 (dEx x++dEx y))=dEx y:=by rw[List.drop_left' hlx];exact List.take_of_length_le (by omega)
      have hl18:18<=(dEx x++dEx y).length:=by rw[List.length_append];omega
      simp(disch:=omega) only[go_sem,↓reduceIte,b3',g77,hgy,hlx,hly,hl18];refine(Du G _ y).mono ?_;rintro _ H9 ⟨rfl,rfl⟩;by_cases b4:Bc y=true
      ·rw[if_pos b4] at hn⊢
       have hv:Dj H5 27 9 2 ([x,y].flatMap dEx) (.oslice 9 r7 0 2 2) H9:= .inr ⟨r7,hr7,by rw[hxy,List.length_append,hlx,hly],rfl,by rw[hxy];exact g77,s57⟩;have hvf:=fun yy=>hv.set ha5 (x:=r4) (by rw[Ao _ _ _ _ q4];exact h04) g54 yy;simp(disch:=omega) only[go_sem,↓reduceIte,b4,g73,g74,hla];exact Fc.fin (hvf _).sub (Fc.agg (Fc.ex (l:= [x,y]) (hvf _).sub (Fc.own (hvf _)) (.as0 (hvf _).sub))) ⟨rfl,rfl⟩
      ·have b4':Bc y=false:=by simpa using b4
       rw[if_neg b4] at hn⊢
       simp(disch:=omega) only[go_sem,↓reduceIte,b4'];refine(Rp G _ ha7.get).mono ?_;rintro _ H10 ⟨rfl,rfl⟩;simp(disch:=omega) only[go_sem,↓reduceIte];exact RAt.finP ha7 ⟨rfl,rfl⟩
   ·have b2':isW l k [Rt,wIn]=false:=by simpa using b2
    rw[if_neg b2] at hn hH4⊢
    rw[Be ha2.get] at hH4;subst hH4;simp(disch:=omega) only[go_sem,↓reduceIte,b2',g23,g24,hlx,hox];exact RAt.fin (ha2.own h04 q4 _) ⟨rfl,rfl⟩
 ·have c': ¬(o:Int)=0:=by omega
  rw[if_pos c] at hn⊢
  simp(disch:=omega) only[go_sem,↓reduceIte,c'];refine Aj (by kernel_rfl) (.take 0 (.take 1 (.take 2 (.go 3 [1] (.go 4 [] (.go 5 [] .done)))))) (by kernel_rfl) ?_;simp(disch:=omega) only[go_sem,↓reduceIte,g23];have hpk:=hp _ k2 ha2.get (by omega);dsimp only at hpk;cases hpr:p.simple k2 with
  | bot=>rw[hpr] at hn;exact absurd rfl hn
  | fail k3=>
   rw[hpr] at hpk;refine(hpk (Aw (by simp))).mono ?_;rintro e H3 ⟨rfl,rfl⟩;simp(disch:=omega) only[go_sem,↓reduceIte];exact RAt.finP (ha2.set k3) ⟨rfl,rfl⟩
  | ok y k3=>
   rw[hpr] at hpk;refine(hpk (Aw (by simp))).mono ?_;rintro e H3 ⟨rfl,hH3⟩;have ha3:RAt r l k3 H H3:=by rw[hH3];exact ha2.set k3
   have g33:H3 r3=some (.cells (dEx x) 27):=by rw[hH3];exact Ag g23 q3
   have g34:H3 r4=some (.cells [.int .u8 0, .int .u8 0, .int .i64 0, .str [], .nilSlice, .nilSlice, .int .i64 0, .int .i64 0, .int .i64 0] 27):=by rw[hH3];exact Ag g24 q4
   dsimp only[Res.then];simp(disch:=omega) only[go_sem,↓reduceIte,dE,g23,g33];refine(Wz G _ o x y).mono ?_;rintro _ H5 ⟨rfl,rfl⟩;have hly:=Ah (both o x y);have hoy:=Al (both o x y);simp(disch:=omega) only[go_sem,↓reduceIte,g34,hly,hoy];exact RAt.fin (ha3.own h04 q4 _) ⟨rfl,rfl⟩
end
end Go.Dl

-- Chapter 3: the package's reader: expressions.
namespace Go.Dl
open Go Go.Proofs
set_option maxRecDepth 100000
section
variable {G:Nat->DVal} {H0 H:Ac} {r k:Nat} {l:List Tok}
set_option maxHeartbeats 4000000 in
theorem Cf3 (hl:l.length<=800000) (p:PS) (hA:p.Adv l) (hs:RdC Tryz.prog G l 32 r fun k=>(p.simple k).mp dE) (hr1: ∀x,Bq0 Tryz.prog G l 76 r (.agg (dEx x)) fun k=>(p.rest x k).mp dE):RdC Tryz.prog G l 29 r fun k=>((Ba l p).expr k).mp dE:=by
 intro H k hr hk hn;dsimp only[Ba] at hn⊢
 refine Ad Tryz.func29 Tryz.call29 rfl (by kernel_rfl) ?_;simp(disch:=omega) only[go_sem,↓reduceIte];intro r2 hr2;dsimp only at hr2;obtain⟨Ha,hHa⟩: ∃K,K=upd H r2 (some (.cells [.int .u8 0, .int .u8 0, .int .i64 0, .str [], .nilSlice, .nilSlice, .int .i64 0, .int .i64 0, .int .i64 0] 27)):=⟨_,rfl⟩;rw[<-hHa];have gr2:Ha r2=some (.cells [.int .u8 0, .int .u8 0, .int .i64 0, .str [], .nilSlice, .nilSlice, .int .i64 0, .int .i64 0, .int .i64 0] 27):=by rw[hHa];exact Aa _ _ _
 have n2:r≠r2:=Ae hr2 hr;have q2:=n2.symm;have ha:RAt r l k H Ha:=by rw[hHa];exact(RAt.refl hr).new hr2 _
 simp(disch:=omega) only[go_sem,↓reduceIte];have hpk:=hs _ k ha.get hk;have had:=hA.simple k hk;dsimp only at hpk;cases hpr:p.simple k with
 | bot=>rw[hpr] at hn;exact absurd rfl hn
 | fail k3=>
  rw[hpr] at hpk;refine(hpk (Aw (by simp))).mono ?_;rintro e H3 ⟨rfl,rfl⟩;simp(disch:=omega) only[go_sem,↓reduceIte];exact RAt.finP (ha.set k3) ⟨rfl,rfl⟩
 | ok x k3=>
  rw[hpr] at hpk hn had;refine(hpk (Aw (by simp))).mono ?_;rintro e H3 ⟨rfl,hH3⟩;have ha3:RAt r l k3 H H3:=by rw[hH3];exact ha.set k3
  dsimp only[Res.then,Adv] at hn had⊢
  have g3:H3 r2=some (.cells [.int .u8 0, .int .u8 0, .int .i64 0, .str [], .nilSlice, .nilSlice, .int .i64 0, .int .i64 0, .int .i64 0] 27):=by rw[hH3];exact Ag gr2 q2
  simp(disch:=omega) only[go_sem,↓reduceIte,dE];have hn2:p.rest x k3≠ .bot:=fun h=>hn (by rw[h];rfl);have hch:=hr1 x H3 k3 ha3.get (by omega) (Aw hn2);dsimp only at hch;cases hpc:p.rest x k3 with
  | bot=>exact absurd hpc hn2
  | fail k4=>
   rw[hpc] at hch;refine hch.mono ?_;rintro e H4 ⟨rfl,rfl⟩;simp(disch:=omega) only[go_sem,↓reduceIte];exact RAt.finP (ha3.set k4) ⟨rfl,rfl⟩
  | ok y k4=>
   rw[hpc] at hch;refine hch.mono ?_;rintro e H4 ⟨rfl,hH4⟩;have ha4:RAt r l k4 H H4:=by rw[hH4];exact ha3.set k4
   have g4:H4 r2=some (.cells [.int .u8 0, .int .u8 0, .int .i64 0, .str [], .nilSlice, .nilSlice, .int .i64 0, .int .i64 0, .int .i64 0] 27):=by rw[hH4];exact Ag g3 q2
   have hly:=Ah y;have hoy:=Al y;simp(disch:=omega) only[go_sem,↓reduceIte,dE,g4,hly,hoy];exact RAt.fin (ha4.own hr2 q2 _) ⟨rfl,rfl⟩
theorem Cf4 {os:List Nat} (h:(opF l 0 k os).1≠0):opF l (opF l 0 k os).1 k os=opF l 0 k os:=by
 have key: ∀ {os:List Nat} {w:Nat},(opF l 0 k os).1=w->w≠0->opF l w k os=opF l 0 k os:=by
  intro os w hw h
  induction os with
  | nil=>rfl
  | cons o m ih=>
   simp only[opF] at hw⊢
   by_cases hi:isW l k (Bp o)=true
   ·simp only[hi,if_true,ne_eq,not_true_eq_false,false_and,if_false] at hw⊢
    rw[if_neg (by rintro⟨_,h2⟩;exact h2 hw)]
   ·simp only[hi,if_false,Bool.false_eq_true] at hw⊢
    exact ih hw
 exact key rfl h
set_option maxHeartbeats 4000000 in
theorem Cf5 (hG:GX G) (hl:l.length<=800000) (n:Nat) (hs: ∀m≤n,RdC Tryz.prog G l 32 r fun k=>((P l m).simple k).mp dE) (hrl: ∀m≤n,∀x,Bq0 Tryz.prog G l 31 r (.agg (dEx x)) fun k=>((P l m).relation x k).mp dE) (x:Ex):Bq0 Tryz.prog G l 76 r (.agg (dEx x)) fun k=>((P l (n+1)).rest x k).mp dE:=by
 intro H k hr hk hn;have e:(P l (n+1)).rest x k=((P l n).relation x k).then fun x k=>(P l n).restL (opF l 0 k Ct).1 x k:=rfl
 dsimp only at hn⊢
 rw[e] at hn⊢
 refine Ad Tryz.func76 Tryz.call76 rfl (by kernel_rfl) ?_;simp(disch:=omega) only[go_sem,↓reduceIte,DVal.cells];intro r3 hr3;dsimp only at hr3;obtain⟨Hb,hHb⟩: ∃K,K=upd H r3 (some (.cells (dEx x) 27)):=⟨_,rfl⟩;rw[<-hHb];have gr3:Hb r3=some (.cells (dEx x) 27):=by rw[hHb];exact Aa _ _ _
 have n3:r≠r3:=Ae hr3 hr;have q3:=n3.symm;simp(disch:=omega) only[go_sem,↓reduceIte,DVal.cells];intro r4 hr4;dsimp only at hr4;obtain⟨Ha,hHa⟩: ∃K,K=upd Hb r4 (some (.cells [.int .u8 0, .int .u8 0, .int .i64 0, .str [], .nilSlice, .nilSlice, .int .i64 0, .int .i64 0, .int .i64 0] 27)):=⟨_,rfl⟩;rw[<-hHa];have gr4:Ha r4=some (.cells [.int .u8 0, .int .u8 0, .int .i64 0, .str [], .nilSlice, .nilSlice, .int .i64 0, .int .i64 0, .int .i64 0] 27):=by rw[hHa];exact Aa _ _ _
 have hab:RAt r l k H Hb:=by rw[hHb];exact(RAt.refl hr).new hr3 _
 have n4:r≠r4:=Ae hr4 hab.get;have q4:=n4.symm;have m3:r3≠r4:=Ae hr4 gr3;have m4:=m3.symm;have h04:H r4=none:=hab.lo hr4;have ha:RAt r l k H Ha:=by rw[hHa];exact hab.new hr4 _
 have g3:Ha r3=some (.cells (dEx x) 27):=by rw[hHa];exact Ag gr3 m3
 have hlx:=Ah x;simp(disch:=omega) only[go_sem,↓reduceIte,g3];have hpk:=hrl n (Nat.le_refl _) x _ k ha.get hk;have had:=(Bn (l:=l) n).relation x k hk;dsimp only at hpk;cases hpr:(P l n).relation x k with
 | bot=>rw[hpr] at hn;exact absurd rfl hn
 | fail k3=>
  rw[hpr] at hpk;refine(hpk (Aw (by simp))).mono ?_;rintro e H3 ⟨rfl,rfl⟩;simp(disch:=omega) only[go_sem,↓reduceIte];exact RAt.finP (ha.set k3) ⟨rfl,rfl⟩
 | ok y0 k3=>
  rw[hpr] at hpk hn had;refine(hpk (Aw (by simp))).mono ?_;rintro e H3 ⟨rfl,hH3⟩;have ha3:RAt r l k3 H H3:=by rw[hH3];exact ha.set k3
  dsimp only[Res.then,Adv] at hn had⊢
  have g33:H3 r3=some (.cells (dEx x) 27):=by rw[hH3];exact Ag g3 q3
  have g34:H3 r4=some (.cells [.int .u8 0, .int .u8 0, .int .i64 0, .str [], .nilSlice, .nilSlice, .int .i64 0, .int .i64 0, .int .i64 0] 27):=by rw[hH3];exact Ag gr4 q4
  have hly0:=Ah y0;have hoy0:=Al y0;have hdr:(dEx x).drop 9= []:=List.drop_eq_nil_of_le (by omega);simp(disch:=omega) only[go_sem,↓reduceIte,dE,g33,hly0,hoy0,hlx,hdr];obtain⟨Hc,hHc⟩: ∃K,K=upd H3 r3 (some (.cells (dEx y0) 27)):=⟨_,rfl⟩;rw[<-hHc];have hac:RAt r l k3 H Hc:=by rw[hHc];exact ha3.own hr3 q3 _
  have gc3:Hc r3=some (.cells (dEx y0) 27):=by rw[hHc];exact Aa _ _ _
  have gc4:Hc r4=some (.cells [.int .u8 0, .int .u8 0, .int .i64 0, .str [], .nilSlice, .nilSlice, .int .i64 0, .int .i64 0, .int .i64 0] 27):=by rw[hHc];exact Ag g34 m4
  refine(Bw0 hG _ 0 hac.get hl had.2).mono ?_;rintro _ H5 ⟨rfl,hH5⟩;obtain⟨o,ho⟩: ∃o,o=(opF l 0 k3 Ct).1:=⟨_,rfl⟩;obtain⟨q,hq⟩: ∃q:Nat->Nat×Nat,∀k,q k=if o=0 then(0,k) else opF l o k Ct:=⟨_,fun _=>rfl⟩
  have hqa: ∀k,k<=l.length->((q k).1=0->(q k).2=k)/\((q k).1≠0->k+1<=(q k).2)/\(q k).2<=l.length:=by
   intro k hk;rw[hq];by_cases c:o=0
   ·rw[if_pos c];exact⟨fun _=>rfl,fun h=>absurd rfl h,hk⟩
   ·rw[if_neg c];have:=Ca (want:=o) (os:=Ct) (k:=k) (l:=l) Dr5.1 hk;exact⟨this.1,this.2.1,this.2.2.1⟩
  have hL: ∀m x k,(P l (m+1)).restL o x k=if(q k).1=0 then .ok x k else((P l m).simple (q k).2).then fun y k=>((P l m).relation y k).then fun y k=>(P l m).restL o (both o x y) k:=by
   intro m x k;have:(P l (m+1)).restL o x k=if o=0 then .ok x k else if(opF l o k Ct).1=0 then .ok x k else((P l m).simple (opF l o k Ct).2).then fun y k=>((P l m).relation y k).then fun y k=>(P l m).restL o (both o x y) k:=rfl
   rw[this,hq];by_cases c:o=0
   ·rw[if_pos c,if_pos c,if_pos rfl]
   ·rw[if_neg c,if_neg c]
  have hq3:(opF l 0 k3 Ct)=(o,(q k3).2)/\(q k3).1=o:=by
   rw[hq];by_cases c:o=0
   ·have h0:=Ca (want:=0) (os:=Ct) (k:=k3) (l:=l) Dr5.1 had.2;rw[if_pos c];exact⟨Prod.ext ho.symm (h0.1 (ho▸c)),c.symm⟩
   ·have h0:=Cf4 (l:=l) (k:=k3) (os:=Ct) (ho▸c);rw[<-ho] at h0;rw[if_neg c,h0];exact⟨Prod.ext ho.symm rfl,ho.symm⟩
  rw[hq3.1] at hn⊢
  rw[hq3.1] at hH5;dsimp only at hn hH5⊢
  have hn2:(P l n).restL o y0 k3≠ .bot:=fun h=>hn (by rw[h];rfl);obtain⟨n',rfl⟩: ∃n',n=n'+1:=by
   cases n with
   | zero=>exact absurd rfl hn2
   | succ n'=>exact⟨n',rfl⟩
  have ha5:RAt r l (q k3).2 H H5:=by rw[hH5];exact hac.set _
  have g53:H5 r3=some (.cells (dEx y0) 27):=by rw[hH5];exact Ag gc3 q3
  have g54:H5 r4=some (.cells [.int .u8 0, .int .u8 0, .int .i64 0, .str [], .nilSlice, .nilSlice, .int .i64 0, .int .i64 0, .int .i64 0] 27):=by rw[hH5];exact Ag gc4 q4
  simp(disch:=omega) only[go_sem,↓reduceIte];obtain⟨I,hI⟩: ∃I:Nat×Ex×Nat->(Nat->DVal)->Ac->Prop,∀s env heap,I s env heap↔(env 0= .optr r 0/\env 3= .optr r3 0/\env 4= .optr r4 0/\env 5= .int .u8 o/\env 6= .int .u8 (q s.2.2).1/\s.2.2<=l.length/\s.1<=n'/\(P l (s.1+1)).restL o s.2.1 s.2.2=(P l (n'+1)).restL o y0 k3/\RAt r l (q s.2.2).2 H heap/\heap r3=some (.cells (dEx s.2.1) 27)/\heap r4=some (.cells [.int .u8 0, .int .u8 0, .int .i64 0, .str [], .nilSlice, .nilSlice, .int .i64 0, .int .i64 0, .int .i64 0] 27)):=⟨_,fun _ _ _=>Iff.rfl⟩;refine Bt4.run I (fun s=>s.1) (n',y0,k3) ((hI _ _ _).2 ?_) ?_
  ·simp(disch:=omega) only[go_sem,↓reduceIte,hq3.2];(repeat' apply And.intro)<;>(try first | rfl | assumption | omega)
   done
  ·rintro⟨m,y,k1⟩ env heap hi';obtain⟨e0,e3,e4,e5,e6,hk1,hm,hLm,hat,g6,gx⟩:=(hI _ _ _).1 hi';dsimp only at e6 hk1 hm hLm hat g6;rw[hL] at hLm;have hadv:=hqa k1 hk1;obtain⟨o1,ho1⟩: ∃o1,o1=(q k1).1:=⟨_,rfl⟩;obtain⟨k2,hk2⟩: ∃k2,k2=(q k1).2:=⟨_,rfl⟩;rw[<-ho1,<-hk2] at hLm hadv;rw[<-ho1] at e6;rw[<-hk2] at hat;by_cases c:o1=0
   ·have c':(o1:Int)=0:=by omega
    rw[if_pos c] at hLm;have hk21:k2=k1:=hadv.1 c;rw[hk21] at hat;simp(disch:=omega) only[go_sem,↓reduceIte,e0,e3,e4,e5,e6,c',g6,gx];rw[<-hLm];exact RAt.fin (hat.own h04 q4 _) ⟨rfl,rfl⟩
   ·have c': ¬(o1:Int)=0:=by omega
    rw[if_neg c] at hLm;simp(disch:=omega) only[go_sem,↓reduceIte,e0,e3,e4,e5,e6,c'];refine Aj (by kernel_rfl) (.take 0 (.take 1 (.take 2 (.take 3 (.go 4 [1] (.go 5 [1] (.go 6 [] (.go 7 [] .done)))))))) (by kernel_rfl) ?_;simp(disch:=omega) only[go_sem,↓reduceIte,e0,e3,e4,e5,e6,g6];have ho0:o≠0:=by
     intro h0;rw[hq,if_pos h0] at ho1;exact c ho1
    have hqo: ∀k,q k=opF l o k Ct:=fun k=>by rw[hq,if_neg ho0]
    have hs1:=hs m (by omega) heap k2 hat.get (by omega);have had1:=(Bn (l:=l) m).simple k2 (by omega);dsimp only at hs1;cases hp1:(P l m).simple k2 with
    | bot=>rw[hp1] at hLm;exact absurd hLm.symm hn2
    | fail k4=>
     rw[hp1] at hs1 hLm;refine(hs1 (Aw (by simp))).mono ?_;rintro e H6 ⟨rfl,rfl⟩;simp(disch:=omega) only[go_sem,↓reduceIte];rw[<-hLm];exact RAt.finP (hat.set k4) ⟨rfl,rfl⟩
    | ok y1 k4=>
     rw[hp1] at hs1 hLm had1;dsimp only[Res.then,Adv] at hLm had1;refine(hs1 (Aw (by simp))).mono ?_;rintro e H6 ⟨rfl,hH6⟩;have ha6:RAt r l k4 H H6:=by rw[hH6];exact hat.set k4
     have g63:H6 r3=some (.cells (dEx y) 27):=by rw[hH6];exact Ag g6 q3
     have g64:H6 r4=some (.cells [.int .u8 0, .int .u8 0, .int .i64 0, .str [], .nilSlice, .nilSlice, .int .i64 0, .int .i64 0, .int .i64 0] 27):=by rw[hH6];exact Ag gx q4
     simp(disch:=omega) only[go_sem,↓reduceIte,e0,e3,e4,e5,e6,dE,g6,g63];have hs2:=hrl m (by omega) y1 H6 k4 ha6.get (by omega);have had2:=(Bn (l:=l) m).relation y1 k4 (by omega);dsimp only at hs2;cases hp2:(P l m).relation y1 k4 with
     | bot=>rw[hp2] at hLm;exact absurd hLm.symm hn2
     | fail k5=>
      rw[hp2] at hs2 hLm;refine(hs2 (Aw (by simp))).mono ?_;rintro e H7 ⟨rfl,rfl⟩;simp(disch:=omega) only[go_sem,↓reduceIte];rw[<-hLm];exact RAt.finP (ha6.set k5) ⟨rfl,rfl⟩
     | ok y2 k5=>
      rw[hp2] at hs2 hLm had2;dsimp only[Res.then,Adv] at hLm had2;refine(hs2 (Aw (by simp))).mono ?_;rintro e H7 ⟨rfl,hH7⟩;have ha7:RAt r l k5 H H7:=by rw[hH7];exact ha6.set k5
      have g73:H7 r3=some (.cells (dEx y) 27):=by rw[hH7];exact Ag g63 q3
      have g74:H7 r4=some (.cells [.int .u8 0, .int .u8 0, .int .i64 0, .str [], .nilSlice, .nilSlice, .int .i64 0, .int .i64 0, .int .i64 0] 27):=by rw[hH7];exact Ag g64 q4
      simp(disch:=omega) only[go_sem,↓reduceIte,e0,e3,e4,e5,e6,dE,g63,g73];refine(Wz G _ o y y2).mono ?_;rintro _ H8 ⟨rfl,rfl⟩;have hby:=Ah (both o y y2);have hb1:=Al (both o y y2);have hly:=Ah y;have hdr2:(dEx y).drop 9= []:=List.drop_eq_nil_of_le (by omega);simp(disch:=omega) only[go_sem,↓reduceIte,e0,e3,e4,e5,e6,g73,hby,hb1,hly,hdr2];have ha8:RAt r l k5 H (upd H8 r3 (some (.cells (dEx (both o y y2)) 27))):=ha7.own hr3 q3 _;refine(Bw0 hG _ o ha8.get hl (by omega)).mono ?_;rintro _ H9 ⟨rfl,rfl⟩;rw[<-hqo];obtain⟨m',rfl⟩: ∃m',m=m'+1:=by
       cases m with
       | zero=>exact absurd hLm.symm hn2
       | succ m'=>exact⟨m',rfl⟩
      simp(disch:=omega) only[go_sem,↓reduceIte,e0,e3,e4,e5];refine⟨(m',both o y y2,k5),_,Ni.refl _,(hI _ _ _).2 ?_,by dsimp only;omega⟩;simp(disch:=omega) only[go_sem,↓reduceIte,e0,e3,e4,e5,q3,q4,m3,m4,g74,hLm];(repeat' apply And.intro)<;>(try first | rfl | assumption | omega);exact ha8.set _
end
end Go.Dl

-- Chapter 3: the package's reader: primaries, choices.
namespace Go.Dl
open Go Go.Proofs
set_option maxRecDepth 100000
section
variable {G:Nat->DVal} {H0 H:Ac} {r k:Nat} {l:List Tok}
set_option maxHeartbeats 4000000 in
theorem Au7 (hG:GX G) (hl:l.length<=800000) (p:PS) (hpa:RdC Tryz.prog G l 85 r fun k=>(p.paren k).mp dE) (hna:RdC Tryz.prog G l 36 r fun k=>(p.name k).mp dE):RdC Tryz.prog G l 35 r fun k=>((Ba l p).primary k).mp dE:=by
 intro H k hr hk hn;dsimp only[Ba] at hn⊢
 obtain⟨t,ht⟩: ∃t,t=tk l k:=⟨_,rfl⟩;rw[<-ht] at hn⊢
 have hw:IntKind.i64.wrap ((k:Int)+1)=((k+1:Nat):Int):=by rw[IntKind.wrap_i64];omega
 refine Ad Tryz.func35 Tryz.call35 rfl (by kernel_rfl) ?_;simp(disch:=omega) only[go_sem,↓reduceIte];intro r2 hr2;dsimp only at hr2;obtain⟨Ha,hHa⟩: ∃K,K=upd H r2 (some (.cells [.int .u8 0, .int .u8 0, .int .i64 0, .str [], .nilSlice, .nilSlice, .int .i64 0, .int .i64 0, .int .i64 0] 27)):=⟨_,rfl⟩;rw[<-hHa];have gr2:Ha r2=some (.cells [.int .u8 0, .int .u8 0, .int .i64 0, .str [], .nilSlice, .nilSlice, .int .i64 0, .int .i64 0, .int .i64 0] 27):=by rw[hHa];exact Aa _ _ _
 have n2:r≠r2:=Ae hr2 hr;have q2:=n2.symm;have ha:RAt r l k H Ha:=by rw[hHa];exact(RAt.refl hr).new hr2 _
 simp(disch:=omega) only[go_sem,↓reduceIte];refine(Ra G _ ha.get (by omega) (by omega)).mono ?_;rintro _ H1 ⟨rfl,rfl⟩;rw[<-ht];simp(disch:=omega) only[go_sem,↓reduceIte];intro r3 hr3;dsimp only at hr3;have n23:r2≠r3:=Ae hr3 gr2;have m23:=n23.symm;have n3:r≠r3:=Ae hr3 ha.get;have q3:=n3.symm;simp(disch:=omega) only[go_sem,↓reduceIte,Ec];obtain⟨Hc,hHc⟩: ∃K,K=upd H1 r3 (some (.cells [.int .u8 t.kind,dI t.line, .str t.text,dI t.n] 31)):=⟨_,rfl⟩;rw[<-hHc];have hac:RAt r l k H Hc:=by rw[hHc];exact ha.new hr3 _
 have gc2:Hc r2=some (.cells [.int .u8 0, .int .u8 0, .int .i64 0, .str [], .nilSlice, .nilSlice, .int .i64 0, .int .i64 0, .int .i64 0] 27):=by rw[hHc];exact Ag gr2 n23
 have gc3:Hc r3=some (.cells [.int .u8 t.kind,dI t.line, .str t.text,dI t.n] 31):=by rw[hHc];exact Aa _ _ _
 have gcr:=hac.get;unfold rdO at gcr;by_cases c:t.kind=3
 ·rw[if_pos c] at hn⊢
  simp(disch:=omega) only[go_sem,↓reduceIte,gc3,c,gcr,hw,n3,n2,q3,q2,gc2,n23,m23];have hat:=fun y=>(hac.set (k+1)).own hr2 q2 y;exact Fc.fin (hat _) (Fc.agg (Fc.ex (hat _) (.exs0 (hat _)) (.as0 (hat _)))) ⟨rfl,rfl⟩
 ·rw[if_neg c] at hn⊢
  simp(disch:=omega) only[go_sem,↓reduceIte,gc3,c,gc2];intro w1 hw1;dsimp only at hw1;simp(disch:=omega) only[go_sem,↓reduceIte];refine(Rv hG _ w1 Sb hw1 hac.get (by omega) (by omega)).mono ?_;rintro _ H2 ⟨rfl,hH2⟩;by_cases c2:isW l k [Sb]=true
  ·rw[if_pos c2] at hn hH2⊢
   have ha2:RAt r l (k+1) H H2:=by rw[hH2];exact hac.set _
   have g22:H2 r2=some (.cells [.int .u8 0, .int .u8 0, .int .i64 0, .str [], .nilSlice, .nilSlice, .int .i64 0, .int .i64 0, .int .i64 0] 27):=by rw[hH2];exact Ag gc2 q2
   have g23:H2 r3=some (.cells [.int .u8 t.kind,dI t.line, .str t.text,dI t.n] 31):=by rw[hH2];exact Ag gc3 q3
   simp(disch:=omega) only[go_sem,↓reduceIte,c2,g22,g23];have hat:=fun y=>ha2.own hr2 q2 y;exact Fc.fin (hat _) (Fc.agg (Fc.ex (hat _) (.exs0 (hat _)) (.as0 (hat _)))) ⟨rfl,rfl⟩
  ·have c2':isW l k [Sb]=false:=by simpa using c2
   rw[if_neg c2] at hn hH2⊢
   rw[Be hac.get] at hH2;subst hH2;simp(disch:=omega) only[go_sem,↓reduceIte,c2'];intro w2 hw2;dsimp only at hw2;simp(disch:=omega) only[go_sem,↓reduceIte];refine(is1 hG _ w2 Ce hw2 hac.get (by omega) (by omega)).mono ?_;rintro _ H3 ⟨rfl,rfl⟩;by_cases c3:isW l k [Ce]=true
   ·rw[if_pos c3] at hn⊢
    simp(disch:=omega) only[go_sem,↓reduceIte,c3];have hpk:=hpa _ k hac.get hk;dsimp only at hpk;cases hpr:p.paren k with
    | bot=>rw[hpr] at hn;exact absurd rfl hn
    | fail k3=>
     rw[hpr] at hpk;refine(hpk (Aw (by simp))).mono ?_;rintro e H4 ⟨rfl,rfl⟩;simp(disch:=omega) only[go_sem,↓reduceIte];exact RAt.finP (hac.set k3) ⟨rfl,rfl⟩
    | ok y k3=>
     rw[hpr] at hpk;refine(hpk (Aw (by simp))).mono ?_;rintro e H4 ⟨rfl,hH4⟩;have ha4:RAt r l k3 H H4:=by rw[hH4];exact hac.set k3
     have g4:H4 r2=some (.cells [.int .u8 0, .int .u8 0, .int .i64 0, .str [], .nilSlice, .nilSlice, .int .i64 0, .int .i64 0, .int .i64 0] 27):=by rw[hH4];exact Ag gc2 q2
     have hly:=Ah y;have hoy:=Al y;simp(disch:=omega) only[go_sem,↓reduceIte,dE,g4,hly,hoy];exact RAt.fin (ha4.own hr2 q2 _) ⟨rfl,rfl⟩
   ·have c3':isW l k [Ce]=false:=by simpa using c3
    rw[if_neg c3] at hn⊢
    simp(disch:=omega) only[go_sem,↓reduceIte,c3'];have hpk:=hna _ k hac.get hk;dsimp only at hpk;cases hpr:p.name k with
    | bot=>rw[hpr] at hn;exact absurd rfl hn
    | fail k3=>
     rw[hpr] at hpk;refine(hpk (Aw (by simp))).mono ?_;rintro e H4 ⟨rfl,rfl⟩;simp(disch:=omega) only[go_sem,↓reduceIte];exact RAt.finP (hac.set k3) ⟨rfl,rfl⟩
    | ok y k3=>
     rw[hpr] at hpk;refine(hpk (Aw (by simp))).mono ?_;rintro e H4 ⟨rfl,hH4⟩;have ha4:RAt r l k3 H H4:=by rw[hH4];exact hac.set k3
     have g4:H4 r2=some (.cells [.int .u8 0, .int .u8 0, .int .i64 0, .str [], .nilSlice, .nilSlice, .int .i64 0, .int .i64 0, .int .i64 0] 27):=by rw[hH4];exact Ag gc2 q2
     have hly:=Ah y;have hoy:=Al y;simp(disch:=omega) only[go_sem,↓reduceIte,dE,g4,hly,hoy];exact RAt.fin (ha4.own hr2 q2 _) ⟨rfl,rfl⟩
end
end Go.Dl

-- Chapter 3: the package's reader: choices.
namespace Go.Dl
open Go Go.Proofs
set_option maxRecDepth 100000
def dC (c:Ch):DVal:= .agg (dCh c)
def dA (a:As):DVal:= .agg (dAs a)
section
variable {G:Nat->DVal} {H0 H H':Ac} {r k:Nat} {l:List Tok}
theorem Fc.choice {kd:Int} {v:DVal} {m:List Ex} (hs:Sub H H') (h:Fc H' v H (dXs m)):Ek H' [.int .u8 kd,v] H (dCh (.mk kd m)):=by
 rw[Pd];exact .cons (.keep hs _) (.cons h .nil)
set_option maxHeartbeats 4000000 in
theorem Bf4 (hG:GX G) (hl:l.length<=800000) (p:PS) (hA:p.Adv l) (hs:RdC Tryz.prog G l 32 r fun k=>(p.simple k).mp dE) (hr1: ∀x,Bq0 Tryz.prog G l 76 r (.agg (dEx x)) fun k=>(p.rest x k).mp dE):RdC Tryz.prog G l 120 r fun k=>((Ba l p).choice k).mp dC:=by
 intro H k hr hk hn;dsimp only[Ba] at hn⊢
 refine Ad Tryz.func120 Tryz.call120 rfl (by kernel_rfl) ?_;simp(disch:=omega) only[go_sem,↓reduceIte];intro r2 hr2;dsimp only at hr2;obtain⟨Ha,hHa⟩: ∃K,K=upd H r2 (some (.cells [.int .u8 0, .nilSlice] 47)):=⟨_,rfl⟩;rw[<-hHa];have gr2:Ha r2=some (.cells [.int .u8 0, .nilSlice] 47):=by rw[hHa];exact Aa _ _ _
 have n2:r≠r2:=Ae hr2 hr;have q2:=n2.symm;have ha:RAt r l k H Ha:=by rw[hHa];exact(RAt.refl hr).new hr2 _
 simp(disch:=omega) only[go_sem,↓reduceIte];intro w1 hw1;dsimp only at hw1;simp(disch:=omega) only[go_sem,↓reduceIte];refine(Rv hG _ w1 Ff hw1 ha.get (by omega) (by omega)).mono ?_;rintro _ H2 ⟨rfl,hH2⟩;by_cases c:isW l k [Ff]=true
 ·rw[if_pos c] at hn hH2⊢
  have ha2:RAt r l (k+1) H H2:=by rw[hH2];exact ha.set _
  have g2:H2 r2=some (.cells [.int .u8 0, .nilSlice] 47):=by rw[hH2];exact Ag gr2 q2
  simp(disch:=omega) only[go_sem,↓reduceIte,c,g2];have hat:=fun y=>ha2.own hr2 q2 y;exact Fc.fin (hat _) (Fc.agg (Fc.choice (hat _) (.exs0 (hat _)))) ⟨rfl,rfl⟩
 ·have c':isW l k [Ff]=false:=by simpa using c
  rw[if_neg c] at hn hH2⊢
  rw[Be ha.get] at hH2;subst hH2;simp(disch:=omega) only[go_sem,↓reduceIte,c'];have hpk:=hs _ k ha.get hk;have had:=hA.simple k hk;dsimp only at hpk;cases hpr:p.simple k with
  | bot=>rw[hpr] at hn;exact absurd rfl hn
  | fail k3=>
   rw[hpr] at hpk;refine(hpk (Aw (by simp))).mono ?_;rintro e H3 ⟨rfl,rfl⟩;simp(disch:=omega) only[go_sem,↓reduceIte];exact RAt.finP (ha.set k3) ⟨rfl,rfl⟩
  | ok x k3=>
   rw[hpr] at hpk hn had;refine(hpk (Aw (by simp))).mono ?_;rintro e H3 ⟨rfl,hH3⟩;have ha3:RAt r l k3 H H3:=by rw[hH3];exact ha.set k3
   dsimp only[Res.then,Adv] at hn had⊢
   have g3:H3 r2=some (.cells [.int .u8 0, .nilSlice] 47):=by rw[hH3];exact Ag gr2 q2
   have hlx:=Ah x;have hox:=Al x;simp(disch:=omega) only[go_sem,↓reduceIte,dE];intro r3 hr3;dsimp only at hr3;have n23:r2≠r3:=Ae hr3 g3;have m23:=n23.symm;have n3:r≠r3:=Ae hr3 ha3.get;have q3:=n3.symm;simp(disch:=omega) only[go_sem,↓reduceIte,hlx,hox];obtain⟨Hc,hHc⟩: ∃K,K=upd H3 r3 (some (.cells (dEx x) 27)):=⟨_,rfl⟩;rw[<-hHc];have hac:RAt r l k3 H Hc:=by rw[hHc];exact ha3.new hr3 _
   have gc2:Hc r2=some (.cells [.int .u8 0, .nilSlice] 47):=by rw[hHc];exact Ag g3 n23
   have gc3:Hc r3=some (.cells (dEx x) 27):=by rw[hHc];exact Aa _ _ _
   intro w2 hw2;dsimp only at hw2;simp(disch:=omega) only[go_sem,↓reduceIte];refine(Rv hG _ w2 Dz hw2 hac.get (by omega) (by omega)).mono ?_;rintro _ H4 ⟨rfl,hH4⟩;by_cases c2:isW l k3 [Dz]=true
   ·rw[if_pos c2] at hn hH4⊢
    have ha4:RAt r l (k3+1) H H4:=by rw[hH4];exact hac.set _
    have g42:H4 r2=some (.cells [.int .u8 0, .nilSlice] 47):=by rw[hH4];exact Ag gc2 q2
    have g43:H4 r3=some (.cells (dEx x) 27):=by rw[hH4];exact Ag gc3 q3
    have hk4:=Am c2 had.2;rw[List.length_singleton] at hk4;simp(disch:=omega) only[go_sem,↓reduceIte,c2];refine Aj (by kernel_rfl) (.take 0 (.take 1 (.go 2 [0] (.go 3 [] (.take 4 (.go 5 [] .done)))))) (by kernel_rfl) ?_;simp(disch:=omega) only[go_sem,↓reduceIte,g43];have hp2:=hs _ (k3+1) ha4.get hk4;dsimp only at hp2;cases hpr2:p.simple (k3+1) with
    | bot=>rw[hpr2] at hn;exact absurd rfl hn
    | fail k5=>
     rw[hpr2] at hp2;refine(hp2 (Aw (by simp))).mono ?_;rintro e H5 ⟨rfl,rfl⟩;simp(disch:=omega) only[go_sem,↓reduceIte];exact RAt.finP (ha4.set k5) ⟨rfl,rfl⟩
    | ok y k5=>
     rw[hpr2] at hp2;refine(hp2 (Aw (by simp))).mono ?_;rintro e H5 ⟨rfl,hH5⟩;have ha5:RAt r l k5 H H5:=by rw[hH5];exact ha4.set k5
     have g52:H5 r2=some (.cells [.int .u8 0, .nilSlice] 47):=by rw[hH5];exact Ag g42 q2
     have g53:H5 r3=some (.cells (dEx x) 27):=by rw[hH5];exact Ag g43 q3
     have hly:=Ah y;dsimp only[Res.then];simp(disch:=omega) only[go_sem,↓reduceIte,dE,g43,g53];rw[Gk hlx hly];simp(disch:=omega) only[go_sem,↓reduceIte];intro r7 hr7;dsimp only at hr7;have n27:r2≠r7:=Ae hr7 g52;have m27:=n27.symm;simp(disch:=omega) only[go_sem,↓reduceIte,g52,n27,m27];have hxy: [x,y].flatMap dEx=dEx x++dEx y:=by simp
     have hat:=fun z=>(ha5.new hr7 (some (.cells (dEx x++dEx y) 27))).own hr2 q2 z;refine Fc.fin (hat _) (Fc.agg (Fc.choice (m:= [x,y]) (hat _) (Fc.block (e:=27) (hat _) (Sub.lo ha5 hr7) ?_ ?_))) ⟨rfl,rfl⟩
     ·rw[hxy];simp [upd,m27]
     ·rw[hxy,List.length_append,hlx,hly]
   ·have c2':isW l k3 [Dz]=false:=by simpa using c2
    rw[if_neg c2] at hn hH4⊢
    rw[Be hac.get] at hH4;subst hH4;simp(disch:=omega) only[go_sem,↓reduceIte,c2',gc3];have hn2:p.rest x k3≠ .bot:=fun h=>hn (by rw[h];rfl);have hch:=hr1 x _ k3 hac.get had.2 (Aw hn2);dsimp only at hch;cases hpc:p.rest x k3 with
    | bot=>exact absurd hpc hn2
    | fail k4=>
     rw[hpc] at hch;refine hch.mono ?_;rintro e H5 ⟨rfl,rfl⟩;simp(disch:=omega) only[go_sem,↓reduceIte];exact RAt.finP (hac.set k4) ⟨rfl,rfl⟩
    | ok y k4=>
     rw[hpc] at hch;refine hch.mono ?_;rintro e H5 ⟨rfl,hH5⟩;have ha5:RAt r l k4 H H5:=by rw[hH5];exact hac.set k4
     have g52:H5 r2=some (.cells [.int .u8 0, .nilSlice] 47):=by rw[hH5];exact Ag gc2 q2
     have hly:=Ah y;dsimp only[Res.then];simp(disch:=omega) only[go_sem,↓reduceIte,dE];rw[Cy hly];simp(disch:=omega) only[go_sem,↓reduceIte];intro r7 hr7;dsimp only at hr7;have n27:r2≠r7:=Ae hr7 g52;have m27:=n27.symm;simp(disch:=omega) only[go_sem,↓reduceIte,g52,n27,m27];have hat:=fun z=>(ha5.new hr7 (some (.cells (dEx y) 27))).own hr2 q2 z;refine Fc.fin (hat _) (Fc.agg (Fc.choice (m:= [y]) (hat _) (Fc.block (e:=27) (hat _) (Sub.lo ha5 hr7) ?_ ?_))) ⟨rfl,rfl⟩
     ·rw[List.flatMap_singleton];simp [upd,m27]
     ·rw[List.flatMap_singleton,hly]
end
end Go.Dl

-- Chapter 3: the package's reader: several (printed by gen_uq.py).
namespace Go.Dl
open Go Go.Proofs
set_option maxRecDepth 100000
section
variable {G:Nat->DVal} {H0 H H':Ac} {r k:Nat} {l:List Tok}
theorem Dj.move {H H':Ac} {e:TypeId} {size n:Nat} {cs:List DVal} {v:DVal} {r:Nat} {o:DObj} (h:Dj (upd H r (some o)) e size n cs v H') (y:Option DObj):Dj (upd H r y) e size n cs v (upd H' r y):=by
 have mv: ∀ {K:Ac},Sub (upd H r (some o)) K->Sub (upd H r y) (upd K r y):=fun s b ob hb=>by
  simp only[upd] at hb⊢
  by_cases c:b=r
  ·rw[if_pos c] at hb⊢;exact hb
  ·rw[if_neg c] at hb⊢
   exact s b ob (by simp only[upd];rw[if_neg c];exact hb)
 rcases h with⟨a,b,c,d⟩ | ⟨q,h1,h2,h3,h4,h5⟩
 ·exact .inl ⟨a,b,c,mv d⟩
 ·have hq:q≠r:=fun e=>by rw[e,Aa] at h1;cases h1
  exact .inr ⟨q,by rw[Ao _ _ _ _ hq] at h1⊢;exact h1,h2,h3,by rw[Ao _ _ _ _ hq];exact h4,mv h5⟩
theorem Od {x:List DVal} (hx:x.length=10):
  (if 10<=(Cx 1 [DVal.nilSlice,DVal.int .u8 0,DVal.int .u8 0,DVal.int .i64 0,DVal.str [],DVal.nilSlice,DVal.nilSlice,DVal.int .i64 0,DVal.int .i64 0,DVal.int .i64 0]).length then some (x++List.drop 10 (Cx 1 [DVal.nilSlice,DVal.int .u8 0,DVal.int .u8 0,DVal.int .i64 0,DVal.str [],DVal.nilSlice,DVal.nilSlice,DVal.int .i64 0,DVal.int .i64 0,DVal.int .i64 0])) else none)=some x:=by
 have e: ∀u:List DVal,Cx 1 u=u:=fun u=>by simp [Cx]
 rw[e,if_pos (by simp),List.drop_eq_nil_of_le (by simp),List.append_nil]
def Ah6 (H:Ac) (l:List As) (v:DVal) (H':Ac):Prop:=Dj H 44 10 l.length (l.flatMap dAs) v H'
set_option maxHeartbeats 4000000 in
theorem Ao8 (hG:GX G) (hl:l.length<=800000) (g:FuncId) (T:Nat->Nat->Res As) (L:Nat->List As->Nat->Res (List As)) (sep:List UInt8)
  (hL0: ∀x k,L 0 x k= .bot) (hL: ∀m x k,L (m+1) x k=if isW l k [sep] then(T m (k+1)).then fun a k=>L m (x++ [a]) k else .ok x k)
  (hT: ∀m k,k<=l.length->Adv l (k+1) (T m k)) (n:Nat) (hg: ∀m≤n,RdC Tryz.prog G l g r fun k=>(T m k).mp dA) (H:Ac) (k:Nat) (hr:H r=some (rdO l k)) (hk:k<=l.length) (hn:((T n k).then fun a k=>L n [a] k)≠ .bot):
  Ai Tryz.prog G 115 [.optr r 0, .str sep, .func (.func g) [.optr r 0] []] H (RdR r l H (((T n k).then fun a k=>L n [a] k).mp dAl)):=by
 refine Ad Tryz.func115 Tryz.call115 rfl (by kernel_rfl) ?_;simp(disch:=omega) only[go_sem,↓reduceIte];have hpk:=hg n (Nat.le_refl _) _ k hr hk;have had:=hT n k hk;dsimp only at hpk;cases hpr:T n k with
 | bot=>rw[hpr] at hn;exact absurd rfl hn
 | fail k3=>
  rw[hpr] at hpk;refine(hpk (Aw (by simp))).mono ?_;rintro e H3 ⟨rfl,rfl⟩;simp(disch:=omega) only[go_sem,↓reduceIte];exact Bt9.refl ⟨rfl,rfl⟩
 | ok a0 k3=>
  rw[hpr] at hpk hn had;refine(hpk (Aw (by simp))).mono ?_;rintro e H3 ⟨rfl,hH3⟩;dsimp only[Res.then,Adv] at hn had⊢
  have hla:=Bi a0;simp(disch:=omega) only[go_sem,↓reduceIte,dA];rw[Od hla];simp(disch:=omega) only[go_sem,↓reduceIte];intro r7 hr7;dsimp only at hr7;obtain⟨n',rfl⟩: ∃n',n=n'+1:=by
   cases n with
   | zero=>exact absurd (hL0 _ _) hn
   | succ n'=>exact⟨n',rfl⟩
  have hv0:Ah6 (upd H r (some (rdO l k3))) [a0] (.oslice 10 r7 0 1 1) (upd H3 r7 (some (.cells (dAs a0) 44))):=
   .inr ⟨r7,by rw[<-hH3];exact hr7,by rw[List.flatMap_singleton,hla];rfl,rfl,by rw[List.flatMap_singleton];exact Aa _ _ _,by rw[hH3] at hr7⊢;exact(Sub.refl _).new hr7 _⟩
  simp(disch:=omega) only[go_sem,↓reduceIte];obtain⟨I,hI⟩: ∃I:Nat×List As×Nat->(Nat->DVal)->Ac->Prop,∀s env heap,I s env heap↔(env 0= .optr r 0/\env 1= .str sep/\env 2= .func (.func g) [.optr r 0] []/\s.2.2<=l.length/\s.2.1.length<=s.2.2/\s.1<=n'/\L (s.1+1) s.2.1 s.2.2=L (n'+1) [a0] k3/\Ah6 (upd H r (some (rdO l s.2.2))) s.2.1 (env 7) heap):=⟨_,fun _ _ _=>Iff.rfl⟩;refine Bt4.run I (fun s=>s.1) (n',[a0],k3) ((hI _ _ _).2 ?_) ?_
  ·simp(disch:=omega) only[go_sem,↓reduceIte];(repeat' apply And.intro)<;>(try first | rfl | assumption | omega)
  ·rintro⟨m,xs,k1⟩ env heap hi';obtain⟨e0,e1,e2,hk1,hlen,hm,hLm,hv⟩:=(hI _ _ _).1 hi';dsimp only at hk1 hlen hm hLm hv;rw[hL] at hLm;obtain⟨v,e7⟩: ∃v,env 7=v:=⟨_,rfl⟩;rw[e7] at hv;have gr:heap r=some (rdO l k1):=Dj.keep hv (Aa _ _ _);simp(disch:=omega) only[go_sem,↓reduceIte,e0,e1,e2,e7];intro w1 hw1;dsimp only at hw1;simp(disch:=omega) only[go_sem,↓reduceIte,e0,e1,e2,e7];refine(Rv hG _ w1 sep hw1 gr (by omega) (by omega)).mono ?_;rintro _ H4 ⟨rfl,hH4⟩;by_cases c:isW l k1 [sep]=true
   ·rw[if_pos c] at hLm hH4;have hk4:=Am c hk1;rw[List.length_singleton] at hk4;have hv4:Ah6 (upd H r (some (rdO l (k1+1)))) xs v H4:=by rw[hH4];exact Dj.move hv _
    have gr4:H4 r=some (rdO l (k1+1)):=Dj.keep hv4 (Aa _ _ _);simp(disch:=omega) only[go_sem,↓reduceIte,e0,e1,e2,e7,c];have hp2:=hg m (by omega) _ (k1+1) gr4 hk4;have had2:=hT m (k1+1) hk4;dsimp only at hp2;cases hpr2:T m (k1+1) with
    | bot=>rw[hpr2] at hLm;exact absurd hLm.symm hn
    | fail k5=>
     rw[hpr2] at hp2 hLm;refine(hp2 (Aw (by simp))).mono ?_;rintro e H5 ⟨rfl,hH5⟩;have hv5:Ah6 (upd H r (some (rdO l k5))) xs v H5:=by rw[hH5];exact Dj.move hv4 _
     simp(disch:=omega) only[go_sem,↓reduceIte];rw[<-hLm];exact Bt9.sub (Dj.sub hv5) ⟨rfl,rfl⟩
    | ok a k5=>
     rw[hpr2] at hp2 hLm had2;dsimp only[Res.then,Adv] at hLm had2;refine(hp2 (Aw (by simp))).mono ?_;rintro e H5 ⟨rfl,hH5⟩;have hv5:Ah6 (upd H r (some (rdO l k5))) xs v H5:=by rw[hH5];exact Dj.move hv4 _
     have hla2:=Bi a;simp(disch:=omega) only[go_sem,↓reduceIte,e0,e1,e2,e7,dA];rw[Od hla2];simp(disch:=omega) only[go_sem,↓reduceIte,e0,e1,e2,e7];intro r8 hr8;dsimp only at hr8;simp(disch:=omega) only[go_sem,↓reduceIte,e0,e1,e2,e7];refine Dj.append (m:=1) (Dj.new hv5 hr8 _) (by rw[hla2]) (by omega) fun v2 H6 hv2=> ?_;simp(disch:=omega) only[go_sem,↓reduceIte,e0,e1,e2];obtain⟨m',rfl⟩: ∃m',m=m'+1:=by
      cases m with
      | zero=>rw[hL0] at hLm;exact absurd hLm.symm hn
      | succ m'=>exact⟨m',rfl⟩
     have hlen2:(xs++ [a]).length<=k5:=by rw[List.length_append,List.length_singleton];omega
     have hv3:Ah6 (upd H r (some (rdO l k5))) (xs++ [a]) v2 H6:=by
      unfold Ah6;rw[List.length_append,List.length_singleton,List.flatMap_append,List.flatMap_singleton];exact hv2
     refine⟨(m',xs++ [a],k5),_,Ni.refl _,(hI _ _ _).2 ?_,by dsimp only;omega⟩;simp(disch:=omega) only[go_sem,↓reduceIte,e0,e1,e2];(repeat' apply And.intro)<;>(try first | rfl | assumption | omega)
   ·have c':isW l k1 [sep]=false:=by simpa using c
    rw[if_neg c] at hLm hH4;rw[Be gr] at hH4;subst hH4;simp(disch:=omega) only[go_sem,↓reduceIte,e0,e1,e2,e7,c'];rw[<-hLm];exact Dj.fin hv ⟨rfl,rfl⟩
theorem He {x:List DVal} (hx:x.length=2):
  (if 2<=(Cx 1 [DVal.int .u8 0,DVal.nilSlice]).length then some (x++List.drop 2 (Cx 1 [DVal.int .u8 0,DVal.nilSlice])) else none)=some x:=by
 have e: ∀u:List DVal,Cx 1 u=u:=fun u=>by simp [Cx]
 rw[e,if_pos (by simp),List.drop_eq_nil_of_le (by simp),List.append_nil]
def Cg (H:Ac) (l:List Ch) (v:DVal) (H':Ac):Prop:=Dj H 47 2 l.length (l.flatMap dCh) v H'
set_option maxHeartbeats 4000000 in
theorem Cf6 (hG:GX G) (hl:l.length<=800000) (g:FuncId) (T:Nat->Nat->Res Ch) (L:Nat->List Ch->Nat->Res (List Ch)) (sep:List UInt8)
  (hL0: ∀x k,L 0 x k= .bot) (hL: ∀m x k,L (m+1) x k=if isW l k [sep] then(T m (k+1)).then fun a k=>L m (x++ [a]) k else .ok x k)
  (hT: ∀m k,k<=l.length->Adv l (k+1) (T m k)) (n:Nat) (hg: ∀m≤n,RdC Tryz.prog G l g r fun k=>(T m k).mp dC) (H:Ac) (k:Nat) (hr:H r=some (rdO l k)) (hk:k<=l.length) (hn:((T n k).then fun a k=>L n [a] k)≠ .bot):
  Ai Tryz.prog G 119 [.optr r 0, .str sep, .func (.func g) [.optr r 0] []] H (RdR r l H (((T n k).then fun a k=>L n [a] k).mp dCl)):=by
 refine Ad Tryz.func119 Tryz.call119 rfl (by kernel_rfl) ?_;simp(disch:=omega) only[go_sem,↓reduceIte];have hpk:=hg n (Nat.le_refl _) _ k hr hk;have had:=hT n k hk;dsimp only at hpk;cases hpr:T n k with
 | bot=>rw[hpr] at hn;exact absurd rfl hn
 | fail k3=>
  rw[hpr] at hpk;refine(hpk (Aw (by simp))).mono ?_;rintro e H3 ⟨rfl,rfl⟩;simp(disch:=omega) only[go_sem,↓reduceIte];exact Bt9.refl ⟨rfl,rfl⟩
 | ok a0 k3=>
  rw[hpr] at hpk hn had;refine(hpk (Aw (by simp))).mono ?_;rintro e H3 ⟨rfl,hH3⟩;dsimp only[Res.then,Adv] at hn had⊢
  have hla:=Bd a0;simp(disch:=omega) only[go_sem,↓reduceIte,dC];rw[He hla];simp(disch:=omega) only[go_sem,↓reduceIte];intro r7 hr7;dsimp only at hr7;obtain⟨n',rfl⟩: ∃n',n=n'+1:=by
   cases n with
   | zero=>exact absurd (hL0 _ _) hn
   | succ n'=>exact⟨n',rfl⟩
  have hv0:Cg (upd H r (some (rdO l k3))) [a0] (.oslice 2 r7 0 1 1) (upd H3 r7 (some (.cells (dCh a0) 47))):=
   .inr ⟨r7,by rw[<-hH3];exact hr7,by rw[List.flatMap_singleton,hla];rfl,rfl,by rw[List.flatMap_singleton];exact Aa _ _ _,by rw[hH3] at hr7⊢;exact(Sub.refl _).new hr7 _⟩
  simp(disch:=omega) only[go_sem,↓reduceIte];obtain⟨I,hI⟩: ∃I:Nat×List Ch×Nat->(Nat->DVal)->Ac->Prop,∀s env heap,I s env heap↔(env 0= .optr r 0/\env 1= .str sep/\env 2= .func (.func g) [.optr r 0] []/\s.2.2<=l.length/\s.2.1.length<=s.2.2/\s.1<=n'/\L (s.1+1) s.2.1 s.2.2=L (n'+1) [a0] k3/\Cg (upd H r (some (rdO l s.2.2))) s.2.1 (env 7) heap):=⟨_,fun _ _ _=>Iff.rfl⟩;refine Bt4.run I (fun s=>s.1) (n',[a0],k3) ((hI _ _ _).2 ?_) ?_
  ·simp(disch:=omega) only[go_sem,↓reduceIte];(repeat' apply And.intro)<;>(try first | rfl | assumption | omega)
  ·rintro⟨m,xs,k1⟩ env heap hi';obtain⟨e0,e1,e2,hk1,hlen,hm,hLm,hv⟩:=(hI _ _ _).1 hi';dsimp only at hk1 hlen hm hLm hv;rw[hL] at hLm;obtain⟨v,e7⟩: ∃v,env 7=v:=⟨_,rfl⟩;rw[e7] at hv;have gr:heap r=some (rdO l k1):=Dj.keep hv (Aa _ _ _);simp(disch:=omega) only[go_sem,↓reduceIte,e0,e1,e2,e7];intro w1 hw1;dsimp only at hw1;simp(disch:=omega) only[go_sem,↓reduceIte,e0,e1,e2,e7];refine(Rv hG _ w1 sep hw1 gr (by omega) (by omega)).mono ?_;rintro _ H4 ⟨rfl,hH4⟩;by_cases c:isW l k1 [sep]=true
   ·rw[if_pos c] at hLm hH4;have hk4:=Am c hk1;rw[List.length_singleton] at hk4;have hv4:Cg (upd H r (some (rdO l (k1+1)))) xs v H4:=by rw[hH4];exact Dj.move hv _
    have gr4:H4 r=some (rdO l (k1+1)):=Dj.keep hv4 (Aa _ _ _);simp(disch:=omega) only[go_sem,↓reduceIte,e0,e1,e2,e7,c];have hp2:=hg m (by omega) _ (k1+1) gr4 hk4;have had2:=hT m (k1+1) hk4;dsimp only at hp2;cases hpr2:T m (k1+1) with
    | bot=>rw[hpr2] at hLm;exact absurd hLm.symm hn
    | fail k5=>
     rw[hpr2] at hp2 hLm;refine(hp2 (Aw (by simp))).mono ?_;rintro e H5 ⟨rfl,hH5⟩;have hv5:Cg (upd H r (some (rdO l k5))) xs v H5:=by rw[hH5];exact Dj.move hv4 _
     simp(disch:=omega) only[go_sem,↓reduceIte];rw[<-hLm];exact Bt9.sub (Dj.sub hv5) ⟨rfl,rfl⟩
    | ok a k5=>
     rw[hpr2] at hp2 hLm had2;dsimp only[Res.then,Adv] at hLm had2;refine(hp2 (Aw (by simp))).mono ?_;rintro e H5 ⟨rfl,hH5⟩;have hv5:Cg (upd H r (some (rdO l k5))) xs v H5:=by rw[hH5];exact Dj.move hv4 _
     have hla2:=Bd a;simp(disch:=omega) only[go_sem,↓reduceIte,e0,e1,e2,e7,dC];rw[He hla2];simp(disch:=omega) only[go_sem,↓reduceIte,e0,e1,e2,e7];intro r8 hr8;dsimp only at hr8;simp(disch:=omega) only[go_sem,↓reduceIte,e0,e1,e2,e7];refine Dj.append (m:=1) (Dj.new hv5 hr8 _) (by rw[hla2]) (by omega) fun v2 H6 hv2=> ?_;simp(disch:=omega) only[go_sem,↓reduceIte,e0,e1,e2];obtain⟨m',rfl⟩: ∃m',m=m'+1:=by
      cases m with
      | zero=>rw[hL0] at hLm;exact absurd hLm.symm hn
      | succ m'=>exact⟨m',rfl⟩
     have hlen2:(xs++ [a]).length<=k5:=by rw[List.length_append,List.length_singleton];omega
     have hv3:Cg (upd H r (some (rdO l k5))) (xs++ [a]) v2 H6:=by
      unfold Cg;rw[List.length_append,List.length_singleton,List.flatMap_append,List.flatMap_singleton];exact hv2
     refine⟨(m',xs++ [a],k5),_,Ni.refl _,(hI _ _ _).2 ?_,by dsimp only;omega⟩;simp(disch:=omega) only[go_sem,↓reduceIte,e0,e1,e2];(repeat' apply And.intro)<;>(try first | rfl | assumption | omega)
   ·have c':isW l k1 [sep]=false:=by simpa using c
    rw[if_neg c] at hLm hH4;rw[Be gr] at hH4;subst hH4;simp(disch:=omega) only[go_sem,↓reduceIte,e0,e1,e2,e7,c'];rw[<-hLm];exact Dj.fin hv ⟨rfl,rfl⟩
theorem Ao9 (hG:GX G) (hl:l.length<=800000) (n:Nat) (hg: ∀m≤n,RdC Tryz.prog G l 116 r fun k=>((P l m).arg k).mp dA):RdC Tryz.prog G l 66 r fun k=>(((P l n).arg k).then fun a k=>(P l n).argsL [a] k).mp dAl:=by
 intro H k hr hk hn;refine Ad Tryz.func66 Tryz.call66 rfl (by kernel_rfl) ?_;simp(disch:=omega) only[go_sem,↓reduceIte];have hs:=Ao8 hG hl 116 (fun m=>(P l m).arg) (fun m=>(P l m).argsL) Gn (fun _ _=>rfl) (fun _ _ _=>rfl) (fun m k hk=>(Bn m).arg k hk) n hg H k hr hk (fun h=>hn (by dsimp only;rw[h];rfl));refine hs.mono ?_;intro e H' h;dsimp only at hn⊢
 cases hc:(((P l n).arg k).then fun a k=>(P l n).argsL [a] k) with
 | bot=>rw[hc] at h;exact h.elim
 | fail k3=>
  rw[hc] at h;obtain⟨rfl,rfl⟩:=h;simp(disch:=omega) only[go_sem,↓reduceIte];exact Bt9.refl ⟨rfl,rfl⟩
 | ok x k3=>
  rw[hc] at h;obtain⟨rfl,rfl⟩:=h;simp(disch:=omega) only[go_sem,↓reduceIte];exact Nu.refl ⟨rfl,rfl⟩
theorem Au8 (hG:GX G) (hl:l.length<=800000) (n:Nat) (hg: ∀m≤n,RdC Tryz.prog G l 120 r fun k=>((P l m).choice k).mp dC):RdC Tryz.prog G l 70 r fun k=>(((P l n).choice k).then fun a k=>(P l n).choicesL [a] k).mp dCl:=by
 intro H k hr hk hn;refine Ad Tryz.func70 Tryz.call70 rfl (by kernel_rfl) ?_;simp(disch:=omega) only[go_sem,↓reduceIte];have hs:=Cf6 hG hl 120 (fun m=>(P l m).choice) (fun m=>(P l m).choicesL) Dk (fun _ _=>rfl) (fun _ _ _=>rfl) (fun m k hk=>Cs ((Bn m).choice k hk) (Nat.le_refl _)) n hg H k hr hk (fun h=>hn (by dsimp only;rw[h];rfl));refine hs.mono ?_;intro e H' h;dsimp only at hn⊢
 cases hc:(((P l n).choice k).then fun a k=>(P l n).choicesL [a] k) with
 | bot=>rw[hc] at h;exact h.elim
 | fail k3=>
  rw[hc] at h;obtain⟨rfl,rfl⟩:=h;simp(disch:=omega) only[go_sem,↓reduceIte];exact Bt9.refl ⟨rfl,rfl⟩
 | ok x k3=>
  rw[hc] at h;obtain⟨rfl,rfl⟩:=h;simp(disch:=omega) only[go_sem,↓reduceIte];exact Nu.refl ⟨rfl,rfl⟩
end
end Go.Dl

-- Chapter 3: the package's reader: arguments.
namespace Go.Dl
open Go Go.Proofs
set_option maxRecDepth 100000
section
variable {G:Nat->DVal} {H0 H H':Ac} {r k:Nat} {l:List Tok}
theorem Dp7 (hG:GX G) (H:Ac) (q:Nat) (s:List UInt8) (hq:H q=some (.cells [.str s] 9)) (hr:H r=some (rdO l k)) (hrq:r≠q) (hl:l.length<=1000000) (hk:k<=900000):Ai Tryz.prog G 84 [.optr r 0, .oslice 1 q 0 1 1] H (Au (.bool (isW l k [s])) (upd H q none)):=by
 refine Ai.fzArgs q hq ?_;simp only[fzs,fz,if_neg hrq,if_pos];exact Vd hG _ [s] (by rw[Ao _ _ _ _ hrq];exact hr) hl hk (by simp)
theorem Fc.assoc {v:DVal} {c:List Ch} {e:Ex} (hs:Sub H H') (h:Fc H' v H (dCl c)):Ek H' (v::dEx e) H (dAs (.mk c e)):=by
 rw[Sy];exact .cons h (.keep hs _)
set_option maxHeartbeats 4000000 in
theorem Al4 (hG:GX G) (hl:l.length<=800000) (p:PS) (hpa:RdC Tryz.prog G l 29 r fun k=>(p.expr k).mp dE):RdC Tryz.prog G l 116 r fun k=>((Ba l p).arg k).mp dA:=by
 intro H k hr hk hn;dsimp only[Ba] at hn⊢
 obtain⟨t,ht⟩: ∃t,t=tk l k:=⟨_,rfl⟩;rw[<-ht] at hn⊢
 have hw1:IntKind.i64.wrap ((k:Int)+1)=((k+1:Nat):Int):=by rw[IntKind.wrap_i64];omega
 have hw2:IntKind.i64.wrap ((k:Int)+2)=((k+2:Nat):Int):=by rw[IntKind.wrap_i64];omega
 refine Ad Tryz.func116 Tryz.call116 rfl (by kernel_rfl) ?_;simp(disch:=omega) only[go_sem,↓reduceIte];intro r2 hr2;dsimp only at hr2;obtain⟨Ha,hHa⟩: ∃K,K=upd H r2 (some (.cells [.nilSlice, .int .u8 0, .int .u8 0, .int .i64 0, .str [], .nilSlice, .nilSlice, .int .i64 0, .int .i64 0, .int .i64 0] 44)):=⟨_,rfl⟩;rw[<-hHa];have gr2:Ha r2=some (.cells [.nilSlice, .int .u8 0, .int .u8 0, .int .i64 0, .str [], .nilSlice, .nilSlice, .int .i64 0, .int .i64 0, .int .i64 0] 44):=by rw[hHa];exact Aa _ _ _
 have n2:r≠r2:=Ae hr2 hr;have q2:=n2.symm;have ha:RAt r l k H Ha:=by rw[hHa];exact(RAt.refl hr).new hr2 _
 simp(disch:=omega) only[go_sem,↓reduceIte];refine(Ra G _ ha.get (by omega) (by omega)).mono ?_;rintro _ H1 ⟨rfl,rfl⟩;rw[<-ht];simp(disch:=omega) only[go_sem,↓reduceIte];intro r3 hr3;dsimp only at hr3;have n23:r2≠r3:=Ae hr3 gr2;have m23:=n23.symm;have n3:r≠r3:=Ae hr3 ha.get;have q3:=n3.symm;simp(disch:=omega) only[go_sem,↓reduceIte,Ec];obtain⟨Hc,hHc⟩: ∃K,K=upd H1 r3 (some (.cells [.int .u8 t.kind,dI t.line, .str t.text,dI t.n] 31)):=⟨_,rfl⟩;rw[<-hHc];have hac:RAt r l k H Hc:=by rw[hHc];exact ha.new hr3 _
 have gc2:Hc r2=some (.cells [.nilSlice, .int .u8 0, .int .u8 0, .int .i64 0, .str [], .nilSlice, .nilSlice, .int .i64 0, .int .i64 0, .int .i64 0] 44):=by rw[hHc];exact Ag gr2 n23
 have gc3:Hc r3=some (.cells [.int .u8 t.kind,dI t.line, .str t.text,dI t.n] 31):=by rw[hHc];exact Aa _ _ _
 have gcr:=hac.get;unfold rdO at gcr;by_cases c:t.kind=1
 ·refine Aj (by kernel_rfl) (.take 0 (.take 1 (.take 2 (.take 3 (.take 4 (.take 5 (.take 6 (.take 7 (.take 8 (.take 9 (.take 10 (.take 11 (.take 12 (.take 13 (.alt (.go 15 [11,7] (.go 14 [] (.go 16 [] (.take 17 .done)))) (.go 14 [] (.go 15 [11,7] (.go 16 [] (.take 17 .done))))))))))))))))))) (by kernel_rfl) ?_;have hdc:(Cc l).cells= [Cc l]:=rfl;simp(disch:=omega) only[go_sem,↓reduceIte,gc3,c,gcr,hw1,hdc];have hk1:k+1<=l.length:=Jj (by rw[<-ht,c];decide);refine⟨?_,?_⟩
  ·intro w1 hw;dsimp only at hw;have nr1:r≠w1:=Ae hw hac.get;simp(disch:=omega) only[go_sem,↓reduceIte,nr1];intro r20 h20;dsimp only at h20;obtain⟨m1,m2,h20'⟩:=De7.1 h20;have nr20:r≠r20:=Ae h20' hac.get;simp(disch:=omega) only[go_sem,↓reduceIte,nr1,nr20,m1,m2];refine(Dp7 hG _ w1 Ap (r:=r20) (k:=k+1) (by rw[Ao _ _ _ _ m2];exact Aa _ _ _) (Aa _ _ _) m1 (by omega) (by omega)).mono ?_;rintro _ H5 ⟨rfl,hH5⟩;have n52:r2≠w1:=Ae hw gc2;have n53:r3≠w1:=Ae hw gc3;have n62:r2≠r20:=Ae h20' gc2;have n63:r3≠r20:=Ae h20' gc3;have g52:H5 r2=some (.cells [.nilSlice, .int .u8 0, .int .u8 0, .int .i64 0, .str [], .nilSlice, .nilSlice, .int .i64 0, .int .i64 0, .int .i64 0] 44):=by rw[hH5,Ao _ _ _ _ n52];exact Ag (Ag gc2 n52) n62
   have g53:H5 r3=some (.cells [.int .u8 t.kind,dI t.line, .str t.text,dI t.n] 31):=by rw[hH5,Ao _ _ _ _ n53];exact Ag (Ag gc3 n53) n63
   have ha5:RAt r l k H H5:=by rw[hH5];exact((hac.new hw (some (.cells [.str Ap] 9))).new h20 (some (rdO l (k+1)))).own (hac.lo hw) nr1.symm none
   have gr5:=ha5.get;unfold rdO at gr5;by_cases c2:isW l (k+1) [Ap]=true
   ·rw[if_pos ⟨c,c2⟩] at hn;rw[if_pos c2];have hk2:=Am c2 hk1;rw[List.length_singleton] at hk2;simp(disch:=omega) only[go_sem,↓reduceIte,c2,gr5,hw2,q3,g53];obtain⟨H6,hH6⟩: ∃H6,H6=upd H5 r (some (rdO l (k+2))):=⟨_,rfl⟩;have hH6':=hH6;unfold rdO at hH6';rw[<-hH6'];have ha6:RAt r l (k+2) H H6:=by rw[hH6];exact ha5.set _
    have g62:H6 r2=some (.cells [.nilSlice, .int .u8 0, .int .u8 0, .int .i64 0, .str [], .nilSlice, .nilSlice, .int .i64 0, .int .i64 0, .int .i64 0] 44):=by rw[hH6];exact Ag g52 q2
    have g63:H6 r3=some (.cells [.int .u8 t.kind,dI t.line, .str t.text,dI t.n] 31):=by rw[hH6];exact Ag g53 q3
    intro r36 h36;dsimp only at h36;have p236:r2≠r36:=Ae h36 g62;have z236:=p236.symm;have pr36:r≠r36:=Ae h36 ha6.get;simp(disch:=omega) only[go_sem,↓reduceIte];intro r38 h38;dsimp only at h38;obtain⟨a1,a2,h38'⟩:=De7.1 h38;have p238:r2≠r38:=Ae h38' g62;have z238:=p238.symm;have pr38:r≠r38:=Ae h38' ha6.get;simp(disch:=omega) only[go_sem,↓reduceIte,p236,p238,g62];obtain⟨H7,hH7⟩: ∃H7,H7=upd (upd (upd H6 r36 (some (.cells [.int .u8 3, .int .u8 0, .int .i64 0, .str t.text, .nilSlice, .nilSlice, .int .i64 t.line, .int .i64 0, .int .i64 0] 27))) r38 (some (.cells [.int .u8 1, .oslice 9 r36 0 1 1] 47))) r2 (some (.cells [.oslice 2 r38 0 1 1, .int .u8 0, .int .u8 0, .int .i64 0, .str [], .nilSlice, .nilSlice, .int .i64 0, .int .i64 0, .int .i64 0] 44)):=⟨_,rfl⟩;rw[show List.drop 9 (Cx 1 [DVal.int .u8 0,DVal.int .u8 0,DVal.int .i64 0,DVal.str [],DVal.nilSlice,DVal.nilSlice,DVal.int .i64 0,DVal.int .i64 0,DVal.int .i64 0])= [] from rfl,show List.drop 2 (Cx 1 [DVal.int .u8 0,DVal.nilSlice])= [] from rfl,<-hH7];have ha7:RAt r l (k+2) H H7:=by rw[hH7];exact((ha6.new h36 _).new h38 _).own hr2 q2 _
    have g736:H7 r36=some (.cells [.int .u8 3, .int .u8 0, .int .i64 0, .str t.text, .nilSlice, .nilSlice, .int .i64 t.line, .int .i64 0, .int .i64 0] 27):=by rw[hH7];simp [upd,z236,a1,a2]
    have g738:H7 r38=some (.cells [.int .u8 1, .oslice 9 r36 0 1 1] 47):=by rw[hH7];simp [upd,z238]
    have g72:H7 r2=some (.cells [.oslice 2 r38 0 1 1, .int .u8 0, .int .u8 0, .int .i64 0, .str [], .nilSlice, .nilSlice, .int .i64 0, .int .i64 0, .int .i64 0] 44):=by rw[hH7];exact Aa _ _ _
    have hpk:=hpa _ (k+2) ha7.get (by omega);dsimp only at hpk;cases hpr:p.expr (k+2) with
    | bot=>rw[hpr] at hn;exact absurd rfl hn
    | fail k3=>
     rw[hpr] at hpk;refine(hpk (Aw (by simp))).mono ?_;rintro e H4 ⟨rfl,rfl⟩;simp(disch:=omega) only[go_sem,↓reduceIte];exact RAt.finP (ha7.set k3) ⟨rfl,rfl⟩
    | ok y k3=>
     rw[hpr] at hpk;refine(hpk (Aw (by simp))).mono ?_;rintro e H4 ⟨rfl,hH4⟩;have ha4:RAt r l k3 H H4:=by rw[hH4];exact ha7.set k3
     have g42:=Ag (y:=some (rdO l k3)) g72 q2;have g436:=Ag (y:=some (rdO l k3)) g736 pr36.symm;have g438:=Ag (y:=some (rdO l k3)) g738 pr38.symm;rw[<-hH4] at g42 g436 g438;have hly:=Ah y;have hoy:=Al y;dsimp only[Res.then];simp(disch:=omega) only[go_sem,↓reduceIte,dE,g42,hly,hoy];have hat:=fun z=>ha4.own hr2 q2 z;refine Fc.fin (hat _) (Fc.agg (Fc.assoc (c:= [.mk 1 [.mk 3 0 0 t.text [] [] t.line 0 0]]) (hat _) (Fc.cells (e:=47) (cs':= [Ch.mk 1 [.mk 3 0 0 t.text [] [] t.line 0 0]].flatMap dCh) (hat _) ?_ (Ag g438 z238) rfl ?_))) ⟨rfl,rfl⟩
     ·rw[Ao _ _ _ _ pr38.symm];exact ha6.lo h38'
     ·rw[List.flatMap_singleton];refine Fc.choice (m:= [.mk 3 0 0 t.text [] [] t.line 0 0]) (hat _) (Fc.cells (e:=27) (cs':= [Ex.mk 3 0 0 t.text [] [] t.line 0 0].flatMap dEx) (hat _) ?_ (Ag g436 z236) rfl ?_)
      ·rw[Ao _ _ _ _ pr36.symm];exact ha6.lo h36
      ·rw[List.flatMap_singleton];exact Fc.ex (hat _) (.exs0 (hat _)) (.as0 (hat _))
   ·have c2':isW l (k+1) [Ap]=false:=by simpa using c2
    rw[if_neg (fun h=>c2 h.2)] at hn;rw[if_neg c2];simp(disch:=omega) only[go_sem,↓reduceIte,c2'];have hpk:=hpa _ k ha5.get hk;dsimp only at hpk;cases hpr:p.expr k with
    | bot=>rw[hpr] at hn;exact absurd rfl hn
    | fail k3=>
     rw[hpr] at hpk;refine(hpk (Aw (by simp))).mono ?_;rintro e H4 ⟨rfl,rfl⟩;simp(disch:=omega) only[go_sem,↓reduceIte];exact RAt.finP (ha5.set k3) ⟨rfl,rfl⟩
    | ok y k3=>
     rw[hpr] at hpk;refine(hpk (Aw (by simp))).mono ?_;rintro e H4 ⟨rfl,hH4⟩;have ha4:RAt r l k3 H H4:=by rw[hH4];exact ha5.set k3
     have g4:H4 r2=some (.cells [.nilSlice, .int .u8 0, .int .u8 0, .int .i64 0, .str [], .nilSlice, .nilSlice, .int .i64 0, .int .i64 0, .int .i64 0] 44):=by rw[hH4];exact Ag g52 q2
     have hly:=Ah y;have hoy:=Al y;dsimp only[Res.then];simp(disch:=omega) only[go_sem,↓reduceIte,dE,g4,hly,hoy];have hat:=fun z=>ha4.own hr2 q2 z;exact Fc.fin (hat _) (Fc.agg (Fc.assoc (c:= []) (hat _) (.ch0 (hat _)))) ⟨rfl,rfl⟩
  ·intro r20 h20;dsimp only at h20;have nr20:r≠r20:=Ae h20 hac.get;simp(disch:=omega) only[go_sem,↓reduceIte,nr20];intro w1 hwq;dsimp only at hwq;obtain⟨m1,m2,hw⟩:=De7.1 hwq;have nr1:r≠w1:=Ae hw hac.get;simp(disch:=omega) only[go_sem,↓reduceIte,nr1,nr20,m1,m2];refine(Dp7 hG _ w1 Ap (r:=r20) (k:=k+1) (Aa _ _ _) (by rw[Ao _ _ _ _ m2];exact Aa _ _ _) m2 (by omega) (by omega)).mono ?_;rintro _ H5 ⟨rfl,hH5⟩;have n52:r2≠w1:=Ae hw gc2;have n53:r3≠w1:=Ae hw gc3;have n62:r2≠r20:=Ae h20 gc2;have n63:r3≠r20:=Ae h20 gc3;have g52:H5 r2=some (.cells [.nilSlice, .int .u8 0, .int .u8 0, .int .i64 0, .str [], .nilSlice, .nilSlice, .int .i64 0, .int .i64 0, .int .i64 0] 44):=by rw[hH5,Ao _ _ _ _ n52];exact Ag (Ag gc2 n62) n52
   have g53:H5 r3=some (.cells [.int .u8 t.kind,dI t.line, .str t.text,dI t.n] 31):=by rw[hH5,Ao _ _ _ _ n53];exact Ag (Ag gc3 n63) n53
   have ha5:RAt r l k H H5:=by rw[hH5];exact((hac.new h20 (some (rdO l (k+1)))).new hwq (some (.cells [.str Ap] 9))).own (hac.lo hw) nr1.symm none
   have gr5:=ha5.get;unfold rdO at gr5;by_cases c2:isW l (k+1) [Ap]=true
   ·rw[if_pos ⟨c,c2⟩] at hn;rw[if_pos c2];have hk2:=Am c2 hk1;rw[List.length_singleton] at hk2;simp(disch:=omega) only[go_sem,↓reduceIte,c2,gr5,hw2,q3,g53];obtain⟨H6,hH6⟩: ∃H6,H6=upd H5 r (some (rdO l (k+2))):=⟨_,rfl⟩;have hH6':=hH6;unfold rdO at hH6';rw[<-hH6'];have ha6:RAt r l (k+2) H H6:=by rw[hH6];exact ha5.set _
    have g62:H6 r2=some (.cells [.nilSlice, .int .u8 0, .int .u8 0, .int .i64 0, .str [], .nilSlice, .nilSlice, .int .i64 0, .int .i64 0, .int .i64 0] 44):=by rw[hH6];exact Ag g52 q2
    have g63:H6 r3=some (.cells [.int .u8 t.kind,dI t.line, .str t.text,dI t.n] 31):=by rw[hH6];exact Ag g53 q3
    intro r36 h36;dsimp only at h36;have p236:r2≠r36:=Ae h36 g62;have z236:=p236.symm;have pr36:r≠r36:=Ae h36 ha6.get;simp(disch:=omega) only[go_sem,↓reduceIte];intro r38 h38;dsimp only at h38;obtain⟨a1,a2,h38'⟩:=De7.1 h38;have p238:r2≠r38:=Ae h38' g62;have z238:=p238.symm;have pr38:r≠r38:=Ae h38' ha6.get;simp(disch:=omega) only[go_sem,↓reduceIte,p236,p238,g62];obtain⟨H7,hH7⟩: ∃H7,H7=upd (upd (upd H6 r36 (some (.cells [.int .u8 3, .int .u8 0, .int .i64 0, .str t.text, .nilSlice, .nilSlice, .int .i64 t.line, .int .i64 0, .int .i64 0] 27))) r38 (some (.cells [.int .u8 1, .oslice 9 r36 0 1 1] 47))) r2 (some (.cells [.oslice 2 r38 0 1 1, .int .u8 0, .int .u8 0, .int .i64 0, .str [], .nilSlice, .nilSlice, .int .i64 0, .int .i64 0, .int .i64 0] 44)):=⟨_,rfl⟩;rw[show List.drop 9 (Cx 1 [DVal.int .u8 0,DVal.int .u8 0,DVal.int .i64 0,DVal.str [],DVal.nilSlice,DVal.nilSlice,DVal.int .i64 0,DVal.int .i64 0,DVal.int .i64 0])= [] from rfl,show List.drop 2 (Cx 1 [DVal.int .u8 0,DVal.nilSlice])= [] from rfl,<-hH7];have ha7:RAt r l (k+2) H H7:=by rw[hH7];exact((ha6.new h36 _).new h38 _).own hr2 q2 _
    have g736:H7 r36=some (.cells [.int .u8 3, .int .u8 0, .int .i64 0, .str t.text, .nilSlice, .nilSlice, .int .i64 t.line, .int .i64 0, .int .i64 0] 27):=by rw[hH7];simp [upd,z236,a1,a2]
    have g738:H7 r38=some (.cells [.int .u8 1, .oslice 9 r36 0 1 1] 47):=by rw[hH7];simp [upd,z238]
    have g72:H7 r2=some (.cells [.oslice 2 r38 0 1 1, .int .u8 0, .int .u8 0, .int .i64 0, .str [], .nilSlice, .nilSlice, .int .i64 0, .int .i64 0, .int .i64 0] 44):=by rw[hH7];exact Aa _ _ _
    have hpk:=hpa _ (k+2) ha7.get (by omega);dsimp only at hpk;cases hpr:p.expr (k+2) with
    | bot=>rw[hpr] at hn;exact absurd rfl hn
    | fail k3=>
     rw[hpr] at hpk;refine(hpk (Aw (by simp))).mono ?_;rintro e H4 ⟨rfl,rfl⟩;simp(disch:=omega) only[go_sem,↓reduceIte];exact RAt.finP (ha7.set k3) ⟨rfl,rfl⟩
    | ok y k3=>
     rw[hpr] at hpk;refine(hpk (Aw (by simp))).mono ?_;rintro e H4 ⟨rfl,hH4⟩;have ha4:RAt r l k3 H H4:=by rw[hH4];exact ha7.set k3
     have g42:=Ag (y:=some (rdO l k3)) g72 q2;have g436:=Ag (y:=some (rdO l k3)) g736 pr36.symm;have g438:=Ag (y:=some (rdO l k3)) g738 pr38.symm;rw[<-hH4] at g42 g436 g438;have hly:=Ah y;have hoy:=Al y;dsimp only[Res.then];simp(disch:=omega) only[go_sem,↓reduceIte,dE,g42,hly,hoy];have hat:=fun z=>ha4.own hr2 q2 z;refine Fc.fin (hat _) (Fc.agg (Fc.assoc (c:= [.mk 1 [.mk 3 0 0 t.text [] [] t.line 0 0]]) (hat _) (Fc.cells (e:=47) (cs':= [Ch.mk 1 [.mk 3 0 0 t.text [] [] t.line 0 0]].flatMap dCh) (hat _) ?_ (Ag g438 z238) rfl ?_))) ⟨rfl,rfl⟩
     ·rw[Ao _ _ _ _ pr38.symm];exact ha6.lo h38'
     ·rw[List.flatMap_singleton];refine Fc.choice (m:= [.mk 3 0 0 t.text [] [] t.line 0 0]) (hat _) (Fc.cells (e:=27) (cs':= [Ex.mk 3 0 0 t.text [] [] t.line 0 0].flatMap dEx) (hat _) ?_ (Ag g436 z236) rfl ?_)
      ·rw[Ao _ _ _ _ pr36.symm];exact ha6.lo h36
      ·rw[List.flatMap_singleton];exact Fc.ex (hat _) (.exs0 (hat _)) (.as0 (hat _))
   ·have c2':isW l (k+1) [Ap]=false:=by simpa using c2
    rw[if_neg (fun h=>c2 h.2)] at hn;rw[if_neg c2];simp(disch:=omega) only[go_sem,↓reduceIte,c2'];have hpk:=hpa _ k ha5.get hk;dsimp only at hpk;cases hpr:p.expr k with
    | bot=>rw[hpr] at hn;exact absurd rfl hn
    | fail k3=>
     rw[hpr] at hpk;refine(hpk (Aw (by simp))).mono ?_;rintro e H4 ⟨rfl,rfl⟩;simp(disch:=omega) only[go_sem,↓reduceIte];exact RAt.finP (ha5.set k3) ⟨rfl,rfl⟩
    | ok y k3=>
     rw[hpr] at hpk;refine(hpk (Aw (by simp))).mono ?_;rintro e H4 ⟨rfl,hH4⟩;have ha4:RAt r l k3 H H4:=by rw[hH4];exact ha5.set k3
     have g4:H4 r2=some (.cells [.nilSlice, .int .u8 0, .int .u8 0, .int .i64 0, .str [], .nilSlice, .nilSlice, .int .i64 0, .int .i64 0, .int .i64 0] 44):=by rw[hH4];exact Ag g52 q2
     have hly:=Ah y;have hoy:=Al y;dsimp only[Res.then];simp(disch:=omega) only[go_sem,↓reduceIte,dE,g4,hly,hoy];have hat:=fun z=>ha4.own hr2 q2 z;exact Fc.fin (hat _) (Fc.agg (Fc.assoc (c:= []) (hat _) (.ch0 (hat _)))) ⟨rfl,rfl⟩
 ·rw[if_neg (fun h=>c h.1)] at hn⊢
  refine Aj (by kernel_rfl) (.take 0 (.take 1 (.take 2 (.take 3 (.take 4 (.take 5 (.take 6 (.take 7 (.take 8 (.take 9 (.take 10 (.take 11 (.take 12 (.take 13 (.alt (.go 15 [11,7] (.go 14 [] (.go 16 [] (.take 17 .done)))) (.go 14 [] (.go 15 [11,7] (.go 16 [] (.take 17 .done))))))))))))))))))) (by kernel_rfl) ?_;simp(disch:=omega) only[go_sem,↓reduceIte,gc3,c];refine⟨⟨⟨Fz,Fz⟩,?_⟩,⟨Fz,Fz⟩,?_⟩;all_goals
   have hpk:=hpa _ k hac.get hk;dsimp only at hpk;cases hpr:p.expr k with
   | bot=>rw[hpr] at hn;exact absurd rfl hn
   | fail k3=>
    rw[hpr] at hpk;refine(hpk (Aw (by simp))).mono ?_;rintro e H4 ⟨rfl,rfl⟩;simp(disch:=omega) only[go_sem,↓reduceIte];exact RAt.finP (hac.set k3) ⟨rfl,rfl⟩
   | ok y k3=>
    rw[hpr] at hpk;refine(hpk (Aw (by simp))).mono ?_;rintro e H4 ⟨rfl,hH4⟩;have ha4:RAt r l k3 H H4:=by rw[hH4];exact hac.set k3
    have g4:H4 r2=some (.cells [.nilSlice, .int .u8 0, .int .u8 0, .int .i64 0, .str [], .nilSlice, .nilSlice, .int .i64 0, .int .i64 0, .int .i64 0] 44):=by rw[hH4];exact Ag gc2 q2
    have hly:=Ah y;have hoy:=Al y;dsimp only[Res.then];simp(disch:=omega) only[go_sem,↓reduceIte,dE,g4,hly,hoy];have hat:=fun z=>ha4.own hr2 q2 z;exact Fc.fin (hat _) (Fc.agg (Fc.assoc (c:= []) (hat _) (.ch0 (hat _)))) ⟨rfl,rfl⟩
end
end Go.Dl

-- Chapter 3: the package's reader: associations.
namespace Go.Dl
open Go Go.Proofs
set_option maxRecDepth 100000
section
variable {G:Nat->DVal} {H0 H H':Ac} {r k:Nat} {l:List Tok}
theorem En {α β:Type} (x:α) (k:Nat) (f:α->Nat->Res β):(Res.ok x k).then f=f x k:=rfl
theorem Dr {α β:Type} (k:Nat) (f:α->Nat->Res β):(Res.fail k).then f= .fail k:=rfl
theorem Eb {α β:Type} (f:α->Nat->Res β):Res.bot.then f= .bot:=rfl
theorem Dj.at {B H':Ac} {e:TypeId} {size n:Nat} {cs:List DVal} {v:DVal} {r:Nat} {o:DObj} (h:Dj B e size n cs v H') (hr:B r=some o) (y:Option DObj):Dj (upd B r y) e size n cs v (upd H' r y):=by
 have h2:Dj (upd B r (some o)) e size n cs v H':=by rw[Be hr];exact h
 exact h2.move y
theorem Ld {n k:Nat} {c:Ch} {k':Nat} (h:(P l n).choice k= .ok c k'):(c.kind=3/\c.l= [])\/(c.kind=2/\ ∃x y,c.l= [x,y])\/(c.kind=1/\ ∃x,c.l= [x]):=by
 cases n with
 | zero=>cases h
 | succ n=>
  have e:(P l (n+1)).choice k=if isW l k [Ff] then .ok (.mk 3 []) (k+1) else((P l n).simple k).then fun x k=>if isW l k [Dz] then((P l n).simple (k+1)).then fun y k=> .ok (.mk 2 [x,y]) k else((P l n).rest x k).then fun x k=> .ok (.mk 1 [x]) k:=rfl
  rw[e] at h;split at h
  ·cases h;exact .inl ⟨rfl,rfl⟩
  ·cases h1:(P l n).simple k with
   | bot=>rw[h1] at h;cases h
   | fail k=>rw[h1] at h;cases h
   | ok x k1=>
    rw[h1] at h;dsimp only[Res.then] at h;split at h
    ·cases h2:(P l n).simple (k1+1) with
     | bot=>rw[h2] at h;cases h
     | fail k=>rw[h2] at h;cases h
     | ok y k2=>rw[h2] at h;cases h;exact .inr (.inl ⟨rfl,x,y,rfl⟩)
    ·cases h2:(P l n).rest x k1 with
     | bot=>rw[h2] at h;cases h
     | fail k=>rw[h2] at h;cases h
     | ok y k2=>rw[h2] at h;cases h;exact .inr (.inr ⟨rfl,y,rfl⟩)
set_option maxHeartbeats 4000000 in
theorem Au9 (hG:GX G) (hl:l.length<=800000) (n:Nat) (hc: ∀m≤n,RdC Tryz.prog G l 120 r fun k=>((P l m).choice k).mp dC) (hpa:RdC Tryz.prog G l 29 r fun k=>((P l n).expr k).mp dE):RdC Tryz.prog G l 132 r fun k=>((P l (n+1)).assoc k).mp dA:=by
 intro H k hr hk hn;obtain⟨F,hF⟩: ∃F:Ch->Nat->Res As,∀c k,F c k=if c.kind=1/\isW l k [Dk]=false/\isW l k [Ap]=false then .ok (.mk [] (c.l.getD 0 ex0)) k else if c.kind=3 then must l Ap k fun k=>((P l n).expr k).then fun e k=> .ok (.mk [c] e) k else((P l n).choicesL [c] k).then fun cs k=>must l Ap k fun k=>((P l n).expr k).then fun e k=> .ok (.mk cs e) k:=⟨_,fun _ _=>rfl⟩
 have e:(P l (n+1)).assoc k=((P l n).choice k).then F:=by
  have:F=fun c k=>if c.kind=1/\isW l k [Dk]=false/\isW l k [Ap]=false then .ok (.mk [] (c.l.getD 0 ex0)) k else if c.kind=3 then must l Ap k fun k=>((P l n).expr k).then fun e k=> .ok (.mk [c] e) k else((P l n).choicesL [c] k).then fun cs k=>must l Ap k fun k=>((P l n).expr k).then fun e k=> .ok (.mk cs e) k:=funext fun c=>funext fun k=>hF c k
  rw[this];rfl
 dsimp only at hn⊢
 rw[e] at hn⊢
 refine Ad Tryz.func132 Tryz.call132 rfl (by kernel_rfl) ?_;simp(disch:=omega) only[go_sem,↓reduceIte];intro r2 hr2;dsimp only at hr2;obtain⟨Ha,hHa⟩: ∃K,K=upd H r2 (some (.cells [.nilSlice, .int .u8 0, .int .u8 0, .int .i64 0, .str [], .nilSlice, .nilSlice, .int .i64 0, .int .i64 0, .int .i64 0] 44)):=⟨_,rfl⟩;rw[<-hHa];have gr2:Ha r2=some (.cells [.nilSlice, .int .u8 0, .int .u8 0, .int .i64 0, .str [], .nilSlice, .nilSlice, .int .i64 0, .int .i64 0, .int .i64 0] 44):=by rw[hHa];exact Aa _ _ _
 have n2:r≠r2:=Ae hr2 hr;have q2:=n2.symm;have ha:RAt r l k H Ha:=by rw[hHa];exact(RAt.refl hr).new hr2 _
 simp(disch:=omega) only[go_sem,↓reduceIte];have hpk:=hc n (Nat.le_refl _) _ k ha.get hk;have had:=(Bn (l:=l) n).choice k hk;dsimp only at hpk;cases hpr:(P l n).choice k with
 | bot=>rw[hpr] at hn;exact absurd rfl hn
 | fail k3=>
  rw[hpr] at hpk;refine(hpk (Aw (by simp))).mono ?_;rintro e H4 ⟨rfl,rfl⟩;simp(disch:=omega) only[go_sem,↓reduceIte];exact RAt.finP (ha.set k3) ⟨rfl,rfl⟩
 | ok c k3=>
  rw[hpr] at hpk hn had;refine(hpk (Aw (by simp))).mono ?_;rintro e H3 ⟨rfl,hH3⟩;have ha3:RAt r l k3 H H3:=by rw[hH3];exact ha.set k3
  dsimp only[Res.then,Adv] at hn had⊢
  have hres:=hF c k3;obtain⟨res,hrs⟩: ∃res,res=F c k3:=⟨_,rfl⟩;rw[<-hrs] at hn hres⊢
  have g3:H3 r2=some (.cells [.nilSlice, .int .u8 0, .int .u8 0, .int .i64 0, .str [], .nilSlice, .nilSlice, .int .i64 0, .int .i64 0, .int .i64 0] 44):=by rw[hH3];exact Ag gr2 q2
  have hlc:=Bd c;have hoc:=Bv1 c;simp(disch:=omega) only[go_sem,↓reduceIte,dC];intro r3 hr3;dsimp only at hr3;have n23:r2≠r3:=Ae hr3 g3;have m23:=n23.symm;have n3:r≠r3:=Ae hr3 ha3.get;have q3:=n3.symm;simp(disch:=omega) only[go_sem,↓reduceIte,hlc,hoc];obtain⟨Hc,hHc⟩: ∃K,K=upd H3 r3 (some (.cells (dCh c) 47)):=⟨_,rfl⟩;rw[<-hHc];have hac:RAt r l k3 H Hc:=by rw[hHc];exact ha3.new hr3 _
  have gc2:Hc r2=some (.cells [.nilSlice, .int .u8 0, .int .u8 0, .int .i64 0, .str [], .nilSlice, .nilSlice, .int .i64 0, .int .i64 0, .int .i64 0] 44):=by rw[hHc];exact Ag g3 n23
  have gc3:Hc r3=some (.cells (dCh c) 47):=by rw[hHc];exact Aa _ _ _
  have gk:(dCh c)[0]? =some (.int .u8 c.kind):=by rw[Pd];rfl
  by_cases c1:c.kind=1
  ·simp(disch:=omega) only[go_sem,↓reduceIte,gc3,gk,c1];intro w1 hw1;dsimp only at hw1;simp(disch:=omega) only[go_sem,↓reduceIte];refine(is1 hG _ w1 Dk hw1 hac.get (by omega) (by omega)).mono ?_;rintro _ H5 ⟨rfl,hH5⟩;rw[hH5];by_cases b1:isW l k3 [Dk]=true
   ·simp(disch:=omega) only[go_sem,↓reduceIte,b1];have hnc: ¬(c.kind=1/\isW l k3 [Dk]=false/\isW l k3 [Ap]=false):=fun h=>by rw[b1] at h;exact absurd h.2.1 (by decide)
    have hsh:=Ld hpr;obtain⟨n',rfl⟩: ∃n',n=n'+1:=by
     cases n with
     | zero=>cases hpr
     | succ n'=>exact⟨n',rfl⟩
    obtain⟨L',hL0,hL,hres2⟩: ∃L':Nat->List Ch->Nat->Res (List Ch),(c.kind≠3-> ∀x k,L' 0 x k= .bot)/\(∀m x k,L' (m+1) x k=if c.kind≠3/\isW l k [Dk]=true then((P l m).choice (k+1)).then fun a k=>L' m (x++ [a]) k else .ok x k)/\res=(L' (n'+1) [c] k3).then fun cs k=>must l Ap k fun k=>((P l (n'+1)).expr k).then fun e k=> .ok (.mk cs e) k:=by
     rw[hres];by_cases c3:c.kind=3
     ·refine⟨fun _ x k=> .ok x k,fun h=>absurd c3 h,fun m x k=>by rw[if_neg (fun h=>h.1 c3)],?_⟩;rw[if_neg (fun h=>by rw[c3] at h;exact absurd h.1 (by decide)),if_pos c3];rfl
     ·refine⟨fun m=>(P l m).choicesL,fun _ _ _=>rfl,fun m x k=> ?_,?_⟩
      ·have e:(P l (m+1)).choicesL x k=if isW l k [Dk] then((P l m).choice (k+1)).then fun c k=>(P l m).choicesL (x++ [c]) k else .ok x k:=rfl
       show(P l (m+1)).choicesL x k=_;rw[e];by_cases hb:isW l k [Dk]=true
       ·rw[if_pos hb,if_pos ⟨c3,hb⟩]
       ·rw[if_neg hb,if_neg (fun h=>hb h.2)]
      ·rw[if_neg hnc,if_neg c3]
    obtain⟨AB,hAB⟩: ∃AB:DVal->Nat->Ac,∀v k,AB v k=upd (upd Hc r2 (some (.cells [v, .int .u8 0, .int .u8 0, .int .i64 0, .str [], .nilSlice, .nilSlice, .int .i64 0, .int .i64 0, .int .i64 0] 44))) r (some (rdO l k)):=⟨_,fun _ _=>rfl⟩;have hABr: ∀v k,AB v k r=some (rdO l k):=fun v k=>by rw[hAB];exact Aa _ _ _
    have hAB2: ∀v k,AB v k r2=some (.cells [v, .int .u8 0, .int .u8 0, .int .i64 0, .str [], .nilSlice, .nilSlice, .int .i64 0, .int .i64 0, .int .i64 0] 44):=fun v k=>by rw[hAB,Ao _ _ _ _ q2];exact Aa _ _ _
    have hAB3: ∀v k,AB v k r3=some (.cells (dCh c) 47):=fun v k=>by rw[hAB,Ao _ _ _ _ q3,Ao _ _ _ _ m23];exact gc3
    have hABk: ∀v k k',upd (AB v k) r (some (rdO l k'))=AB v k':=fun v k k'=>by rw[hAB,hAB,Da]
    have hABv: ∀v v' k,upd (AB v k) r2 (some (.cells [v', .int .u8 0, .int .u8 0, .int .i64 0, .str [], .nilSlice, .nilSlice, .int .i64 0, .int .i64 0, .int .i64 0] 44))=AB v' k:=fun v v' k=>by rw[hAB,hAB,Qr q2,Da]
    have hABa: ∀v k,RAt r l k H (AB v k):=fun v k=>by rw[hAB];exact(hac.own hr2 q2 _).set k
    simp(disch:=omega) only[go_sem,↓reduceIte,gc2,gc3,hlc];rw[show List.drop 2 (Cx 1 [DVal.int .u8 0,DVal.nilSlice])= [] from rfl];simp(disch:=omega) only[go_sem,↓reduceIte,hlc,hoc];intro r28 h28;dsimp only at h28;simp(disch:=omega) only[go_sem,↓reduceIte];intro r29 h29;dsimp only at h29;obtain⟨H6,hH6⟩: ∃K,K=upd (upd Hc r28 (some (.cells (dCh c) 47))) r29 (some (.cells (dCh c) 47)):=⟨_,rfl⟩;rw[<-hH6];have s28:Sub Hc (upd Hc r28 (some (.cells (dCh c) 47))):=(Sub.refl Hc).new h28 _;have hv6:Dj Hc 47 2 1 (dCh c) (.oslice 2 r29 0 1 1) H6:= .inr ⟨r29,s28.lo h29,hlc,rfl,by rw[hH6];exact Aa _ _ _,by rw[hH6];exact s28.new h29 _⟩;obtain⟨v1,hv1⟩: ∃v1,v1=DVal.oslice 2 r29 0 1 1:=⟨_,rfl⟩;rw[<-hv1] at hv6⊢
    have g62:=hv6.keep gc2;obtain⟨k1a,k1b⟩:=hv6.cell1;simp(disch:=omega) only[go_sem,↓reduceIte,g62,k1a,k1b];have hv7:Cg (AB v1 k3) [c] v1 (upd H6 r2 (some (.cells [v1, .int .u8 0, .int .u8 0, .int .i64 0, .str [], .nilSlice, .nilSlice, .int .i64 0, .int .i64 0, .int .i64 0] 44))):=by
     have:=hv6.at gc2 (some (.cells [v1, .int .u8 0, .int .u8 0, .int .i64 0, .str [], .nilSlice, .nilSlice, .int .i64 0, .int .i64 0, .int .i64 0] 44));rw[show AB v1 k3=upd Hc r2 (some (.cells [v1, .int .u8 0, .int .u8 0, .int .i64 0, .str [], .nilSlice, .nilSlice, .int .i64 0, .int .i64 0, .int .i64 0] 44)) by rw[hAB];exact Be (Ag hac.get n2)];unfold Cg;rw[List.flatMap_singleton];exact this
    obtain⟨I,hI⟩: ∃I:Nat×List Ch×Nat->(Nat->DVal)->Ac->Prop,∀s env heap,I s env heap↔(env 0= .optr r 0/\env 2= .optr r2 0/\env 3= .optr r3 0/\s.2.2<=l.length/\s.2.1.length<=s.2.2/\s.1<=n'/\L' (s.1+1) s.2.1 s.2.2=L' (n'+1) [c] k3/\ ∃v,Cg (AB v s.2.2) s.2.1 v heap):=⟨_,fun _ _ _=>Iff.rfl⟩;refine Bt4.run I (fun s=>s.1) (n',[c],k3) ((hI _ _ _).2 ?_) ?_
    ·simp(disch:=omega) only[go_sem,↓reduceIte];(repeat' apply And.intro)<;>(try first | rfl | assumption | omega);exact⟨v1,hv7⟩
    ·rintro⟨m,xs,k1⟩ env heap hi';obtain⟨e0,e2,e3,hk1,hlen,hm,hLm,v,hv⟩:=(hI _ _ _).1 hi';dsimp only at hk1 hlen hm hLm hv;rw[hL] at hLm;have gr:heap r=some (rdO l k1):=Dj.keep hv (hABr _ _);have g2:=Dj.keep hv (hAB2 _ _);have g3:=Dj.keep hv (hAB3 _ _);by_cases c3:c.kind=3
     ·rw[if_neg (fun h=>h.1 c3)] at hLm;simp(disch:=omega) only[go_sem,↓reduceIte,e0,e2,e3,g3,gk,c3];refine(Gj hG heap Ap gr (by omega) (by omega)).mono ?_;intro e1 H8 hq;rw[<-hLm,En] at hres2;unfold must at hq hres2;by_cases b5:isW l k1 [Ap]=true
      ·rw[if_pos b5] at hq hres2;obtain⟨rfl,hH8⟩:=hq;dsimp only at hres2;have hk5:=Am b5 hk1;rw[List.length_singleton] at hk5;have hv8:Cg (AB v (k1+1)) xs v H8:=by rw[hH8,<-hABk v k1];exact Dj.at hv (hABr _ _) _
       simp(disch:=omega) only[go_sem,↓reduceIte,e0,e2,e3];have hpk:=hpa _ (k1+1) (Dj.keep hv8 (hABr _ _)) hk5;dsimp only at hpk;cases hpe:(P l (n'+1)).expr (k1+1) with
       | bot=>rw[hpe,Eb] at hres2;rw[hres2] at hn;exact absurd rfl hn
       | fail k6=>
        rw[hpe] at hpk;rw[hpe,Dr] at hres2;refine(hpk (Aw (by simp))).mono ?_;rintro e H9 ⟨rfl,hH9⟩;have hv9:Cg (AB v k6) xs v H9:=by rw[hH9,<-hABk v (k1+1)];exact Dj.at hv8 (hABr _ _) _
        simp(disch:=omega) only[go_sem,↓reduceIte];rw[hres2];exact RAt.finP ((hABa v k6).more (Dj.sub hv9)) ⟨rfl,rfl⟩
       | ok y k6=>
        rw[hpe] at hpk;rw[hpe,En] at hres2;refine(hpk (Aw (by simp))).mono ?_;rintro e H9 ⟨rfl,hH9⟩;have hv9:Cg (AB v k6) xs v H9:=by rw[hH9,<-hABk v (k1+1)];exact Dj.at hv8 (hABr _ _) _
        have g92:=Dj.keep hv9 (hAB2 v k6);obtain⟨j1,j2⟩:=Dj.cell1 hv9;have hly:=Ah y;have hoy:=Al y;simp(disch:=omega) only[go_sem,↓reduceIte,e0,e2,e3,dE,g92,hly,hoy,j1,j2];rw[hres2];have hvf:=fun z=>Dj.less (Dj.at hv9 (hAB2 v k6) z) ((hABa v k6).own hr2 q2 z);refine Fc.fin (Dj.sub (hvf _)) (Fc.agg (Fc.assoc (c:=xs) (Dj.sub (hvf _)) (Fc.own (hvf _)))) ⟨rfl,rfl⟩
      ·rw[if_neg b5] at hq hres2;obtain⟨rfl,hH8⟩:=hq;have hv8:Cg (AB v k1) xs v H8:=by rw[hH8,<-hABk v k1];exact Dj.at hv (hABr _ _) _
       simp(disch:=omega) only[go_sem,↓reduceIte];rw[hres2];exact RAt.finP ((hABa v k1).more (Dj.sub hv8)) ⟨rfl,rfl⟩
     ·simp(disch:=omega) only[go_sem,↓reduceIte,e0,e2,e3,g3,gk,c3];intro w1 hw1;dsimp only at hw1;simp(disch:=omega) only[go_sem,↓reduceIte,e0,e2,e3,g3,gk,c3];refine(Rv hG _ w1 Dk hw1 gr (by omega) (by omega)).mono ?_;rintro _ H4 ⟨rfl,hH4⟩;by_cases b:isW l k1 [Dk]=true
      ·rw[if_pos ⟨c3,b⟩] at hLm;rw[if_pos b] at hH4;have hk4:=Am b hk1;rw[List.length_singleton] at hk4;have hv4:Cg (AB v (k1+1)) xs v H4:=by rw[hH4,<-hABk v k1];exact Dj.at hv (hABr _ _) _
       have g42:=Dj.keep hv4 (hAB2 _ _);simp(disch:=omega) only[go_sem,↓reduceIte,e0,e2,e3,b];refine Aj (by kernel_rfl) (.take 0 (.take 1 (.take 2 (.go 3 [1] (.go 4 [1] (.go 5 [] (.take 6 (.go 7 [] .done)))))))) (by kernel_rfl) ?_;simp(disch:=omega) only[go_sem,↓reduceIte,e0,e2,e3,g42];have hp2:=hc m (by omega) _ (k1+1) (Dj.keep hv4 (hABr _ _)) hk4;have had2:=(Bn (l:=l) m).choice (k1+1) hk4;dsimp only at hp2;cases hpr2:(P l m).choice (k1+1) with
       | bot=>
        rw[hpr2,Eb] at hLm;rw[<-hLm,Eb] at hres2;rw[hres2] at hn;exact absurd rfl hn
       | fail k5=>
        rw[hpr2] at hp2;rw[hpr2,Dr] at hLm;rw[<-hLm,Dr] at hres2;refine(hp2 (Aw (by simp))).mono ?_;rintro e H5 ⟨rfl,hH5⟩;have hv5:Cg (AB v k5) xs v H5:=by rw[hH5,<-hABk v (k1+1)];exact Dj.at hv4 (hABr _ _) _
        simp(disch:=omega) only[go_sem,↓reduceIte];rw[hres2];exact RAt.finP ((hABa v k5).more (Dj.sub hv5)) ⟨rfl,rfl⟩
       | ok a k5=>
        rw[hpr2] at hp2 had2;rw[hpr2,En] at hLm;dsimp only[Adv] at had2;refine(hp2 (Aw (by simp))).mono ?_;rintro e H5 ⟨rfl,hH5⟩;have hv5:Cg (AB v k5) xs v H5:=by rw[hH5,<-hABk v (k1+1)];exact Dj.at hv4 (hABr _ _) _
        have g52:=Dj.keep hv5 (hAB2 _ _);have hla2:=Bd a;simp(disch:=omega) only[go_sem,↓reduceIte,e0,e2,e3,g42,g52,dC];rw[He hla2];simp(disch:=omega) only[go_sem,↓reduceIte,e0,e2,e3,g42,g52];intro r8 hr8;dsimp only at hr8;have n8:r2≠r8:=Ae hr8 g52;simp(disch:=omega) only[go_sem,↓reduceIte,e0,e2,e3,g52,n8];refine Dj.append (m:=1) (Dj.new hv5 hr8 _) (by rw[hla2]) (by omega) fun v2 H6 hv2=> ?_;have g62:=Dj.keep hv2 (hAB2 _ _);obtain⟨j1,j2⟩:=Dj.cell1 hv2;simp(disch:=omega) only[go_sem,↓reduceIte,e0,e2,e3,g62,j1,j2];obtain⟨m',rfl⟩: ∃m',m=m'+1:=by
         cases m with
         | zero=>rw[hL0 c3] at hLm;rw[<-hLm,Eb] at hres2;rw[hres2] at hn;exact absurd rfl hn
         | succ m'=>exact⟨m',rfl⟩
        have hlen2:(xs++ [a]).length<=k5:=by rw[List.length_append,List.length_singleton];omega
        have hv3:Cg (AB v2 k5) (xs++ [a]) v2 (upd H6 r2 (some (.cells [v2, .int .u8 0, .int .u8 0, .int .i64 0, .str [], .nilSlice, .nilSlice, .int .i64 0, .int .i64 0, .int .i64 0] 44))):=by
         have:=Dj.at hv2 (hAB2 _ _) (some (.cells [v2, .int .u8 0, .int .u8 0, .int .i64 0, .str [], .nilSlice, .nilSlice, .int .i64 0, .int .i64 0, .int .i64 0] 44));rw[hABv] at this;unfold Cg;rw[List.length_append,List.length_singleton,List.flatMap_append,List.flatMap_singleton];exact this
        refine⟨(m',xs++ [a],k5),_,Ni.refl _,(hI _ _ _).2 ?_,by dsimp only;omega⟩;simp(disch:=omega) only[go_sem,↓reduceIte,e0,e2,e3];(repeat' apply And.intro)<;>(try first | rfl | assumption | omega);exact⟨v2,hv3⟩
      ·have b':isW l k1 [Dk]=false:=by simpa using b
       rw[if_neg (fun h=>b h.2)] at hLm;rw[if_neg b,Be gr] at hH4;rw[hH4];simp(disch:=omega) only[go_sem,↓reduceIte,e0,e2,e3,b'];refine(Gj hG heap Ap gr (by omega) (by omega)).mono ?_;intro e1 H8 hq;rw[<-hLm,En] at hres2;unfold must at hq hres2;by_cases b5:isW l k1 [Ap]=true
       ·rw[if_pos b5] at hq hres2;obtain⟨rfl,hH8⟩:=hq;dsimp only at hres2;have hk5:=Am b5 hk1;rw[List.length_singleton] at hk5;have hv8:Cg (AB v (k1+1)) xs v H8:=by rw[hH8,<-hABk v k1];exact Dj.at hv (hABr _ _) _
        simp(disch:=omega) only[go_sem,↓reduceIte,e0,e2,e3];have hpk:=hpa _ (k1+1) (Dj.keep hv8 (hABr _ _)) hk5;dsimp only at hpk;cases hpe:(P l (n'+1)).expr (k1+1) with
        | bot=>rw[hpe,Eb] at hres2;rw[hres2] at hn;exact absurd rfl hn
        | fail k6=>
         rw[hpe] at hpk;rw[hpe,Dr] at hres2;refine(hpk (Aw (by simp))).mono ?_;rintro e H9 ⟨rfl,hH9⟩;have hv9:Cg (AB v k6) xs v H9:=by rw[hH9,<-hABk v (k1+1)];exact Dj.at hv8 (hABr _ _) _
         simp(disch:=omega) only[go_sem,↓reduceIte];rw[hres2];exact RAt.finP ((hABa v k6).more (Dj.sub hv9)) ⟨rfl,rfl⟩
        | ok y k6=>
         rw[hpe] at hpk;rw[hpe,En] at hres2;refine(hpk (Aw (by simp))).mono ?_;rintro e H9 ⟨rfl,hH9⟩;have hv9:Cg (AB v k6) xs v H9:=by rw[hH9,<-hABk v (k1+1)];exact Dj.at hv8 (hABr _ _) _
         have g92:=Dj.keep hv9 (hAB2 v k6);obtain⟨j1,j2⟩:=Dj.cell1 hv9;have hly:=Ah y;have hoy:=Al y;simp(disch:=omega) only[go_sem,↓reduceIte,e0,e2,e3,dE,g92,hly,hoy,j1,j2];rw[hres2];have hvf:=fun z=>Dj.less (Dj.at hv9 (hAB2 v k6) z) ((hABa v k6).own hr2 q2 z);refine Fc.fin (Dj.sub (hvf _)) (Fc.agg (Fc.assoc (c:=xs) (Dj.sub (hvf _)) (Fc.own (hvf _)))) ⟨rfl,rfl⟩
       ·rw[if_neg b5] at hq hres2;obtain⟨rfl,hH8⟩:=hq;have hv8:Cg (AB v k1) xs v H8:=by rw[hH8,<-hABk v k1];exact Dj.at hv (hABr _ _) _
        simp(disch:=omega) only[go_sem,↓reduceIte];rw[hres2];exact RAt.finP ((hABa v k1).more (Dj.sub hv8)) ⟨rfl,rfl⟩
   ·have b1':isW l k3 [Dk]=false:=by simpa using b1
    simp(disch:=omega) only[go_sem,↓reduceIte,b1'];intro w2 hw2;dsimp only at hw2;simp(disch:=omega) only[go_sem,↓reduceIte];refine(is1 hG _ w2 Ap hw2 hac.get (by omega) (by omega)).mono ?_;rintro _ H6 ⟨rfl,hH6⟩;rw[hH6];by_cases b2:isW l k3 [Ap]=true
    ·simp(disch:=omega) only[go_sem,↓reduceIte,b2];have hnc: ¬(c.kind=1/\isW l k3 [Dk]=false/\isW l k3 [Ap]=false):=fun h=>by rw[b2] at h;exact absurd h.2.2 (by decide)
     have hsh:=Ld hpr;obtain⟨n',rfl⟩: ∃n',n=n'+1:=by
      cases n with
      | zero=>cases hpr
      | succ n'=>exact⟨n',rfl⟩
     obtain⟨L',hL0,hL,hres2⟩: ∃L':Nat->List Ch->Nat->Res (List Ch),(c.kind≠3-> ∀x k,L' 0 x k= .bot)/\(∀m x k,L' (m+1) x k=if c.kind≠3/\isW l k [Dk]=true then((P l m).choice (k+1)).then fun a k=>L' m (x++ [a]) k else .ok x k)/\res=(L' (n'+1) [c] k3).then fun cs k=>must l Ap k fun k=>((P l (n'+1)).expr k).then fun e k=> .ok (.mk cs e) k:=by
      rw[hres];by_cases c3:c.kind=3
      ·refine⟨fun _ x k=> .ok x k,fun h=>absurd c3 h,fun m x k=>by rw[if_neg (fun h=>h.1 c3)],?_⟩;rw[if_neg (fun h=>by rw[c3] at h;exact absurd h.1 (by decide)),if_pos c3];rfl
      ·refine⟨fun m=>(P l m).choicesL,fun _ _ _=>rfl,fun m x k=> ?_,?_⟩
       ·have e:(P l (m+1)).choicesL x k=if isW l k [Dk] then((P l m).choice (k+1)).then fun c k=>(P l m).choicesL (x++ [c]) k else .ok x k:=rfl
        show(P l (m+1)).choicesL x k=_;rw[e];by_cases hb:isW l k [Dk]=true
        ·rw[if_pos hb,if_pos ⟨c3,hb⟩]
        ·rw[if_neg hb,if_neg (fun h=>hb h.2)]
       ·rw[if_neg hnc,if_neg c3]
     obtain⟨AB,hAB⟩: ∃AB:DVal->Nat->Ac,∀v k,AB v k=upd (upd Hc r2 (some (.cells [v, .int .u8 0, .int .u8 0, .int .i64 0, .str [], .nilSlice, .nilSlice, .int .i64 0, .int .i64 0, .int .i64 0] 44))) r (some (rdO l k)):=⟨_,fun _ _=>rfl⟩;have hABr: ∀v k,AB v k r=some (rdO l k):=fun v k=>by rw[hAB];exact Aa _ _ _
     have hAB2: ∀v k,AB v k r2=some (.cells [v, .int .u8 0, .int .u8 0, .int .i64 0, .str [], .nilSlice, .nilSlice, .int .i64 0, .int .i64 0, .int .i64 0] 44):=fun v k=>by rw[hAB,Ao _ _ _ _ q2];exact Aa _ _ _
     have hAB3: ∀v k,AB v k r3=some (.cells (dCh c) 47):=fun v k=>by rw[hAB,Ao _ _ _ _ q3,Ao _ _ _ _ m23];exact gc3
     have hABk: ∀v k k',upd (AB v k) r (some (rdO l k'))=AB v k':=fun v k k'=>by rw[hAB,hAB,Da]
     have hABv: ∀v v' k,upd (AB v k) r2 (some (.cells [v', .int .u8 0, .int .u8 0, .int .i64 0, .str [], .nilSlice, .nilSlice, .int .i64 0, .int .i64 0, .int .i64 0] 44))=AB v' k:=fun v v' k=>by rw[hAB,hAB,Qr q2,Da]
     have hABa: ∀v k,RAt r l k H (AB v k):=fun v k=>by rw[hAB];exact(hac.own hr2 q2 _).set k
     simp(disch:=omega) only[go_sem,↓reduceIte,gc2,gc3,hlc];rw[show List.drop 2 (Cx 1 [DVal.int .u8 0,DVal.nilSlice])= [] from rfl];simp(disch:=omega) only[go_sem,↓reduceIte,hlc,hoc];intro r28 h28;dsimp only at h28;simp(disch:=omega) only[go_sem,↓reduceIte];intro r29 h29;dsimp only at h29;obtain⟨H6,hH6⟩: ∃K,K=upd (upd Hc r28 (some (.cells (dCh c) 47))) r29 (some (.cells (dCh c) 47)):=⟨_,rfl⟩;rw[<-hH6];have s28:Sub Hc (upd Hc r28 (some (.cells (dCh c) 47))):=(Sub.refl Hc).new h28 _;have hv6:Dj Hc 47 2 1 (dCh c) (.oslice 2 r29 0 1 1) H6:= .inr ⟨r29,s28.lo h29,hlc,rfl,by rw[hH6];exact Aa _ _ _,by rw[hH6];exact s28.new h29 _⟩;obtain⟨v1,hv1⟩: ∃v1,v1=DVal.oslice 2 r29 0 1 1:=⟨_,rfl⟩;rw[<-hv1] at hv6⊢
     have g62:=hv6.keep gc2;obtain⟨k1a,k1b⟩:=hv6.cell1;simp(disch:=omega) only[go_sem,↓reduceIte,g62,k1a,k1b];have hv7:Cg (AB v1 k3) [c] v1 (upd H6 r2 (some (.cells [v1, .int .u8 0, .int .u8 0, .int .i64 0, .str [], .nilSlice, .nilSlice, .int .i64 0, .int .i64 0, .int .i64 0] 44))):=by
      have:=hv6.at gc2 (some (.cells [v1, .int .u8 0, .int .u8 0, .int .i64 0, .str [], .nilSlice, .nilSlice, .int .i64 0, .int .i64 0, .int .i64 0] 44));rw[show AB v1 k3=upd Hc r2 (some (.cells [v1, .int .u8 0, .int .u8 0, .int .i64 0, .str [], .nilSlice, .nilSlice, .int .i64 0, .int .i64 0, .int .i64 0] 44)) by rw[hAB];exact Be (Ag hac.get n2)];unfold Cg;rw[List.flatMap_singleton];exact this
     obtain⟨I,hI⟩: ∃I:Nat×List Ch×Nat->(Nat->DVal)->Ac->Prop,∀s env heap,I s env heap↔(env 0= .optr r 0/\env 2= .optr r2 0/\env 3= .optr r3 0/\s.2.2<=l.length/\s.2.1.length<=s.2.2/\s.1<=n'/\L' (s.1+1) s.2.1 s.2.2=L' (n'+1) [c] k3/\ ∃v,Cg (AB v s.2.2) s.2.1 v heap):=⟨_,fun _ _ _=>Iff.rfl⟩;refine Bt4.run I (fun s=>s.1) (n',[c],k3) ((hI _ _ _).2 ?_) ?_
     ·simp(disch:=omega) only[go_sem,↓reduceIte];(repeat' apply And.intro)<;>(try first | rfl | assumption | omega);exact⟨v1,hv7⟩
     ·rintro⟨m,xs,k1⟩ env heap hi';obtain⟨e0,e2,e3,hk1,hlen,hm,hLm,v,hv⟩:=(hI _ _ _).1 hi';dsimp only at hk1 hlen hm hLm hv;rw[hL] at hLm;have gr:heap r=some (rdO l k1):=Dj.keep hv (hABr _ _);have g2:=Dj.keep hv (hAB2 _ _);have g3:=Dj.keep hv (hAB3 _ _);by_cases c3:c.kind=3
      ·rw[if_neg (fun h=>h.1 c3)] at hLm;simp(disch:=omega) only[go_sem,↓reduceIte,e0,e2,e3,g3,gk,c3];refine(Gj hG heap Ap gr (by omega) (by omega)).mono ?_;intro e1 H8 hq;rw[<-hLm,En] at hres2;unfold must at hq hres2;by_cases b5:isW l k1 [Ap]=true
       ·rw[if_pos b5] at hq hres2;obtain⟨rfl,hH8⟩:=hq;dsimp only at hres2;have hk5:=Am b5 hk1;rw[List.length_singleton] at hk5;have hv8:Cg (AB v (k1+1)) xs v H8:=by rw[hH8,<-hABk v k1];exact Dj.at hv (hABr _ _) _
        simp(disch:=omega) only[go_sem,↓reduceIte,e0,e2,e3];have hpk:=hpa _ (k1+1) (Dj.keep hv8 (hABr _ _)) hk5;dsimp only at hpk;cases hpe:(P l (n'+1)).expr (k1+1) with
        | bot=>rw[hpe,Eb] at hres2;rw[hres2] at hn;exact absurd rfl hn
        | fail k6=>
         rw[hpe] at hpk;rw[hpe,Dr] at hres2;refine(hpk (Aw (by simp))).mono ?_;rintro e H9 ⟨rfl,hH9⟩;have hv9:Cg (AB v k6) xs v H9:=by rw[hH9,<-hABk v (k1+1)];exact Dj.at hv8 (hABr _ _) _
         simp(disch:=omega) only[go_sem,↓reduceIte];rw[hres2];exact RAt.finP ((hABa v k6).more (Dj.sub hv9)) ⟨rfl,rfl⟩
        | ok y k6=>
         rw[hpe] at hpk;rw[hpe,En] at hres2;refine(hpk (Aw (by simp))).mono ?_;rintro e H9 ⟨rfl,hH9⟩;have hv9:Cg (AB v k6) xs v H9:=by rw[hH9,<-hABk v (k1+1)];exact Dj.at hv8 (hABr _ _) _
         have g92:=Dj.keep hv9 (hAB2 v k6);obtain⟨j1,j2⟩:=Dj.cell1 hv9;have hly:=Ah y;have hoy:=Al y;simp(disch:=omega) only[go_sem,↓reduceIte,e0,e2,e3,dE,g92,hly,hoy,j1,j2];rw[hres2];have hvf:=fun z=>Dj.less (Dj.at hv9 (hAB2 v k6) z) ((hABa v k6).own hr2 q2 z);refine Fc.fin (Dj.sub (hvf _)) (Fc.agg (Fc.assoc (c:=xs) (Dj.sub (hvf _)) (Fc.own (hvf _)))) ⟨rfl,rfl⟩
       ·rw[if_neg b5] at hq hres2;obtain⟨rfl,hH8⟩:=hq;have hv8:Cg (AB v k1) xs v H8:=by rw[hH8,<-hABk v k1];exact Dj.at hv (hABr _ _) _
        simp(disch:=omega) only[go_sem,↓reduceIte];rw[hres2];exact RAt.finP ((hABa v k1).more (Dj.sub hv8)) ⟨rfl,rfl⟩
      ·simp(disch:=omega) only[go_sem,↓reduceIte,e0,e2,e3,g3,gk,c3];intro w1 hw1;dsimp only at hw1;simp(disch:=omega) only[go_sem,↓reduceIte,e0,e2,e3,g3,gk,c3];refine(Rv hG _ w1 Dk hw1 gr (by omega) (by omega)).mono ?_;rintro _ H4 ⟨rfl,hH4⟩;by_cases b:isW l k1 [Dk]=true
       ·rw[if_pos ⟨c3,b⟩] at hLm;rw[if_pos b] at hH4;have hk4:=Am b hk1;rw[List.length_singleton] at hk4;have hv4:Cg (AB v (k1+1)) xs v H4:=by rw[hH4,<-hABk v k1];exact Dj.at hv (hABr _ _) _
        have g42:=Dj.keep hv4 (hAB2 _ _);simp(disch:=omega) only[go_sem,↓reduceIte,e0,e2,e3,b];refine Aj (by kernel_rfl) (.take 0 (.take 1 (.take 2 (.go 3 [1] (.go 4 [1] (.go 5 [] (.take 6 (.go 7 [] .done)))))))) (by kernel_rfl) ?_;simp(disch:=omega) only[go_sem,↓reduceIte,e0,e2,e3,g42];have hp2:=hc m (by omega) _ (k1+1) (Dj.keep hv4 (hABr _ _)) hk4;have had2:=(Bn (l:=l) m).choice (k1+1) hk4;dsimp only at hp2;cases hpr2:(P l m).choice (k1+1) with
        | bot=>
         rw[hpr2,Eb] at hLm;rw[<-hLm,Eb] at hres2;rw[hres2] at hn;exact absurd rfl hn
        | fail k5=>
         rw[hpr2] at hp2;rw[hpr2,Dr] at hLm;rw[<-hLm,Dr] at hres2;refine(hp2 (Aw (by simp))).mono ?_;rintro e H5 ⟨rfl,hH5⟩;have hv5:Cg (AB v k5) xs v H5:=by rw[hH5,<-hABk v (k1+1)];exact Dj.at hv4 (hABr _ _) _
         simp(disch:=omega) only[go_sem,↓reduceIte];rw[hres2];exact RAt.finP ((hABa v k5).more (Dj.sub hv5)) ⟨rfl,rfl⟩
        | ok a k5=>
         rw[hpr2] at hp2 had2;rw[hpr2,En] at hLm;dsimp only[Adv] at had2;refine(hp2 (Aw (by simp))).mono ?_;rintro e H5 ⟨rfl,hH5⟩;have hv5:Cg (AB v k5) xs v H5:=by rw[hH5,<-hABk v (k1+1)];exact Dj.at hv4 (hABr _ _) _
         have g52:=Dj.keep hv5 (hAB2 _ _);have hla2:=Bd a;simp(disch:=omega) only[go_sem,↓reduceIte,e0,e2,e3,g42,g52,dC];rw[He hla2];simp(disch:=omega) only[go_sem,↓reduceIte,e0,e2,e3,g42,g52];intro r8 hr8;dsimp only at hr8;have n8:r2≠r8:=Ae hr8 g52;simp(disch:=omega) only[go_sem,↓reduceIte,e0,e2,e3,g52,n8];refine Dj.append (m:=1) (Dj.new hv5 hr8 _) (by rw[hla2]) (by omega) fun v2 H6 hv2=> ?_;have g62:=Dj.keep hv2 (hAB2 _ _);obtain⟨j1,j2⟩:=Dj.cell1 hv2;simp(disch:=omega) only[go_sem,↓reduceIte,e0,e2,e3,g62,j1,j2];obtain⟨m',rfl⟩: ∃m',m=m'+1:=by
          cases m with
          | zero=>rw[hL0 c3] at hLm;rw[<-hLm,Eb] at hres2;rw[hres2] at hn;exact absurd rfl hn
          | succ m'=>exact⟨m',rfl⟩
         have hlen2:(xs++ [a]).length<=k5:=by rw[List.length_append,List.length_singleton];omega
         have hv3:Cg (AB v2 k5) (xs++ [a]) v2 (upd H6 r2 (some (.cells [v2, .int .u8 0, .int .u8 0, .int .i64 0, .str [], .nilSlice, .nilSlice, .int .i64 0, .int .i64 0, .int .i64 0] 44))):=by
          have:=Dj.at hv2 (hAB2 _ _) (some (.cells [v2, .int .u8 0, .int .u8 0, .int .i64 0, .str [], .nilSlice, .nilSlice, .int .i64 0, .int .i64 0, .int .i64 0] 44));rw[hABv] at this;unfold Cg;rw[List.length_append,List.length_singleton,List.flatMap_append,List.flatMap_singleton];exact this
         refine⟨(m',xs++ [a],k5),_,Ni.refl _,(hI _ _ _).2 ?_,by dsimp only;omega⟩;simp(disch:=omega) only[go_sem,↓reduceIte,e0,e2,e3];(repeat' apply And.intro)<;>(try first | rfl | assumption | omega);exact⟨v2,hv3⟩
       ·have b':isW l k1 [Dk]=false:=by simpa using b
        rw[if_neg (fun h=>b h.2)] at hLm;rw[if_neg b,Be gr] at hH4;rw[hH4];simp(disch:=omega) only[go_sem,↓reduceIte,e0,e2,e3,b'];refine(Gj hG heap Ap gr (by omega) (by omega)).mono ?_;intro e1 H8 hq;rw[<-hLm,En] at hres2;unfold must at hq hres2;by_cases b5:isW l k1 [Ap]=true
        ·rw[if_pos b5] at hq hres2;obtain⟨rfl,hH8⟩:=hq;dsimp only at hres2;have hk5:=Am b5 hk1;rw[List.length_singleton] at hk5;have hv8:Cg (AB v (k1+1)) xs v H8:=by rw[hH8,<-hABk v k1];exact Dj.at hv (hABr _ _) _
         simp(disch:=omega) only[go_sem,↓reduceIte,e0,e2,e3];have hpk:=hpa _ (k1+1) (Dj.keep hv8 (hABr _ _)) hk5;dsimp only at hpk;cases hpe:(P l (n'+1)).expr (k1+1) with
         | bot=>rw[hpe,Eb] at hres2;rw[hres2] at hn;exact absurd rfl hn
         | fail k6=>
          rw[hpe] at hpk;rw[hpe,Dr] at hres2;refine(hpk (Aw (by simp))).mono ?_;rintro e H9 ⟨rfl,hH9⟩;have hv9:Cg (AB v k6) xs v H9:=by rw[hH9,<-hABk v (k1+1)];exact Dj.at hv8 (hABr _ _) _
          simp(disch:=omega) only[go_sem,↓reduceIte];rw[hres2];exact RAt.finP ((hABa v k6).more (Dj.sub hv9)) ⟨rfl,rfl⟩
         | ok y k6=>
          rw[hpe] at hpk;rw[hpe,En] at hres2;refine(hpk (Aw (by simp))).mono ?_;rintro e H9 ⟨rfl,hH9⟩;have hv9:Cg (AB v k6) xs v H9:=by rw[hH9,<-hABk v (k1+1)];exact Dj.at hv8 (hABr _ _) _
          have g92:=Dj.keep hv9 (hAB2 v k6);obtain⟨j1,j2⟩:=Dj.cell1 hv9;have hly:=Ah y;have hoy:=Al y;simp(disch:=omega) only[go_sem,↓reduceIte,e0,e2,e3,dE,g92,hly,hoy,j1,j2];rw[hres2];have hvf:=fun z=>Dj.less (Dj.at hv9 (hAB2 v k6) z) ((hABa v k6).own hr2 q2 z);refine Fc.fin (Dj.sub (hvf _)) (Fc.agg (Fc.assoc (c:=xs) (Dj.sub (hvf _)) (Fc.own (hvf _)))) ⟨rfl,rfl⟩
        ·rw[if_neg b5] at hq hres2;obtain⟨rfl,hH8⟩:=hq;have hv8:Cg (AB v k1) xs v H8:=by rw[hH8,<-hABk v k1];exact Dj.at hv (hABr _ _) _
         simp(disch:=omega) only[go_sem,↓reduceIte];rw[hres2];exact RAt.finP ((hABa v k1).more (Dj.sub hv8)) ⟨rfl,rfl⟩
    ·have b2':isW l k3 [Ap]=false:=by simpa using b2
     rw[if_pos ⟨c1,b1',b2'⟩] at hres;obtain⟨x,hx⟩: ∃x,c.l= [x]:=by
      rcases Ld hpr with h | h | h
      ·rw[h.1] at c1;cases c1
      ·rw[h.1] at c1;cases c1
      ·exact h.2
     have gl:(dCh c)[1]? =some (.vslice (dEx x) 1):=by rw[Yd,hx,List.flatMap_singleton];rfl
     rw[hx] at hres;have hlx:=Ah x;have hox:=Al x;have htx:List.take 9 (List.drop 0 (dEx x))=dEx x:=List.take_of_length_le (by rw[List.drop_zero];omega);simp(disch:=omega) only[go_sem,↓reduceIte,b2',gc3,gl,hlx,htx,List.drop_zero,gc2,hox];rw[hres];have hat:=fun z=>hac.own hr2 q2 z;exact Fc.fin (hat _) (Fc.agg (Fc.assoc (c:= []) (hat _) (.ch0 (hat _)))) ⟨rfl,rfl⟩
  ·simp(disch:=omega) only[go_sem,↓reduceIte,gc3,gk,c1];have hnc: ¬(c.kind=1/\isW l k3 [Dk]=false/\isW l k3 [Ap]=false):=fun h=>c1 h.1;have hsh:=Ld hpr;obtain⟨n',rfl⟩: ∃n',n=n'+1:=by
    cases n with
    | zero=>cases hpr
    | succ n'=>exact⟨n',rfl⟩
   obtain⟨L',hL0,hL,hres2⟩: ∃L':Nat->List Ch->Nat->Res (List Ch),(c.kind≠3-> ∀x k,L' 0 x k= .bot)/\(∀m x k,L' (m+1) x k=if c.kind≠3/\isW l k [Dk]=true then((P l m).choice (k+1)).then fun a k=>L' m (x++ [a]) k else .ok x k)/\res=(L' (n'+1) [c] k3).then fun cs k=>must l Ap k fun k=>((P l (n'+1)).expr k).then fun e k=> .ok (.mk cs e) k:=by
    rw[hres];by_cases c3:c.kind=3
    ·refine⟨fun _ x k=> .ok x k,fun h=>absurd c3 h,fun m x k=>by rw[if_neg (fun h=>h.1 c3)],?_⟩;rw[if_neg (fun h=>by rw[c3] at h;exact absurd h.1 (by decide)),if_pos c3];rfl
    ·refine⟨fun m=>(P l m).choicesL,fun _ _ _=>rfl,fun m x k=> ?_,?_⟩
     ·have e:(P l (m+1)).choicesL x k=if isW l k [Dk] then((P l m).choice (k+1)).then fun c k=>(P l m).choicesL (x++ [c]) k else .ok x k:=rfl
      show(P l (m+1)).choicesL x k=_;rw[e];by_cases hb:isW l k [Dk]=true
      ·rw[if_pos hb,if_pos ⟨c3,hb⟩]
      ·rw[if_neg hb,if_neg (fun h=>hb h.2)]
     ·rw[if_neg hnc,if_neg c3]
   obtain⟨AB,hAB⟩: ∃AB:DVal->Nat->Ac,∀v k,AB v k=upd (upd Hc r2 (some (.cells [v, .int .u8 0, .int .u8 0, .int .i64 0, .str [], .nilSlice, .nilSlice, .int .i64 0, .int .i64 0, .int .i64 0] 44))) r (some (rdO l k)):=⟨_,fun _ _=>rfl⟩;have hABr: ∀v k,AB v k r=some (rdO l k):=fun v k=>by rw[hAB];exact Aa _ _ _
   have hAB2: ∀v k,AB v k r2=some (.cells [v, .int .u8 0, .int .u8 0, .int .i64 0, .str [], .nilSlice, .nilSlice, .int .i64 0, .int .i64 0, .int .i64 0] 44):=fun v k=>by rw[hAB,Ao _ _ _ _ q2];exact Aa _ _ _
   have hAB3: ∀v k,AB v k r3=some (.cells (dCh c) 47):=fun v k=>by rw[hAB,Ao _ _ _ _ q3,Ao _ _ _ _ m23];exact gc3
   have hABk: ∀v k k',upd (AB v k) r (some (rdO l k'))=AB v k':=fun v k k'=>by rw[hAB,hAB,Da]
   have hABv: ∀v v' k,upd (AB v k) r2 (some (.cells [v', .int .u8 0, .int .u8 0, .int .i64 0, .str [], .nilSlice, .nilSlice, .int .i64 0, .int .i64 0, .int .i64 0] 44))=AB v' k:=fun v v' k=>by rw[hAB,hAB,Qr q2,Da]
   have hABa: ∀v k,RAt r l k H (AB v k):=fun v k=>by rw[hAB];exact(hac.own hr2 q2 _).set k
   simp(disch:=omega) only[go_sem,↓reduceIte,gc2,gc3,hlc];rw[show List.drop 2 (Cx 1 [DVal.int .u8 0,DVal.nilSlice])= [] from rfl];simp(disch:=omega) only[go_sem,↓reduceIte,hlc,hoc];intro r28 h28;dsimp only at h28;simp(disch:=omega) only[go_sem,↓reduceIte];intro r29 h29;dsimp only at h29;obtain⟨H6,hH6⟩: ∃K,K=upd (upd Hc r28 (some (.cells (dCh c) 47))) r29 (some (.cells (dCh c) 47)):=⟨_,rfl⟩;rw[<-hH6];have s28:Sub Hc (upd Hc r28 (some (.cells (dCh c) 47))):=(Sub.refl Hc).new h28 _;have hv6:Dj Hc 47 2 1 (dCh c) (.oslice 2 r29 0 1 1) H6:= .inr ⟨r29,s28.lo h29,hlc,rfl,by rw[hH6];exact Aa _ _ _,by rw[hH6];exact s28.new h29 _⟩;obtain⟨v1,hv1⟩: ∃v1,v1=DVal.oslice 2 r29 0 1 1:=⟨_,rfl⟩;rw[<-hv1] at hv6⊢
   have g62:=hv6.keep gc2;obtain⟨k1a,k1b⟩:=hv6.cell1;simp(disch:=omega) only[go_sem,↓reduceIte,g62,k1a,k1b];have hv7:Cg (AB v1 k3) [c] v1 (upd H6 r2 (some (.cells [v1, .int .u8 0, .int .u8 0, .int .i64 0, .str [], .nilSlice, .nilSlice, .int .i64 0, .int .i64 0, .int .i64 0] 44))):=by
    have:=hv6.at gc2 (some (.cells [v1, .int .u8 0, .int .u8 0, .int .i64 0, .str [], .nilSlice, .nilSlice, .int .i64 0, .int .i64 0, .int .i64 0] 44));rw[show AB v1 k3=upd Hc r2 (some (.cells [v1, .int .u8 0, .int .u8 0, .int .i64 0, .str [], .nilSlice, .nilSlice, .int .i64 0, .int .i64 0, .int .i64 0] 44)) by rw[hAB];exact Be (Ag hac.get n2)];unfold Cg;rw[List.flatMap_singleton];exact this
   obtain⟨I,hI⟩: ∃I:Nat×List Ch×Nat->(Nat->DVal)->Ac->Prop,∀s env heap,I s env heap↔(env 0= .optr r 0/\env 2= .optr r2 0/\env 3= .optr r3 0/\s.2.2<=l.length/\s.2.1.length<=s.2.2/\s.1<=n'/\L' (s.1+1) s.2.1 s.2.2=L' (n'+1) [c] k3/\ ∃v,Cg (AB v s.2.2) s.2.1 v heap):=⟨_,fun _ _ _=>Iff.rfl⟩;refine Bt4.run I (fun s=>s.1) (n',[c],k3) ((hI _ _ _).2 ?_) ?_
   ·simp(disch:=omega) only[go_sem,↓reduceIte];(repeat' apply And.intro)<;>(try first | rfl | assumption | omega);exact⟨v1,hv7⟩
   ·rintro⟨m,xs,k1⟩ env heap hi';obtain⟨e0,e2,e3,hk1,hlen,hm,hLm,v,hv⟩:=(hI _ _ _).1 hi';dsimp only at hk1 hlen hm hLm hv;rw[hL] at hLm;have gr:heap r=some (rdO l k1):=Dj.keep hv (hABr _ _);have g2:=Dj.keep hv (hAB2 _ _);have g3:=Dj.keep hv (hAB3 _ _);by_cases c3:c.kind=3
    ·rw[if_neg (fun h=>h.1 c3)] at hLm;simp(disch:=omega) only[go_sem,↓reduceIte,e0,e2,e3,g3,gk,c3];refine(Gj hG heap Ap gr (by omega) (by omega)).mono ?_;intro e1 H8 hq;rw[<-hLm,En] at hres2;unfold must at hq hres2;by_cases b5:isW l k1 [Ap]=true
     ·rw[if_pos b5] at hq hres2;obtain⟨rfl,hH8⟩:=hq;dsimp only at hres2;have hk5:=Am b5 hk1;rw[List.length_singleton] at hk5;have hv8:Cg (AB v (k1+1)) xs v H8:=by rw[hH8,<-hABk v k1];exact Dj.at hv (hABr _ _) _
      simp(disch:=omega) only[go_sem,↓reduceIte,e0,e2,e3];have hpk:=hpa _ (k1+1) (Dj.keep hv8 (hABr _ _)) hk5;dsimp only at hpk;cases hpe:(P l (n'+1)).expr (k1+1) with
      | bot=>rw[hpe,Eb] at hres2;rw[hres2] at hn;exact absurd rfl hn
      | fail k6=>
       rw[hpe] at hpk;rw[hpe,Dr] at hres2;refine(hpk (Aw (by simp))).mono ?_;rintro e H9 ⟨rfl,hH9⟩;have hv9:Cg (AB v k6) xs v H9:=by rw[hH9,<-hABk v (k1+1)];exact Dj.at hv8 (hABr _ _) _
       simp(disch:=omega) only[go_sem,↓reduceIte];rw[hres2];exact RAt.finP ((hABa v k6).more (Dj.sub hv9)) ⟨rfl,rfl⟩
      | ok y k6=>
       rw[hpe] at hpk;rw[hpe,En] at hres2;refine(hpk (Aw (by simp))).mono ?_;rintro e H9 ⟨rfl,hH9⟩;have hv9:Cg (AB v k6) xs v H9:=by rw[hH9,<-hABk v (k1+1)];exact Dj.at hv8 (hABr _ _) _
       have g92:=Dj.keep hv9 (hAB2 v k6);obtain⟨j1,j2⟩:=Dj.cell1 hv9;have hly:=Ah y;have hoy:=Al y;simp(disch:=omega) only[go_sem,↓reduceIte,e0,e2,e3,dE,g92,hly,hoy,j1,j2];rw[hres2];have hvf:=fun z=>Dj.less (Dj.at hv9 (hAB2 v k6) z) ((hABa v k6).own hr2 q2 z);refine Fc.fin (Dj.sub (hvf _)) (Fc.agg (Fc.assoc (c:=xs) (Dj.sub (hvf _)) (Fc.own (hvf _)))) ⟨rfl,rfl⟩
     ·rw[if_neg b5] at hq hres2;obtain⟨rfl,hH8⟩:=hq;have hv8:Cg (AB v k1) xs v H8:=by rw[hH8,<-hABk v k1];exact Dj.at hv (hABr _ _) _
      simp(disch:=omega) only[go_sem,↓reduceIte];rw[hres2];exact RAt.finP ((hABa v k1).more (Dj.sub hv8)) ⟨rfl,rfl⟩
    ·simp(disch:=omega) only[go_sem,↓reduceIte,e0,e2,e3,g3,gk,c3];intro w1 hw1;dsimp only at hw1;simp(disch:=omega) only[go_sem,↓reduceIte,e0,e2,e3,g3,gk,c3];refine(Rv hG _ w1 Dk hw1 gr (by omega) (by omega)).mono ?_;rintro _ H4 ⟨rfl,hH4⟩;by_cases b:isW l k1 [Dk]=true
     ·rw[if_pos ⟨c3,b⟩] at hLm;rw[if_pos b] at hH4;have hk4:=Am b hk1;rw[List.length_singleton] at hk4;have hv4:Cg (AB v (k1+1)) xs v H4:=by rw[hH4,<-hABk v k1];exact Dj.at hv (hABr _ _) _
      have g42:=Dj.keep hv4 (hAB2 _ _);simp(disch:=omega) only[go_sem,↓reduceIte,e0,e2,e3,b];refine Aj (by kernel_rfl) (.take 0 (.take 1 (.take 2 (.go 3 [1] (.go 4 [1] (.go 5 [] (.take 6 (.go 7 [] .done)))))))) (by kernel_rfl) ?_;simp(disch:=omega) only[go_sem,↓reduceIte,e0,e2,e3,g42];have hp2:=hc m (by omega) _ (k1+1) (Dj.keep hv4 (hABr _ _)) hk4;have had2:=(Bn (l:=l) m).choice (k1+1) hk4;dsimp only at hp2;cases hpr2:(P l m).choice (k1+1) with
      | bot=>
       rw[hpr2,Eb] at hLm;rw[<-hLm,Eb] at hres2;rw[hres2] at hn;exact absurd rfl hn
      | fail k5=>
       rw[hpr2] at hp2;rw[hpr2,Dr] at hLm;rw[<-hLm,Dr] at hres2;refine(hp2 (Aw (by simp))).mono ?_;rintro e H5 ⟨rfl,hH5⟩;have hv5:Cg (AB v k5) xs v H5:=by rw[hH5,<-hABk v (k1+1)];exact Dj.at hv4 (hABr _ _) _
       simp(disch:=omega) only[go_sem,↓reduceIte];rw[hres2];exact RAt.finP ((hABa v k5).more (Dj.sub hv5)) ⟨rfl,rfl⟩
      | ok a k5=>
       rw[hpr2] at hp2 had2;rw[hpr2,En] at hLm;dsimp only[Adv] at had2;refine(hp2 (Aw (by simp))).mono ?_;rintro e H5 ⟨rfl,hH5⟩;have hv5:Cg (AB v k5) xs v H5:=by rw[hH5,<-hABk v (k1+1)];exact Dj.at hv4 (hABr _ _) _
       have g52:=Dj.keep hv5 (hAB2 _ _);have hla2:=Bd a;simp(disch:=omega) only[go_sem,↓reduceIte,e0,e2,e3,g42,g52,dC];rw[He hla2];simp(disch:=omega) only[go_sem,↓reduceIte,e0,e2,e3,g42,g52];intro r8 hr8;dsimp only at hr8;have n8:r2≠r8:=Ae hr8 g52;simp(disch:=omega) only[go_sem,↓reduceIte,e0,e2,e3,g52,n8];refine Dj.append (m:=1) (Dj.new hv5 hr8 _) (by rw[hla2]) (by omega) fun v2 H6 hv2=> ?_;have g62:=Dj.keep hv2 (hAB2 _ _);obtain⟨j1,j2⟩:=Dj.cell1 hv2;simp(disch:=omega) only[go_sem,↓reduceIte,e0,e2,e3,g62,j1,j2];obtain⟨m',rfl⟩: ∃m',m=m'+1:=by
        cases m with
        | zero=>rw[hL0 c3] at hLm;rw[<-hLm,Eb] at hres2;rw[hres2] at hn;exact absurd rfl hn
        | succ m'=>exact⟨m',rfl⟩
       have hlen2:(xs++ [a]).length<=k5:=by rw[List.length_append,List.length_singleton];omega
       have hv3:Cg (AB v2 k5) (xs++ [a]) v2 (upd H6 r2 (some (.cells [v2, .int .u8 0, .int .u8 0, .int .i64 0, .str [], .nilSlice, .nilSlice, .int .i64 0, .int .i64 0, .int .i64 0] 44))):=by
        have:=Dj.at hv2 (hAB2 _ _) (some (.cells [v2, .int .u8 0, .int .u8 0, .int .i64 0, .str [], .nilSlice, .nilSlice, .int .i64 0, .int .i64 0, .int .i64 0] 44));rw[hABv] at this;unfold Cg;rw[List.length_append,List.length_singleton,List.flatMap_append,List.flatMap_singleton];exact this
       refine⟨(m',xs++ [a],k5),_,Ni.refl _,(hI _ _ _).2 ?_,by dsimp only;omega⟩;simp(disch:=omega) only[go_sem,↓reduceIte,e0,e2,e3];(repeat' apply And.intro)<;>(try first | rfl | assumption | omega);exact⟨v2,hv3⟩
     ·have b':isW l k1 [Dk]=false:=by simpa using b
      rw[if_neg (fun h=>b h.2)] at hLm;rw[if_neg b,Be gr] at hH4;rw[hH4];simp(disch:=omega) only[go_sem,↓reduceIte,e0,e2,e3,b'];refine(Gj hG heap Ap gr (by omega) (by omega)).mono ?_;intro e1 H8 hq;rw[<-hLm,En] at hres2;unfold must at hq hres2;by_cases b5:isW l k1 [Ap]=true
      ·rw[if_pos b5] at hq hres2;obtain⟨rfl,hH8⟩:=hq;dsimp only at hres2;have hk5:=Am b5 hk1;rw[List.length_singleton] at hk5;have hv8:Cg (AB v (k1+1)) xs v H8:=by rw[hH8,<-hABk v k1];exact Dj.at hv (hABr _ _) _
       simp(disch:=omega) only[go_sem,↓reduceIte,e0,e2,e3];have hpk:=hpa _ (k1+1) (Dj.keep hv8 (hABr _ _)) hk5;dsimp only at hpk;cases hpe:(P l (n'+1)).expr (k1+1) with
       | bot=>rw[hpe,Eb] at hres2;rw[hres2] at hn;exact absurd rfl hn
       | fail k6=>
        rw[hpe] at hpk;rw[hpe,Dr] at hres2;refine(hpk (Aw (by simp))).mono ?_;rintro e H9 ⟨rfl,hH9⟩;have hv9:Cg (AB v k6) xs v H9:=by rw[hH9,<-hABk v (k1+1)];exact Dj.at hv8 (hABr _ _) _
        simp(disch:=omega) only[go_sem,↓reduceIte];rw[hres2];exact RAt.finP ((hABa v k6).more (Dj.sub hv9)) ⟨rfl,rfl⟩
       | ok y k6=>
        rw[hpe] at hpk;rw[hpe,En] at hres2;refine(hpk (Aw (by simp))).mono ?_;rintro e H9 ⟨rfl,hH9⟩;have hv9:Cg (AB v k6) xs v H9:=by rw[hH9,<-hABk v (k1+1)];exact Dj.at hv8 (hABr _ _) _
        have g92:=Dj.keep hv9 (hAB2 v k6);obtain⟨j1,j2⟩:=Dj.cell1 hv9;have hly:=Ah y;have hoy:=Al y;simp(disch:=omega) only[go_sem,↓reduceIte,e0,e2,e3,dE,g92,hly,hoy,j1,j2];rw[hres2];have hvf:=fun z=>Dj.less (Dj.at hv9 (hAB2 v k6) z) ((hABa v k6).own hr2 q2 z);refine Fc.fin (Dj.sub (hvf _)) (Fc.agg (Fc.assoc (c:=xs) (Dj.sub (hvf _)) (Fc.own (hvf _)))) ⟨rfl,rfl⟩
      ·rw[if_neg b5] at hq hres2;obtain⟨rfl,hH8⟩:=hq;have hv8:Cg (AB v k1) xs v H8:=by rw[hH8,<-hABk v k1];exact Dj.at hv (hABr _ _) _
       simp(disch:=omega) only[go_sem,↓reduceIte];rw[hres2];exact RAt.finP ((hABa v k1).more (Dj.sub hv8)) ⟨rfl,rfl⟩
end
end Go.Dl
