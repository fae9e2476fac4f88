/- The data level and the contracts of the functions that are reached (part 7). -/
import Derived.Test.YtpkdkhoeaibpaaaGreatDoorPdf
set_option linter.unusedSimpArgs false
set_option linter.unusedVariables false
set_option linter.unusedSectionVars false
-- Chapter 4: which indications and discrete ranges are valid: package shape.
namespace Go.Dl
open Go Go.Proofs
set_option maxRecDepth 100000
theorem Fy (G:Nat->DVal) (H:Bb) (l:List Ex) (r:Nat) (hc:H r=some (.cells (l.flatMap dEx) 29)) (hl:l.length<=1099511627776) (hb: ∀x∈l,Dn 1048576 x):
  Bh Tryz.prog G 69 [.oslice 9 r 0 l.length l.length] H (Bt (.bool (l.all noE)) H):=
 Tc.lent (H:=h0) (Tc.cons (Zl.cells (fun _ _ h=>by cases h) rfl hc (Bq Aa l) (.keep (fun _ _ h=>by cases h) _)) .nil) (Ao3 G h0 l hl hb) rfl
section
variable {G:Nat->DVal} (hG:GX G)
include hG
theorem Eo (H:Bb) (l:List Ex) (r:Nat) (hc:H r=some (.cells (l.flatMap dEx) 29)) (hl:l.length<=1099511627776) (hb: ∀x∈l,Dn 1048576 x):
  Bh Tryz.prog G 70 [.oslice 9 r 0 l.length l.length] H (Bt (.bool (l.all Cp)) H):=
 Tc.lent (H:=h0) (Tc.cons (Zl.cells (fun _ _ h=>by cases h) rfl hc (Bq Aa l) (.keep (fun _ _ h=>by cases h) _)) .nil) (Ag4 hG h0 l hl hb) rfl
set_option maxHeartbeats 40000000 in
theorem Kx (H:Bb) (s:Ind) (hs:Vp 1048576 s):Bh Tryz.prog G 16 [.agg (Fb s)] H (Bt (.bool (Ce s)) H):=by
 obtain⟨f0,f1,f2,f3⟩:=hs;have p2: ∀x∈ [s.lo,s.hi],Dn 1048576 x:=by intro x hx;simp at hx;rcases hx with rfl | rfl<;>assumption
 have p1: ∀x∈ [s.value],Dn 1048576 x:=by intro x hx;simp at hx;subst hx;assumption
 have e2: [s.lo,s.hi].all noE=(noE s.lo&&noE s.hi):=by simp
 have e1: [s.value].all noE=noE s.value:=by simp
 have d2: [s.lo,s.hi].all Cp=(Cp s.lo&&Cp s.hi):=by simp
 have d1: [s.value].all Cp=Cp s.value:=by simp
 have q2: [s.lo,s.hi].flatMap dEx=dEx s.lo++dEx s.hi:=by simp
 have q1: [s.value].flatMap dEx=dEx s.value:=by simp
 refine Bc Tryz.func16 Tryz.call16 rfl (by kernel_rfl) ?_;simp(disch:=omega) only[go_sem,↓reduceIte,DVal.cells];intro r1 hr1;dsimp only at hr1;obtain⟨K,hK⟩: ∃K',K'=upd H r1 (some (.cells (Fb s) 45)):=⟨_,rfl⟩;rw[<-hK];have gr1:K r1=some (.cells (Fb s) 45):=by rw[hK];exact Bp _ _ _
 have sK:Sub H K:=by rw[hK];exact(Sub.refl _).new hr1 _
 simp(disch:=omega) only[go_sem,↓reduceIte,gr1,Bl,Cf,Cg,Ci,Cj,Aj (Aa _),Ak (Aa _) (Aa _)];refine Gs (by kernel_rfl) (.take 0 (.take 1 (.take 2 (.take 3 (.take 7 (.take 8 (.alt (.go 9 [3,1] (.go 4 [8] (.go 5 [8] (.take 6 (.go 10 [] (.take 11 (.take 12 (.take 13 .done)))))))) (.go 4 [8] (.alt (.go 9 [3,1] (.go 5 [8] (.take 6 (.go 10 [] (.take 11 (.take 12 (.take 13 .done))))))) (.go 5 [8] (.take 6 (.go 9 [3,1] (.go 10 [] (.take 11 (.take 12 (.take 13 .done)))))))))))))))) (by kernel_rfl) ?_;simp(disch:=omega) only[go_sem,↓reduceIte,gr1,Bl,Cf,Cg,Ci,Cj,Aj (Aa _),Ak (Aa _) (Aa _)];refine⟨?_, ?_⟩
 ·intro r14 hr14;dsimp only at hr14;obtain⟨K2,hK2⟩: ∃K',K'=upd K r14 (some (.cells (dEx s.value) 29)):=⟨_,rfl⟩;rw[<-hK2];have gr14:K2 r14=some (.cells (dEx s.value) 29):=by rw[hK2];exact Bp _ _ _
  have sK2:Sub K K2:=by rw[hK2];exact(Sub.refl _).new hr14 _
  have g1':K2 r1=some (.cells (Fb s) 45):=sK2 _ _ gr1;simp(disch:=omega) only[go_sem,↓reduceIte,g1',Bl,Cf,Cg,Ci,Cj,Aj (Aa _),Ak (Aa _) (Aa _)];refine⟨⟨gr1.symm,gr1.symm⟩, ?_⟩;intro r9 hr9;dsimp only at hr9;obtain⟨K3,hK3⟩: ∃K',K'=upd K2 r9 (some (.cells (dEx s.lo++dEx s.hi) 29)):=⟨_,rfl⟩;rw[<-hK3];have gr9:K3 r9=some (.cells (dEx s.lo++dEx s.hi) 29):=by rw[hK3];exact Bp _ _ _
  have sK3:Sub K2 K3:=by rw[hK3];exact(Sub.refl _).new hr9 _
  have g1:K3 r1=some (.cells (Fb s) 45):=sK3 _ _ g1';have g14:K3 r14=some (.cells (dEx s.value) 29):=sK3 _ _ gr14;have t:Sub H K3:=sK.trans (sK2.trans sK3);simp(disch:=omega) only[go_sem,↓reduceIte,g1,Bl,Cf,Cg,Ci,Cj,Aj (Aa _),Ak (Aa _) (Aa _)];refine⟨g1'.symm, ?_⟩;refine Bh.monoR (Fy G K3 [s.lo,s.hi] r9 (by rw[q2];exact gr9) (by simp) p2) ?_;rw[e2];simp(disch:=omega) only[go_sem,↓reduceIte,g1,Bl,Cf,Cg,Ci,Cj,Aj (Aa _),Ak (Aa _) (Aa _)];refine Bh.monoR (Fy G K3 [s.value] r14 (by rw[q1];exact g14) (by simp) p1) ?_;rw[e1];simp(disch:=omega) only[go_sem,↓reduceIte,g1,Bl,Cf,Cg,Ci,Cj,Aj (Aa _),Ak (Aa _) (Aa _)];refine Bh.monoR (Kh hG K3 s.name f0) ?_;cases h3:Hs s.name
  ·simp(disch:=omega) only[go_sem,↓reduceIte,g1,Bl,Cf,Cg,Ci,Cj,Aj (Aa _),Ak (Aa _) (Aa _)];exact Rm.sub t (.refl ⟨by simp [Ce, *],rfl⟩)
  ·cases h1:(noE s.lo&&noE s.hi)<;>cases h2:noE s.value
   ·simp(disch:=omega) only[go_sem,↓reduceIte,g1,Bl,Cf,Cg,Ci,Cj,Aj (Aa _),Ak (Aa _) (Aa _)];exact Rm.sub t (.refl ⟨by rw[Ce,h3,h2,h1];simp,rfl⟩)
   ·simp(disch:=omega) only[go_sem,↓reduceIte,g1,Bl,Cf,Cg,Ci,Cj,Aj (Aa _),Ak (Aa _) (Aa _)];intro r35 hr35;dsimp only at hr35;obtain⟨K4,hK4⟩: ∃K',K'=upd K3 r35 (some (.cells (dEx s.lo++dEx s.hi) 29)):=⟨_,rfl⟩;rw[<-hK4];have gr35:K4 r35=some (.cells (dEx s.lo++dEx s.hi) 29):=by rw[hK4];exact Bp _ _ _
    have sK4:Sub K3 K4:=by rw[hK4];exact(Sub.refl _).new hr35 _
    have g4:K4 r1=some (.cells (Fb s) 45):=sK4 _ _ g1;simp(disch:=omega) only[go_sem,↓reduceIte,g4,Bl,Cf,Cg,Ci,Cj,Aj (Aa _),Ak (Aa _) (Aa _)];refine Bh.monoR (Eo hG K4 [s.lo,s.hi] r35 (by rw[q2];exact gr35) (by simp) p2) ?_;rw[d2];cases h5:(Cp s.lo&&Cp s.hi)
    ·simp(disch:=omega) only[go_sem,↓reduceIte,g4,Bl,Cf,Cg,Ci,Cj,Aj (Aa _),Ak (Aa _) (Aa _)];exact Rm.sub (t.trans sK4) (.refl ⟨by rw[Ce,h3,h2,h1,h5];simp,rfl⟩)
    ·simp(disch:=omega) only[go_sem,↓reduceIte,g4,Bl,Cf,Cg,Ci,Cj,Aj (Aa _),Ak (Aa _) (Aa _)];exact Rm.sub (t.trans sK4) (.refl ⟨by rw[Ce,h3,h2,h1,h5];simp,rfl⟩)
   ·simp(disch:=omega) only[go_sem,↓reduceIte,g1,Bl,Cf,Cg,Ci,Cj,Aj (Aa _),Ak (Aa _) (Aa _)];intro r45 hr45;dsimp only at hr45;obtain⟨K4,hK4⟩: ∃K',K'=upd K3 r45 (some (.cells (dEx s.value) 29)):=⟨_,rfl⟩;rw[<-hK4];have gr45:K4 r45=some (.cells (dEx s.value) 29):=by rw[hK4];exact Bp _ _ _
    have sK4:Sub K3 K4:=by rw[hK4];exact(Sub.refl _).new hr45 _
    have g4:K4 r1=some (.cells (Fb s) 45):=sK4 _ _ g1;simp(disch:=omega) only[go_sem,↓reduceIte,g4,Bl,Cf,Cg,Ci,Cj,Aj (Aa _),Ak (Aa _) (Aa _)];refine Bh.monoR (Eo hG K4 [s.value] r45 (by rw[q1];exact gr45) (by simp) p1) ?_;rw[d1];cases h5:Cp s.value
    ·simp(disch:=omega) only[go_sem,↓reduceIte,g4,Bl,Cf,Cg,Ci,Cj,Aj (Aa _),Ak (Aa _) (Aa _)];exact Rm.sub (t.trans sK4) (.refl ⟨by rw[Ce,h3,h2,h1,h5];simp,rfl⟩)
    ·simp(disch:=omega) only[go_sem,↓reduceIte,g4,Bl,Cf,Cg,Ci,Cj,Aj (Aa _),Ak (Aa _) (Aa _)];exact Rm.sub (t.trans sK4) (.refl ⟨by rw[Ce,h3,h2,h1,h5];simp,rfl⟩)
   ·simp(disch:=omega) only[go_sem,↓reduceIte,g1,Bl,Cf,Cg,Ci,Cj,Aj (Aa _),Ak (Aa _) (Aa _)];exact Rm.sub t (.refl ⟨by rw[Ce,h3,h2,h1];simp,rfl⟩)
 ·intro r9 hr9;dsimp only at hr9;obtain⟨K2,hK2⟩: ∃K',K'=upd K r9 (some (.cells (dEx s.lo++dEx s.hi) 29)):=⟨_,rfl⟩;rw[<-hK2];have gr9:K2 r9=some (.cells (dEx s.lo++dEx s.hi) 29):=by rw[hK2];exact Bp _ _ _
  have sK2:Sub K K2:=by rw[hK2];exact(Sub.refl _).new hr9 _
  have g1':K2 r1=some (.cells (Fb s) 45):=sK2 _ _ gr1;simp(disch:=omega) only[go_sem,↓reduceIte,g1',Bl,Cf,Cg,Ci,Cj,Aj (Aa _),Ak (Aa _) (Aa _)];refine⟨gr1.symm, ?_, ?_⟩
  ·intro r14 hr14;dsimp only at hr14;obtain⟨K3,hK3⟩: ∃K',K'=upd K2 r14 (some (.cells (dEx s.value) 29)):=⟨_,rfl⟩;rw[<-hK3];have gr14:K3 r14=some (.cells (dEx s.value) 29):=by rw[hK3];exact Bp _ _ _
   have sK3:Sub K2 K3:=by rw[hK3];exact(Sub.refl _).new hr14 _
   have g1:K3 r1=some (.cells (Fb s) 45):=sK3 _ _ g1';have g9:K3 r9=some (.cells (dEx s.lo++dEx s.hi) 29):=sK3 _ _ gr9;have t:Sub H K3:=sK.trans (sK2.trans sK3);simp(disch:=omega) only[go_sem,↓reduceIte,g1,Bl,Cf,Cg,Ci,Cj,Aj (Aa _),Ak (Aa _) (Aa _)];refine⟨⟨g1'.symm,g1'.symm⟩, ?_⟩;refine Bh.monoR (Fy G K3 [s.lo,s.hi] r9 (by rw[q2];exact g9) (by simp) p2) ?_;rw[e2];simp(disch:=omega) only[go_sem,↓reduceIte,g1,Bl,Cf,Cg,Ci,Cj,Aj (Aa _),Ak (Aa _) (Aa _)];refine Bh.monoR (Fy G K3 [s.value] r14 (by rw[q1];exact gr14) (by simp) p1) ?_;rw[e1];simp(disch:=omega) only[go_sem,↓reduceIte,g1,Bl,Cf,Cg,Ci,Cj,Aj (Aa _),Ak (Aa _) (Aa _)];refine Bh.monoR (Kh hG K3 s.name f0) ?_;cases h3:Hs s.name
   ·simp(disch:=omega) only[go_sem,↓reduceIte,g1,Bl,Cf,Cg,Ci,Cj,Aj (Aa _),Ak (Aa _) (Aa _)];exact Rm.sub t (.refl ⟨by simp [Ce, *],rfl⟩)
   ·cases h1:(noE s.lo&&noE s.hi)<;>cases h2:noE s.value
    ·simp(disch:=omega) only[go_sem,↓reduceIte,g1,Bl,Cf,Cg,Ci,Cj,Aj (Aa _),Ak (Aa _) (Aa _)];exact Rm.sub t (.refl ⟨by rw[Ce,h3,h2,h1];simp,rfl⟩)
    ·simp(disch:=omega) only[go_sem,↓reduceIte,g1,Bl,Cf,Cg,Ci,Cj,Aj (Aa _),Ak (Aa _) (Aa _)];intro r35 hr35;dsimp only at hr35;obtain⟨K4,hK4⟩: ∃K',K'=upd K3 r35 (some (.cells (dEx s.lo++dEx s.hi) 29)):=⟨_,rfl⟩;rw[<-hK4];have gr35:K4 r35=some (.cells (dEx s.lo++dEx s.hi) 29):=by rw[hK4];exact Bp _ _ _
     have sK4:Sub K3 K4:=by rw[hK4];exact(Sub.refl _).new hr35 _
     have g4:K4 r1=some (.cells (Fb s) 45):=sK4 _ _ g1;simp(disch:=omega) only[go_sem,↓reduceIte,g4,Bl,Cf,Cg,Ci,Cj,Aj (Aa _),Ak (Aa _) (Aa _)];refine Bh.monoR (Eo hG K4 [s.lo,s.hi] r35 (by rw[q2];exact gr35) (by simp) p2) ?_;rw[d2];cases h5:(Cp s.lo&&Cp s.hi)
     ·simp(disch:=omega) only[go_sem,↓reduceIte,g4,Bl,Cf,Cg,Ci,Cj,Aj (Aa _),Ak (Aa _) (Aa _)];exact Rm.sub (t.trans sK4) (.refl ⟨by rw[Ce,h3,h2,h1,h5];simp,rfl⟩)
     ·simp(disch:=omega) only[go_sem,↓reduceIte,g4,Bl,Cf,Cg,Ci,Cj,Aj (Aa _),Ak (Aa _) (Aa _)];exact Rm.sub (t.trans sK4) (.refl ⟨by rw[Ce,h3,h2,h1,h5];simp,rfl⟩)
    ·simp(disch:=omega) only[go_sem,↓reduceIte,g1,Bl,Cf,Cg,Ci,Cj,Aj (Aa _),Ak (Aa _) (Aa _)];intro r45 hr45;dsimp only at hr45;obtain⟨K4,hK4⟩: ∃K',K'=upd K3 r45 (some (.cells (dEx s.value) 29)):=⟨_,rfl⟩;rw[<-hK4];have gr45:K4 r45=some (.cells (dEx s.value) 29):=by rw[hK4];exact Bp _ _ _
     have sK4:Sub K3 K4:=by rw[hK4];exact(Sub.refl _).new hr45 _
     have g4:K4 r1=some (.cells (Fb s) 45):=sK4 _ _ g1;simp(disch:=omega) only[go_sem,↓reduceIte,g4,Bl,Cf,Cg,Ci,Cj,Aj (Aa _),Ak (Aa _) (Aa _)];refine Bh.monoR (Eo hG K4 [s.value] r45 (by rw[q1];exact gr45) (by simp) p1) ?_;rw[d1];cases h5:Cp s.value
     ·simp(disch:=omega) only[go_sem,↓reduceIte,g4,Bl,Cf,Cg,Ci,Cj,Aj (Aa _),Ak (Aa _) (Aa _)];exact Rm.sub (t.trans sK4) (.refl ⟨by rw[Ce,h3,h2,h1,h5];simp,rfl⟩)
     ·simp(disch:=omega) only[go_sem,↓reduceIte,g4,Bl,Cf,Cg,Ci,Cj,Aj (Aa _),Ak (Aa _) (Aa _)];exact Rm.sub (t.trans sK4) (.refl ⟨by rw[Ce,h3,h2,h1,h5];simp,rfl⟩)
    ·simp(disch:=omega) only[go_sem,↓reduceIte,g1,Bl,Cf,Cg,Ci,Cj,Aj (Aa _),Ak (Aa _) (Aa _)];exact Rm.sub t (.refl ⟨by rw[Ce,h3,h2,h1];simp,rfl⟩)
  ·refine Bh.monoR (Fy G K2 [s.lo,s.hi] r9 (by rw[q2];exact gr9) (by simp) p2) ?_;rw[e2];simp(disch:=omega) only[go_sem,↓reduceIte,g1',Bl,Cf,Cg,Ci,Cj,Aj (Aa _),Ak (Aa _) (Aa _)];intro r14 hr14;dsimp only at hr14;obtain⟨K3,hK3⟩: ∃K',K'=upd K2 r14 (some (.cells (dEx s.value) 29)):=⟨_,rfl⟩;rw[<-hK3];have gr14:K3 r14=some (.cells (dEx s.value) 29):=by rw[hK3];exact Bp _ _ _
   have sK3:Sub K2 K3:=by rw[hK3];exact(Sub.refl _).new hr14 _
   have g1:K3 r1=some (.cells (Fb s) 45):=sK3 _ _ g1';have t:Sub H K3:=sK.trans (sK2.trans sK3);simp(disch:=omega) only[go_sem,↓reduceIte,g1,Bl,Cf,Cg,Ci,Cj,Aj (Aa _),Ak (Aa _) (Aa _)];refine⟨⟨g1'.symm,g1'.symm⟩, ?_⟩;refine Bh.monoR (Fy G K3 [s.value] r14 (by rw[q1];exact gr14) (by simp) p1) ?_;rw[e1];simp(disch:=omega) only[go_sem,↓reduceIte,g1,Bl,Cf,Cg,Ci,Cj,Aj (Aa _),Ak (Aa _) (Aa _)];refine Bh.monoR (Kh hG K3 s.name f0) ?_;cases h3:Hs s.name
   ·simp(disch:=omega) only[go_sem,↓reduceIte,g1,Bl,Cf,Cg,Ci,Cj,Aj (Aa _),Ak (Aa _) (Aa _)];exact Rm.sub t (.refl ⟨by simp [Ce, *],rfl⟩)
   ·cases h1:(noE s.lo&&noE s.hi)<;>cases h2:noE s.value
    ·simp(disch:=omega) only[go_sem,↓reduceIte,g1,Bl,Cf,Cg,Ci,Cj,Aj (Aa _),Ak (Aa _) (Aa _)];exact Rm.sub t (.refl ⟨by rw[Ce,h3,h2,h1];simp,rfl⟩)
    ·simp(disch:=omega) only[go_sem,↓reduceIte,g1,Bl,Cf,Cg,Ci,Cj,Aj (Aa _),Ak (Aa _) (Aa _)];intro r35 hr35;dsimp only at hr35;obtain⟨K4,hK4⟩: ∃K',K'=upd K3 r35 (some (.cells (dEx s.lo++dEx s.hi) 29)):=⟨_,rfl⟩;rw[<-hK4];have gr35:K4 r35=some (.cells (dEx s.lo++dEx s.hi) 29):=by rw[hK4];exact Bp _ _ _
     have sK4:Sub K3 K4:=by rw[hK4];exact(Sub.refl _).new hr35 _
     have g4:K4 r1=some (.cells (Fb s) 45):=sK4 _ _ g1;simp(disch:=omega) only[go_sem,↓reduceIte,g4,Bl,Cf,Cg,Ci,Cj,Aj (Aa _),Ak (Aa _) (Aa _)];refine Bh.monoR (Eo hG K4 [s.lo,s.hi] r35 (by rw[q2];exact gr35) (by simp) p2) ?_;rw[d2];cases h5:(Cp s.lo&&Cp s.hi)
     ·simp(disch:=omega) only[go_sem,↓reduceIte,g4,Bl,Cf,Cg,Ci,Cj,Aj (Aa _),Ak (Aa _) (Aa _)];exact Rm.sub (t.trans sK4) (.refl ⟨by rw[Ce,h3,h2,h1,h5];simp,rfl⟩)
     ·simp(disch:=omega) only[go_sem,↓reduceIte,g4,Bl,Cf,Cg,Ci,Cj,Aj (Aa _),Ak (Aa _) (Aa _)];exact Rm.sub (t.trans sK4) (.refl ⟨by rw[Ce,h3,h2,h1,h5];simp,rfl⟩)
    ·simp(disch:=omega) only[go_sem,↓reduceIte,g1,Bl,Cf,Cg,Ci,Cj,Aj (Aa _),Ak (Aa _) (Aa _)];intro r45 hr45;dsimp only at hr45;obtain⟨K4,hK4⟩: ∃K',K'=upd K3 r45 (some (.cells (dEx s.value) 29)):=⟨_,rfl⟩;rw[<-hK4];have gr45:K4 r45=some (.cells (dEx s.value) 29):=by rw[hK4];exact Bp _ _ _
     have sK4:Sub K3 K4:=by rw[hK4];exact(Sub.refl _).new hr45 _
     have g4:K4 r1=some (.cells (Fb s) 45):=sK4 _ _ g1;simp(disch:=omega) only[go_sem,↓reduceIte,g4,Bl,Cf,Cg,Ci,Cj,Aj (Aa _),Ak (Aa _) (Aa _)];refine Bh.monoR (Eo hG K4 [s.value] r45 (by rw[q1];exact gr45) (by simp) p1) ?_;rw[d1];cases h5:Cp s.value
     ·simp(disch:=omega) only[go_sem,↓reduceIte,g4,Bl,Cf,Cg,Ci,Cj,Aj (Aa _),Ak (Aa _) (Aa _)];exact Rm.sub (t.trans sK4) (.refl ⟨by rw[Ce,h3,h2,h1,h5];simp,rfl⟩)
     ·simp(disch:=omega) only[go_sem,↓reduceIte,g4,Bl,Cf,Cg,Ci,Cj,Aj (Aa _),Ak (Aa _) (Aa _)];exact Rm.sub (t.trans sK4) (.refl ⟨by rw[Ce,h3,h2,h1,h5];simp,rfl⟩)
    ·simp(disch:=omega) only[go_sem,↓reduceIte,g1,Bl,Cf,Cg,Ci,Cj,Aj (Aa _),Ak (Aa _) (Aa _)];exact Rm.sub t (.refl ⟨by rw[Ce,h3,h2,h1];simp,rfl⟩)
end
end Go.Dl

-- Chapter 4: which discrete ranges are valid: package shape.
namespace Go.Dl
open Go Go.Proofs
set_option maxRecDepth 100000
section
variable {G:Nat->DVal} (hG:GX G)
include hG
set_option maxHeartbeats 40000000 in
theorem Yx (H:Bb) (d:Dis) (hd:Yt 1048576 d):Bh Tryz.prog G 18 [.agg (Gh d)] H (Bt (.bool (Fd d)) H):=by
 obtain⟨f0,f1,f2⟩:=hd;have p2: ∀x∈ [d.lo,d.hi],Dn 1048576 x:=by intro x hx;simp at hx;rcases hx with rfl | rfl<;>assumption
 have p1: ∀x∈ [d.name],Dn 1048576 x:=by intro x hx;simp at hx;subst hx;assumption
 have e2: [d.lo,d.hi].all noE=(noE d.lo&&noE d.hi):=by simp
 have e1: [d.name].all noE=noE d.name:=by simp
 have d2: [d.lo,d.hi].all Cp=(Cp d.lo&&Cp d.hi):=by simp
 have d1: [d.name].all Cp=Cp d.name:=by simp
 have q2: [d.lo,d.hi].flatMap dEx=dEx d.lo++dEx d.hi:=by simp
 have q1: [d.name].flatMap dEx=dEx d.name:=by simp
 refine Bc Tryz.func18 Tryz.call18 rfl (by kernel_rfl) ?_;simp(disch:=omega) only[go_sem,↓reduceIte,DVal.cells];intro r1 hr1;dsimp only at hr1;obtain⟨K,hK⟩: ∃K',K'=upd H r1 (some (.cells (Gh d) 47)):=⟨_,rfl⟩;rw[<-hK];have gr1:K r1=some (.cells (Gh d) 47):=by rw[hK];exact Bp _ _ _
 have sK:Sub H K:=by rw[hK];exact(Sub.refl _).new hr1 _
 simp(disch:=omega) only[go_sem,↓reduceIte,gr1,Bs,Dt,Du,Dv,En,Aj (Aa _),Ak (Aa _) (Aa _)];intro r7 hr7;dsimp only at hr7;obtain⟨K2,hK2⟩: ∃K',K'=upd K r7 (some (.cells (dEx d.lo++dEx d.hi) 29)):=⟨_,rfl⟩;rw[<-hK2];have gr7:K2 r7=some (.cells (dEx d.lo++dEx d.hi) 29):=by rw[hK2];exact Bp _ _ _
 have sK2:Sub K K2:=by rw[hK2];exact(Sub.refl _).new hr7 _
 have g2:K2 r1=some (.cells (Gh d) 47):=sK2 _ _ gr1;have t2:Sub H K2:=sK.trans sK2;simp(disch:=omega) only[go_sem,↓reduceIte,g2,Bs,Dt,Du,Dv,En,Aj (Aa _),Ak (Aa _) (Aa _)];refine Bh.monoR (Fy G K2 [d.lo,d.hi] r7 (by rw[q2];exact gr7) (by simp) p2) ?_;rw[e2];cases h1:(noE d.lo&&noE d.hi)
 ·simp(disch:=omega) only[go_sem,↓reduceIte,g2,Bs,Dt,Du,Dv,En,Aj (Aa _),Ak (Aa _) (Aa _)];intro r28 hr28;dsimp only at hr28;obtain⟨K3,hK3⟩: ∃K',K'=upd K2 r28 (some (.cells (dEx d.lo++dEx d.hi) 29)):=⟨_,rfl⟩;rw[<-hK3];have gr28:K3 r28=some (.cells (dEx d.lo++dEx d.hi) 29):=by rw[hK3];exact Bp _ _ _
  have sK3:Sub K2 K3:=by rw[hK3];exact(Sub.refl _).new hr28 _
  have g3:K3 r1=some (.cells (Gh d) 47):=sK3 _ _ g2;have t3:Sub H K3:=t2.trans sK3;simp(disch:=omega) only[go_sem,↓reduceIte,g3,Bs,Dt,Du,Dv,En,Aj (Aa _),Ak (Aa _) (Aa _)];refine Bh.monoR (Eo hG K3 [d.lo,d.hi] r28 (by rw[q2];exact gr28) (by simp) p2) ?_;rw[d2];cases h2:(Cp d.lo&&Cp d.hi)
  ·simp(disch:=omega) only[go_sem,↓reduceIte,g3,Bs,Dt,Du,Dv,En,Aj (Aa _),Ak (Aa _) (Aa _)];exact Rm.sub t3 (.refl ⟨by rw[Fd,h1,h2];simp,rfl⟩)
  ·simp(disch:=omega) only[go_sem,↓reduceIte,g3,Bs,Dt,Du,Dv,En,Aj (Aa _),Ak (Aa _) (Aa _)];intro r33 hr33;dsimp only at hr33;obtain⟨K4,hK4⟩: ∃K',K'=upd K3 r33 (some (.cells (dEx d.name) 29)):=⟨_,rfl⟩;rw[<-hK4];have gr33:K4 r33=some (.cells (dEx d.name) 29):=by rw[hK4];exact Bp _ _ _
   have sK4:Sub K3 K4:=by rw[hK4];exact(Sub.refl _).new hr33 _
   have g4:K4 r1=some (.cells (Gh d) 47):=sK4 _ _ g3;have t4:Sub H K4:=t3.trans sK4;simp(disch:=omega) only[go_sem,↓reduceIte,g4,Bs,Dt,Du,Dv,En,Aj (Aa _),Ak (Aa _) (Aa _)];refine Bh.monoR (Fy G K4 [d.name] r33 (by rw[q1];exact gr33) (by simp) p1) ?_;rw[e1];cases h3:noE d.name
   ·simp(disch:=omega) only[go_sem,↓reduceIte,g4,Bs,Dt,Du,Dv,En,Aj (Aa _),Ak (Aa _) (Aa _)];refine Bh.monoR (Kh hG K4 d.name f0) ?_;simp(disch:=omega) only[go_sem,↓reduceIte,g4,Bs,Dt,Du,Dv,En,Aj (Aa _),Ak (Aa _) (Aa _)];exact Rm.sub t4 (.refl ⟨by rw[Fd,h1,h2,h3];simp,rfl⟩)
   ·simp(disch:=omega) only[go_sem,↓reduceIte,g4,Bs,Dt,Du,Dv,En,Aj (Aa _),Ak (Aa _) (Aa _)];exact Rm.sub t4 (.refl ⟨by rw[Fd,h1,h2,h3];simp,rfl⟩)
 ·simp(disch:=omega) only[go_sem,↓reduceIte,g2,Bs,Dt,Du,Dv,En,Aj (Aa _),Ak (Aa _) (Aa _)];refine Bh.monoR (Kh hG K2 d.name f0) ?_;cases h2:Hs d.name
  ·by_cases h4:d.name.kind=6
   ·simp(disch:=omega) only[go_sem,↓reduceIte,g2,h4,Bs,Dt,Du,Dv,En,Aj (Aa _)];intro r20 hr20;dsimp only at hr20;obtain⟨K3,hK3⟩: ∃K',K'=upd K2 r20 (some (.cells (dEx d.name) 29)):=⟨_,rfl⟩;rw[<-hK3];have gr20:K3 r20=some (.cells (dEx d.name) 29):=by rw[hK3];exact Bp _ _ _
    have sK3:Sub K2 K3:=by rw[hK3];exact(Sub.refl _).new hr20 _
    have g3:K3 r1=some (.cells (Gh d) 47):=sK3 _ _ g2;have t3:Sub H K3:=t2.trans sK3;simp(disch:=omega) only[go_sem,↓reduceIte,g3,Bs,Dt,Du,Dv,En,Aj (Aa _),Ak (Aa _) (Aa _)];refine Bh.monoR (Eo hG K3 [d.name] r20 (by rw[q1];exact gr20) (by simp) p1) ?_;rw[d1];simp(disch:=omega) only[go_sem,↓reduceIte,g3,Bs,Dt,Du,Dv,En,Aj (Aa _),Ak (Aa _) (Aa _)];exact Rm.sub t3 (.refl ⟨by rw[Fd,h1,h2];simp [h4],rfl⟩)
   ·simp(disch:=omega) only[go_sem,↓reduceIte,g2,h4,Bs,Dt,Du,Dv,En,Aj (Aa _)];exact Rm.sub t2 (.refl ⟨by rw[Fd,h1,h2];simp [h4],rfl⟩)
  ·simp(disch:=omega) only[go_sem,↓reduceIte,g2,Bs,Dt,Du,Dv,En,Aj (Aa _),Ak (Aa _) (Aa _)];exact Rm.sub t2 (.refl ⟨by rw[Fd,h1,h2];simp,rfl⟩)
end
end Go.Dl

-- Chapter 4: sums of names (package).
namespace Go.Dl
open Go Go.Proofs
set_option maxRecDepth 100000
theorem Du9 (G:Nat->DVal) (H:Bb) (l:List Par) (p:Par->Bool) (nm:Par->List (List UInt8)) (g1 g2:FuncId) (hl:l.length<=1048576) (hn: ∀x∈l,(nm x).length<=1048576)
  (h1: ∀x∈l,∀K,Bh Tryz.prog G g1 ([]++ [.agg (Iy x)]++ []) K (Bt (dW (nm x)) K)) (h2: ∀x∈l,∀K,Bh Tryz.prog G g2 ([]++ [.agg (Iy x)]++ []) K (Bt (.bool (p x)) K)):
  Bh Tryz.prog G 73 [.vslice (l.flatMap Iy) l.length, .func (.func g1) [] [], .func (.func g2) [] []] H (Bt (.tuple [dI (if l.all p then((l.map fun x=>(nm x).length).sum:Nat) else 0), .bool (l.all p)]) H):=by
 refine Bc Tryz.func73 Tryz.call73 rfl (by kernel_rfl) ?_;simp(disch:=omega) only[go_sem,↓reduceIte];obtain⟨I,hI⟩: ∃I:Nat->(Nat->DVal)->Bb->Prop,∀i env heap,I i env heap↔(heap=H/\env 1= .func (.func g1) [] []/\env 2= .func (.func g2) [] []/\env 10= .vslice (l.flatMap Iy) l.length/\env 11=dI l.length/\env 12=dI i/\env 6=dI (((l.take i).map fun x=>(nm x).length).sum:Nat)/\i<=l.length/\((l.take i).map fun x=>(nm x).length).sum<=i*1048576/\ ∀x∈l.take i,p x=true):=⟨_,fun _ _ _=>Iff.rfl⟩;refine Cn3.run I (fun i=>l.length-i) 0 ((hI _ _ _).2 ?_) ?_
 ·simp(disch:=omega) only[go_sem,↓reduceIte];simp
 ·intro i env heap hi;obtain⟨rfl,e1,e2,e10,e11,e12,e6,hi,hs,hp⟩:=(hI _ _ _).1 hi;by_cases hlt:i<l.length
  ·have hlti:(i:Int)<(l.length:Int):=by omega
   have Cc:=Cm Ck l i hlt;have hwd:IntKind.i64.wrap ((i:Int)+1)=((i+1:Nat):Int):=by rw[IntKind.wrap_i64];omega
   simp(disch:=omega) only[go_sem,↓reduceIte,e1,e2,e10,e11,e12,e6,hlti,Cc,Bq Ck];intro r hr;dsimp only at hr;simp(disch:=omega) only[go_sem,↓reduceIte,e1,e2,e10,e11,e12,e6];have mx:=List.getElem_mem hlt;have hst:((l.take (i+1)).map fun x=>(nm x).length).sum=((l.take i).map fun x=>(nm x).length).sum+(nm l[i]).length:=by
    rw[List.take_add_one,List.getElem?_eq_getElem hlt,List.map_append,List.sum_append];congr 1
   have hn1:=hn l[i] mx;refine Bh.monoR (by simpa using h2 l[i] mx _) ?_;cases hx:p l[i]
   ·simp(disch:=omega) only[go_sem,↓reduceIte,e1,e2,e10,e11,e12,e6];have hall:l.all p=false:=by
     rw[List.all_eq_false];exact⟨l[i],mx,by simp [hx]⟩
    exact Rm.dropA r hr (Rm.refl ⟨by rw[hall];rfl,rfl⟩)
   ·simp(disch:=omega) only[go_sem,↓reduceIte,e1,e2,e10,e11,e12,e6];refine Bh.monoR (by simpa using h1 l[i] mx _) ?_;have hwe:IntKind.i64.wrap ((((l.take i).map fun x=>(nm x).length).sum:Nat)+((nm l[i]).length:Int))=((((l.take (i+1)).map fun x=>(nm x).length).sum:Nat):Int):=by
     rw[hst,IntKind.wrap_i64];omega
    simp(disch:=omega) only[go_sem,↓reduceIte,e1,e2,e10,e11,e12,e6,dW];refine⟨i+1,_,Rd.drop _ r,(hI _ _ _).2 ?_,by omega⟩;simp(disch:=omega) only[go_sem,↓reduceIte,e1,e2,e10,e11,e12,e6,hwe,hwd];(repeat' apply And.intro)<;>(try first | rfl | assumption | omega)
    ·exact Ly hr
    ·rw[hst];rfl
    ·intro x hx';rw[List.take_add_one,List.getElem?_eq_getElem hlt] at hx';rcases List.mem_append.1 hx' with h | h
     ·exact hp x h
     ·simp at h;subst h;exact hx
  ·have:i=l.length:=by omega
   subst this;rw[List.take_length] at hp e6;have hall:l.all p=true:=by rw[List.all_eq_true];exact hp
   have hlti: ¬(l.length:Int)<(l.length:Int):=by omega
   simp(disch:=omega) only[go_sem,↓reduceIte,e1,e2,e10,e11,e12,e6,hlti];exact Rm.refl ⟨by rw[hall];rfl,rfl⟩
end Go.Dl

-- Chapter 4: which parameters are valid: package shape.
namespace Go.Dl
open Go Go.Proofs
set_option maxRecDepth 100000
theorem Cw6 (G:Nat->DVal) (H:Bb) (p:Par):Bh Tryz.prog G 74 ([]++ [.agg (Iy p)]++ []) H (Bt (dW p.names) H):=by
 refine Bc Tryz.func74 Tryz.call74 rfl (by kernel_rfl) ?_;simp(disch:=omega) only[go_sem,↓reduceIte,DVal.cells,List.nil_append,List.append_nil];intro r1 hr1;dsimp only at hr1;obtain⟨K,hK⟩: ∃K',K'=upd H r1 (some (.cells (Iy p) 32)):=⟨_,rfl⟩;rw[<-hK];have gr1:K r1=some (.cells (Iy p) 32):=by rw[hK];exact Bp _ _ _
 have sK:Sub H K:=by rw[hK];exact(Sub.refl _).new hr1 _
 simp(disch:=omega) only[go_sem,↓reduceIte,gr1,Ck,Fj,Fk,Fl,Dw,Aj (Aa _)];exact Rm.sub sK (.refl ⟨rfl,rfl⟩)
section
variable {G:Nat->DVal} (hG:GX G)
include hG
set_option maxHeartbeats 40000000 in
theorem Br8 (H:Bb) (p:Par) (hp:Yu 1048576 p):Bh Tryz.prog G 75 ([]++ [.agg (Iy p)]++ []) H (Bt (.bool (Ge p)) H):=by
 obtain⟨f0,f1,f2⟩:=hp;have p1: ∀x∈ [p.e],Dn 1048576 x:=by intro x hx;simp at hx;subst hx;assumption
 have e1: [p.e].all noE=noE p.e:=by simp
 have d1: [p.e].all Cp=Cp p.e:=by simp
 have q1: [p.e].flatMap dEx=dEx p.e:=by simp
 refine Bc Tryz.func75 Tryz.call75 rfl (by kernel_rfl) ?_;simp(disch:=omega) only[go_sem,↓reduceIte,DVal.cells,List.nil_append,List.append_nil];intro r1 hr1;dsimp only at hr1;obtain⟨K,hK⟩: ∃K',K'=upd H r1 (some (.cells (Iy p) 32)):=⟨_,rfl⟩;rw[<-hK];have gr1:K r1=some (.cells (Iy p) 32):=by rw[hK];exact Bp _ _ _
 have sK:Sub H K:=by rw[hK];exact(Sub.refl _).new hr1 _
 simp(disch:=omega) only[go_sem,↓reduceIte,gr1,Ck,Fj,Fk,Fl,Dw,Aj (Aa _)];refine Gs (by kernel_rfl) (.take 0 (.take 1 (.take 2 (.take 3 (.take 4 (.go 5 [1] (.go 6 [1] (.take 7 (.take 8 (.take 9 .done)))))))))) (by kernel_rfl) ?_;simp(disch:=omega) only[go_sem,↓reduceIte,gr1,Ck,Fj,Fk,Fl,Dw,Aj (Aa _)];intro r10 hr10;dsimp only at hr10;obtain⟨K2,hK2⟩: ∃K',K'=upd K r10 (some (.cells (dEx p.e) 29)):=⟨_,rfl⟩;rw[<-hK2];have gr10:K2 r10=some (.cells (dEx p.e) 29):=by rw[hK2];exact Bp _ _ _
 have sK2:Sub K K2:=by rw[hK2];exact(Sub.refl _).new hr10 _
 have g2:K2 r1=some (.cells (Iy p) 32):=sK2 _ _ gr1;have t2:Sub H K2:=sK.trans sK2;simp(disch:=omega) only[go_sem,↓reduceIte,g2,Ck,Fj,Fk,Fl,Dw,Aj (Aa _)];refine⟨gr1.symm, ?_⟩;refine Bh.monoR (Fy G K2 [p.e] r10 (by rw[q1];exact gr10) (by simp) p1) ?_;rw[e1];simp(disch:=omega) only[go_sem,↓reduceIte,g2,Ck,Fj,Fk,Fl,Dw,Aj (Aa _)];refine Bh.monoR (Uf hG K2 p.names 8 f0) ?_;cases h1:Cs p.names 8
 ·simp(disch:=omega) only[go_sem,↓reduceIte,g2,Ck,Fj,Fk,Fl,Dw,Aj (Aa _)];exact Rm.sub t2 (.refl ⟨by rw[Ge,h1];simp,rfl⟩)
 simp(disch:=omega) only[go_sem,↓reduceIte,g2,Ck,Fj,Fk,Fl,Dw,Aj (Aa _)];refine Bh.monoR (Kh hG K2 p.type f1) ?_;cases h2:Hs p.type
 ·simp(disch:=omega) only[go_sem,↓reduceIte,g2,Ck,Fj,Fk,Fl,Dw,Aj (Aa _)];exact Rm.sub t2 (.refl ⟨by rw[Ge,h1,h2];simp,rfl⟩)
 cases h3:noE p.e
 ·by_cases m1:p.mode=1
  ·simp(disch:=omega) only[go_sem,↓reduceIte,g2,m1,Ck,Fj,Fk,Fl,Dw,Aj (Aa _)];intro r42 hr42;dsimp only at hr42;obtain⟨K3,hK3⟩: ∃K',K'=upd K2 r42 (some (.cells (dEx p.e) 29)):=⟨_,rfl⟩;rw[<-hK3];have gr42:K3 r42=some (.cells (dEx p.e) 29):=by rw[hK3];exact Bp _ _ _
   have sK3:Sub K2 K3:=by rw[hK3];exact(Sub.refl _).new hr42 _
   have g3:K3 r1=some (.cells (Iy p) 32):=sK3 _ _ g2;have t3:Sub H K3:=t2.trans sK3;simp(disch:=omega) only[go_sem,↓reduceIte,g3,Ck,Fj,Fk,Fl,Dw,Aj (Aa _)];refine Bh.monoR (Eo hG K3 [p.e] r42 (by rw[q1];exact gr42) (by simp) p1) ?_;rw[d1];simp(disch:=omega) only[go_sem,↓reduceIte,g3,Ck,Fj,Fk,Fl,Dw,Aj (Aa _)];exact Rm.sub t3 (.refl ⟨by rw[Ge,h1,h2,He,h3];simp [m1],rfl⟩)
  ·by_cases m2:p.mode=2
   ·simp(disch:=omega) only[go_sem,↓reduceIte,g2,m2,Ck,Fj,Fk,Fl,Dw,Aj (Aa _)];exact Rm.sub t2 (.refl ⟨by rw[Ge,h1,h2,He,h3];simp [m2],rfl⟩)
   ·by_cases m3:p.mode=3
    ·simp(disch:=omega) only[go_sem,↓reduceIte,g2,m3,Ck,Fj,Fk,Fl,Dw,Aj (Aa _)];exact Rm.sub t2 (.refl ⟨by rw[Ge,h1,h2,He,h3];simp [m3],rfl⟩)
    ·simp(disch:=omega) only[go_sem,↓reduceIte,g2,m1,m2,m3,Ck,Fj,Fk,Fl,Dw,Aj (Aa _)];exact Rm.sub t2 (.refl ⟨by rw[Ge,h1,h2,He,h3];simp [m1],rfl⟩)
 ·by_cases m1:p.mode=1
  ·simp(disch:=omega) only[go_sem,↓reduceIte,g2,m1,Ck,Fj,Fk,Fl,Dw,Aj (Aa _)];exact Rm.sub t2 (.refl ⟨by rw[Ge,h1,h2,He,h3];simp [m1],rfl⟩)
  ·by_cases m2:p.mode=2
   ·simp(disch:=omega) only[go_sem,↓reduceIte,g2,m2,Ck,Fj,Fk,Fl,Dw,Aj (Aa _)];exact Rm.sub t2 (.refl ⟨by rw[Ge,h1,h2,He,h3];simp [m2],rfl⟩)
   ·by_cases m3:p.mode=3
    ·simp(disch:=omega) only[go_sem,↓reduceIte,g2,m3,Ck,Fj,Fk,Fl,Dw,Aj (Aa _)];exact Rm.sub t2 (.refl ⟨by rw[Ge,h1,h2,He,h3];simp [m3],rfl⟩)
    ·simp(disch:=omega) only[go_sem,↓reduceIte,g2,m1,m2,m3,Ck,Fj,Fk,Fl,Dw,Aj (Aa _)];exact Rm.sub t2 (.refl ⟨by rw[Ge,h1,h2,He,h3];simp [m1];omega,rfl⟩)
theorem Ag5 (H:Bb) (l:List Par) (hl:Ht Yu 1048576 l):Bh Tryz.prog G 20 [Ry l] H (Bt (.bool (Jl l)) H):=by
 refine Bc Tryz.func20 Tryz.call20 rfl (by kernel_rfl) ?_;simp(disch:=omega) only[go_sem,↓reduceIte,Ry];refine Bh.monoR (Du9 G H l Ge (fun p=>p.names) 74 75 hl.1 (fun x hx=>(hl.2 x hx).1.1) (fun x hx K=>Cw6 G K x) (fun x hx K=>Br8 hG K x (hl.2 x hx))) ?_;cases h:l.all Ge
 ·simp(disch:=omega) only[go_sem,↓reduceIte];exact Rm.refl ⟨by rw[Jl,h];rfl,rfl⟩
 ·simp(disch:=omega) only[go_sem,↓reduceIte];exact Rm.refl ⟨by rw[Jl,h,Rw];simp;omega,rfl⟩
end
end Go.Dl

-- Chapter 4: which aspects and components are valid: package shape.
namespace Go.Dl
open Go Go.Proofs
set_option maxRecDepth 100000
theorem Cw7 (G:Nat->DVal) (H:Bb) (p:Asp->Bool) (l:List Asp) (g:FuncId) (xs ys:List DVal) (hl:l.length<=1099511627776)
  (hp: ∀x∈l,Bh Tryz.prog G g (xs++ [.agg (Qt x)]++ys) H (Bt (.bool (p x)) H)):
  Bh Tryz.prog G 154 [.vslice (l.flatMap Qt) l.length, .func (.func g) xs ys] H (Bt (dI (Zi p l)) H):=by
 refine Bc Tryz.func154 Tryz.call154 rfl (by kernel_rfl) ?_;simp(disch:=omega) only[go_sem,↓reduceIte];refine Cn3.run (fun(i:Nat) env heap=>heap=H/\env 0= .vslice (l.flatMap Qt) l.length/\env 1= .func (.func g) xs ys/\env 7=dI l.length/\env 8=dI i/\i<=l.length/\ ∀x∈l.take i,p x=false) (fun i=>l.length-i) 0 ?_ ?_
 ·simp(disch:=omega) only[go_sem,↓reduceIte];simp
 ·rintro i env heap ⟨rfl,h0,h1,h7,h8,hi,hn⟩;by_cases hlt:i<l.length
  ·have Cc:=Cm Hf l i hlt;simp(disch:=omega) only[go_sem,↓reduceIte,h0,h1,h7,h8,Cc,Bq Hf];have hc:=hp l[i] (List.getElem_mem hlt)
   skip
   refine hc.mono ?_;rintro _ H ⟨rfl,rfl⟩;cases hx:p l[i] with
   | true=>
    simp(disch:=omega) only[go_sem,↓reduceIte,h0,h1,h7,h8];exact Rm.refl ⟨by rw[So hlt hx hn],rfl⟩
   | false=>
    simp(disch:=omega) only[go_sem,↓reduceIte,h0,h1,h7,h8];refine⟨i+1,_,Rd.refl _, ?_,by omega⟩;simp(disch:=omega) only[go_sem,↓reduceIte,h0,h1,h7,h8];(repeat' apply And.intro)<;>(try first | rfl | assumption | omega);exact Hm hlt hn hx
  ·simp(disch:=omega) only[go_sem,↓reduceIte,h0,h1,h7,h8];have:i=l.length:=by omega
   subst this;rw[List.take_length] at hn;exact Rm.refl ⟨by rw[Sp hn],rfl⟩
theorem Bg9 (G:Nat->DVal) (H:Bb) (p:Asp->Bool) (l:List Asp) (g:FuncId) (xs ys:List DVal) (hl:l.length<=1099511627776)
  (hp: ∀x∈l,Bh Tryz.prog G g (xs++ [.agg (Qt x)]++ys) H (Bt (.bool (p x)) H)):
  Bh Tryz.prog G 79 [.vslice (l.flatMap Qt) l.length, .func (.func g) xs ys] H (Bt (.bool (l.any p)) H):=by
 refine Bc Tryz.func79 Tryz.call79 rfl (by kernel_rfl) ?_;simp(disch:=omega) only[go_sem,↓reduceIte];refine(Cw7 G H p l g xs ys hl hp).mono ?_;rintro _ H ⟨rfl,rfl⟩;simp(disch:=omega) only[go_sem,↓reduceIte];exact Rm.refl ⟨by rw[Od],rfl⟩
theorem Dv0 (G:Nat->DVal) (H:Bb) (l:List Cmp) (p:Cmp->Bool) (nm:Cmp->List (List UInt8)) (g1 g2:FuncId) (hl:l.length<=1048576) (hn: ∀x∈l,(nm x).length<=1048576)
  (h1: ∀x∈l,∀K,Bh Tryz.prog G g1 ([]++ [.agg (Kg x)]++ []) K (Bt (dW (nm x)) K)) (h2: ∀x∈l,∀K,Bh Tryz.prog G g2 ([]++ [.agg (Kg x)]++ []) K (Bt (.bool (p x)) K)):
  Bh Tryz.prog G 161 [.vslice (l.flatMap Kg) l.length, .func (.func g1) [] [], .func (.func g2) [] []] H (Bt (.tuple [dI (if l.all p then((l.map fun x=>(nm x).length).sum:Nat) else 0), .bool (l.all p)]) H):=by
 refine Bc Tryz.func161 Tryz.call161 rfl (by kernel_rfl) ?_;simp(disch:=omega) only[go_sem,↓reduceIte];obtain⟨I,hI⟩: ∃I:Nat->(Nat->DVal)->Bb->Prop,∀i env heap,I i env heap↔(heap=H/\env 1= .func (.func g1) [] []/\env 2= .func (.func g2) [] []/\env 10= .vslice (l.flatMap Kg) l.length/\env 11=dI l.length/\env 12=dI i/\env 6=dI (((l.take i).map fun x=>(nm x).length).sum:Nat)/\i<=l.length/\((l.take i).map fun x=>(nm x).length).sum<=i*1048576/\ ∀x∈l.take i,p x=true):=⟨_,fun _ _ _=>Iff.rfl⟩;refine Cn3.run I (fun i=>l.length-i) 0 ((hI _ _ _).2 ?_) ?_
 ·simp(disch:=omega) only[go_sem,↓reduceIte];simp
 ·intro i env heap hi;obtain⟨rfl,e1,e2,e10,e11,e12,e6,hi,hs,hp⟩:=(hI _ _ _).1 hi;by_cases hlt:i<l.length
  ·have hlti:(i:Int)<(l.length:Int):=by omega
   have Cc:=Cm Ea l i hlt;have hwd:IntKind.i64.wrap ((i:Int)+1)=((i+1:Nat):Int):=by rw[IntKind.wrap_i64];omega
   simp(disch:=omega) only[go_sem,↓reduceIte,e1,e2,e10,e11,e12,e6,hlti,Cc,Bq Ea];intro r hr;dsimp only at hr;simp(disch:=omega) only[go_sem,↓reduceIte,e1,e2,e10,e11,e12,e6];have mx:=List.getElem_mem hlt;have hst:((l.take (i+1)).map fun x=>(nm x).length).sum=((l.take i).map fun x=>(nm x).length).sum+(nm l[i]).length:=by
    rw[List.take_add_one,List.getElem?_eq_getElem hlt,List.map_append,List.sum_append];congr 1
   have hn1:=hn l[i] mx;refine Bh.monoR (by simpa using h2 l[i] mx _) ?_;cases hx:p l[i]
   ·simp(disch:=omega) only[go_sem,↓reduceIte,e1,e2,e10,e11,e12,e6];have hall:l.all p=false:=by
     rw[List.all_eq_false];exact⟨l[i],mx,by simp [hx]⟩
    exact Rm.dropA r hr (Rm.refl ⟨by rw[hall];rfl,rfl⟩)
   ·simp(disch:=omega) only[go_sem,↓reduceIte,e1,e2,e10,e11,e12,e6];refine Bh.monoR (by simpa using h1 l[i] mx _) ?_;have hwe:IntKind.i64.wrap ((((l.take i).map fun x=>(nm x).length).sum:Nat)+((nm l[i]).length:Int))=((((l.take (i+1)).map fun x=>(nm x).length).sum:Nat):Int):=by
     rw[hst,IntKind.wrap_i64];omega
    simp(disch:=omega) only[go_sem,↓reduceIte,e1,e2,e10,e11,e12,e6,dW];refine⟨i+1,_,Rd.drop _ r,(hI _ _ _).2 ?_,by omega⟩;simp(disch:=omega) only[go_sem,↓reduceIte,e1,e2,e10,e11,e12,e6,hwe,hwd];(repeat' apply And.intro)<;>(try first | rfl | assumption | omega)
    ·exact Ly hr
    ·rw[hst];rfl
    ·intro x hx';rw[List.take_add_one,List.getElem?_eq_getElem hlt] at hx';rcases List.mem_append.1 hx' with h | h
     ·exact hp x h
     ·simp at h;subst h;exact hx
  ·have:i=l.length:=by omega
   subst this;rw[List.take_length] at hp e6;have hall:l.all p=true:=by rw[List.all_eq_true];exact hp
   have hlti: ¬(l.length:Int)<(l.length:Int):=by omega
   simp(disch:=omega) only[go_sem,↓reduceIte,e1,e2,e10,e11,e12,e6,hlti];exact Rm.refl ⟨by rw[hall];rfl,rfl⟩
theorem Cw8 (G:Nat->DVal) (H:Bb) (p:Cmp):Bh Tryz.prog G 162 ([]++ [.agg (Kg p)]++ []) H (Bt (dW p.names) H):=by
 refine Bc Tryz.func162 Tryz.call162 rfl (by kernel_rfl) ?_;simp(disch:=omega) only[go_sem,↓reduceIte,DVal.cells,List.nil_append,List.append_nil];intro r1 hr1;dsimp only at hr1;obtain⟨K,hK⟩: ∃K',K'=upd H r1 (some (.cells (Kg p) 123)):=⟨_,rfl⟩;rw[<-hK];have gr1:K r1=some (.cells (Kg p) 123):=by rw[hK];exact Bp _ _ _
 have sK:Sub H K:=by rw[hK];exact(Sub.refl _).new hr1 _
 simp(disch:=omega) only[go_sem,↓reduceIte,gr1,Ea,Qk,Ql,Lc,Aj (Aa _)];exact Rm.sub sK (.refl ⟨rfl,rfl⟩)
section
variable {G:Nat->DVal} (hG:GX G)
include hG
theorem Dv1 (H:Bb) (a:Asp) (ha:Yv 1048576 a):Bh Tryz.prog G 80 ([]++ [.agg (Qt a)]++ []) H (Bt (.bool (!Rx a)) H):=by
 obtain⟨f0,f1⟩:=ha;have p1: ∀x∈ [a.e],Dn 1048576 x:=by intro x hx;simp at hx;subst hx;assumption
 have d1: [a.e].all Cp=Cp a.e:=by simp
 have q1: [a.e].flatMap dEx=dEx a.e:=by simp
 refine Bc Tryz.func80 Tryz.call80 rfl (by kernel_rfl) ?_;simp(disch:=omega) only[go_sem,↓reduceIte,DVal.cells,List.nil_append,List.append_nil];intro r1 hr1;dsimp only at hr1;obtain⟨K,hK⟩: ∃K',K'=upd H r1 (some (.cells (Qt a) 110)):=⟨_,rfl⟩;rw[<-hK];have gr1:K r1=some (.cells (Qt a) 110):=by rw[hK];exact Bp _ _ _
 have sK:Sub H K:=by rw[hK];exact(Sub.refl _).new hr1 _
 simp(disch:=omega) only[go_sem,↓reduceIte,gr1,Hf,Ao4,Ao5,Aj (Aa _)];refine Bh.monoR (Kb hG K a.name f0) ?_;cases h1:Gk a.name
 ·simp(disch:=omega) only[go_sem,↓reduceIte,gr1,Hf,Ao4,Ao5,Aj (Aa _)];exact Rm.sub sK (.refl ⟨by rw[Rx,h1];simp,rfl⟩)
 ·simp(disch:=omega) only[go_sem,↓reduceIte,gr1,Hf,Ao4,Ao5,Aj (Aa _)];intro r2 hr2;dsimp only at hr2;obtain⟨K2,hK2⟩: ∃K',K'=upd K r2 (some (.cells (dEx a.e) 29)):=⟨_,rfl⟩;rw[<-hK2];have gr2:K2 r2=some (.cells (dEx a.e) 29):=by rw[hK2];exact Bp _ _ _
  have sK2:Sub K K2:=by rw[hK2];exact(Sub.refl _).new hr2 _
  have g2:K2 r1=some (.cells (Qt a) 110):=sK2 _ _ gr1;simp(disch:=omega) only[go_sem,↓reduceIte,g2,Hf,Ao4,Ao5,Aj (Aa _)];refine Bh.monoR (Eo hG K2 [a.e] r2 (by rw[q1];exact gr2) (by simp) p1) ?_;rw[d1];simp(disch:=omega) only[go_sem,↓reduceIte,g2,Hf,Ao4,Ao5,Aj (Aa _)];exact Rm.sub (sK.trans sK2) (.refl ⟨by rw[Rx,h1];simp,rfl⟩)
theorem Zo (H:Bb) (l:List Asp) (hl:Ht Yv 1048576 l):Bh Tryz.prog G 22 [Qj l] H (Bt (.bool (Pt l)) H):=by
 refine Bc Tryz.func22 Tryz.call22 rfl (by kernel_rfl) ?_;by_cases h8:l.length<=8
 ·have h8':(l.length:Int)<=8:=by omega
  simp(disch:=omega) only[go_sem,↓reduceIte,Qj,h8'];refine Bh.monoR (Bg9 G H (fun e=>!Rx e) l 80 [] [] (by have:=hl.1;omega) fun x hx=>Dv1 hG H x (hl.2 x hx)) ?_;rw[Nc];simp(disch:=omega) only[go_sem,↓reduceIte];exact Rm.refl ⟨by rw[Pt];simp [h8],rfl⟩
 ·have h8': ¬(l.length:Int)<=8:=by omega
  simp(disch:=omega) only[go_sem,↓reduceIte,Qj,h8'];exact Rm.refl ⟨by rw[Pt];simp [h8],rfl⟩
set_option maxHeartbeats 40000000 in
theorem Br9 (H:Bb) (c:Cmp) (hc:Ng 1048576 c):Bh Tryz.prog G 163 ([]++ [.agg (Kg c)]++ []) H (Bt (.bool (Gf c)) H):=by
 obtain⟨f0,f1,f2⟩:=hc;have p1: ∀x∈ [c.e],Dn 1048576 x:=by intro x hx;simp at hx;subst hx;assumption
 have e1: [c.e].all noE=noE c.e:=by simp
 have d1: [c.e].all Cp=Cp c.e:=by simp
 have q1: [c.e].flatMap dEx=dEx c.e:=by simp
 refine Bc Tryz.func163 Tryz.call163 rfl (by kernel_rfl) ?_;simp(disch:=omega) only[go_sem,↓reduceIte,DVal.cells,List.nil_append,List.append_nil];intro r1 hr1;dsimp only at hr1;obtain⟨K,hK⟩: ∃K',K'=upd H r1 (some (.cells (Kg c) 123)):=⟨_,rfl⟩;rw[<-hK];have gr1:K r1=some (.cells (Kg c) 123):=by rw[hK];exact Bp _ _ _
 have sK:Sub H K:=by rw[hK];exact(Sub.refl _).new hr1 _
 simp(disch:=omega) only[go_sem,↓reduceIte,gr1,Ea,Qk,Ql,Lc,Aj (Aa _)];refine Bh.monoR (Uf hG K c.names 8 f0) ?_;cases h1:Cs c.names 8
 ·simp(disch:=omega) only[go_sem,↓reduceIte,gr1,Ea,Qk,Ql,Lc,Aj (Aa _)];exact Rm.sub sK (.refl ⟨by rw[Gf,h1];simp,rfl⟩)
 simp(disch:=omega) only[go_sem,↓reduceIte,gr1,Ea,Qk,Ql,Lc,Aj (Aa _)];refine Bh.monoR (Kx hG K c.sub f1) ?_;cases h2:Ce c.sub
 ·simp(disch:=omega) only[go_sem,↓reduceIte,gr1,Ea,Qk,Ql,Lc,Aj (Aa _)];exact Rm.sub sK (.refl ⟨by rw[Gf,h1,h2];simp,rfl⟩)
 simp(disch:=omega) only[go_sem,↓reduceIte,gr1,Ea,Qk,Ql,Lc,Aj (Aa _)];intro r2 hr2;dsimp only at hr2;obtain⟨K2,hK2⟩: ∃K',K'=upd K r2 (some (.cells (dEx c.e) 29)):=⟨_,rfl⟩;rw[<-hK2];have gr2:K2 r2=some (.cells (dEx c.e) 29):=by rw[hK2];exact Bp _ _ _
 have sK2:Sub K K2:=by rw[hK2];exact(Sub.refl _).new hr2 _
 have g2:K2 r1=some (.cells (Kg c) 123):=sK2 _ _ gr1;have t2:Sub H K2:=sK.trans sK2;simp(disch:=omega) only[go_sem,↓reduceIte,g2,Ea,Qk,Ql,Lc,Aj (Aa _)];refine Bh.monoR (Fy G K2 [c.e] r2 (by rw[q1];exact gr2) (by simp) p1) ?_;rw[e1];cases h3:noE c.e
 ·simp(disch:=omega) only[go_sem,↓reduceIte,g2,Ea,Qk,Ql,Lc,Aj (Aa _)];intro r3 hr3;dsimp only at hr3;obtain⟨K3,hK3⟩: ∃K',K'=upd K2 r3 (some (.cells (dEx c.e) 29)):=⟨_,rfl⟩;rw[<-hK3];have gr3:K3 r3=some (.cells (dEx c.e) 29):=by rw[hK3];exact Bp _ _ _
  have sK3:Sub K2 K3:=by rw[hK3];exact(Sub.refl _).new hr3 _
  have g3:K3 r1=some (.cells (Kg c) 123):=sK3 _ _ g2;simp(disch:=omega) only[go_sem,↓reduceIte,g3,Ea,Qk,Ql,Lc,Aj (Aa _)];refine Bh.monoR (Eo hG K3 [c.e] r3 (by rw[q1];exact gr3) (by simp) p1) ?_;rw[d1];simp(disch:=omega) only[go_sem,↓reduceIte,g3,Ea,Qk,Ql,Lc,Aj (Aa _)];exact Rm.sub (t2.trans sK3) (.refl ⟨by rw[Gf,h1,h2,He,h3];simp,rfl⟩)
 ·simp(disch:=omega) only[go_sem,↓reduceIte,g2,Ea,Qk,Ql,Lc,Aj (Aa _)];exact Rm.sub t2 (.refl ⟨by rw[Gf,h1,h2,He,h3];simp,rfl⟩)
theorem Pu (H:Bb) (l:List Cmp) (hl:Ht Ng 1048576 l):Bh Tryz.prog G 83 [Bk l] H (Bt (.tuple [dI (if l.all Gf then(Dk l:Nat) else 0), .bool (l.all Gf)]) H):=by
 refine Bc Tryz.func83 Tryz.call83 rfl (by kernel_rfl) ?_;simp(disch:=omega) only[go_sem,↓reduceIte,Bk];refine Bh.monoR (Dv0 G H l Gf (fun p=>p.names) 162 163 hl.1 (fun x hx=>(hl.2 x hx).1.1) (fun x hx K=>Cw8 G K x) (fun x hx K=>Br9 hG K x (hl.2 x hx))) ?_;simp(disch:=omega) only[go_sem,↓reduceIte];exact Rm.refl ⟨by rw[Dk],rfl⟩
theorem Al0 (H:Bb) (l:List Cmp) (hl:Ht Ng 1048576 l):Bh Tryz.prog G 24 [Bk l] H (Bt (.bool (St l)) H):=by
 refine Bc Tryz.func24 Tryz.call24 rfl (by kernel_rfl) ?_;simp(disch:=omega) only[go_sem,↓reduceIte];refine Bh.monoR (Pu hG H l hl) ?_;cases h:l.all Gf
 ·simp(disch:=omega) only[go_sem,↓reduceIte];exact Rm.refl ⟨by rw[St,h];rfl,rfl⟩
 ·simp(disch:=omega) only[go_sem,↓reduceIte];exact Rm.refl ⟨by rw[St,h];simp;omega,rfl⟩
end
end Go.Dl

-- Chapter 4: which aspects, parameters, components are valid, by the reference (printed by gen_cl.py).
namespace Go.Dl
open Go Go.Proofs
set_option maxRecDepth 100000
theorem Fe {α:Type} {p:α->Bool} {l:List α} {x:α} (h:x∈l) (hx:p x=false):l.all p=false:=by
 rw[List.all_eq_false];exact⟨x,h,by simp [hx]⟩
theorem Ki {α:Type} {p:α->Bool} {l:List α} {k:Nat} (hlt:k<l.length) (h: ∀x∈l.take k,p x=true) (hx:p l[k]=true): ∀x∈l.take (k+1),p x=true:=by
 intro x hx';rw[List.take_add_one,List.getElem?_eq_getElem hlt] at hx';rcases List.mem_append.1 hx' with a | a
 ·exact h x a
 ·simp at a;subst a;exact hx
theorem Mg {α:Type} {p:α->Bool} {l:List α} (h: ∀x∈l.take l.length,p x=true):l.all p=true:=by
 rw[List.take_length] at h;rw[List.all_eq_true];exact h
theorem Bs0 {l:List Par} {k:Nat} (hlt:k<l.length):Rw (l.take (k+1))=Rw (l.take k)+l[k].names.length:=by
 rw[Rw,Rw,List.take_add_one,List.getElem?_eq_getElem hlt,List.map_append,List.sum_append];simp
theorem Bs1 {l:List Cmp} {k:Nat} (hlt:k<l.length):Dk (l.take (k+1))=Dk (l.take k)+l[k].names.length:=by
 rw[Dk,Dk,List.take_add_one,List.getElem?_eq_getElem hlt,List.map_append,List.sum_append];simp
section
variable (G:Nat->DVal) (H:Bb)
set_option maxHeartbeats 40000000 in
theorem Xf (l:List Asp) (hl:Ht Yv 1048576 l):Bh Tryz.prog G 23 [Qj l] H (Bt (.bool (Pt l)) H):=by
 have hll:=hl.1;refine Bc Tryz.func23 Tryz.call23 rfl (by kernel_rfl) ?_;simp(disch:=omega) only[go_sem,↓reduceIte,Qj];obtain⟨I,hI⟩: ∃I:Nat->(Nat->DVal)->Bb->Prop,∀k env heap,I k env heap↔(env 0= .vslice (l.flatMap Qt) l.length/\env 3=dI k/\k<=l.length/\(∀x∈l.take k,Rx x=true)/\H=heap):=⟨_,fun _ _ _=>Iff.rfl⟩;refine Cn3.run I (fun k=>l.length-k) 0 ((hI _ _ _).2 ?_) ?_
 ·simp(disch:=omega) only[go_sem,↓reduceIte,Qj];simp
 ·intro k env heap hi;obtain⟨e0,e3,hk,hp,rfl⟩:=(hI _ _ _).1 hi;have hfl:=Bq Hf l;by_cases hlt:k<l.length
  ·have hlt2:(k:Int)<(l.length:Int):=by omega
   have hwd:IntKind.i64.wrap ((k:Int)+1)=((k+1:Nat):Int):=by rw[IntKind.wrap_i64];omega
   have mx:=List.getElem_mem hlt;have hst:Rx l[k]=true-> ∀x∈l.take (k+1),Rx x=true:=Ki hlt hp;have x0:=Cy Hf l k hlt 0 (by decide);rw[Ao4] at x0;have x0z:=x0;rw[Nat.add_zero] at x0z;have x1:=Xe Hf l k hlt 1 9 (by decide);rw[Ao5] at x1;obtain⟨x,hx⟩: ∃x,x=l[k]:=⟨_,rfl⟩;rw[<-hx] at x0 x0z x1 mx hst;have fx:=hl.2 x mx;have fe:=fx.2.1;simp(disch:=omega) only[go_sem,↓reduceIte,e0,e3,hlt2,hfl,Int.toNat_natCast,x0,x0z,x1];refine Bh.monoR (Kc G _ x.name) ?_;cases h1:Gk x.name
   ·simp(disch:=omega) only[go_sem,↓reduceIte,e0,e3,hlt2,hfl,Int.toNat_natCast,x0,x0z,x1];exact Rm.refl ⟨by rw[Pt,Fe mx (by simp [Rx,h1])];rfl,rfl⟩
   simp(disch:=omega) only[go_sem,↓reduceIte,e0,e3,hlt2,hfl,Int.toNat_natCast,x0,x0z,x1];refine Bh.monoR (It G _ x.e (by omega)) ?_;cases h2:Cp x.e
   ·simp(disch:=omega) only[go_sem,↓reduceIte,e0,e3,hlt2,hfl,Int.toNat_natCast,x0,x0z,x1];exact Rm.refl ⟨by rw[Pt,Fe mx (by simp [Rx,h2])];rfl,rfl⟩
   simp(disch:=omega) only[go_sem,↓reduceIte,e0,e3,hlt2,hfl,Int.toNat_natCast,x0,x0z,x1];refine⟨k+1,_,Rd.refl _,(hI _ _ _).2 ?_,by omega⟩;simp(disch:=omega) only[go_sem,↓reduceIte,e0,e3,hwd];(repeat' apply And.intro)<;>(try first | rfl | assumption | omega);exact hst (by simp [Rx,h1,h2])
  ·have:k=l.length:=by omega
   subst this;have hall:=Mg hp;have hlt': ¬(l.length:Int)<(l.length:Int):=by omega
   simp(disch:=omega) only[go_sem,↓reduceIte,e0,e3,hlt'];exact Rm.refl ⟨by rw[Pt,hall];simp;omega,rfl⟩
set_option maxHeartbeats 40000000 in
theorem Ib (l:List Cmp) (hl:Ht Ng 1048576 l):Bh Tryz.prog G 84 [Bk l] H (Bt (dI (if l.all Gf then(Dk l:Nat) else-1)) H):=by
 have hll:=hl.1;refine Bc Tryz.func84 Tryz.call84 rfl (by kernel_rfl) ?_;simp(disch:=omega) only[go_sem,↓reduceIte,Bk];obtain⟨I,hI⟩: ∃I:Nat->(Nat->DVal)->Bb->Prop,∀k env heap,I k env heap↔(env 0= .vslice (l.flatMap Kg) l.length/\env 3=dI (Dk (l.take k):Nat)/\env 4=dI k/\k<=l.length/\Dk (l.take k)<=k*1048576/\(∀x∈l.take k,Gf x=true)/\H=heap):=⟨_,fun _ _ _=>Iff.rfl⟩;refine Cn3.run I (fun k=>l.length-k) 0 ((hI _ _ _).2 ?_) ?_
 ·simp(disch:=omega) only[go_sem,↓reduceIte,Bk];simp [Dk]
 ·intro k env heap hi;obtain⟨e0,en,e3,hk,hs,hp,rfl⟩:=(hI _ _ _).1 hi;have hfl:=Bq Ea l;by_cases hlt:k<l.length
  ·have hlt2:(k:Int)<(l.length:Int):=by omega
   have hwd:IntKind.i64.wrap ((k:Int)+1)=((k+1:Nat):Int):=by rw[IntKind.wrap_i64];omega
   have mx:=List.getElem_mem hlt;have hst:Gf l[k]=true-> ∀x∈l.take (k+1),Gf x=true:=Ki hlt hp;have hsn:=Bs1 hlt;have x0:=Cy Ea l k hlt 0 (by decide);rw[Qk] at x0;have x0z:=x0;rw[Nat.add_zero] at x0z;have x1:=Xe Ea l k hlt 1 36 (by decide);rw[Ql] at x1;have x2:=Xe Ea l k hlt 37 9 (by decide);rw[Lc] at x2;obtain⟨x,hx⟩: ∃x,x=l[k]:=⟨_,rfl⟩;rw[<-hx] at x0 x0z x1 x2 mx hst hsn;have fx:=hl.2 x mx;have fn:=fx.1.1;have hwe:IntKind.i64.wrap ((Dk (l.take k):Nat)+(x.names.length:Int))=((Dk (l.take (k+1)):Nat):Int):=by
    rw[hsn,IntKind.wrap_i64];omega
   simp(disch:=omega) only[go_sem,↓reduceIte,e0,en,e3,hlt2,hfl,Int.toNat_natCast,x0,x0z,x1,x2];refine Bh.monoR (Ct G _ x.names 8 fx.1) ?_;cases h1:Cs x.names 8
   ·simp(disch:=omega) only[go_sem,↓reduceIte,e0,en,e3,hlt2,hfl,Int.toNat_natCast,x0,x0z,x1,x2];exact Rm.refl ⟨by rw[Fe mx (by simp [Gf,h1])];rfl,rfl⟩
   simp(disch:=omega) only[go_sem,↓reduceIte,e0,en,e3,hlt2,hfl,Int.toNat_natCast,x0,x0z,x1,x2];refine Bh.monoR (Dd G _ x.sub fx.2.1) ?_;cases h2:Ce x.sub
   ·simp(disch:=omega) only[go_sem,↓reduceIte,e0,en,e3,hlt2,hfl,Int.toNat_natCast,x0,x0z,x1,x2];exact Rm.refl ⟨by rw[Fe mx (by simp [Gf,h2])];rfl,rfl⟩
   simp(disch:=omega) only[go_sem,↓reduceIte,e0,en,e3,hlt2,hfl,Int.toNat_natCast,x0,x0z,x1,x2];refine Bh.monoR (Yw G _ x.e fx.2.2) ?_;cases h3:He x.e
   ·simp(disch:=omega) only[go_sem,↓reduceIte,e0,en,e3,hlt2,hfl,Int.toNat_natCast,x0,x0z,x1,x2];exact Rm.refl ⟨by rw[Fe mx (by simp [Gf,h3])];rfl,rfl⟩
   simp(disch:=omega) only[go_sem,↓reduceIte,e0,en,e3,hlt2,hfl,Int.toNat_natCast,x0,x0z,x1,x2,dW];refine⟨k+1,_,Rd.refl _,(hI _ _ _).2 ?_,by omega⟩;simp(disch:=omega) only[go_sem,↓reduceIte,e0,en,e3,hwd,hwe];(repeat' apply And.intro)<;>(try first | rfl | assumption | omega)
   ·rw[hsn];rfl
   ·exact hst (by simp [Gf,h1,h2,h3])
  ·have:k=l.length:=by omega
   subst this;have hall:=Mg hp;rw[List.take_length] at en;have hlt': ¬(l.length:Int)<(l.length:Int):=by omega
   simp(disch:=omega) only[go_sem,↓reduceIte,e0,en,e3,hlt'];exact Rm.refl ⟨by rw[hall];rfl,rfl⟩
theorem Ag6 (l:List Cmp) (hl:Ht Ng 1048576 l):Bh Tryz.prog G 25 [Bk l] H (Bt (.bool (St l)) H):=by
 refine Bc Tryz.func25 Tryz.call25 rfl (by kernel_rfl) ?_;simp(disch:=omega) only[go_sem,↓reduceIte];refine Bh.monoR (Ib G H l hl) ?_;cases h:l.all Gf
 ·simp(disch:=omega) only[go_sem,↓reduceIte];exact Rm.refl ⟨by rw[St,h];rfl,rfl⟩
 ·have h0:(0:Int)<=(Dk l:Int):=by omega
  simp(disch:=omega) only[go_sem,↓reduceIte,h0];exact Rm.refl ⟨by rw[St,h];simp;omega,rfl⟩
set_option maxHeartbeats 40000000 in
theorem Zp (l:List Par) (hl:Ht Yu 1048576 l):Bh Tryz.prog G 21 [Ry l] H (Bt (.bool (Jl l)) H):=by
 have hll:=hl.1;refine Bc Tryz.func21 Tryz.call21 rfl (by kernel_rfl) ?_;simp(disch:=omega) only[go_sem,↓reduceIte,Ry];obtain⟨I,hI⟩: ∃I:Nat->(Nat->DVal)->Bb->Prop,∀k env heap,I k env heap↔(env 0= .vslice (l.flatMap Iy) l.length/\env 3=dI (Rw (l.take k):Nat)/\env 4=dI k/\k<=l.length/\Rw (l.take k)<=k*1048576/\(∀x∈l.take k,Ge x=true)/\heap=H):=⟨_,fun _ _ _=>Iff.rfl⟩;refine Cn3.run I (fun k=>l.length-k) 0 ((hI _ _ _).2 ?_) ?_
 ·simp(disch:=omega) only[go_sem,↓reduceIte,Ry];simp [Rw]
 ·intro k env heap hi;obtain⟨e0,en,e3,hk,hs,hp,rfl⟩:=(hI _ _ _).1 hi;have hfl:=Bq Ck l;by_cases hlt:k<l.length
  ·have hlt2:(k:Int)<(l.length:Int):=by omega
   have hwd:IntKind.i64.wrap ((k:Int)+1)=((k+1:Nat):Int):=by rw[IntKind.wrap_i64];omega
   have mx:=List.getElem_mem hlt;have hst:Ge l[k]=true-> ∀x∈l.take (k+1),Ge x=true:=Ki hlt hp;have hsn:=Bs0 hlt;have Cc:=Cm Ck l k hlt;obtain⟨x,hx⟩: ∃x,x=l[k]:=⟨_,rfl⟩;rw[<-hx] at Cc mx hst hsn;have fx:=hl.2 x mx;have fn:=fx.1.1;have hwe:IntKind.i64.wrap ((Rw (l.take k):Nat)+(x.names.length:Int))=((Rw (l.take (k+1)):Nat):Int):=by
    rw[hsn,IntKind.wrap_i64];omega
   simp(disch:=omega) only[go_sem,↓reduceIte,e0,en,e3,hlt2,hfl,Int.toNat_natCast,Cc];intro r hr;dsimp only at hr;have gr:upd heap r (some (.cells (Iy x) 32)) r=some (.cells (Iy x) 32):=Bp _ _ _;simp(disch:=omega) only[go_sem,↓reduceIte,e0,en,e3,hlt2,gr,Ck,Fj,Fk,Fl,Dw];refine Bh.monoR (Ct G _ x.names 8 fx.1) ?_;cases h1:Cs x.names 8
   ·simp(disch:=omega) only[go_sem,↓reduceIte,e0,en,e3,hlt2,gr,Ck,Fj,Fk,Fl,Dw];exact Rm.dropA r hr (Rm.refl ⟨by rw[Jl,Fe mx (by simp [Ge,h1])];rfl,rfl⟩)
   simp(disch:=omega) only[go_sem,↓reduceIte,e0,en,e3,hlt2,gr,Ck,Fj,Fk,Fl,Dw];refine Bh.monoR (Hg G _ x.type fx.2.1) ?_;cases h2:Hs x.type
   ·simp(disch:=omega) only[go_sem,↓reduceIte,e0,en,e3,hlt2,gr,Ck,Fj,Fk,Fl,Dw];exact Rm.dropA r hr (Rm.refl ⟨by rw[Jl,Fe mx (by simp [Ge,h2])];rfl,rfl⟩)
   simp(disch:=omega) only[go_sem,↓reduceIte,e0,en,e3,hlt2,gr,Ck,Fj,Fk,Fl,Dw];refine Bh.monoR (Yw G _ x.e fx.2.2) ?_;cases h3:He x.e
   ·simp(disch:=omega) only[go_sem,↓reduceIte,e0,en,e3,hlt2,gr,Ck,Fj,Fk,Fl,Dw];exact Rm.dropA r hr (Rm.refl ⟨by rw[Jl,Fe mx (by simp [Ge,h3])];rfl,rfl⟩)
   by_cases m1:x.mode<1
   ·simp(disch:=omega) only[go_sem,↓reduceIte,e0,en,e3,hlt2,gr,Ck,Fj,Fk,Fl,Dw,m1];have hb:Ge x=false:=by unfold Ge;rw[decide_eq_false (show¬1<=x.mode by omega)];simp
    exact Rm.dropA r hr (Rm.refl ⟨by rw[Jl,Fe mx hb];rfl,rfl⟩)
   by_cases m3:3<x.mode
   ·simp(disch:=omega) only[go_sem,↓reduceIte,e0,en,e3,hlt2,gr,Ck,Fj,Fk,Fl,Dw,m1,m3];have hb:Ge x=false:=by unfold Ge;rw[decide_eq_false (show¬x.mode<=3 by omega)];simp
    exact Rm.dropA r hr (Rm.refl ⟨by rw[Jl,Fe mx hb];rfl,rfl⟩)
   by_cases m2:x.mode=1
   ·simp(disch:=omega) only[go_sem,↓reduceIte,e0,en,e3,hlt2,gr,Ck,Fj,Fk,Fl,Dw,m1,m2,m3,dW];refine⟨k+1,_,Rd.drop _ r,(hI _ _ _).2 ?_,by omega⟩;simp(disch:=omega) only[go_sem,↓reduceIte,e0,en,e3,hwd,hwe];(repeat' apply And.intro)<;>(try first | rfl | assumption | omega)
    ·rw[hsn];rfl
    ·exact hst (by simp [Ge,h1,h2,h3,m2])
    ·exact Ly hr
   ·simp(disch:=omega) only[go_sem,↓reduceIte,e0,en,e3,hlt2,gr,Ck,Fj,Fk,Fl,Dw,m1,m2,m3];refine Bh.monoR (Bm G _ x.e fx.2.2) ?_;cases h4:noE x.e
    ·simp(disch:=omega) only[go_sem,↓reduceIte,e0,en,e3,hlt2,gr,Ck,Fj,Fk,Fl,Dw];exact Rm.dropA r hr (Rm.refl ⟨by rw[Jl,Fe mx (by simp [Ge,h4,m2])];rfl,rfl⟩)
    simp(disch:=omega) only[go_sem,↓reduceIte,e0,en,e3,hlt2,gr,Ck,Fj,Fk,Fl,Dw,m1,m2,m3,dW];refine⟨k+1,_,Rd.drop _ r,(hI _ _ _).2 ?_,by omega⟩;simp(disch:=omega) only[go_sem,↓reduceIte,e0,en,e3,hwd,hwe];(repeat' apply And.intro)<;>(try first | rfl | assumption | omega)
    ·rw[hsn];rfl
    ·exact hst (by simp [Ge,h1,h2,h3,h4];omega)
    ·exact Ly hr
  ·have:k=l.length:=by omega
   subst this;have hall:=Mg hp;rw[List.take_length] at en;have hlt': ¬(l.length:Int)<(l.length:Int):=by omega
   simp(disch:=omega) only[go_sem,↓reduceIte,e0,en,e3,hlt'];exact Rm.refl ⟨by rw[Jl,hall];simp;omega,rfl⟩
end
end Go.Dl

-- Chapter 4: which records and type definitions are valid: package shape (printed by gen_cm.py).
namespace Go.Dl
open Go Go.Proofs
set_option maxRecDepth 100000
theorem Cw9 {w r x:List DVal} (hw:w.length=9):x++List.drop 9 (w++r)=x++r:=by rw[List.drop_left' hw]
theorem Cx0 {m n:Nat} {pre w r x:List DVal} (hp:pre.length=m) (hw:w.length=9) (hn:n=m+9):List.take m (pre++(w++r))++x++List.drop n (pre++(w++r))=(pre++x)++r:=by
 subst hn;rw[List.take_left' hp,<-List.drop_drop,List.drop_left' hp,List.drop_left' hw]
theorem Cx1 {m n:Nat} {pre w x:List DVal} (hp:pre.length=m) (hw:w.length=9) (hn:n=m+9):List.take m (pre++w)++x++List.drop n (pre++w)=pre++x:=by
 subst hn;rw[List.take_left' hp,<-List.drop_drop,List.drop_left' hp,List.drop_eq_nil_of_le (by omega),List.append_nil]
theorem Ao {x y z:List DVal} (hx:x.length=9) (hy:y.length=9) (hz:z.length=9):
  (if 9<=(repl 3 [DVal.int .u8 0,DVal.int .u8 0,DVal.int .i64 0,DVal.str [],DVal.nilSlice,DVal.nilSlice,DVal.int .i64 0,DVal.int .i64 0,DVal.int .i64 0]).length then(if 18<=(x++List.drop 9 (repl 3 [DVal.int .u8 0,DVal.int .u8 0,DVal.int .i64 0,DVal.str [],DVal.nilSlice,DVal.nilSlice,DVal.int .i64 0,DVal.int .i64 0,DVal.int .i64 0])).length then(if 27<=(List.take 9 (x++List.drop 9 (repl 3 [DVal.int .u8 0,DVal.int .u8 0,DVal.int .i64 0,DVal.str [],DVal.nilSlice,DVal.nilSlice,DVal.int .i64 0,DVal.int .i64 0,DVal.int .i64 0]))++y++List.drop 18 (x++List.drop 9 (repl 3 [DVal.int .u8 0,DVal.int .u8 0,DVal.int .i64 0,DVal.str [],DVal.nilSlice,DVal.nilSlice,DVal.int .i64 0,DVal.int .i64 0,DVal.int .i64 0]))).length then some (List.take 18 (List.take 9 (x++List.drop 9 (repl 3 [DVal.int .u8 0,DVal.int .u8 0,DVal.int .i64 0,DVal.str [],DVal.nilSlice,DVal.nilSlice,DVal.int .i64 0,DVal.int .i64 0,DVal.int .i64 0]))++y++List.drop 18 (x++List.drop 9 (repl 3 [DVal.int .u8 0,DVal.int .u8 0,DVal.int .i64 0,DVal.str [],DVal.nilSlice,DVal.nilSlice,DVal.int .i64 0,DVal.int .i64 0,DVal.int .i64 0])))++z++List.drop 27 (List.take 9 (x++List.drop 9 (repl 3 [DVal.int .u8 0,DVal.int .u8 0,DVal.int .i64 0,DVal.str [],DVal.nilSlice,DVal.nilSlice,DVal.int .i64 0,DVal.int .i64 0,DVal.int .i64 0]))++y++List.drop 18 (x++List.drop 9 (repl 3 [DVal.int .u8 0,DVal.int .u8 0,DVal.int .i64 0,DVal.str [],DVal.nilSlice,DVal.nilSlice,DVal.int .i64 0,DVal.int .i64 0,DVal.int .i64 0])))) else none) else none) else none)=some (x++y++z):=by
 have e: ∀w:List DVal,repl 3 w=w++(w++(w)):=fun w=>by simp [repl]
 obtain⟨w,hw⟩: ∃w:List DVal,w= [DVal.int .u8 0,DVal.int .u8 0,DVal.int .i64 0,DVal.str [],DVal.nilSlice,DVal.nilSlice,DVal.int .i64 0,DVal.int .i64 0,DVal.int .i64 0]:=⟨_,rfl⟩;have lw:w.length=9:=by rw[hw];rfl
 rw[<-hw,e];clear hw e;rw[Cw9 lw];rw[Cx0 (pre:=x) (m:=9) (n:=18) (by simp [hx]) lw rfl];rw[Cx1 (pre:=(x++y)) (m:=18) (n:=27) (by simp [hx,hy]) lw rfl]
 repeat rw[if_pos (by simp [lw,hx,hy,hz])]
theorem Ap {x y z u:List DVal} (hx:x.length=9) (hy:y.length=9) (hz:z.length=9) (hu:u.length=9):
  (if 9<=(repl 4 [DVal.int .u8 0,DVal.int .u8 0,DVal.int .i64 0,DVal.str [],DVal.nilSlice,DVal.nilSlice,DVal.int .i64 0,DVal.int .i64 0,DVal.int .i64 0]).length then(if 18<=(x++List.drop 9 (repl 4 [DVal.int .u8 0,DVal.int .u8 0,DVal.int .i64 0,DVal.str [],DVal.nilSlice,DVal.nilSlice,DVal.int .i64 0,DVal.int .i64 0,DVal.int .i64 0])).length then(if 27<=(List.take 9 (x++List.drop 9 (repl 4 [DVal.int .u8 0,DVal.int .u8 0,DVal.int .i64 0,DVal.str [],DVal.nilSlice,DVal.nilSlice,DVal.int .i64 0,DVal.int .i64 0,DVal.int .i64 0]))++y++List.drop 18 (x++List.drop 9 (repl 4 [DVal.int .u8 0,DVal.int .u8 0,DVal.int .i64 0,DVal.str [],DVal.nilSlice,DVal.nilSlice,DVal.int .i64 0,DVal.int .i64 0,DVal.int .i64 0]))).length then(if 36<=(List.take 18 (List.take 9 (x++List.drop 9 (repl 4 [DVal.int .u8 0,DVal.int .u8 0,DVal.int .i64 0,DVal.str [],DVal.nilSlice,DVal.nilSlice,DVal.int .i64 0,DVal.int .i64 0,DVal.int .i64 0]))++y++List.drop 18 (x++List.drop 9 (repl 4 [DVal.int .u8 0,DVal.int .u8 0,DVal.int .i64 0,DVal.str [],DVal.nilSlice,DVal.nilSlice,DVal.int .i64 0,DVal.int .i64 0,DVal.int .i64 0])))++z++List.drop 27 (List.take 9 (x++List.drop 9 (repl 4 [DVal.int .u8 0,DVal.int .u8 0,DVal.int .i64 0,DVal.str [],DVal.nilSlice,DVal.nilSlice,DVal.int .i64 0,DVal.int .i64 0,DVal.int .i64 0]))++y++List.drop 18 (x++List.drop 9 (repl 4 [DVal.int .u8 0,DVal.int .u8 0,DVal.int .i64 0,DVal.str [],DVal.nilSlice,DVal.nilSlice,DVal.int .i64 0,DVal.int .i64 0,DVal.int .i64 0])))).length then some (List.take 27 (List.take 18 (List.take 9 (x++List.drop 9 (repl 4 [DVal.int .u8 0,DVal.int .u8 0,DVal.int .i64 0,DVal.str [],DVal.nilSlice,DVal.nilSlice,DVal.int .i64 0,DVal.int .i64 0,DVal.int .i64 0]))++y++List.drop 18 (x++List.drop 9 (repl 4 [DVal.int .u8 0,DVal.int .u8 0,DVal.int .i64 0,DVal.str [],DVal.nilSlice,DVal.nilSlice,DVal.int .i64 0,DVal.int .i64 0,DVal.int .i64 0])))++z++List.drop 27 (List.take 9 (x++List.drop 9 (repl 4 [DVal.int .u8 0,DVal.int .u8 0,DVal.int .i64 0,DVal.str [],DVal.nilSlice,DVal.nilSlice,DVal.int .i64 0,DVal.int .i64 0,DVal.int .i64 0]))++y++List.drop 18 (x++List.drop 9 (repl 4 [DVal.int .u8 0,DVal.int .u8 0,DVal.int .i64 0,DVal.str [],DVal.nilSlice,DVal.nilSlice,DVal.int .i64 0,DVal.int .i64 0,DVal.int .i64 0]))))++u++List.drop 36 (List.take 18 (List.take 9 (x++List.drop 9 (repl 4 [DVal.int .u8 0,DVal.int .u8 0,DVal.int .i64 0,DVal.str [],DVal.nilSlice,DVal.nilSlice,DVal.int .i64 0,DVal.int .i64 0,DVal.int .i64 0]))++y++List.drop 18 (x++List.drop 9 (repl 4 [DVal.int .u8 0,DVal.int .u8 0,DVal.int .i64 0,DVal.str [],DVal.nilSlice,DVal.nilSlice,DVal.int .i64 0,DVal.int .i64 0,DVal.int .i64 0])))++z++List.drop 27 (List.take 9 (x++List.drop 9 (repl 4 [DVal.int .u8 0,DVal.int .u8 0,DVal.int .i64 0,DVal.str [],DVal.nilSlice,DVal.nilSlice,DVal.int .i64 0,DVal.int .i64 0,DVal.int .i64 0]))++y++List.drop 18 (x++List.drop 9 (repl 4 [DVal.int .u8 0,DVal.int .u8 0,DVal.int .i64 0,DVal.str [],DVal.nilSlice,DVal.nilSlice,DVal.int .i64 0,DVal.int .i64 0,DVal.int .i64 0]))))) else none) else none) else none) else none)=some (x++y++z++u):=by
 have e: ∀w:List DVal,repl 4 w=w++(w++(w++(w))):=fun w=>by simp [repl]
 obtain⟨w,hw⟩: ∃w:List DVal,w= [DVal.int .u8 0,DVal.int .u8 0,DVal.int .i64 0,DVal.str [],DVal.nilSlice,DVal.nilSlice,DVal.int .i64 0,DVal.int .i64 0,DVal.int .i64 0]:=⟨_,rfl⟩;have lw:w.length=9:=by rw[hw];rfl
 rw[<-hw,e];clear hw e;rw[Cw9 lw];rw[Cx0 (pre:=x) (m:=9) (n:=18) (by simp [hx]) lw rfl];rw[Cx0 (pre:=(x++y)) (m:=18) (n:=27) (by simp [hx,hy]) lw rfl];rw[Cx1 (pre:=(x++y++z)) (m:=27) (n:=36) (by simp [hx,hy,hz]) lw rfl]
 repeat rw[if_pos (by simp [lw,hx,hy,hz,hu])]
section
variable (t:Typ)
theorem Ar:((Dr t).drop 20).take 9=dEx t.sub.name:=by
 simp only[Dr,Fb,Gh,List.drop_succ_cons,List.append_assoc];rw[Cz _ _ 9,Cz _ _ 0,List.drop_zero,Iu]
theorem Au:((Dr t).drop 29).take 9=dEx t.sub.lo:=by
 simp only[Dr,Fb,Gh,List.drop_succ_cons,List.append_assoc];rw[Cz _ _ 18,Cz _ _ 9,Cz _ _ 0,List.drop_zero,Iu]
theorem Av:((Dr t).drop 38).take 9=dEx t.sub.hi:=by
 simp only[Dr,Fb,Gh,List.drop_succ_cons,List.append_assoc];rw[Cz _ _ 27,Cz _ _ 18,Cz _ _ 9,Cz _ _ 0,List.drop_zero,Iu]
theorem Aw:((Dr t).drop 47).take 9=dEx t.sub.value:=by
 simp only[Dr,Fb,Gh,List.drop_succ_cons,List.append_assoc];rw[Cz _ _ 36,Cz _ _ 27,Cz _ _ 18,Cz _ _ 9,Cz _ _ 0,List.drop_zero,Iu]
theorem Ax:((Dr t).drop 56).take 9=dEx t.disc.name:=by
 simp only[Dr,Fb,Gh,List.drop_succ_cons,List.append_assoc];rw[Cz _ _ 45,Cz _ _ 36,Cz _ _ 27,Cz _ _ 18,Cz _ _ 9,Cz _ _ 0,List.drop_zero,Iu]
theorem Ay:((Dr t).drop 65).take 9=dEx t.disc.lo:=by
 simp only[Dr,Fb,Gh,List.drop_succ_cons,List.append_assoc];rw[Cz _ _ 54,Cz _ _ 45,Cz _ _ 36,Cz _ _ 27,Cz _ _ 18,Cz _ _ 9,Cz _ _ 0,List.drop_zero,Iu]
theorem Az:((Dr t).drop 74).take 9=dEx t.disc.hi:=by
 simp only[Dr,Fb,Gh,List.drop_succ_cons,List.append_assoc];rw[Cz _ _ 63,Cz _ _ 54,Cz _ _ 45,Cz _ _ 36,Cz _ _ 27,Cz _ _ 18,Cz _ _ 9,Cz _ _ 0,List.drop_zero,Iu]
end
theorem xft:(false==true)=false:=rfl
theorem xtf:(true==false)=false:=rfl
theorem xff:(false==false)=true:=rfl
theorem xtt:(true==true)=true:=rfl
theorem Dv2 (G:Nat->DVal) (H:Bb) (l:List Int) (t:Int) (hl:l.length<=1099511627776):
  Bh Tryz.prog G 165 [.vslice (l.map (.int .u8)) l.length, .int .u8 t] H (Bt (dI (Zi (fun x=>decide (t=x)) l)) H):=by
 refine Bc Tryz.func165 Tryz.call165 rfl (by kernel_rfl) ?_;simp(disch:=omega) only[go_sem,↓reduceIte];refine Cn3.run (fun(i:Nat) env heap=>heap=H/\env 0= .vslice (l.map (.int .u8)) l.length/\env 1= .int .u8 t/\env 7=dI l.length/\env 8=dI i/\i<=l.length/\ ∀x∈l.take i,decide (t=x)=false) (fun i=>l.length-i) 0 ?_ ?_
 ·simp(disch:=omega) only[go_sem,↓reduceIte];simp
 ·rintro i env heap ⟨rfl,h0,h1,h7,h8,hi,hn⟩;by_cases hlt:i<l.length
  ·have Cc:(l.map (DVal.int .u8))[i]? =some (.int .u8 l[i]):=by rw[List.getElem?_map,List.getElem?_eq_getElem hlt];rfl
   by_cases hx:t=l[i]
   ·simp(disch:=omega) only[go_sem,↓reduceIte,h0,h1,h7,h8,Cc,<-hx,List.length_map];exact Rm.refl ⟨by rw[So hlt (by simp [hx]) hn],rfl⟩
   ·simp(disch:=omega) only[go_sem,↓reduceIte,h0,h1,h7,h8,Cc,hx,List.length_map];refine⟨i+1,_,Rd.refl _, ?_,by omega⟩;simp(disch:=omega) only[go_sem,↓reduceIte,h0,h1,h7,h8];(repeat' apply And.intro)<;>(try first | rfl | assumption | omega);exact Hm hlt hn (by simp [hx])
  ·simp(disch:=omega) only[go_sem,↓reduceIte,h0,h1,h7,h8];have:i=l.length:=by omega
   subst this;rw[List.take_length] at hn;exact Rm.refl ⟨by rw[Sp hn],rfl⟩
theorem Cj7 (G:Nat->DVal) (H:Bb) (l:List Int) (t:Int) (hl:l.length<=1099511627776):
  Bh Tryz.prog G 94 [.vslice (l.map (.int .u8)) l.length, .int .u8 t] H (Bt (.bool (l.any fun x=>decide (t=x))) H):=by
 refine Bc Tryz.func94 Tryz.call94 rfl (by kernel_rfl) ?_;simp(disch:=omega) only[go_sem,↓reduceIte];refine(Dv2 G H l t hl).mono ?_;rintro _ H ⟨rfl,rfl⟩;simp(disch:=omega) only[go_sem,↓reduceIte];exact Rm.refl ⟨by rw[Od],rfl⟩
theorem Bi (G:Nat->DVal) (K:Bb) (t:Typ) (r1 q:Nat) (l:List Int) (b:Bool) (hK:K r1=some (.cells (Dr t) 53)) (hq:K q=none) (hl:l.length<=1000) (hb:(l.any fun x=>decide (t.kind=x))=b):
  Bh Tryz.prog G 93 [.oslice 1 q 0 l.length l.length, .optr r1 0] (upd K q (some (.cells (l.map (.int .u8)) 50))) (Bt (.bool b) K):=by
 subst hb;refine Bh.fzA q hq ?_;have n:r1≠q:=Dz hq hK;simp only[fzs,fz,if_neg n,if_pos,List.drop_zero,Nat.mul_one];rw[List.take_of_length_le (by simp)];refine Bc Tryz.func93 Tryz.call93 rfl (by kernel_rfl) ?_;simp(disch:=omega) only[go_sem,↓reduceIte,hK,Al,Ab];refine Bh.monoR (Cj7 G K l t.kind (by omega)) ?_;simp(disch:=omega) only[go_sem,↓reduceIte];exact Rm.refl ⟨rfl,rfl⟩
theorem Fs (G:Nat->DVal) (K:Bb) (l:List Ex) (q:Nat) (b:Bool) (cs:List DVal) (hc:l.flatMap dEx=cs) (hq:K q=none) (hl:l.length<=1099511627776) (hb: ∀x∈l,Dn 1048576 x) (hr:l.all noE=b):
  Bh Tryz.prog G 69 [.oslice 9 q 0 l.length l.length] (upd K q (some (.cells cs 29))) (Bt (.bool b) K):=by
 subst hr;subst hc;refine Bh.fzA q hq ?_;have hfl:=Bq Aa l;simp only[fzs,fz,if_pos,List.drop_zero];rw[List.take_of_length_le (by omega)];exact Ao3 G K l hl hb
theorem Pv {l:List Arm} {k:Nat} (hlt:k<l.length):Mf (l.take (k+1))=Mf (l.take k)+Dk l[k].comps:=by
 rw[Mf,Mf,List.take_add_one,List.getElem?_eq_getElem hlt,List.map_append,List.sum_append];simp
theorem Ky {l:List Cmp} (hl:Ht Ng 1048576 l):Dk l<=1099511627776:=by
 have h: ∀l:List Cmp,(∀x∈l,Ng 1048576 x)->Dk l<=l.length*1048576:=by
  intro l
  induction l with
  | nil=>intro _;simp [Dk]
  | cons x l ih=>
   intro h;have h1:=ih fun y hy=>h y (List.mem_cons_of_mem _ hy);have h2:=(h x (List.mem_cons_self ..)).1.1;have e:Dk (x::l)=x.names.length+Dk l:=by simp [Dk]
   rw[e,List.length_cons];omega
 have h1:=h l hl.2;have h2:=hl.1;omega
def Fz (t:Typ) (k:Nat):Nat:=Dk t.comps+Mf (t.arms.take k)
theorem Av2 (t:Typ):Fz t 0=Dk t.comps:=by simp [Fz,Mf]
section
variable {G:Nat->DVal} (hG:GX G)
include hG
theorem Dv3 (K:Bb) (l:List Ex) (q:Nat) (b:Bool) (cs:List DVal) (hc:l.flatMap dEx=cs) (hq:K q=none) (hl:l.length<=1099511627776) (hb: ∀x∈l,Dn 1048576 x) (hr:l.all Cp=b):
  Bh Tryz.prog G 70 [.oslice 9 q 0 l.length l.length] (upd K q (some (.cells cs 29))) (Bt (.bool b) K):=by
 subst hr;subst hc;refine Bh.fzA q hq ?_;have hfl:=Bq Aa l;simp only[fzs,fz,if_pos,List.drop_zero];rw[List.take_of_length_le (by omega)];exact Ag4 hG K l hl hb
set_option maxHeartbeats 40000000 in
theorem Bh0 (H:Bb) (t:Typ) (ht:Nh 1048576 t):Bh Tryz.prog G 90 [.agg (Dr t)] H (Bt (.bool (Gg t)) H):=by
 obtain⟨f0,f1,f2,f3,f4,f5,f6,f7⟩:=ht;have a7:=f7.1;refine Bc Tryz.func90 Tryz.call90 rfl (by kernel_rfl) ?_;simp(disch:=omega) only[go_sem,↓reduceIte,DVal.cells];intro r1 hr1;dsimp only at hr1;obtain⟨K,hK⟩: ∃K',K'=upd H r1 (some (.cells (Dr t) 53)):=⟨_,rfl⟩;rw[<-hK];have gr1:K r1=some (.cells (Dr t) 53):=by rw[hK];exact Bp _ _ _
 have sK:Sub H K:=by rw[hK];exact(Sub.refl _).new hr1 _
 simp(disch:=omega) only[go_sem,↓reduceIte,gr1,Ab,Al,Am,An,Ac,Ad,Ae,Af,Ag,Ah,Ai];refine Bh.monoR (Pu hG K t.comps f5) ?_;cases h1:t.comps.all Gf
 ·simp(disch:=omega) only[go_sem,↓reduceIte,gr1,Ab,Al,Am,An,Ac,Ad,Ae,Af,Ag,Ah,Ai];exact Rm.sub sK (.refl ⟨by simp [Gg,h1],rfl⟩)
 by_cases h2:16<t.arms.length
 ·have h2':(16:Int)<(t.arms.length:Int):=by omega
  simp(disch:=omega) only[go_sem,↓reduceIte,gr1,Ab,Al,Am,An,Ac,Ad,Ae,Af,Ag,Ah,Ai,Bo,h2'];exact Rm.sub sK (.refl ⟨by simp [Gg,h1];omega,rfl⟩)
 have h2': ¬(16:Int)<(t.arms.length:Int):=by omega
 by_cases hv:t.var= []
 ·by_cases ha:t.arms.length=0
  ·have ha':(t.arms.length:Int)=0:=by omega
   have hR:Gg t=(t.arms.all Fq&&decide (Dk t.comps+Mf t.arms<=32)):=by simp [Gg,h1,hv,ha]
   simp(disch:=omega) only[go_sem,↓reduceIte,gr1,Ab,Al,Am,An,Ac,Ad,Ae,Af,Ag,Ah,Ai,Bo,h2',hv,ha',xft,xtf,xff,xtt];have hc40:=Ky f5;obtain⟨I,hI⟩: ∃I:Nat->(Nat->DVal)->Bb->Prop,∀k env heap,I k env heap↔(env 1= .optr r1 0/\env 3=dI (Fz t k:Nat)/\env 45=Bo t.arms/\env 46=dI t.arms.length/\env 47=dI k/\k<=t.arms.length/\Fz t k<=(k+1)*1099511627776/\(∀x∈t.arms.take k,Fq x=true)/\heap=K):=⟨_,fun _ _ _=>Iff.rfl⟩;refine Cn3.run I (fun k=>t.arms.length-k) 0 ((hI _ _ _).2 ?_) ?_
   ·simp(disch:=omega) only[go_sem,↓reduceIte,Bo,Av2];simp;try omega
   ·try clear ha'
    try clear ha
    intro k env heap hi;obtain⟨e1,e3,e45,e46,e47,hk,hs,hp,rfl⟩:=(hI _ _ _).1 hi;by_cases hlt:k<t.arms.length
    ·have hlt2:(k:Int)<(t.arms.length:Int):=by omega
     have hwd:IntKind.i64.wrap ((k:Int)+1)=((k+1:Nat):Int):=by rw[IntKind.wrap_i64];omega
     have mx:=List.getElem_mem hlt;have hst:Fq t.arms[k]=true-> ∀x∈t.arms.take (k+1),Fq x=true:=Ki hlt hp;have hsn:Fz t (k+1)=Fz t k+Dk t.arms[k].comps:=by rw[Fz,Pv hlt,Fz];omega
     have Cc:=Cm Dm t.arms k hlt;obtain⟨x,hx⟩: ∃x,x=t.arms[k]:=⟨_,rfl⟩;rw[<-hx] at Cc mx hst hsn;have fx:=f7.2 x mx;have fn:=Ky fx.2;have fc:=fx.1.1;have hwe:IntKind.i64.wrap ((Fz t k:Nat)+(Dk x.comps:Int))=((Fz t (k+1):Nat):Int):=by
      rw[hsn,IntKind.wrap_i64];omega
     simp(disch:=omega) only[go_sem,↓reduceIte,gr1,Ab,Al,Am,An,Ac,Ad,Ae,Af,Ag,Ah,Ai,e1,e3,e45,e46,e47,Bo,hlt2,Bq Dm,Int.toNat_natCast,Cc];intro r6 hr6;dsimp only at hr6;have gr6:upd heap r6 (some (.cells (Zn x) 128)) r6=some (.cells (Zn x) 128):=Bp _ _ _;simp(disch:=omega) only[go_sem,↓reduceIte,e1,e3,e45,e46,e47,gr6,Dm,Qm,Qn];refine Bh.monoR (Pu hG _ x.comps fx.2) ?_;cases h3:x.comps.all Gf
     ·simp(disch:=omega) only[go_sem,↓reduceIte,e1,e3,e45,e46,e47,gr6,Dm,Qm,Qn];exact Rm.dropA r6 hr6 (Rm.sub sK (.refl ⟨by rw[hR,Fe mx (by simp [Fq,h3])];rfl,rfl⟩))
     simp(disch:=omega) only[go_sem,↓reduceIte,e1,e3,e45,e46,e47,gr6,Dm,Qm,Qn];refine Bh.monoR (Qi hG _ x.c (by omega) fx.1.2) ?_;cases h4:Og x.c
     ·simp(disch:=omega) only[go_sem,↓reduceIte,e1,e3,e45,e46,e47,gr6,Dm,Qm,Qn];exact Rm.dropA r6 hr6 (Rm.sub sK (.refl ⟨by rw[hR,Fe mx (by simp [Fq,h4])];rfl,rfl⟩))
     simp(disch:=omega) only[go_sem,↓reduceIte,e1,e3,e45,e46,e47,gr6,Dm,Qm,Qn,hwe];refine⟨k+1,_,Rd.drop _ r6,(hI _ _ _).2 ?_,by omega⟩;simp(disch:=omega) only[go_sem,↓reduceIte,e1,e3,e45,e46,e47,hwd,hwe];(repeat' apply And.intro)<;>(try first | rfl | assumption | omega)
     ·exact hst (by simp [Fq,h3,h4])
     ·exact Ly hr6
    ·have:k=t.arms.length:=by omega
     subst this;have hall:=Mg hp;have hN:Fz t t.arms.length=Dk t.comps+Mf t.arms:=by rw[Fz,List.take_length]
     have hlt': ¬(t.arms.length:Int)<(t.arms.length:Int):=by omega
     simp(disch:=omega) only[go_sem,↓reduceIte,e1,e3,e45,e46,e47,hlt'];exact Rm.sub sK (.refl ⟨by rw[hR,hall,hN,Bool.true_and];congr 2;simp;omega,rfl⟩)
  ·have ha': ¬(t.arms.length:Int)=0:=by omega
   simp(disch:=omega) only[go_sem,↓reduceIte,gr1,Ab,Al,Am,An,Ac,Ad,Ae,Af,Ag,Ah,Ai,Bo,h2',hv,ha',xft,xtf,xff,xtt];have ha0: ¬t.arms= []:=fun e=>ha (by rw[e];rfl);exact Rm.sub sK (.refl ⟨by simp [Gg,h1,hv,ha0],rfl⟩)
 ·by_cases ha:t.arms.length=0
  ·have ha':(t.arms.length:Int)=0:=by omega
   simp(disch:=omega) only[go_sem,↓reduceIte,gr1,Ab,Al,Am,An,Ac,Ad,Ae,Af,Ag,Ah,Ai,Bo,h2',hv,ha',xft,xtf,xff,xtt];exact Rm.sub sK (.refl ⟨by simp [Gg,h1,hv,ha],rfl⟩)
  ·have ha': ¬(t.arms.length:Int)=0:=by omega
   simp(disch:=omega) only[go_sem,↓reduceIte,gr1,Ab,Al,Am,An,Ac,Ad,Ae,Af,Ag,Ah,Ai,Bo,h2',hv,ha',xft,xtf,xff,xtt];refine Bh.monoR (Kb hG K t.var f6.1) ?_;cases h3:Gk t.var
   ·simp(disch:=omega) only[go_sem,↓reduceIte,gr1,Ab,Al,Am,An,Ac,Ad,Ae,Af,Ag,Ah,Ai];exact Rm.sub sK (.refl ⟨by simp [Gg,hv,h3],rfl⟩)
   ·have hR:Gg t=(t.arms.all Fq&&decide (Dk t.comps+Mf t.arms<=32)):=by
     have h16:t.arms.length<=16:=by omega
     have ha0: ¬t.arms= []:=fun e=>ha (by rw[e];rfl);simp [Gg,h1,hv,ha0,h3,h16]
    simp(disch:=omega) only[go_sem,↓reduceIte,gr1,Ab,Al,Am,An,Ac,Ad,Ae,Af,Ag,Ah,Ai,Bo];have hc40:=Ky f5;obtain⟨I,hI⟩: ∃I:Nat->(Nat->DVal)->Bb->Prop,∀k env heap,I k env heap↔(env 1= .optr r1 0/\env 3=dI (Fz t k:Nat)/\env 45=Bo t.arms/\env 46=dI t.arms.length/\env 47=dI k/\k<=t.arms.length/\Fz t k<=(k+1)*1099511627776/\(∀x∈t.arms.take k,Fq x=true)/\heap=K):=⟨_,fun _ _ _=>Iff.rfl⟩;refine Cn3.run I (fun k=>t.arms.length-k) 0 ((hI _ _ _).2 ?_) ?_
    ·simp(disch:=omega) only[go_sem,↓reduceIte,Bo,Av2];simp;try omega
    ·try clear ha'
     try clear ha
     intro k env heap hi;obtain⟨e1,e3,e45,e46,e47,hk,hs,hp,rfl⟩:=(hI _ _ _).1 hi;by_cases hlt:k<t.arms.length
     ·have hlt2:(k:Int)<(t.arms.length:Int):=by omega
      have hwd:IntKind.i64.wrap ((k:Int)+1)=((k+1:Nat):Int):=by rw[IntKind.wrap_i64];omega
      have mx:=List.getElem_mem hlt;have hst:Fq t.arms[k]=true-> ∀x∈t.arms.take (k+1),Fq x=true:=Ki hlt hp;have hsn:Fz t (k+1)=Fz t k+Dk t.arms[k].comps:=by rw[Fz,Pv hlt,Fz];omega
      have Cc:=Cm Dm t.arms k hlt;obtain⟨x,hx⟩: ∃x,x=t.arms[k]:=⟨_,rfl⟩;rw[<-hx] at Cc mx hst hsn;have fx:=f7.2 x mx;have fn:=Ky fx.2;have fc:=fx.1.1;have hwe:IntKind.i64.wrap ((Fz t k:Nat)+(Dk x.comps:Int))=((Fz t (k+1):Nat):Int):=by
       rw[hsn,IntKind.wrap_i64];omega
      simp(disch:=omega) only[go_sem,↓reduceIte,gr1,Ab,Al,Am,An,Ac,Ad,Ae,Af,Ag,Ah,Ai,e1,e3,e45,e46,e47,Bo,hlt2,Bq Dm,Int.toNat_natCast,Cc];intro r6 hr6;dsimp only at hr6;have gr6:upd heap r6 (some (.cells (Zn x) 128)) r6=some (.cells (Zn x) 128):=Bp _ _ _;simp(disch:=omega) only[go_sem,↓reduceIte,e1,e3,e45,e46,e47,gr6,Dm,Qm,Qn];refine Bh.monoR (Pu hG _ x.comps fx.2) ?_;cases h3:x.comps.all Gf
      ·simp(disch:=omega) only[go_sem,↓reduceIte,e1,e3,e45,e46,e47,gr6,Dm,Qm,Qn];exact Rm.dropA r6 hr6 (Rm.sub sK (.refl ⟨by rw[hR,Fe mx (by simp [Fq,h3])];rfl,rfl⟩))
      simp(disch:=omega) only[go_sem,↓reduceIte,e1,e3,e45,e46,e47,gr6,Dm,Qm,Qn];refine Bh.monoR (Qi hG _ x.c (by omega) fx.1.2) ?_;cases h4:Og x.c
      ·simp(disch:=omega) only[go_sem,↓reduceIte,e1,e3,e45,e46,e47,gr6,Dm,Qm,Qn];exact Rm.dropA r6 hr6 (Rm.sub sK (.refl ⟨by rw[hR,Fe mx (by simp [Fq,h4])];rfl,rfl⟩))
      simp(disch:=omega) only[go_sem,↓reduceIte,e1,e3,e45,e46,e47,gr6,Dm,Qm,Qn,hwe];refine⟨k+1,_,Rd.drop _ r6,(hI _ _ _).2 ?_,by omega⟩;simp(disch:=omega) only[go_sem,↓reduceIte,e1,e3,e45,e46,e47,hwd,hwe];(repeat' apply And.intro)<;>(try first | rfl | assumption | omega)
      ·exact hst (by simp [Fq,h3,h4])
      ·exact Ly hr6
     ·have:k=t.arms.length:=by omega
      subst this;have hall:=Mg hp;have hN:Fz t t.arms.length=Dk t.comps+Mf t.arms:=by rw[Fz,List.take_length]
      have hlt': ¬(t.arms.length:Int)<(t.arms.length:Int):=by omega
      simp(disch:=omega) only[go_sem,↓reduceIte,e1,e3,e45,e46,e47,hlt'];exact Rm.sub sK (.refl ⟨by rw[hR,hall,hN,Bool.true_and];congr 2;simp;omega,rfl⟩)
theorem Ei2 (K:Bb) (t:Typ) (r1:Nat) (ht:Nh 1048576 t) (gr1:K r1=some (.cells (Dr t) 53)):Bh Tryz.prog G 85 [.optr r1 0] K (Bt (.bool (Cs t.names 64)) K):=by
 obtain⟨f0,f1,f2,f3,f4,f5,f6,f7⟩:=ht;refine Bc Tryz.func85 Tryz.call85 rfl (by kernel_rfl) ?_;simp(disch:=omega) only[go_sem,↓reduceIte,gr1,Ab,Al,Am,An,Ac,Ad,Ae,Af,Ag,Ah,Ai,Aj (Aa _),Ak (Aa _) (Aa _)];refine Bh.monoR (Uf hG K t.names 64 f0) ?_;simp(disch:=omega) only[go_sem,↓reduceIte];exact Rm.refl ⟨rfl,rfl⟩
theorem Ei3 (K:Bb) (t:Typ) (r1:Nat) (ht:Nh 1048576 t) (gr1:K r1=some (.cells (Dr t) 53)):Bh Tryz.prog G 86 [.optr r1 0] K (Bt (.bool (Cp t.lo&&Cp t.hi)) K):=by
 obtain⟨f0,f1,f2,f3,f4,f5,f6,f7⟩:=ht;refine Bc Tryz.func86 Tryz.call86 rfl (by kernel_rfl) ?_;simp(disch:=omega) only[go_sem,↓reduceIte,gr1,Ab,Al,Am,An,Ac,Ad,Ae,Af,Ag,Ah,Ai,Aj (Aa _),Ak (Aa _) (Aa _)];intro q hq;dsimp only at hq;simp(disch:=omega) only[go_sem,↓reduceIte];refine Bh.monoR (Dv3 hG K [t.lo,t.hi] q _ _ (by simp) hq (by simp) (by intro x hx;simp at hx;rcases hx with rfl | rfl<;>assumption) rfl) ?_;simp(disch:=omega) only[go_sem,↓reduceIte];exact Rm.refl ⟨by simp,rfl⟩
theorem Ei4 (K:Bb) (t:Typ) (r1:Nat) (ht:Nh 1048576 t) (gr1:K r1=some (.cells (Dr t) 53)):Bh Tryz.prog G 87 [.optr r1 0] K (Bt (.bool (Ce t.sub)) K):=by
 obtain⟨f0,f1,f2,f3,f4,f5,f6,f7⟩:=ht;refine Bc Tryz.func87 Tryz.call87 rfl (by kernel_rfl) ?_;simp(disch:=omega) only[go_sem,↓reduceIte,gr1,Ab,Al,Am,An,Ac,Ad,Ae,Af,Ag,Ah,Ai,Aj (Aa _),Ak (Aa _) (Aa _)];refine Bh.monoR (Kx hG K t.sub f3) ?_;simp(disch:=omega) only[go_sem,↓reduceIte];exact Rm.refl ⟨rfl,rfl⟩
theorem Ei5 (K:Bb) (t:Typ) (r1:Nat) (ht:Nh 1048576 t) (gr1:K r1=some (.cells (Dr t) 53)):Bh Tryz.prog G 88 [.optr r1 0] K (Bt (.bool (Ce t.sub&&Fd t.disc)) K):=by
 obtain⟨f0,f1,f2,f3,f4,f5,f6,f7⟩:=ht;refine Bc Tryz.func88 Tryz.call88 rfl (by kernel_rfl) ?_;simp(disch:=omega) only[go_sem,↓reduceIte,gr1,Ab,Al,Am,An,Ac,Ad,Ae,Af,Ag,Ah,Ai,Aj (Aa _),Ak (Aa _) (Aa _)];refine Bh.monoR (Kx hG K t.sub f3) ?_;cases h1:Ce t.sub
 ·simp(disch:=omega) only[go_sem,↓reduceIte,gr1,Ab,Al,Am,An,Ac,Ad,Ae,Af,Ag,Ah,Ai];exact Rm.refl ⟨rfl,rfl⟩
 simp(disch:=omega) only[go_sem,↓reduceIte,gr1,Ab,Al,Am,An,Ac,Ad,Ae,Af,Ag,Ah,Ai];refine Bh.monoR (Yx hG K t.disc f4) ?_;simp(disch:=omega) only[go_sem,↓reduceIte];exact Rm.refl ⟨by simp,rfl⟩
theorem Ei6 (K:Bb) (t:Typ) (r1:Nat) (ht:Nh 1048576 t) (gr1:K r1=some (.cells (Dr t) 53)):Bh Tryz.prog G 89 [.optr r1 0] K (Bt (.bool (Gg t)) K):=by
 obtain⟨f0,f1,f2,f3,f4,f5,f6,f7⟩:=ht;refine Bc Tryz.func89 Tryz.call89 rfl (by kernel_rfl) ?_;simp(disch:=omega) only[go_sem,↓reduceIte,gr1,Ab,Al,Am,An,Ac,Ad,Ae,Af,Ag,Ah,Ai,Aj (Aa _),Ak (Aa _) (Aa _)];refine Bh.monoR (Bh0 hG K t ⟨f0,f1,f2,f3,f4,f5,f6,f7⟩) ?_;simp(disch:=omega) only[go_sem,↓reduceIte];exact Rm.refl ⟨rfl,rfl⟩
theorem Ei7 (K:Bb) (t:Typ) (r1:Nat) (ht:Nh 1048576 t) (gr1:K r1=some (.cells (Dr t) 53)):Bh Tryz.prog G 91 [.optr r1 0] K (Bt (.bool (Ce t.sub)) K):=by
 obtain⟨f0,f1,f2,f3,f4,f5,f6,f7⟩:=ht;refine Bc Tryz.func91 Tryz.call91 rfl (by kernel_rfl) ?_;simp(disch:=omega) only[go_sem,↓reduceIte,gr1,Ab,Al,Am,An,Ac,Ad,Ae,Af,Ag,Ah,Ai,Aj (Aa _),Ak (Aa _) (Aa _)];refine Bh.monoR (Kx hG K t.sub f3) ?_;simp(disch:=omega) only[go_sem,↓reduceIte];exact Rm.refl ⟨rfl,rfl⟩
theorem Ei8 (K:Bb):Bh Tryz.prog G 92 [] K (Bt (.bool true) K):=by
 refine Bc Tryz.func92 Tryz.call92 rfl (by kernel_rfl) ?_;simp(disch:=omega) only[go_sem,↓reduceIte];exact Rm.refl ⟨rfl,rfl⟩
end
end Go.Dl
