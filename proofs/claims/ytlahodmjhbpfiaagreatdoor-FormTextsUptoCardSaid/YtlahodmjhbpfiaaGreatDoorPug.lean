/- The data level and the contracts of the functions that are reached (part 7). -/
import Derived.Test.YtlahodmjhbpfiaaGreatDoorPuf
set_option linter.unusedSimpArgs false
set_option linter.unusedVariables false
set_option linter.unusedSectionVars false
-- Chapter 4: which indications and discrete ranges are valid: package shape.
namespace Go.Dl
open Go Go.Proofs
set_option maxRecDepth 100000
theorem Ij (G:Nat->DVal) (H:Ab) (l:List Ex) (r:Nat) (hc:H r=some (.cells (l.flatMap dEx) 27)) (hl:l.length<=1099511627776) (hb: ∀x∈l,Ef 1048576 x):
  Ae Tryz.prog G 134 [.oslice 9 r 0 l.length l.length] H (Ba (.bool (l.all noE)) H):=
 Px.lent (H:=h0) (Px.cons (Qg.cells (fun _ _ h=>by cases h) rfl hc (Al Ad l) (.keep (fun _ _ h=>by cases h) _)) .nil) (Bm1 G h0 l hl hb) rfl
section
variable {G:Nat->DVal} (hG:GX G)
include hG
theorem Gj (H:Ab) (l:List Ex) (r:Nat) (hc:H r=some (.cells (l.flatMap dEx) 27)) (hl:l.length<=1099511627776) (hb: ∀x∈l,Ef 1048576 x):
  Ae Tryz.prog G 124 [.oslice 9 r 0 l.length l.length] H (Ba (.bool (l.all Cl)) H):=
 Px.lent (H:=h0) (Px.cons (Qg.cells (fun _ _ h=>by cases h) rfl hc (Al Ad l) (.keep (fun _ _ h=>by cases h) _)) .nil) (Bb2 hG h0 l hl hb) rfl
set_option maxHeartbeats 40000000 in
theorem Pm (H:Ab) (s:Ind) (hs:Uf 1048576 s):Ae Tryz.prog G 126 [.agg (Er s)] H (Ba (.bool (Cm s)) H):=by
 obtain⟨f0,f1,f2,f3⟩:=hs;have p2: ∀x∈ [s.lo,s.hi],Ef 1048576 x:=by intro x hx;simp at hx;rcases hx with rfl | rfl<;>assumption
 have p1: ∀x∈ [s.value],Ef 1048576 x:=by intro x hx;simp at hx;subst hx;assumption
 have e2: [s.lo,s.hi].all noE=(noE s.lo&&noE s.hi):=by simp
 have e1: [s.value].all noE=noE s.value:=by simp
 have d2: [s.lo,s.hi].all Cl=(Cl s.lo&&Cl s.hi):=by simp
 have d1: [s.value].all Cl=Cl s.value:=by simp
 have q2: [s.lo,s.hi].flatMap dEx=dEx s.lo++dEx s.hi:=by simp
 have q1: [s.value].flatMap dEx=dEx s.value:=by simp
 refine Aa Tryz.func126 Tryz.call126 rfl (by kernel_rfl) ?_;simp(disch:=omega)only[go_sem,DVal.cells];intro r1 hr1;dsimp only at hr1;obtain⟨K,hK⟩: ∃K',K'=upd H r1 (some (.cells (Er s) 56)):=⟨_,rfl⟩;rw[<-hK];have gr1:K r1=some (.cells (Er s) 56):=by rw[hK];exact Ac _ _ _
 have sK:Sub H K:=by rw[hK];exact(Sub.refl _).new hr1 _
 simp(disch:=omega)only[go_sem,gr1,Ag,Bi,Bj,Bk,Bl,Ah (Ad _),Av (Ad _) (Ad _)];refine Ak (by kernel_rfl) pL16 (by kernel_rfl) ?_;simp(disch:=omega)only[go_sem,gr1,Ag,Bi,Bj,Bk,Bl,Ah (Ad _),Av (Ad _) (Ad _)];refine⟨?_, ?_⟩
 ·intro r14 hr14;dsimp only at hr14;obtain⟨K2,hK2⟩: ∃K',K'=upd K r14 (some (.cells (dEx s.value) 27)):=⟨_,rfl⟩;rw[<-hK2];have gr14:K2 r14=some (.cells (dEx s.value) 27):=by rw[hK2];exact Ac _ _ _
  have sK2:Sub K K2:=by rw[hK2];exact(Sub.refl _).new hr14 _
  have g1':K2 r1=some (.cells (Er s) 56):=sK2 _ _ gr1;simp(disch:=omega)only[go_sem,g1',Ag,Bi,Bj,Bk,Bl,Ah (Ad _),Av (Ad _) (Ad _)];refine⟨⟨gr1.symm,gr1.symm⟩, ?_⟩;intro r9 hr9;dsimp only at hr9;obtain⟨K3,hK3⟩: ∃K',K'=upd K2 r9 (some (.cells (dEx s.lo++dEx s.hi) 27)):=⟨_,rfl⟩;rw[<-hK3];have gr9:K3 r9=some (.cells (dEx s.lo++dEx s.hi) 27):=by rw[hK3];exact Ac _ _ _
  have sK3:Sub K2 K3:=by rw[hK3];exact(Sub.refl _).new hr9 _
  have g1:K3 r1=some (.cells (Er s) 56):=sK3 _ _ g1';have g14:K3 r14=some (.cells (dEx s.value) 27):=sK3 _ _ gr14;have t:Sub H K3:=sK.trans (sK2.trans sK3);simp(disch:=omega)only[go_sem,g1,Ag,Bi,Bj,Bk,Bl,Ah (Ad _),Av (Ad _) (Ad _)];refine⟨g1'.symm, ?_⟩;refine Ae.monoR (Ij G K3 [s.lo,s.hi] r9 (by rw[q2];exact gr9) (by simp) p2) ?_;rw[e2];simp(disch:=omega)only[go_sem,g1,Ag,Bi,Bj,Bk,Bl,Ah (Ad _),Av (Ad _) (Ad _)];refine Ae.monoR (Ij G K3 [s.value] r14 (by rw[q1];exact g14) (by simp) p1) ?_;rw[e1];simp(disch:=omega)only[go_sem,g1,Ag,Bi,Bj,Bk,Bl,Ah (Ad _),Av (Ad _) (Ad _)];refine Ae.monoR (Qt hG K3 s.name f0) ?_;cases h3:Jh s.name
  ·simp(disch:=omega)only[go_sem,g1,Ag,Bi,Bj,Bk,Bl,Ah (Ad _),Av (Ad _) (Ad _)];exact Wj.sub t (.refl ⟨by simp [Cm, *],rfl⟩)
  ·cases h1:(noE s.lo&&noE s.hi)<;>cases h2:noE s.value
   ·simp(disch:=omega)only[go_sem,g1,Ag,Bi,Bj,Bk,Bl,Ah (Ad _),Av (Ad _) (Ad _)];exact Wj.sub t (.refl ⟨by rw[Cm,h3,h2,h1];simp,rfl⟩)
   ·simp(disch:=omega)only[go_sem,g1,Ag,Bi,Bj,Bk,Bl,Ah (Ad _),Av (Ad _) (Ad _)];intro r35 hr35;dsimp only at hr35;obtain⟨K4,hK4⟩: ∃K',K'=upd K3 r35 (some (.cells (dEx s.lo++dEx s.hi) 27)):=⟨_,rfl⟩;rw[<-hK4];have gr35:K4 r35=some (.cells (dEx s.lo++dEx s.hi) 27):=by rw[hK4];exact Ac _ _ _
    have sK4:Sub K3 K4:=by rw[hK4];exact(Sub.refl _).new hr35 _
    have g4:K4 r1=some (.cells (Er s) 56):=sK4 _ _ g1;simp(disch:=omega)only[go_sem,g4,Ag,Bi,Bj,Bk,Bl,Ah (Ad _),Av (Ad _) (Ad _)];refine Ae.monoR (Gj hG K4 [s.lo,s.hi] r35 (by rw[q2];exact gr35) (by simp) p2) ?_;rw[d2];cases h5:(Cl s.lo&&Cl s.hi)
    ·simp(disch:=omega)only[go_sem,g4,Ag,Bi,Bj,Bk,Bl,Ah (Ad _),Av (Ad _) (Ad _)];exact Wj.sub (t.trans sK4) (.refl ⟨by rw[Cm,h3,h2,h1,h5];simp,rfl⟩)
    ·simp(disch:=omega)only[go_sem,g4,Ag,Bi,Bj,Bk,Bl,Ah (Ad _),Av (Ad _) (Ad _)];exact Wj.sub (t.trans sK4) (.refl ⟨by rw[Cm,h3,h2,h1,h5];simp,rfl⟩)
   ·simp(disch:=omega)only[go_sem,g1,Ag,Bi,Bj,Bk,Bl,Ah (Ad _),Av (Ad _) (Ad _)];intro r45 hr45;dsimp only at hr45;obtain⟨K4,hK4⟩: ∃K',K'=upd K3 r45 (some (.cells (dEx s.value) 27)):=⟨_,rfl⟩;rw[<-hK4];have gr45:K4 r45=some (.cells (dEx s.value) 27):=by rw[hK4];exact Ac _ _ _
    have sK4:Sub K3 K4:=by rw[hK4];exact(Sub.refl _).new hr45 _
    have g4:K4 r1=some (.cells (Er s) 56):=sK4 _ _ g1;simp(disch:=omega)only[go_sem,g4,Ag,Bi,Bj,Bk,Bl,Ah (Ad _),Av (Ad _) (Ad _)];refine Ae.monoR (Gj hG K4 [s.value] r45 (by rw[q1];exact gr45) (by simp) p1) ?_;rw[d1];cases h5:Cl s.value
    ·simp(disch:=omega)only[go_sem,g4,Ag,Bi,Bj,Bk,Bl,Ah (Ad _),Av (Ad _) (Ad _)];exact Wj.sub (t.trans sK4) (.refl ⟨by rw[Cm,h3,h2,h1,h5];simp,rfl⟩)
    ·simp(disch:=omega)only[go_sem,g4,Ag,Bi,Bj,Bk,Bl,Ah (Ad _),Av (Ad _) (Ad _)];exact Wj.sub (t.trans sK4) (.refl ⟨by rw[Cm,h3,h2,h1,h5];simp,rfl⟩)
   ·simp(disch:=omega)only[go_sem,g1,Ag,Bi,Bj,Bk,Bl,Ah (Ad _),Av (Ad _) (Ad _)];exact Wj.sub t (.refl ⟨by rw[Cm,h3,h2,h1];simp,rfl⟩)
 ·intro r9 hr9;dsimp only at hr9;obtain⟨K2,hK2⟩: ∃K',K'=upd K r9 (some (.cells (dEx s.lo++dEx s.hi) 27)):=⟨_,rfl⟩;rw[<-hK2];have gr9:K2 r9=some (.cells (dEx s.lo++dEx s.hi) 27):=by rw[hK2];exact Ac _ _ _
  have sK2:Sub K K2:=by rw[hK2];exact(Sub.refl _).new hr9 _
  have g1':K2 r1=some (.cells (Er s) 56):=sK2 _ _ gr1;simp(disch:=omega)only[go_sem,g1',Ag,Bi,Bj,Bk,Bl,Ah (Ad _),Av (Ad _) (Ad _)];refine⟨gr1.symm, ?_, ?_⟩
  ·intro r14 hr14;dsimp only at hr14;obtain⟨K3,hK3⟩: ∃K',K'=upd K2 r14 (some (.cells (dEx s.value) 27)):=⟨_,rfl⟩;rw[<-hK3];have gr14:K3 r14=some (.cells (dEx s.value) 27):=by rw[hK3];exact Ac _ _ _
   have sK3:Sub K2 K3:=by rw[hK3];exact(Sub.refl _).new hr14 _
   have g1:K3 r1=some (.cells (Er s) 56):=sK3 _ _ g1';have g9:K3 r9=some (.cells (dEx s.lo++dEx s.hi) 27):=sK3 _ _ gr9;have t:Sub H K3:=sK.trans (sK2.trans sK3);simp(disch:=omega)only[go_sem,g1,Ag,Bi,Bj,Bk,Bl,Ah (Ad _),Av (Ad _) (Ad _)];refine⟨⟨g1'.symm,g1'.symm⟩, ?_⟩;refine Ae.monoR (Ij G K3 [s.lo,s.hi] r9 (by rw[q2];exact g9) (by simp) p2) ?_;rw[e2];simp(disch:=omega)only[go_sem,g1,Ag,Bi,Bj,Bk,Bl,Ah (Ad _),Av (Ad _) (Ad _)];refine Ae.monoR (Ij G K3 [s.value] r14 (by rw[q1];exact gr14) (by simp) p1) ?_;rw[e1];simp(disch:=omega)only[go_sem,g1,Ag,Bi,Bj,Bk,Bl,Ah (Ad _),Av (Ad _) (Ad _)];refine Ae.monoR (Qt hG K3 s.name f0) ?_;cases h3:Jh s.name
   ·simp(disch:=omega)only[go_sem,g1,Ag,Bi,Bj,Bk,Bl,Ah (Ad _),Av (Ad _) (Ad _)];exact Wj.sub t (.refl ⟨by simp [Cm, *],rfl⟩)
   ·cases h1:(noE s.lo&&noE s.hi)<;>cases h2:noE s.value
    ·simp(disch:=omega)only[go_sem,g1,Ag,Bi,Bj,Bk,Bl,Ah (Ad _),Av (Ad _) (Ad _)];exact Wj.sub t (.refl ⟨by rw[Cm,h3,h2,h1];simp,rfl⟩)
    ·simp(disch:=omega)only[go_sem,g1,Ag,Bi,Bj,Bk,Bl,Ah (Ad _),Av (Ad _) (Ad _)];intro r35 hr35;dsimp only at hr35;obtain⟨K4,hK4⟩: ∃K',K'=upd K3 r35 (some (.cells (dEx s.lo++dEx s.hi) 27)):=⟨_,rfl⟩;rw[<-hK4];have gr35:K4 r35=some (.cells (dEx s.lo++dEx s.hi) 27):=by rw[hK4];exact Ac _ _ _
     have sK4:Sub K3 K4:=by rw[hK4];exact(Sub.refl _).new hr35 _
     have g4:K4 r1=some (.cells (Er s) 56):=sK4 _ _ g1;simp(disch:=omega)only[go_sem,g4,Ag,Bi,Bj,Bk,Bl,Ah (Ad _),Av (Ad _) (Ad _)];refine Ae.monoR (Gj hG K4 [s.lo,s.hi] r35 (by rw[q2];exact gr35) (by simp) p2) ?_;rw[d2];cases h5:(Cl s.lo&&Cl s.hi)
     ·simp(disch:=omega)only[go_sem,g4,Ag,Bi,Bj,Bk,Bl,Ah (Ad _),Av (Ad _) (Ad _)];exact Wj.sub (t.trans sK4) (.refl ⟨by rw[Cm,h3,h2,h1,h5];simp,rfl⟩)
     ·simp(disch:=omega)only[go_sem,g4,Ag,Bi,Bj,Bk,Bl,Ah (Ad _),Av (Ad _) (Ad _)];exact Wj.sub (t.trans sK4) (.refl ⟨by rw[Cm,h3,h2,h1,h5];simp,rfl⟩)
    ·simp(disch:=omega)only[go_sem,g1,Ag,Bi,Bj,Bk,Bl,Ah (Ad _),Av (Ad _) (Ad _)];intro r45 hr45;dsimp only at hr45;obtain⟨K4,hK4⟩: ∃K',K'=upd K3 r45 (some (.cells (dEx s.value) 27)):=⟨_,rfl⟩;rw[<-hK4];have gr45:K4 r45=some (.cells (dEx s.value) 27):=by rw[hK4];exact Ac _ _ _
     have sK4:Sub K3 K4:=by rw[hK4];exact(Sub.refl _).new hr45 _
     have g4:K4 r1=some (.cells (Er s) 56):=sK4 _ _ g1;simp(disch:=omega)only[go_sem,g4,Ag,Bi,Bj,Bk,Bl,Ah (Ad _),Av (Ad _) (Ad _)];refine Ae.monoR (Gj hG K4 [s.value] r45 (by rw[q1];exact gr45) (by simp) p1) ?_;rw[d1];cases h5:Cl s.value
     ·simp(disch:=omega)only[go_sem,g4,Ag,Bi,Bj,Bk,Bl,Ah (Ad _),Av (Ad _) (Ad _)];exact Wj.sub (t.trans sK4) (.refl ⟨by rw[Cm,h3,h2,h1,h5];simp,rfl⟩)
     ·simp(disch:=omega)only[go_sem,g4,Ag,Bi,Bj,Bk,Bl,Ah (Ad _),Av (Ad _) (Ad _)];exact Wj.sub (t.trans sK4) (.refl ⟨by rw[Cm,h3,h2,h1,h5];simp,rfl⟩)
    ·simp(disch:=omega)only[go_sem,g1,Ag,Bi,Bj,Bk,Bl,Ah (Ad _),Av (Ad _) (Ad _)];exact Wj.sub t (.refl ⟨by rw[Cm,h3,h2,h1];simp,rfl⟩)
  ·refine Ae.monoR (Ij G K2 [s.lo,s.hi] r9 (by rw[q2];exact gr9) (by simp) p2) ?_;rw[e2];simp(disch:=omega)only[go_sem,g1',Ag,Bi,Bj,Bk,Bl,Ah (Ad _),Av (Ad _) (Ad _)];intro r14 hr14;dsimp only at hr14;obtain⟨K3,hK3⟩: ∃K',K'=upd K2 r14 (some (.cells (dEx s.value) 27)):=⟨_,rfl⟩;rw[<-hK3];have gr14:K3 r14=some (.cells (dEx s.value) 27):=by rw[hK3];exact Ac _ _ _
   have sK3:Sub K2 K3:=by rw[hK3];exact(Sub.refl _).new hr14 _
   have g1:K3 r1=some (.cells (Er s) 56):=sK3 _ _ g1';have t:Sub H K3:=sK.trans (sK2.trans sK3);simp(disch:=omega)only[go_sem,g1,Ag,Bi,Bj,Bk,Bl,Ah (Ad _),Av (Ad _) (Ad _)];refine⟨⟨g1'.symm,g1'.symm⟩, ?_⟩;refine Ae.monoR (Ij G K3 [s.value] r14 (by rw[q1];exact gr14) (by simp) p1) ?_;rw[e1];simp(disch:=omega)only[go_sem,g1,Ag,Bi,Bj,Bk,Bl,Ah (Ad _),Av (Ad _) (Ad _)];refine Ae.monoR (Qt hG K3 s.name f0) ?_;cases h3:Jh s.name
   ·simp(disch:=omega)only[go_sem,g1,Ag,Bi,Bj,Bk,Bl,Ah (Ad _),Av (Ad _) (Ad _)];exact Wj.sub t (.refl ⟨by simp [Cm, *],rfl⟩)
   ·cases h1:(noE s.lo&&noE s.hi)<;>cases h2:noE s.value
    ·simp(disch:=omega)only[go_sem,g1,Ag,Bi,Bj,Bk,Bl,Ah (Ad _),Av (Ad _) (Ad _)];exact Wj.sub t (.refl ⟨by rw[Cm,h3,h2,h1];simp,rfl⟩)
    ·simp(disch:=omega)only[go_sem,g1,Ag,Bi,Bj,Bk,Bl,Ah (Ad _),Av (Ad _) (Ad _)];intro r35 hr35;dsimp only at hr35;obtain⟨K4,hK4⟩: ∃K',K'=upd K3 r35 (some (.cells (dEx s.lo++dEx s.hi) 27)):=⟨_,rfl⟩;rw[<-hK4];have gr35:K4 r35=some (.cells (dEx s.lo++dEx s.hi) 27):=by rw[hK4];exact Ac _ _ _
     have sK4:Sub K3 K4:=by rw[hK4];exact(Sub.refl _).new hr35 _
     have g4:K4 r1=some (.cells (Er s) 56):=sK4 _ _ g1;simp(disch:=omega)only[go_sem,g4,Ag,Bi,Bj,Bk,Bl,Ah (Ad _),Av (Ad _) (Ad _)];refine Ae.monoR (Gj hG K4 [s.lo,s.hi] r35 (by rw[q2];exact gr35) (by simp) p2) ?_;rw[d2];cases h5:(Cl s.lo&&Cl s.hi)
     ·simp(disch:=omega)only[go_sem,g4,Ag,Bi,Bj,Bk,Bl,Ah (Ad _),Av (Ad _) (Ad _)];exact Wj.sub (t.trans sK4) (.refl ⟨by rw[Cm,h3,h2,h1,h5];simp,rfl⟩)
     ·simp(disch:=omega)only[go_sem,g4,Ag,Bi,Bj,Bk,Bl,Ah (Ad _),Av (Ad _) (Ad _)];exact Wj.sub (t.trans sK4) (.refl ⟨by rw[Cm,h3,h2,h1,h5];simp,rfl⟩)
    ·simp(disch:=omega)only[go_sem,g1,Ag,Bi,Bj,Bk,Bl,Ah (Ad _),Av (Ad _) (Ad _)];intro r45 hr45;dsimp only at hr45;obtain⟨K4,hK4⟩: ∃K',K'=upd K3 r45 (some (.cells (dEx s.value) 27)):=⟨_,rfl⟩;rw[<-hK4];have gr45:K4 r45=some (.cells (dEx s.value) 27):=by rw[hK4];exact Ac _ _ _
     have sK4:Sub K3 K4:=by rw[hK4];exact(Sub.refl _).new hr45 _
     have g4:K4 r1=some (.cells (Er s) 56):=sK4 _ _ g1;simp(disch:=omega)only[go_sem,g4,Ag,Bi,Bj,Bk,Bl,Ah (Ad _),Av (Ad _) (Ad _)];refine Ae.monoR (Gj hG K4 [s.value] r45 (by rw[q1];exact gr45) (by simp) p1) ?_;rw[d1];cases h5:Cl s.value
     ·simp(disch:=omega)only[go_sem,g4,Ag,Bi,Bj,Bk,Bl,Ah (Ad _),Av (Ad _) (Ad _)];exact Wj.sub (t.trans sK4) (.refl ⟨by rw[Cm,h3,h2,h1,h5];simp,rfl⟩)
     ·simp(disch:=omega)only[go_sem,g4,Ag,Bi,Bj,Bk,Bl,Ah (Ad _),Av (Ad _) (Ad _)];exact Wj.sub (t.trans sK4) (.refl ⟨by rw[Cm,h3,h2,h1,h5];simp,rfl⟩)
    ·simp(disch:=omega)only[go_sem,g1,Ag,Bi,Bj,Bk,Bl,Ah (Ad _),Av (Ad _) (Ad _)];exact Wj.sub t (.refl ⟨by rw[Cm,h3,h2,h1];simp,rfl⟩)
end
end Go.Dl

-- Chapter 4: which discrete ranges are valid: package shape.
namespace Go.Dl
open Go Go.Proofs
set_option maxRecDepth 100000
section
variable {G:Nat->DVal} (hG:GX G)
include hG
set_option maxHeartbeats 40000000 in
theorem Aq4 (H:Ab) (d:Dis) (hd:Wf 1048576 d):Ae Tryz.prog G 34 [.agg (Fj d)] H (Ba (.bool (Fk d)) H):=by
 obtain⟨f0,f1,f2⟩:=hd;have p2: ∀x∈ [d.lo,d.hi],Ef 1048576 x:=by intro x hx;simp at hx;rcases hx with rfl | rfl<;>assumption
 have p1: ∀x∈ [d.name],Ef 1048576 x:=by intro x hx;simp at hx;subst hx;assumption
 have e2: [d.lo,d.hi].all noE=(noE d.lo&&noE d.hi):=by simp
 have e1: [d.name].all noE=noE d.name:=by simp
 have d2: [d.lo,d.hi].all Cl=(Cl d.lo&&Cl d.hi):=by simp
 have d1: [d.name].all Cl=Cl d.name:=by simp
 have q2: [d.lo,d.hi].flatMap dEx=dEx d.lo++dEx d.hi:=by simp
 have q1: [d.name].flatMap dEx=dEx d.name:=by simp
 refine Aa Tryz.func34 Tryz.call34 rfl (by kernel_rfl) ?_;simp(disch:=omega)only[go_sem,DVal.cells];intro r1 hr1;dsimp only at hr1;obtain⟨K,hK⟩: ∃K',K'=upd H r1 (some (.cells (Fj d) 58)):=⟨_,rfl⟩;rw[<-hK];have gr1:K r1=some (.cells (Fj d) 58):=by rw[hK];exact Ac _ _ _
 have sK:Sub H K:=by rw[hK];exact(Sub.refl _).new hr1 _
 simp(disch:=omega)only[go_sem,gr1,Ax,Dc,Dd,De,Gi,Ah (Ad _),Av (Ad _) (Ad _)];intro r7 hr7;dsimp only at hr7;obtain⟨K2,hK2⟩: ∃K',K'=upd K r7 (some (.cells (dEx d.lo++dEx d.hi) 27)):=⟨_,rfl⟩;rw[<-hK2];have gr7:K2 r7=some (.cells (dEx d.lo++dEx d.hi) 27):=by rw[hK2];exact Ac _ _ _
 have sK2:Sub K K2:=by rw[hK2];exact(Sub.refl _).new hr7 _
 have g2:K2 r1=some (.cells (Fj d) 58):=sK2 _ _ gr1;have t2:Sub H K2:=sK.trans sK2;simp(disch:=omega)only[go_sem,g2,Ax,Dc,Dd,De,Gi,Ah (Ad _),Av (Ad _) (Ad _)];refine Ae.monoR (Ij G K2 [d.lo,d.hi] r7 (by rw[q2];exact gr7) (by simp) p2) ?_;rw[e2];cases h1:(noE d.lo&&noE d.hi)
 ·simp(disch:=omega)only[go_sem,g2,Ax,Dc,Dd,De,Gi,Ah (Ad _),Av (Ad _) (Ad _)];intro r28 hr28;dsimp only at hr28;obtain⟨K3,hK3⟩: ∃K',K'=upd K2 r28 (some (.cells (dEx d.lo++dEx d.hi) 27)):=⟨_,rfl⟩;rw[<-hK3];have gr28:K3 r28=some (.cells (dEx d.lo++dEx d.hi) 27):=by rw[hK3];exact Ac _ _ _
  have sK3:Sub K2 K3:=by rw[hK3];exact(Sub.refl _).new hr28 _
  have g3:K3 r1=some (.cells (Fj d) 58):=sK3 _ _ g2;have t3:Sub H K3:=t2.trans sK3;simp(disch:=omega)only[go_sem,g3,Ax,Dc,Dd,De,Gi,Ah (Ad _),Av (Ad _) (Ad _)];refine Ae.monoR (Gj hG K3 [d.lo,d.hi] r28 (by rw[q2];exact gr28) (by simp) p2) ?_;rw[d2];cases h2:(Cl d.lo&&Cl d.hi)
  ·simp(disch:=omega)only[go_sem,g3,Ax,Dc,Dd,De,Gi,Ah (Ad _),Av (Ad _) (Ad _)];exact Wj.sub t3 (.refl ⟨by rw[Fk,h1,h2];simp,rfl⟩)
  ·simp(disch:=omega)only[go_sem,g3,Ax,Dc,Dd,De,Gi,Ah (Ad _),Av (Ad _) (Ad _)];intro r33 hr33;dsimp only at hr33;obtain⟨K4,hK4⟩: ∃K',K'=upd K3 r33 (some (.cells (dEx d.name) 27)):=⟨_,rfl⟩;rw[<-hK4];have gr33:K4 r33=some (.cells (dEx d.name) 27):=by rw[hK4];exact Ac _ _ _
   have sK4:Sub K3 K4:=by rw[hK4];exact(Sub.refl _).new hr33 _
   have g4:K4 r1=some (.cells (Fj d) 58):=sK4 _ _ g3;have t4:Sub H K4:=t3.trans sK4;simp(disch:=omega)only[go_sem,g4,Ax,Dc,Dd,De,Gi,Ah (Ad _),Av (Ad _) (Ad _)];refine Ae.monoR (Ij G K4 [d.name] r33 (by rw[q1];exact gr33) (by simp) p1) ?_;rw[e1];cases h3:noE d.name
   ·simp(disch:=omega)only[go_sem,g4,Ax,Dc,Dd,De,Gi,Ah (Ad _),Av (Ad _) (Ad _)];refine Ae.monoR (Qt hG K4 d.name f0) ?_;simp(disch:=omega)only[go_sem,g4,Ax,Dc,Dd,De,Gi,Ah (Ad _),Av (Ad _) (Ad _)];exact Wj.sub t4 (.refl ⟨by rw[Fk,h1,h2,h3];simp,rfl⟩)
   ·simp(disch:=omega)only[go_sem,g4,Ax,Dc,Dd,De,Gi,Ah (Ad _),Av (Ad _) (Ad _)];exact Wj.sub t4 (.refl ⟨by rw[Fk,h1,h2,h3];simp,rfl⟩)
 ·simp(disch:=omega)only[go_sem,g2,Ax,Dc,Dd,De,Gi,Ah (Ad _),Av (Ad _) (Ad _)];refine Ae.monoR (Qt hG K2 d.name f0) ?_;cases h2:Jh d.name
  ·by_cases h4:d.name.kind=6
   ·simp(disch:=omega)only[go_sem,g2,h4,Ax,Dc,Dd,De,Gi,Ah (Ad _)];intro r20 hr20;dsimp only at hr20;obtain⟨K3,hK3⟩: ∃K',K'=upd K2 r20 (some (.cells (dEx d.name) 27)):=⟨_,rfl⟩;rw[<-hK3];have gr20:K3 r20=some (.cells (dEx d.name) 27):=by rw[hK3];exact Ac _ _ _
    have sK3:Sub K2 K3:=by rw[hK3];exact(Sub.refl _).new hr20 _
    have g3:K3 r1=some (.cells (Fj d) 58):=sK3 _ _ g2;have t3:Sub H K3:=t2.trans sK3;simp(disch:=omega)only[go_sem,g3,Ax,Dc,Dd,De,Gi,Ah (Ad _),Av (Ad _) (Ad _)];refine Ae.monoR (Gj hG K3 [d.name] r20 (by rw[q1];exact gr20) (by simp) p1) ?_;rw[d1];simp(disch:=omega)only[go_sem,g3,Ax,Dc,Dd,De,Gi,Ah (Ad _),Av (Ad _) (Ad _)];exact Wj.sub t3 (.refl ⟨by rw[Fk,h1,h2];simp [h4],rfl⟩)
   ·simp(disch:=omega)only[go_sem,g2,h4,Ax,Dc,Dd,De,Gi,Ah (Ad _)];exact Wj.sub t2 (.refl ⟨by rw[Fk,h1,h2];simp [h4],rfl⟩)
  ·simp(disch:=omega)only[go_sem,g2,Ax,Dc,Dd,De,Gi,Ah (Ad _),Av (Ad _) (Ad _)];exact Wj.sub t2 (.refl ⟨by rw[Fk,h1,h2];simp,rfl⟩)
end
end Go.Dl

-- Chapter 4: sums of names (package).
namespace Go.Dl
open Go Go.Proofs
set_option maxRecDepth 100000
theorem Fi3 (G:Nat->DVal) (H:Ab) (l:List Par) (p:Par->Bool) (nm:Par->List (List UInt8)) (g1 g2:FuncId) (hl:l.length<=1048576) (hn: ∀x∈l,(nm x).length<=1048576)
  (h1: ∀x∈l,∀K,Ae Tryz.prog G g1 ([]++ [.agg (Lc x)]++ []) K (Ba (dW (nm x)) K)) (h2: ∀x∈l,∀K,Ae Tryz.prog G g2 ([]++ [.agg (Lc x)]++ []) K (Ba (.bool (p x)) K)):
  Ae Tryz.prog G 146 [.vslice (l.flatMap Lc) l.length, .func (.func g1) [] [], .func (.func g2) [] []] H (Ba (.tuple [dI (if l.all p then((l.map fun x=>(nm x).length).sum:Nat) else 0), .bool (l.all p)]) H):=by
 refine Aa Tryz.func146 Tryz.call146 rfl (by kernel_rfl) ?_;simp(disch:=omega)only[go_sem];obtain⟨I,hI⟩: ∃I:Nat->(Nat->DVal)->Ab->Prop,∀i env heap,I i env heap↔(heap=H/\env 1= .func (.func g1) [] []/\env 2= .func (.func g2) [] []/\env 10= .vslice (l.flatMap Lc) l.length/\env 11=dI l.length/\env 12=dI i/\env 6=dI (((l.take i).map fun x=>(nm x).length).sum:Nat)/\i<=l.length/\((l.take i).map fun x=>(nm x).length).sum<=i*1048576/\ ∀x∈l.take i,p x=true):=⟨_,fun _ _ _=>Iff.rfl⟩;refine Dt1.run I (fun i=>l.length-i) 0 ((hI _ _ _).2 ?_) ?_
 ·simp(disch:=omega)only[go_sem];simp
 ·intro i env heap hi;obtain⟨rfl,e1,e2,e10,e11,e12,e6,hi,hs,hp⟩:=(hI _ _ _).1 hi;by_cases hlt:i<l.length
  ·have hlti:(i:Int)<(l.length:Int):=by omega
   have Aw:=Bu An l i hlt;have hwd:IntKind.i64.wrap ((i:Int)+1)=((i+1:Nat):Int):=by rw[IntKind.wrap_i64];omega
   simp(disch:=omega)only[go_sem,e1,e2,e10,e11,e12,e6,hlti,Aw,Al An];intro r hr;dsimp only at hr;simp(disch:=omega)only[go_sem,e1,e2,e10,e11,e12,e6];have mx:=List.getElem_mem hlt;have hst:((l.take (i+1)).map fun x=>(nm x).length).sum=((l.take i).map fun x=>(nm x).length).sum+(nm l[i]).length:=by
    rw[List.take_add_one,List.getElem?_eq_getElem hlt,List.map_append,List.sum_append];congr 1
   have hn1:=hn l[i] mx;refine Ae.monoR (by simpa using h2 l[i] mx _) ?_;cases hx:p l[i]
   ·simp(disch:=omega)only[go_sem,e1,e2,e10,e11,e12,e6];have hall:l.all p=false:=by
     rw[List.all_eq_false];exact⟨l[i],mx,by simp [hx]⟩
    exact Wj.dropA r hr (Wj.refl ⟨by rw[hall];rfl,rfl⟩)
   ·simp(disch:=omega)only[go_sem,e1,e2,e10,e11,e12,e6];refine Ae.monoR (by simpa using h1 l[i] mx _) ?_;have hwe:IntKind.i64.wrap ((((l.take i).map fun x=>(nm x).length).sum:Nat)+((nm l[i]).length:Int))=((((l.take (i+1)).map fun x=>(nm x).length).sum:Nat):Int):=by
     rw[hst,IntKind.wrap_i64];omega
    simp(disch:=omega)only[go_sem,e1,e2,e10,e11,e12,e6,dW];refine⟨i+1,_,Ws.drop _ r,(hI _ _ _).2 ?_,by omega⟩;simp(disch:=omega)only[go_sem,e1,e2,e10,e11,e12,e6,hwe,hwd];(repeat' apply And.intro)<;>(try first | rfl | assumption | omega)
    ·exact Rd hr
    ·rw[hst];rfl
    ·intro x hx';rw[List.take_add_one,List.getElem?_eq_getElem hlt] at hx';rcases List.mem_append.1 hx' with h | h
     ·exact hp x h
     ·simp at h;subst h;exact hx
  ·have:i=l.length:=by omega
   subst this;rw[List.take_length] at hp e6;have hall:l.all p=true:=by rw[List.all_eq_true];exact hp
   have hlti: ¬(l.length:Int)<(l.length:Int):=by omega
   simp(disch:=omega)only[go_sem,e1,e2,e10,e11,e12,e6,hlti];exact Wj.refl ⟨by rw[hall];rfl,rfl⟩
end Go.Dl

-- Chapter 4: which parameters are valid: package shape.
namespace Go.Dl
open Go Go.Proofs
set_option maxRecDepth 100000
theorem Ee6 (G:Nat->DVal) (H:Ab) (p:Par):Ae Tryz.prog G 147 ([]++ [.agg (Lc p)]++ []) H (Ba (dW p.names) H):=by
 refine Aa Tryz.func147 Tryz.call147 rfl (by kernel_rfl) ?_;simp(disch:=omega)only[go_sem,DVal.cells,jG,jH];intro r1 hr1;dsimp only at hr1;obtain⟨K,hK⟩: ∃K',K'=upd H r1 (some (.cells (Lc p) 97)):=⟨_,rfl⟩;rw[<-hK];have gr1:K r1=some (.cells (Lc p) 97):=by rw[hK];exact Ac _ _ _
 have sK:Sub H K:=by rw[hK];exact(Sub.refl _).new hr1 _
 simp(disch:=omega)only[go_sem,gr1,An,Ce,Cf,Cg,Bn,Ah (Ad _)];exact Wj.sub sK (.refl ⟨rfl,rfl⟩)
section
variable {G:Nat->DVal} (hG:GX G)
include hG
set_option maxHeartbeats 40000000 in
theorem Cu5 (H:Ab) (p:Par) (hp:Xr 1048576 p):Ae Tryz.prog G 148 ([]++ [.agg (Lc p)]++ []) H (Ba (.bool (Fm p)) H):=by
 obtain⟨f0,f1,f2⟩:=hp;have p1: ∀x∈ [p.e],Ef 1048576 x:=by intro x hx;simp at hx;subst hx;assumption
 have e1: [p.e].all noE=noE p.e:=by simp
 have d1: [p.e].all Cl=Cl p.e:=by simp
 have q1: [p.e].flatMap dEx=dEx p.e:=by simp
 refine Aa Tryz.func148 Tryz.call148 rfl (by kernel_rfl) ?_;simp(disch:=omega)only[go_sem,DVal.cells,jG,jH];intro r1 hr1;dsimp only at hr1;obtain⟨K,hK⟩: ∃K',K'=upd H r1 (some (.cells (Lc p) 97)):=⟨_,rfl⟩;rw[<-hK];have gr1:K r1=some (.cells (Lc p) 97):=by rw[hK];exact Ac _ _ _
 have sK:Sub H K:=by rw[hK];exact(Sub.refl _).new hr1 _
 simp(disch:=omega)only[go_sem,gr1,An,Ce,Cf,Cg,Bn,Ah (Ad _)];refine Ak (by kernel_rfl) pL55 (by kernel_rfl) ?_;simp(disch:=omega)only[go_sem,gr1,An,Ce,Cf,Cg,Bn,Ah (Ad _)];intro r10 hr10;dsimp only at hr10;obtain⟨K2,hK2⟩: ∃K',K'=upd K r10 (some (.cells (dEx p.e) 27)):=⟨_,rfl⟩;rw[<-hK2];have gr10:K2 r10=some (.cells (dEx p.e) 27):=by rw[hK2];exact Ac _ _ _
 have sK2:Sub K K2:=by rw[hK2];exact(Sub.refl _).new hr10 _
 have g2:K2 r1=some (.cells (Lc p) 97):=sK2 _ _ gr1;have t2:Sub H K2:=sK.trans sK2;simp(disch:=omega)only[go_sem,g2,An,Ce,Cf,Cg,Bn,Ah (Ad _)];refine⟨gr1.symm, ?_⟩;refine Ae.monoR (Ij G K2 [p.e] r10 (by rw[q1];exact gr10) (by simp) p1) ?_;rw[e1];simp(disch:=omega)only[go_sem,g2,An,Ce,Cf,Cg,Bn,Ah (Ad _)];refine Ae.monoR (Ab2 hG K2 p.names 8 f0) ?_;cases h1:Fb p.names 8
 ·simp(disch:=omega)only[go_sem,g2,An,Ce,Cf,Cg,Bn,Ah (Ad _)];exact Wj.sub t2 (.refl ⟨by rw[Fm,h1];simp,rfl⟩)
 simp(disch:=omega)only[go_sem,g2,An,Ce,Cf,Cg,Bn,Ah (Ad _)];refine Ae.monoR (Qt hG K2 p.type f1) ?_;cases h2:Jh p.type
 ·simp(disch:=omega)only[go_sem,g2,An,Ce,Cf,Cg,Bn,Ah (Ad _)];exact Wj.sub t2 (.refl ⟨by rw[Fm,h1,h2];simp,rfl⟩)
 cases h3:noE p.e
 ·by_cases m1:p.mode=1
  ·simp(disch:=omega)only[go_sem,g2,m1,An,Ce,Cf,Cg,Bn,Ah (Ad _)];intro r42 hr42;dsimp only at hr42;obtain⟨K3,hK3⟩: ∃K',K'=upd K2 r42 (some (.cells (dEx p.e) 27)):=⟨_,rfl⟩;rw[<-hK3];have gr42:K3 r42=some (.cells (dEx p.e) 27):=by rw[hK3];exact Ac _ _ _
   have sK3:Sub K2 K3:=by rw[hK3];exact(Sub.refl _).new hr42 _
   have g3:K3 r1=some (.cells (Lc p) 97):=sK3 _ _ g2;have t3:Sub H K3:=t2.trans sK3;simp(disch:=omega)only[go_sem,g3,An,Ce,Cf,Cg,Bn,Ah (Ad _)];refine Ae.monoR (Gj hG K3 [p.e] r42 (by rw[q1];exact gr42) (by simp) p1) ?_;rw[d1];simp(disch:=omega)only[go_sem,g3,An,Ce,Cf,Cg,Bn,Ah (Ad _)];exact Wj.sub t3 (.refl ⟨by rw[Fm,h1,h2,Gx,h3];simp [m1],rfl⟩)
  ·by_cases m2:p.mode=2
   ·simp(disch:=omega)only[go_sem,g2,m2,An,Ce,Cf,Cg,Bn,Ah (Ad _)];exact Wj.sub t2 (.refl ⟨by rw[Fm,h1,h2,Gx,h3];simp [m2],rfl⟩)
   ·by_cases m3:p.mode=3
    ·simp(disch:=omega)only[go_sem,g2,m3,An,Ce,Cf,Cg,Bn,Ah (Ad _)];exact Wj.sub t2 (.refl ⟨by rw[Fm,h1,h2,Gx,h3];simp [m3],rfl⟩)
    ·simp(disch:=omega)only[go_sem,g2,m1,m2,m3,An,Ce,Cf,Cg,Bn,Ah (Ad _)];exact Wj.sub t2 (.refl ⟨by rw[Fm,h1,h2,Gx,h3];simp [m1],rfl⟩)
 ·by_cases m1:p.mode=1
  ·simp(disch:=omega)only[go_sem,g2,m1,An,Ce,Cf,Cg,Bn,Ah (Ad _)];exact Wj.sub t2 (.refl ⟨by rw[Fm,h1,h2,Gx,h3];simp [m1],rfl⟩)
  ·by_cases m2:p.mode=2
   ·simp(disch:=omega)only[go_sem,g2,m2,An,Ce,Cf,Cg,Bn,Ah (Ad _)];exact Wj.sub t2 (.refl ⟨by rw[Fm,h1,h2,Gx,h3];simp [m2],rfl⟩)
   ·by_cases m3:p.mode=3
    ·simp(disch:=omega)only[go_sem,g2,m3,An,Ce,Cf,Cg,Bn,Ah (Ad _)];exact Wj.sub t2 (.refl ⟨by rw[Fm,h1,h2,Gx,h3];simp [m3],rfl⟩)
    ·simp(disch:=omega)only[go_sem,g2,m1,m2,m3,An,Ce,Cf,Cg,Bn,Ah (Ad _)];exact Wj.sub t2 (.refl ⟨by rw[Fm,h1,h2,Gx,h3];simp [m1];omega,rfl⟩)
theorem Bb3 (H:Ab) (l:List Par) (hl:Hf Xr 1048576 l):Ae Tryz.prog G 30 [Cj l] H (Ba (.bool (Hx l)) H):=by
 refine Aa Tryz.func30 Tryz.call30 rfl (by kernel_rfl) ?_;simp(disch:=omega)only[go_sem,Cj];refine Ae.monoR (Fi3 G H l Fm (fun p=>p.names) 147 148 hl.1 (fun x hx=>(hl.2 x hx).1.1) (fun x hx K=>Ee6 G K x) (fun x hx K=>Cu5 hG K x (hl.2 x hx))) ?_;cases h:l.all Fm
 ·simp(disch:=omega)only[go_sem];exact Wj.refl ⟨by rw[Hx,h];rfl,rfl⟩
 ·simp(disch:=omega)only[go_sem];exact Wj.refl ⟨by rw[Hx,h,Ms];simp;omega,rfl⟩
end
end Go.Dl

-- Chapter 4: which aspects and components are valid: package shape.
namespace Go.Dl
open Go Go.Proofs
set_option maxRecDepth 100000
theorem Ee7 (G:Nat->DVal) (H:Ab) (p:Asp->Bool) (l:List Asp) (g:FuncId) (xs ys:List DVal) (hl:l.length<=1099511627776)
  (hp: ∀x∈l,Ae Tryz.prog G g (xs++ [.agg (Qj x)]++ys) H (Ba (.bool (p x)) H)):
  Ae Tryz.prog G 351 [.vslice (l.flatMap Qj) l.length, .func (.func g) xs ys] H (Ba (dI (As3 p l)) H):=by
 refine Aa Tryz.func351 Tryz.call351 rfl (by kernel_rfl) ?_;simp(disch:=omega)only[go_sem];refine Dt1.run (fun(i:Nat) env heap=>heap=H/\env 0= .vslice (l.flatMap Qj) l.length/\env 1= .func (.func g) xs ys/\env 7=dI l.length/\env 8=dI i/\i<=l.length/\ ∀x∈l.take i,p x=false) (fun i=>l.length-i) 0 ?_ ?_
 ·simp(disch:=omega)only[go_sem];simp
 ·rintro i env heap ⟨rfl,h0,h1,h7,h8,hi,hn⟩;by_cases hlt:i<l.length
  ·have Aw:=Bu Dg l i hlt;simp(disch:=omega)only[go_sem,h0,h1,h7,h8,Aw,Al Dg];have hc:=hp l[i] (List.getElem_mem hlt)
   skip
   refine hc.mono ?_;rintro _ H ⟨rfl,rfl⟩;cases hx:p l[i] with
   | true=>
    simp(disch:=omega)only[go_sem,h0,h1,h7,h8];exact Wj.refl ⟨by rw[Yl hlt hx hn],rfl⟩
   | false=>
    simp(disch:=omega)only[go_sem,h0,h1,h7,h8];refine⟨i+1,_,Ws.refl _, ?_,by omega⟩;simp(disch:=omega)only[go_sem,h0,h1,h7,h8];(repeat' apply And.intro)<;>(try first | rfl | assumption | omega);exact Kv hlt hn hx
  ·simp(disch:=omega)only[go_sem,h0,h1,h7,h8];have:i=l.length:=by omega
   subst this;rw[List.take_length] at hn;exact Wj.refl ⟨by rw[Ym hn],rfl⟩
theorem Ci2 (G:Nat->DVal) (H:Ab) (p:Asp->Bool) (l:List Asp) (g:FuncId) (xs ys:List DVal) (hl:l.length<=1099511627776)
  (hp: ∀x∈l,Ae Tryz.prog G g (xs++ [.agg (Qj x)]++ys) H (Ba (.bool (p x)) H)):
  Ae Tryz.prog G 277 [.vslice (l.flatMap Qj) l.length, .func (.func g) xs ys] H (Ba (.bool (l.any p)) H):=by
 refine Aa Tryz.func277 Tryz.call277 rfl (by kernel_rfl) ?_;simp(disch:=omega)only[go_sem];refine(Ee7 G H p l g xs ys hl hp).mono ?_;rintro _ H ⟨rfl,rfl⟩;simp(disch:=omega)only[go_sem];exact Wj.refl ⟨by rw[Tt],rfl⟩
theorem Fi4 (G:Nat->DVal) (H:Ab) (l:List Cmp) (p:Cmp->Bool) (nm:Cmp->List (List UInt8)) (g1 g2:FuncId) (hl:l.length<=1048576) (hn: ∀x∈l,(nm x).length<=1048576)
  (h1: ∀x∈l,∀K,Ae Tryz.prog G g1 ([]++ [.agg (Lj x)]++ []) K (Ba (dW (nm x)) K)) (h2: ∀x∈l,∀K,Ae Tryz.prog G g2 ([]++ [.agg (Lj x)]++ []) K (Ba (.bool (p x)) K)):
  Ae Tryz.prog G 343 [.vslice (l.flatMap Lj) l.length, .func (.func g1) [] [], .func (.func g2) [] []] H (Ba (.tuple [dI (if l.all p then((l.map fun x=>(nm x).length).sum:Nat) else 0), .bool (l.all p)]) H):=by
 refine Aa Tryz.func343 Tryz.call343 rfl (by kernel_rfl) ?_;simp(disch:=omega)only[go_sem];obtain⟨I,hI⟩: ∃I:Nat->(Nat->DVal)->Ab->Prop,∀i env heap,I i env heap↔(heap=H/\env 1= .func (.func g1) [] []/\env 2= .func (.func g2) [] []/\env 10= .vslice (l.flatMap Lj) l.length/\env 11=dI l.length/\env 12=dI i/\env 6=dI (((l.take i).map fun x=>(nm x).length).sum:Nat)/\i<=l.length/\((l.take i).map fun x=>(nm x).length).sum<=i*1048576/\ ∀x∈l.take i,p x=true):=⟨_,fun _ _ _=>Iff.rfl⟩;refine Dt1.run I (fun i=>l.length-i) 0 ((hI _ _ _).2 ?_) ?_
 ·simp(disch:=omega)only[go_sem];simp
 ·intro i env heap hi;obtain⟨rfl,e1,e2,e10,e11,e12,e6,hi,hs,hp⟩:=(hI _ _ _).1 hi;by_cases hlt:i<l.length
  ·have hlti:(i:Int)<(l.length:Int):=by omega
   have Aw:=Bu Bm l i hlt;have hwd:IntKind.i64.wrap ((i:Int)+1)=((i+1:Nat):Int):=by rw[IntKind.wrap_i64];omega
   simp(disch:=omega)only[go_sem,e1,e2,e10,e11,e12,e6,hlti,Aw,Al Bm];intro r hr;dsimp only at hr;simp(disch:=omega)only[go_sem,e1,e2,e10,e11,e12,e6];have mx:=List.getElem_mem hlt;have hst:((l.take (i+1)).map fun x=>(nm x).length).sum=((l.take i).map fun x=>(nm x).length).sum+(nm l[i]).length:=by
    rw[List.take_add_one,List.getElem?_eq_getElem hlt,List.map_append,List.sum_append];congr 1
   have hn1:=hn l[i] mx;refine Ae.monoR (by simpa using h2 l[i] mx _) ?_;cases hx:p l[i]
   ·simp(disch:=omega)only[go_sem,e1,e2,e10,e11,e12,e6];have hall:l.all p=false:=by
     rw[List.all_eq_false];exact⟨l[i],mx,by simp [hx]⟩
    exact Wj.dropA r hr (Wj.refl ⟨by rw[hall];rfl,rfl⟩)
   ·simp(disch:=omega)only[go_sem,e1,e2,e10,e11,e12,e6];refine Ae.monoR (by simpa using h1 l[i] mx _) ?_;have hwe:IntKind.i64.wrap ((((l.take i).map fun x=>(nm x).length).sum:Nat)+((nm l[i]).length:Int))=((((l.take (i+1)).map fun x=>(nm x).length).sum:Nat):Int):=by
     rw[hst,IntKind.wrap_i64];omega
    simp(disch:=omega)only[go_sem,e1,e2,e10,e11,e12,e6,dW];refine⟨i+1,_,Ws.drop _ r,(hI _ _ _).2 ?_,by omega⟩;simp(disch:=omega)only[go_sem,e1,e2,e10,e11,e12,e6,hwe,hwd];(repeat' apply And.intro)<;>(try first | rfl | assumption | omega)
    ·exact Rd hr
    ·rw[hst];rfl
    ·intro x hx';rw[List.take_add_one,List.getElem?_eq_getElem hlt] at hx';rcases List.mem_append.1 hx' with h | h
     ·exact hp x h
     ·simp at h;subst h;exact hx
  ·have:i=l.length:=by omega
   subst this;rw[List.take_length] at hp e6;have hall:l.all p=true:=by rw[List.all_eq_true];exact hp
   have hlti: ¬(l.length:Int)<(l.length:Int):=by omega
   simp(disch:=omega)only[go_sem,e1,e2,e10,e11,e12,e6,hlti];exact Wj.refl ⟨by rw[hall];rfl,rfl⟩
theorem Ee8 (G:Nat->DVal) (H:Ab) (p:Cmp):Ae Tryz.prog G 344 ([]++ [.agg (Lj p)]++ []) H (Ba (dW p.names) H):=by
 refine Aa Tryz.func344 Tryz.call344 rfl (by kernel_rfl) ?_;simp(disch:=omega)only[go_sem,DVal.cells,jG,jH];intro r1 hr1;dsimp only at hr1;obtain⟨K,hK⟩: ∃K',K'=upd H r1 (some (.cells (Lj p) 99)):=⟨_,rfl⟩;rw[<-hK];have gr1:K r1=some (.cells (Lj p) 99):=by rw[hK];exact Ac _ _ _
 have sK:Sub H K:=by rw[hK];exact(Sub.refl _).new hr1 _
 simp(disch:=omega)only[go_sem,gr1,Bm,Fo,Fp,Eb,Ah (Ad _)];exact Wj.sub sK (.refl ⟨rfl,rfl⟩)
section
variable {G:Nat->DVal} (hG:GX G)
include hG
theorem Fi5 (H:Ab) (a:Asp) (ha:Zc 1048576 a):Ae Tryz.prog G 278 ([]++ [.agg (Qj a)]++ []) H (Ba (.bool (!Oa a)) H):=by
 obtain⟨f0,f1⟩:=ha;have p1: ∀x∈ [a.e],Ef 1048576 x:=by intro x hx;simp at hx;subst hx;assumption
 have d1: [a.e].all Cl=Cl a.e:=by simp
 have q1: [a.e].flatMap dEx=dEx a.e:=by simp
 refine Aa Tryz.func278 Tryz.call278 rfl (by kernel_rfl) ?_;simp(disch:=omega)only[go_sem,DVal.cells,jG,jH];intro r1 hr1;dsimp only at hr1;obtain⟨K,hK⟩: ∃K',K'=upd H r1 (some (.cells (Qj a) 198)):=⟨_,rfl⟩;rw[<-hK];have gr1:K r1=some (.cells (Qj a) 198):=by rw[hK];exact Ac _ _ _
 have sK:Sub H K:=by rw[hK];exact(Sub.refl _).new hr1 _
 simp(disch:=omega)only[go_sem,gr1,Dg,Nr,Ns,Ah (Ad _)];refine Ae.monoR (Vd hG K a.name f0) ?_;cases h1:Lq a.name
 ·simp(disch:=omega)only[go_sem,gr1,Dg,Nr,Ns,Ah (Ad _)];exact Wj.sub sK (.refl ⟨by rw[Oa,h1];simp,rfl⟩)
 ·simp(disch:=omega)only[go_sem,gr1,Dg,Nr,Ns,Ah (Ad _)];intro r2 hr2;dsimp only at hr2;obtain⟨K2,hK2⟩: ∃K',K'=upd K r2 (some (.cells (dEx a.e) 27)):=⟨_,rfl⟩;rw[<-hK2];have gr2:K2 r2=some (.cells (dEx a.e) 27):=by rw[hK2];exact Ac _ _ _
  have sK2:Sub K K2:=by rw[hK2];exact(Sub.refl _).new hr2 _
  have g2:K2 r1=some (.cells (Qj a) 198):=sK2 _ _ gr1;simp(disch:=omega)only[go_sem,g2,Dg,Nr,Ns,Ah (Ad _)];refine Ae.monoR (Gj hG K2 [a.e] r2 (by rw[q1];exact gr2) (by simp) p1) ?_;rw[d1];simp(disch:=omega)only[go_sem,g2,Dg,Nr,Ns,Ah (Ad _)];exact Wj.sub (sK.trans sK2) (.refl ⟨by rw[Oa,h1];simp,rfl⟩)
theorem As8 (H:Ab) (l:List Asp) (hl:Hf Zc 1048576 l):Ae Tryz.prog G 163 [Gh l] H (Ba (.bool (Lb l)) H):=by
 refine Aa Tryz.func163 Tryz.call163 rfl (by kernel_rfl) ?_;by_cases h8:l.length<=8
 ·have h8':(l.length:Int)<=8:=by omega
  simp(disch:=omega)only[go_sem,Gh,h8'];refine Ae.monoR (Ci2 G H (fun e=>!Oa e) l 278 [] [] (by have:=hl.1;omega) fun x hx=>Fi5 hG H x (hl.2 x hx)) ?_;rw[Sm];simp(disch:=omega)only[go_sem];exact Wj.refl ⟨by rw[Lb];simp [h8],rfl⟩
 ·have h8': ¬(l.length:Int)<=8:=by omega
  simp(disch:=omega)only[go_sem,Gh,h8'];exact Wj.refl ⟨by rw[Lb];simp [h8],rfl⟩
set_option maxHeartbeats 40000000 in
theorem Cu6 (H:Ab) (c:Cmp) (hc:Oc 1048576 c):Ae Tryz.prog G 345 ([]++ [.agg (Lj c)]++ []) H (Ba (.bool (Fc c)) H):=by
 obtain⟨f0,f1,f2⟩:=hc;have p1: ∀x∈ [c.e],Ef 1048576 x:=by intro x hx;simp at hx;subst hx;assumption
 have e1: [c.e].all noE=noE c.e:=by simp
 have d1: [c.e].all Cl=Cl c.e:=by simp
 have q1: [c.e].flatMap dEx=dEx c.e:=by simp
 refine Aa Tryz.func345 Tryz.call345 rfl (by kernel_rfl) ?_;simp(disch:=omega)only[go_sem,DVal.cells,jG,jH];intro r1 hr1;dsimp only at hr1;obtain⟨K,hK⟩: ∃K',K'=upd H r1 (some (.cells (Lj c) 99)):=⟨_,rfl⟩;rw[<-hK];have gr1:K r1=some (.cells (Lj c) 99):=by rw[hK];exact Ac _ _ _
 have sK:Sub H K:=by rw[hK];exact(Sub.refl _).new hr1 _
 simp(disch:=omega)only[go_sem,gr1,Bm,Fo,Fp,Eb,Ah (Ad _)];refine Ae.monoR (Ab2 hG K c.names 8 f0) ?_;cases h1:Fb c.names 8
 ·simp(disch:=omega)only[go_sem,gr1,Bm,Fo,Fp,Eb,Ah (Ad _)];exact Wj.sub sK (.refl ⟨by rw[Fc,h1];simp,rfl⟩)
 simp(disch:=omega)only[go_sem,gr1,Bm,Fo,Fp,Eb,Ah (Ad _)];refine Ae.monoR (Pm hG K c.sub f1) ?_;cases h2:Cm c.sub
 ·simp(disch:=omega)only[go_sem,gr1,Bm,Fo,Fp,Eb,Ah (Ad _)];exact Wj.sub sK (.refl ⟨by rw[Fc,h1,h2];simp,rfl⟩)
 simp(disch:=omega)only[go_sem,gr1,Bm,Fo,Fp,Eb,Ah (Ad _)];intro r2 hr2;dsimp only at hr2;obtain⟨K2,hK2⟩: ∃K',K'=upd K r2 (some (.cells (dEx c.e) 27)):=⟨_,rfl⟩;rw[<-hK2];have gr2:K2 r2=some (.cells (dEx c.e) 27):=by rw[hK2];exact Ac _ _ _
 have sK2:Sub K K2:=by rw[hK2];exact(Sub.refl _).new hr2 _
 have g2:K2 r1=some (.cells (Lj c) 99):=sK2 _ _ gr1;have t2:Sub H K2:=sK.trans sK2;simp(disch:=omega)only[go_sem,g2,Bm,Fo,Fp,Eb,Ah (Ad _)];refine Ae.monoR (Ij G K2 [c.e] r2 (by rw[q1];exact gr2) (by simp) p1) ?_;rw[e1];cases h3:noE c.e
 ·simp(disch:=omega)only[go_sem,g2,Bm,Fo,Fp,Eb,Ah (Ad _)];intro r3 hr3;dsimp only at hr3;obtain⟨K3,hK3⟩: ∃K',K'=upd K2 r3 (some (.cells (dEx c.e) 27)):=⟨_,rfl⟩;rw[<-hK3];have gr3:K3 r3=some (.cells (dEx c.e) 27):=by rw[hK3];exact Ac _ _ _
  have sK3:Sub K2 K3:=by rw[hK3];exact(Sub.refl _).new hr3 _
  have g3:K3 r1=some (.cells (Lj c) 99):=sK3 _ _ g2;simp(disch:=omega)only[go_sem,g3,Bm,Fo,Fp,Eb,Ah (Ad _)];refine Ae.monoR (Gj hG K3 [c.e] r3 (by rw[q1];exact gr3) (by simp) p1) ?_;rw[d1];simp(disch:=omega)only[go_sem,g3,Bm,Fo,Fp,Eb,Ah (Ad _)];exact Wj.sub (t2.trans sK3) (.refl ⟨by rw[Fc,h1,h2,Gx,h3];simp,rfl⟩)
 ·simp(disch:=omega)only[go_sem,g2,Bm,Fo,Fp,Eb,Ah (Ad _)];exact Wj.sub t2 (.refl ⟨by rw[Fc,h1,h2,Gx,h3];simp,rfl⟩)
theorem Vl (H:Ab) (l:List Cmp) (hl:Hf Oc 1048576 l):Ae Tryz.prog G 250 [Cv l] H (Ba (.tuple [dI (if l.all Fc then(Dw l:Nat) else 0), .bool (l.all Fc)]) H):=by
 refine Aa Tryz.func250 Tryz.call250 rfl (by kernel_rfl) ?_;simp(disch:=omega)only[go_sem,Cv];refine Ae.monoR (Fi4 G H l Fc (fun p=>p.names) 344 345 hl.1 (fun x hx=>(hl.2 x hx).1.1) (fun x hx K=>Ee8 G K x) (fun x hx K=>Cu6 hG K x (hl.2 x hx))) ?_;simp(disch:=omega)only[go_sem];exact Wj.refl ⟨by rw[Dw],rfl⟩
theorem Bh3 (H:Ab) (l:List Cmp) (hl:Hf Oc 1048576 l):Ae Tryz.prog G 167 [Cv l] H (Ba (.bool (Lu l)) H):=by
 refine Aa Tryz.func167 Tryz.call167 rfl (by kernel_rfl) ?_;simp(disch:=omega)only[go_sem];refine Ae.monoR (Vl hG H l hl) ?_;cases h:l.all Fc
 ·simp(disch:=omega)only[go_sem];exact Wj.refl ⟨by rw[Lu,h];rfl,rfl⟩
 ·simp(disch:=omega)only[go_sem];exact Wj.refl ⟨by rw[Lu,h];simp;omega,rfl⟩
end
end Go.Dl

-- Chapter 4: which aspects, parameters, components are valid, by the reference (printed by gen_cl.py).
namespace Go.Dl
open Go Go.Proofs
set_option maxRecDepth 100000
theorem Gz {α:Type} {p:α->Bool} {l:List α} {x:α} (h:x∈l) (hx:p x=false):l.all p=false:=by
 rw[List.all_eq_false];exact⟨x,h,by simp [hx]⟩
theorem On {α:Type} {p:α->Bool} {l:List α} {k:Nat} (hlt:k<l.length) (h: ∀x∈l.take k,p x=true) (hx:p l[k]=true): ∀x∈l.take (k+1),p x=true:=by
 intro x hx';rw[List.take_add_one,List.getElem?_eq_getElem hlt] at hx';rcases List.mem_append.1 hx' with a | a
 ·exact h x a
 ·simp at a;subst a;exact hx
theorem Rk {α:Type} {p:α->Bool} {l:List α} (h: ∀x∈l.take l.length,p x=true):l.all p=true:=by
 rw[List.take_length] at h;rw[List.all_eq_true];exact h
theorem Cu7 {l:List Par} {k:Nat} (hlt:k<l.length):Ms (l.take (k+1))=Ms (l.take k)+l[k].names.length:=by
 rw[Ms,Ms,List.take_add_one,List.getElem?_eq_getElem hlt,List.map_append,List.sum_append];simp
theorem Cu8 {l:List Cmp} {k:Nat} (hlt:k<l.length):Dw (l.take (k+1))=Dw (l.take k)+l[k].names.length:=by
 rw[Dw,Dw,List.take_add_one,List.getElem?_eq_getElem hlt,List.map_append,List.sum_append];simp
section
variable (G:Nat->DVal) (H:Ab)
set_option maxHeartbeats 40000000 in
theorem Al8 (l:List Asp) (hl:Hf Zc 1048576 l):Ae Tryz.prog G 66 [Gh l] H (Ba (.bool (Lb l)) H):=by
 have hll:=hl.1;refine Aa Tryz.func66 Tryz.call66 rfl (by kernel_rfl) ?_;simp(disch:=omega)only[go_sem,Gh];obtain⟨I,hI⟩: ∃I:Nat->(Nat->DVal)->Ab->Prop,∀k env heap,I k env heap↔(env 0= .vslice (l.flatMap Qj) l.length/\env 3=dI k/\k<=l.length/\(∀x∈l.take k,Oa x=true)/\H=heap):=⟨_,fun _ _ _=>Iff.rfl⟩;refine Dt1.run I (fun k=>l.length-k) 0 ((hI _ _ _).2 ?_) ?_
 ·simp(disch:=omega)only[go_sem,Gh];simp
 ·intro k env heap hi;obtain⟨e0,e3,hk,hp,rfl⟩:=(hI _ _ _).1 hi;have hfl:=Al Dg l;by_cases hlt:k<l.length
  ·have hlt2:(k:Int)<(l.length:Int):=by omega
   have hwd:IntKind.i64.wrap ((k:Int)+1)=((k+1:Nat):Int):=by rw[IntKind.wrap_i64];omega
   have mx:=List.getElem_mem hlt;have hst:Oa l[k]=true-> ∀x∈l.take (k+1),Oa x=true:=On hlt hp;have x0:=Ck Dg l k hlt 0 (by decide);rw[Nr] at x0;have x0z:=x0;rw[Nat.add_zero] at x0z;have x1:=Mx Dg l k hlt 1 9 (by decide);rw[Ns] at x1;obtain⟨x,hx⟩: ∃x,x=l[k]:=⟨_,rfl⟩;rw[<-hx] at x0 x0z x1 mx hst;have fx:=hl.2 x mx;have fe:=fx.2.1;simp(disch:=omega)only[go_sem,e0,e3,hlt2,hfl,jD,x0,x0z,x1];refine Ae.monoR (Ve G _ x.name) ?_;cases h1:Lq x.name
   ·simp(disch:=omega)only[go_sem,e0,e3,hlt2,hfl,jD,x0,x0z,x1];exact Wj.refl ⟨by rw[Lb,Gz mx (by simp [Oa,h1])];rfl,rfl⟩
   simp(disch:=omega)only[go_sem,e0,e3,hlt2,hfl,jD,x0,x0z,x1];refine Ae.monoR (Mr G _ x.e (by omega)) ?_;cases h2:Cl x.e
   ·simp(disch:=omega)only[go_sem,e0,e3,hlt2,hfl,jD,x0,x0z,x1];exact Wj.refl ⟨by rw[Lb,Gz mx (by simp [Oa,h2])];rfl,rfl⟩
   simp(disch:=omega)only[go_sem,e0,e3,hlt2,hfl,jD,x0,x0z,x1];refine⟨k+1,_,Ws.refl _,(hI _ _ _).2 ?_,by omega⟩;simp(disch:=omega)only[go_sem,e0,e3,hwd];(repeat' apply And.intro)<;>(try first | rfl | assumption | omega);exact hst (by simp [Oa,h1,h2])
  ·have:k=l.length:=by omega
   subst this;have hall:=Rk hp;have hlt': ¬(l.length:Int)<(l.length:Int):=by omega
   simp(disch:=omega)only[go_sem,e0,e3,hlt'];exact Wj.refl ⟨by rw[Lb,hall];simp;omega,rfl⟩
set_option maxHeartbeats 40000000 in
theorem Lw (l:List Cmp) (hl:Hf Oc 1048576 l):Ae Tryz.prog G 191 [Cv l] H (Ba (dI (if l.all Fc then(Dw l:Nat) else-1)) H):=by
 have hll:=hl.1;refine Aa Tryz.func191 Tryz.call191 rfl (by kernel_rfl) ?_;simp(disch:=omega)only[go_sem,Cv];obtain⟨I,hI⟩: ∃I:Nat->(Nat->DVal)->Ab->Prop,∀k env heap,I k env heap↔(env 0= .vslice (l.flatMap Lj) l.length/\env 3=dI (Dw (l.take k):Nat)/\env 4=dI k/\k<=l.length/\Dw (l.take k)<=k*1048576/\(∀x∈l.take k,Fc x=true)/\H=heap):=⟨_,fun _ _ _=>Iff.rfl⟩;refine Dt1.run I (fun k=>l.length-k) 0 ((hI _ _ _).2 ?_) ?_
 ·simp(disch:=omega)only[go_sem,Cv];simp [Dw]
 ·intro k env heap hi;obtain⟨e0,en,e3,hk,hs,hp,rfl⟩:=(hI _ _ _).1 hi;have hfl:=Al Bm l;by_cases hlt:k<l.length
  ·have hlt2:(k:Int)<(l.length:Int):=by omega
   have hwd:IntKind.i64.wrap ((k:Int)+1)=((k+1:Nat):Int):=by rw[IntKind.wrap_i64];omega
   have mx:=List.getElem_mem hlt;have hst:Fc l[k]=true-> ∀x∈l.take (k+1),Fc x=true:=On hlt hp;have hsn:=Cu8 hlt;have x0:=Ck Bm l k hlt 0 (by decide);rw[Fo] at x0;have x0z:=x0;rw[Nat.add_zero] at x0z;have x1:=Mx Bm l k hlt 1 36 (by decide);rw[Fp] at x1;have x2:=Mx Bm l k hlt 37 9 (by decide);rw[Eb] at x2;obtain⟨x,hx⟩: ∃x,x=l[k]:=⟨_,rfl⟩;rw[<-hx] at x0 x0z x1 x2 mx hst hsn;have fx:=hl.2 x mx;have fn:=fx.1.1;have hwe:IntKind.i64.wrap ((Dw (l.take k):Nat)+(x.names.length:Int))=((Dw (l.take (k+1)):Nat):Int):=by
    rw[hsn,IntKind.wrap_i64];omega
   simp(disch:=omega)only[go_sem,e0,en,e3,hlt2,hfl,jD,x0,x0z,x1,x2];refine Ae.monoR (Xs G _ x.names 8 fx.1) ?_;cases h1:Fb x.names 8
   ·simp(disch:=omega)only[go_sem,e0,en,e3,hlt2,hfl,jD,x0,x0z,x1,x2];exact Wj.refl ⟨by rw[Gz mx (by simp [Fc,h1])];rfl,rfl⟩
   simp(disch:=omega)only[go_sem,e0,en,e3,hlt2,hfl,jD,x0,x0z,x1,x2];refine Ae.monoR (Vk G _ x.sub fx.2.1) ?_;cases h2:Cm x.sub
   ·simp(disch:=omega)only[go_sem,e0,en,e3,hlt2,hfl,jD,x0,x0z,x1,x2];exact Wj.refl ⟨by rw[Gz mx (by simp [Fc,h2])];rfl,rfl⟩
   simp(disch:=omega)only[go_sem,e0,en,e3,hlt2,hfl,jD,x0,x0z,x1,x2];refine Ae.monoR (Aq3 G _ x.e fx.2.2) ?_;cases h3:Gx x.e
   ·simp(disch:=omega)only[go_sem,e0,en,e3,hlt2,hfl,jD,x0,x0z,x1,x2];exact Wj.refl ⟨by rw[Gz mx (by simp [Fc,h3])];rfl,rfl⟩
   simp(disch:=omega)only[go_sem,e0,en,e3,hlt2,hfl,jD,x0,x0z,x1,x2,dW];refine⟨k+1,_,Ws.refl _,(hI _ _ _).2 ?_,by omega⟩;simp(disch:=omega)only[go_sem,e0,en,e3,hwd,hwe];(repeat' apply And.intro)<;>(try first | rfl | assumption | omega)
   ·rw[hsn];rfl
   ·exact hst (by simp [Fc,h1,h2,h3])
  ·have:k=l.length:=by omega
   subst this;have hall:=Rk hp;rw[List.take_length] at en;have hlt': ¬(l.length:Int)<(l.length:Int):=by omega
   simp(disch:=omega)only[go_sem,e0,en,e3,hlt'];exact Wj.refl ⟨by rw[hall];rfl,rfl⟩
theorem Bb4 (l:List Cmp) (hl:Hf Oc 1048576 l):Ae Tryz.prog G 68 [Cv l] H (Ba (.bool (Lu l)) H):=by
 refine Aa Tryz.func68 Tryz.call68 rfl (by kernel_rfl) ?_;simp(disch:=omega)only[go_sem];refine Ae.monoR (Lw G H l hl) ?_;cases h:l.all Fc
 ·simp(disch:=omega)only[go_sem];exact Wj.refl ⟨by rw[Lu,h];rfl,rfl⟩
 ·have h0:(0:Int)<=(Dw l:Int):=by omega
  simp(disch:=omega)only[go_sem,h0];exact Wj.refl ⟨by rw[Lu,h];simp;omega,rfl⟩
set_option maxHeartbeats 40000000 in
theorem As9 (l:List Par) (hl:Hf Xr 1048576 l):Ae Tryz.prog G 65 [Cj l] H (Ba (.bool (Hx l)) H):=by
 have hll:=hl.1;refine Aa Tryz.func65 Tryz.call65 rfl (by kernel_rfl) ?_;simp(disch:=omega)only[go_sem,Cj];obtain⟨I,hI⟩: ∃I:Nat->(Nat->DVal)->Ab->Prop,∀k env heap,I k env heap↔(env 0= .vslice (l.flatMap Lc) l.length/\env 3=dI (Ms (l.take k):Nat)/\env 4=dI k/\k<=l.length/\Ms (l.take k)<=k*1048576/\(∀x∈l.take k,Fm x=true)/\heap=H):=⟨_,fun _ _ _=>Iff.rfl⟩;refine Dt1.run I (fun k=>l.length-k) 0 ((hI _ _ _).2 ?_) ?_
 ·simp(disch:=omega)only[go_sem,Cj];simp [Ms]
 ·intro k env heap hi;obtain⟨e0,en,e3,hk,hs,hp,rfl⟩:=(hI _ _ _).1 hi;have hfl:=Al An l;by_cases hlt:k<l.length
  ·have hlt2:(k:Int)<(l.length:Int):=by omega
   have hwd:IntKind.i64.wrap ((k:Int)+1)=((k+1:Nat):Int):=by rw[IntKind.wrap_i64];omega
   have mx:=List.getElem_mem hlt;have hst:Fm l[k]=true-> ∀x∈l.take (k+1),Fm x=true:=On hlt hp;have hsn:=Cu7 hlt;have Aw:=Bu An l k hlt;obtain⟨x,hx⟩: ∃x,x=l[k]:=⟨_,rfl⟩;rw[<-hx] at Aw mx hst hsn;have fx:=hl.2 x mx;have fn:=fx.1.1;have hwe:IntKind.i64.wrap ((Ms (l.take k):Nat)+(x.names.length:Int))=((Ms (l.take (k+1)):Nat):Int):=by
    rw[hsn,IntKind.wrap_i64];omega
   simp(disch:=omega)only[go_sem,e0,en,e3,hlt2,hfl,jD,Aw];intro r hr;dsimp only at hr;have gr:upd heap r (some (.cells (Lc x) 97)) r=some (.cells (Lc x) 97):=Ac _ _ _;simp(disch:=omega)only[go_sem,e0,en,e3,hlt2,gr,An,Ce,Cf,Cg,Bn];refine Ae.monoR (Xs G _ x.names 8 fx.1) ?_;cases h1:Fb x.names 8
   ·simp(disch:=omega)only[go_sem,e0,en,e3,hlt2,gr,An,Ce,Cf,Cg,Bn];exact Wj.dropA r hr (Wj.refl ⟨by rw[Hx,Gz mx (by simp [Fm,h1])];rfl,rfl⟩)
   simp(disch:=omega)only[go_sem,e0,en,e3,hlt2,gr,An,Ce,Cf,Cg,Bn];refine Ae.monoR (Me G _ x.type fx.2.1) ?_;cases h2:Jh x.type
   ·simp(disch:=omega)only[go_sem,e0,en,e3,hlt2,gr,An,Ce,Cf,Cg,Bn];exact Wj.dropA r hr (Wj.refl ⟨by rw[Hx,Gz mx (by simp [Fm,h2])];rfl,rfl⟩)
   simp(disch:=omega)only[go_sem,e0,en,e3,hlt2,gr,An,Ce,Cf,Cg,Bn];refine Ae.monoR (Aq3 G _ x.e fx.2.2) ?_;cases h3:Gx x.e
   ·simp(disch:=omega)only[go_sem,e0,en,e3,hlt2,gr,An,Ce,Cf,Cg,Bn];exact Wj.dropA r hr (Wj.refl ⟨by rw[Hx,Gz mx (by simp [Fm,h3])];rfl,rfl⟩)
   by_cases m1:x.mode<1
   ·simp(disch:=omega)only[go_sem,e0,en,e3,hlt2,gr,An,Ce,Cf,Cg,Bn,m1];have hb:Fm x=false:=by unfold Fm;rw[decide_eq_false (show¬1<=x.mode by omega)];simp
    exact Wj.dropA r hr (Wj.refl ⟨by rw[Hx,Gz mx hb];rfl,rfl⟩)
   by_cases m3:3<x.mode
   ·simp(disch:=omega)only[go_sem,e0,en,e3,hlt2,gr,An,Ce,Cf,Cg,Bn,m1,m3];have hb:Fm x=false:=by unfold Fm;rw[decide_eq_false (show¬x.mode<=3 by omega)];simp
    exact Wj.dropA r hr (Wj.refl ⟨by rw[Hx,Gz mx hb];rfl,rfl⟩)
   by_cases m2:x.mode=1
   ·simp(disch:=omega)only[go_sem,e0,en,e3,hlt2,gr,An,Ce,Cf,Cg,Bn,m1,m2,m3,dW];refine⟨k+1,_,Ws.drop _ r,(hI _ _ _).2 ?_,by omega⟩;simp(disch:=omega)only[go_sem,e0,en,e3,hwd,hwe];(repeat' apply And.intro)<;>(try first | rfl | assumption | omega)
    ·rw[hsn];rfl
    ·exact hst (by simp [Fm,h1,h2,h3,m2])
    ·exact Rd hr
   ·simp(disch:=omega)only[go_sem,e0,en,e3,hlt2,gr,An,Ce,Cf,Cg,Bn,m1,m2,m3];refine Ae.monoR (Co G _ x.e fx.2.2) ?_;cases h4:noE x.e
    ·simp(disch:=omega)only[go_sem,e0,en,e3,hlt2,gr,An,Ce,Cf,Cg,Bn];exact Wj.dropA r hr (Wj.refl ⟨by rw[Hx,Gz mx (by simp [Fm,h4,m2])];rfl,rfl⟩)
    simp(disch:=omega)only[go_sem,e0,en,e3,hlt2,gr,An,Ce,Cf,Cg,Bn,m1,m2,m3,dW];refine⟨k+1,_,Ws.drop _ r,(hI _ _ _).2 ?_,by omega⟩;simp(disch:=omega)only[go_sem,e0,en,e3,hwd,hwe];(repeat' apply And.intro)<;>(try first | rfl | assumption | omega)
    ·rw[hsn];rfl
    ·exact hst (by simp [Fm,h1,h2,h3,h4];omega)
    ·exact Rd hr
  ·have:k=l.length:=by omega
   subst this;have hall:=Rk hp;rw[List.take_length] at en;have hlt': ¬(l.length:Int)<(l.length:Int):=by omega
   simp(disch:=omega)only[go_sem,e0,en,e3,hlt'];exact Wj.refl ⟨by rw[Hx,hall];simp;omega,rfl⟩
end
end Go.Dl

-- Chapter 4: which records and type definitions are valid: package shape (printed by gen_cm.py).
namespace Go.Dl
open Go Go.Proofs
set_option maxRecDepth 100000
theorem Ee9 {w r x:List DVal} (hw:w.length=9):x++List.drop 9 (w++r)=x++r:=by rw[List.drop_left' hw]
theorem Ef0 {m n:Nat} {pre w r x:List DVal} (hp:pre.length=m) (hw:w.length=9) (hn:n=m+9):List.take m (pre++(w++r))++x++List.drop n (pre++(w++r))=(pre++x)++r:=by
 subst hn;rw[List.take_left' hp,<-List.drop_drop,List.drop_left' hp,List.drop_left' hw]
theorem Ef1 {m n:Nat} {pre w x:List DVal} (hp:pre.length=m) (hw:w.length=9) (hn:n=m+9):List.take m (pre++w)++x++List.drop n (pre++w)=pre++x:=by
 subst hn;rw[List.take_left' hp,<-List.drop_drop,List.drop_left' hp,List.drop_eq_nil_of_le (by omega),jH]
theorem Do9 {x y z:List DVal} (hx:x.length=9) (hy:y.length=9) (hz:z.length=9):
  (if 9<=(repl 3 [DVal.int .u8 0,DVal.int .u8 0,DVal.int .i64 0,DVal.str [],DVal.nilSlice,DVal.nilSlice,DVal.int .i64 0,DVal.int .i64 0,DVal.int .i64 0]).length then(if 18<=(x++List.drop 9 (repl 3 [DVal.int .u8 0,DVal.int .u8 0,DVal.int .i64 0,DVal.str [],DVal.nilSlice,DVal.nilSlice,DVal.int .i64 0,DVal.int .i64 0,DVal.int .i64 0])).length then(if 27<=(List.take 9 (x++List.drop 9 (repl 3 [DVal.int .u8 0,DVal.int .u8 0,DVal.int .i64 0,DVal.str [],DVal.nilSlice,DVal.nilSlice,DVal.int .i64 0,DVal.int .i64 0,DVal.int .i64 0]))++y++List.drop 18 (x++List.drop 9 (repl 3 [DVal.int .u8 0,DVal.int .u8 0,DVal.int .i64 0,DVal.str [],DVal.nilSlice,DVal.nilSlice,DVal.int .i64 0,DVal.int .i64 0,DVal.int .i64 0]))).length then some (List.take 18 (List.take 9 (x++List.drop 9 (repl 3 [DVal.int .u8 0,DVal.int .u8 0,DVal.int .i64 0,DVal.str [],DVal.nilSlice,DVal.nilSlice,DVal.int .i64 0,DVal.int .i64 0,DVal.int .i64 0]))++y++List.drop 18 (x++List.drop 9 (repl 3 [DVal.int .u8 0,DVal.int .u8 0,DVal.int .i64 0,DVal.str [],DVal.nilSlice,DVal.nilSlice,DVal.int .i64 0,DVal.int .i64 0,DVal.int .i64 0])))++z++List.drop 27 (List.take 9 (x++List.drop 9 (repl 3 [DVal.int .u8 0,DVal.int .u8 0,DVal.int .i64 0,DVal.str [],DVal.nilSlice,DVal.nilSlice,DVal.int .i64 0,DVal.int .i64 0,DVal.int .i64 0]))++y++List.drop 18 (x++List.drop 9 (repl 3 [DVal.int .u8 0,DVal.int .u8 0,DVal.int .i64 0,DVal.str [],DVal.nilSlice,DVal.nilSlice,DVal.int .i64 0,DVal.int .i64 0,DVal.int .i64 0])))) else none) else none) else none)=some (x++y++z):=by
 have e: ∀w:List DVal,repl 3 w=w++(w++(w)):=fun w=>by simp [repl]
 obtain⟨w,hw⟩: ∃w:List DVal,w= [DVal.int .u8 0,DVal.int .u8 0,DVal.int .i64 0,DVal.str [],DVal.nilSlice,DVal.nilSlice,DVal.int .i64 0,DVal.int .i64 0,DVal.int .i64 0]:=⟨_,rfl⟩;have lw:w.length=9:=by rw[hw];rfl
 rw[<-hw,e];clear hw e;rw[Ee9 lw];rw[Ef0 (pre:=x) (m:=9) (n:=18) (by simp [hx]) lw rfl];rw[Ef1 (pre:=(x++y)) (m:=18) (n:=27) (by simp [hx,hy]) lw rfl]
 repeat rw [if_pos (by simp [lw,hx,hy,hz])]
theorem Dp0 {x y z u:List DVal} (hx:x.length=9) (hy:y.length=9) (hz:z.length=9) (hu:u.length=9):
  (if 9<=(repl 4 [DVal.int .u8 0,DVal.int .u8 0,DVal.int .i64 0,DVal.str [],DVal.nilSlice,DVal.nilSlice,DVal.int .i64 0,DVal.int .i64 0,DVal.int .i64 0]).length then(if 18<=(x++List.drop 9 (repl 4 [DVal.int .u8 0,DVal.int .u8 0,DVal.int .i64 0,DVal.str [],DVal.nilSlice,DVal.nilSlice,DVal.int .i64 0,DVal.int .i64 0,DVal.int .i64 0])).length then(if 27<=(List.take 9 (x++List.drop 9 (repl 4 [DVal.int .u8 0,DVal.int .u8 0,DVal.int .i64 0,DVal.str [],DVal.nilSlice,DVal.nilSlice,DVal.int .i64 0,DVal.int .i64 0,DVal.int .i64 0]))++y++List.drop 18 (x++List.drop 9 (repl 4 [DVal.int .u8 0,DVal.int .u8 0,DVal.int .i64 0,DVal.str [],DVal.nilSlice,DVal.nilSlice,DVal.int .i64 0,DVal.int .i64 0,DVal.int .i64 0]))).length then(if 36<=(List.take 18 (List.take 9 (x++List.drop 9 (repl 4 [DVal.int .u8 0,DVal.int .u8 0,DVal.int .i64 0,DVal.str [],DVal.nilSlice,DVal.nilSlice,DVal.int .i64 0,DVal.int .i64 0,DVal.int .i64 0]))++y++List.drop 18 (x++List.drop 9 (repl 4 [DVal.int .u8 0,DVal.int .u8 0,DVal.int .i64 0,DVal.str [],DVal.nilSlice,DVal.nilSlice,DVal.int .i64 0,DVal.int .i64 0,DVal.int .i64 0])))++z++List.drop 27 (List.take 9 (x++List.drop 9 (repl 4 [DVal.int .u8 0,DVal.int .u8 0,DVal.int .i64 0,DVal.str [],DVal.nilSlice,DVal.nilSlice,DVal.int .i64 0,DVal.int .i64 0,DVal.int .i64 0]))++y++List.drop 18 (x++List.drop 9 (repl 4 [DVal.int .u8 0,DVal.int .u8 0,DVal.int .i64 0,DVal.str [],DVal.nilSlice,DVal.nilSlice,DVal.int .i64 0,DVal.int .i64 0,DVal.int .i64 0])))).length then some (List.take 27 (List.take 18 (List.take 9 (x++List.drop 9 (repl 4 [DVal.int .u8 0,DVal.int .u8 0,DVal.int .i64 0,DVal.str [],DVal.nilSlice,DVal.nilSlice,DVal.int .i64 0,DVal.int .i64 0,DVal.int .i64 0]))++y++List.drop 18 (x++List.drop 9 (repl 4 [DVal.int .u8 0,DVal.int .u8 0,DVal.int .i64 0,DVal.str [],DVal.nilSlice,DVal.nilSlice,DVal.int .i64 0,DVal.int .i64 0,DVal.int .i64 0])))++z++List.drop 27 (List.take 9 (x++List.drop 9 (repl 4 [DVal.int .u8 0,DVal.int .u8 0,DVal.int .i64 0,DVal.str [],DVal.nilSlice,DVal.nilSlice,DVal.int .i64 0,DVal.int .i64 0,DVal.int .i64 0]))++y++List.drop 18 (x++List.drop 9 (repl 4 [DVal.int .u8 0,DVal.int .u8 0,DVal.int .i64 0,DVal.str [],DVal.nilSlice,DVal.nilSlice,DVal.int .i64 0,DVal.int .i64 0,DVal.int .i64 0]))))++u++List.drop 36 (List.take 18 (List.take 9 (x++List.drop 9 (repl 4 [DVal.int .u8 0,DVal.int .u8 0,DVal.int .i64 0,DVal.str [],DVal.nilSlice,DVal.nilSlice,DVal.int .i64 0,DVal.int .i64 0,DVal.int .i64 0]))++y++List.drop 18 (x++List.drop 9 (repl 4 [DVal.int .u8 0,DVal.int .u8 0,DVal.int .i64 0,DVal.str [],DVal.nilSlice,DVal.nilSlice,DVal.int .i64 0,DVal.int .i64 0,DVal.int .i64 0])))++z++List.drop 27 (List.take 9 (x++List.drop 9 (repl 4 [DVal.int .u8 0,DVal.int .u8 0,DVal.int .i64 0,DVal.str [],DVal.nilSlice,DVal.nilSlice,DVal.int .i64 0,DVal.int .i64 0,DVal.int .i64 0]))++y++List.drop 18 (x++List.drop 9 (repl 4 [DVal.int .u8 0,DVal.int .u8 0,DVal.int .i64 0,DVal.str [],DVal.nilSlice,DVal.nilSlice,DVal.int .i64 0,DVal.int .i64 0,DVal.int .i64 0]))))) else none) else none) else none) else none)=some (x++y++z++u):=by
 have e: ∀w:List DVal,repl 4 w=w++(w++(w++(w))):=fun w=>by simp [repl]
 obtain⟨w,hw⟩: ∃w:List DVal,w= [DVal.int .u8 0,DVal.int .u8 0,DVal.int .i64 0,DVal.str [],DVal.nilSlice,DVal.nilSlice,DVal.int .i64 0,DVal.int .i64 0,DVal.int .i64 0]:=⟨_,rfl⟩;have lw:w.length=9:=by rw[hw];rfl
 rw[<-hw,e];clear hw e;rw[Ee9 lw];rw[Ef0 (pre:=x) (m:=9) (n:=18) (by simp [hx]) lw rfl];rw[Ef0 (pre:=(x++y)) (m:=18) (n:=27) (by simp [hx,hy]) lw rfl];rw[Ef1 (pre:=(x++y++z)) (m:=27) (n:=36) (by simp [hx,hy,hz]) lw rfl]
 repeat rw [if_pos (by simp [lw,hx,hy,hz,hu])]
section
variable (t:Typ)
theorem Et6:((Dp t).drop 20).take 9=dEx t.sub.name:=by
 simp only[Dp,Er,Fj,jE,jO];rw[Dx _ _ 9,Dx _ _ 0,jJ,Nq]
theorem Et7:((Dp t).drop 29).take 9=dEx t.sub.lo:=by
 simp only[Dp,Er,Fj,jE,jO];rw[Dx _ _ 18,Dx _ _ 9,Dx _ _ 0,jJ,Nq]
theorem Et8:((Dp t).drop 38).take 9=dEx t.sub.hi:=by
 simp only[Dp,Er,Fj,jE,jO];rw[Dx _ _ 27,Dx _ _ 18,Dx _ _ 9,Dx _ _ 0,jJ,Nq]
theorem Et9:((Dp t).drop 47).take 9=dEx t.sub.value:=by
 simp only[Dp,Er,Fj,jE,jO];rw[Dx _ _ 36,Dx _ _ 27,Dx _ _ 18,Dx _ _ 9,Dx _ _ 0,jJ,Nq]
theorem Eu0:((Dp t).drop 56).take 9=dEx t.disc.name:=by
 simp only[Dp,Er,Fj,jE,jO];rw[Dx _ _ 45,Dx _ _ 36,Dx _ _ 27,Dx _ _ 18,Dx _ _ 9,Dx _ _ 0,jJ,Nq]
theorem Eu1:((Dp t).drop 65).take 9=dEx t.disc.lo:=by
 simp only[Dp,Er,Fj,jE,jO];rw[Dx _ _ 54,Dx _ _ 45,Dx _ _ 36,Dx _ _ 27,Dx _ _ 18,Dx _ _ 9,Dx _ _ 0,jJ,Nq]
theorem Eu2:((Dp t).drop 74).take 9=dEx t.disc.hi:=by
 simp only[Dp,Er,Fj,jE,jO];rw[Dx _ _ 63,Dx _ _ 54,Dx _ _ 45,Dx _ _ 36,Dx _ _ 27,Dx _ _ 18,Dx _ _ 9,Dx _ _ 0,jJ,Nq]
end
theorem xft:(false==true)=false:=rfl
theorem xtf:(true==false)=false:=rfl
theorem xff:(false==false)=true:=rfl
theorem xtt:(true==true)=true:=rfl
theorem Fi6 (G:Nat->DVal) (H:Ab) (l:List Int) (t:Int) (hl:l.length<=1099511627776):
  Ae Tryz.prog G 251 [.vslice (l.map (.int .u8)) l.length, .int .u8 t] H (Ba (dI (As3 (fun x=>decide (t=x)) l)) H):=by
 refine Aa Tryz.func251 Tryz.call251 rfl (by kernel_rfl) ?_;simp(disch:=omega)only[go_sem];refine Dt1.run (fun(i:Nat) env heap=>heap=H/\env 0= .vslice (l.map (.int .u8)) l.length/\env 1= .int .u8 t/\env 7=dI l.length/\env 8=dI i/\i<=l.length/\ ∀x∈l.take i,decide (t=x)=false) (fun i=>l.length-i) 0 ?_ ?_
 ·simp(disch:=omega)only[go_sem];simp
 ·rintro i env heap ⟨rfl,h0,h1,h7,h8,hi,hn⟩;by_cases hlt:i<l.length
  ·have Aw:(l.map (DVal.int .u8))[i]? =some (.int .u8 l[i]):=by rw[List.getElem?_map,List.getElem?_eq_getElem hlt];rfl
   by_cases hx:t=l[i]
   ·simp(disch:=omega)only[go_sem,h0,h1,h7,h8,Aw,<-hx,jK];exact Wj.refl ⟨by rw[Yl hlt (by simp [hx]) hn],rfl⟩
   ·simp(disch:=omega)only[go_sem,h0,h1,h7,h8,Aw,hx,jK];refine⟨i+1,_,Ws.refl _, ?_,by omega⟩;simp(disch:=omega)only[go_sem,h0,h1,h7,h8];(repeat' apply And.intro)<;>(try first | rfl | assumption | omega);exact Kv hlt hn (by simp [hx])
  ·simp(disch:=omega)only[go_sem,h0,h1,h7,h8];have:i=l.length:=by omega
   subst this;rw[List.take_length] at hn;exact Wj.refl ⟨by rw[Ym hn],rfl⟩
theorem Dp1 (G:Nat->DVal) (H:Ab) (l:List Int) (t:Int) (hl:l.length<=1099511627776):
  Ae Tryz.prog G 133 [.vslice (l.map (.int .u8)) l.length, .int .u8 t] H (Ba (.bool (l.any fun x=>decide (t=x))) H):=by
 refine Aa Tryz.func133 Tryz.call133 rfl (by kernel_rfl) ?_;simp(disch:=omega)only[go_sem];refine(Fi6 G H l t hl).mono ?_;rintro _ H ⟨rfl,rfl⟩;simp(disch:=omega)only[go_sem];exact Wj.refl ⟨by rw[Tt],rfl⟩
theorem My (G:Nat->DVal) (K:Ab) (t:Typ) (r1 q:Nat) (l:List Int) (b:Bool) (hK:K r1=some (.cells (Dp t) 62)) (hq:K q=none) (hl:l.length<=1000) (hb:(l.any fun x=>decide (t.kind=x))=b):
  Ae Tryz.prog G 132 [.oslice 1 q 0 l.length l.length, .optr r1 0] (upd K q (some (.cells (l.map (.int .u8)) 53))) (Ba (.bool b) K):=by
 subst hb;refine Ae.fzA q hq ?_;have n:r1≠q:=Am hq hK;simp only[fzs,fz,if_neg n,if_pos,jJ,Nat.mul_one];rw[List.take_of_length_le (by simp)];refine Aa Tryz.func132 Tryz.call132 rfl (by kernel_rfl) ?_;simp(disch:=omega)only[go_sem,hK,Lr,Ed];refine Ae.monoR (Dp1 G K l t.kind (by omega)) ?_;simp(disch:=omega)only[go_sem];exact Wj.refl ⟨rfl,rfl⟩
theorem Aq5 (G:Nat->DVal) (K:Ab) (l:List Ex) (q:Nat) (b:Bool) (cs:List DVal) (hc:l.flatMap dEx=cs) (hq:K q=none) (hl:l.length<=1099511627776) (hb: ∀x∈l,Ef 1048576 x) (hr:l.all noE=b):
  Ae Tryz.prog G 134 [.oslice 9 q 0 l.length l.length] (upd K q (some (.cells cs 27))) (Ba (.bool b) K):=by
 subst hr;subst hc;refine Ae.fzA q hq ?_;have hfl:=Al Ad l;simp only[fzs,fz,if_pos,jJ];rw[List.take_of_length_le (by omega)];exact Bm1 G K l hl hb
theorem Vm {l:List Arm} {k:Nat} (hlt:k<l.length):Pk (l.take (k+1))=Pk (l.take k)+Dw l[k].comps:=by
 rw[Pk,Pk,List.take_add_one,List.getElem?_eq_getElem hlt,List.map_append,List.sum_append];simp
theorem Pn {l:List Cmp} (hl:Hf Oc 1048576 l):Dw l<=1099511627776:=by
 have h: ∀l:List Cmp,(∀x∈l,Oc 1048576 x)->Dw l<=l.length*1048576:=by
  intro l
  induction l with
  | nil=>intro _;simp [Dw]
  | cons x l ih=>
   intro h;have h1:=ih fun y hy=>h y (List.mem_cons_of_mem _ hy);have h2:=(h x (List.mem_cons_self ..)).1.1;have e:Dw (x::l)=x.names.length+Dw l:=by simp [Dw]
   rw[e,jA];omega
 have h1:=h l hl.2;have h2:=hl.1;omega
def In (t:Typ) (k:Nat):Nat:=Dw t.comps+Pk (t.arms.take k)
theorem Bu4 (t:Typ):In t 0=Dw t.comps:=by simp [In,Pk]
section
variable {G:Nat->DVal} (hG:GX G)
include hG
theorem Fi7 (K:Ab) (l:List Ex) (q:Nat) (b:Bool) (cs:List DVal) (hc:l.flatMap dEx=cs) (hq:K q=none) (hl:l.length<=1099511627776) (hb: ∀x∈l,Ef 1048576 x) (hr:l.all Cl=b):
  Ae Tryz.prog G 124 [.oslice 9 q 0 l.length l.length] (upd K q (some (.cells cs 27))) (Ba (.bool b) K):=by
 subst hr;subst hc;refine Ae.fzA q hq ?_;have hfl:=Al Ad l;simp only[fzs,fz,if_pos,jJ];rw[List.take_of_length_le (by omega)];exact Bb2 hG K l hl hb
set_option maxHeartbeats 40000000 in
theorem Ci3 (H:Ab) (t:Typ) (ht:Np 1048576 t):Ae Tryz.prog G 129 [.agg (Dp t)] H (Ba (.bool (Hd t)) H):=by
 obtain⟨f0,f1,f2,f3,f4,f5,f6,f7⟩:=ht;have a7:=f7.1;refine Aa Tryz.func129 Tryz.call129 rfl (by kernel_rfl) ?_;simp(disch:=omega)only[go_sem,DVal.cells];intro r1 hr1;dsimp only at hr1;obtain⟨K,hK⟩: ∃K',K'=upd H r1 (some (.cells (Dp t) 62)):=⟨_,rfl⟩;rw[<-hK];have gr1:K r1=some (.cells (Dp t) 62):=by rw[hK];exact Ac _ _ _
 have sK:Sub H K:=by rw[hK];exact(Sub.refl _).new hr1 _
 simp(disch:=omega)only[go_sem,gr1,Ed,Lr,Mv,Mw,Ir,Is,It,Iu,Iv,Iw,Ix];refine Ae.monoR (Vl hG K t.comps f5) ?_;cases h1:t.comps.all Fc
 ·simp(disch:=omega)only[go_sem,gr1,Ed,Lr,Mv,Mw,Ir,Is,It,Iu,Iv,Iw,Ix];exact Wj.sub sK (.refl ⟨by simp [Hd,h1],rfl⟩)
 by_cases h2:16<t.arms.length
 ·have h2':(16:Int)<(t.arms.length:Int):=by omega
  simp(disch:=omega)only[go_sem,gr1,Ed,Lr,Mv,Mw,Ir,Is,It,Iu,Iv,Iw,Ix,Dm,h2'];exact Wj.sub sK (.refl ⟨by simp [Hd,h1];omega,rfl⟩)
 have h2': ¬(16:Int)<(t.arms.length:Int):=by omega
 by_cases hv:t.var= []
 ·by_cases ha:t.arms.length=0
  ·have ha':(t.arms.length:Int)=0:=by omega
   have hR:Hd t=(t.arms.all Gu&&decide (Dw t.comps+Pk t.arms<=32)):=by simp [Hd,h1,hv,ha]
   simp(disch:=omega)only[go_sem,gr1,Ed,Lr,Mv,Mw,Ir,Is,It,Iu,Iv,Iw,Ix,Dm,h2',hv,ha',xft,xtf,xff,xtt];have hc40:=Pn f5;obtain⟨I,hI⟩: ∃I:Nat->(Nat->DVal)->Ab->Prop,∀k env heap,I k env heap↔(env 1= .optr r1 0/\env 3=dI (In t k:Nat)/\env 45=Dm t.arms/\env 46=dI t.arms.length/\env 47=dI k/\k<=t.arms.length/\In t k<=(k+1)*1099511627776/\(∀x∈t.arms.take k,Gu x=true)/\heap=K):=⟨_,fun _ _ _=>Iff.rfl⟩;refine Dt1.run I (fun k=>t.arms.length-k) 0 ((hI _ _ _).2 ?_) ?_
   ·simp(disch:=omega)only[go_sem,Dm,Bu4];simp;try omega
   ·try clear ha'
    try clear ha
    intro k env heap hi;obtain⟨e1,e3,e45,e46,e47,hk,hs,hp,rfl⟩:=(hI _ _ _).1 hi;by_cases hlt:k<t.arms.length
    ·have hlt2:(k:Int)<(t.arms.length:Int):=by omega
     have hwd:IntKind.i64.wrap ((k:Int)+1)=((k+1:Nat):Int):=by rw[IntKind.wrap_i64];omega
     have mx:=List.getElem_mem hlt;have hst:Gu t.arms[k]=true-> ∀x∈t.arms.take (k+1),Gu x=true:=On hlt hp;have hsn:In t (k+1)=In t k+Dw t.arms[k].comps:=by rw[In,Vm hlt,In];omega
     have Aw:=Bu Ci t.arms k hlt;obtain⟨x,hx⟩: ∃x,x=t.arms[k]:=⟨_,rfl⟩;rw[<-hx] at Aw mx hst hsn;have fx:=f7.2 x mx;have fn:=Pn fx.2;have fc:=fx.1.1;have hwe:IntKind.i64.wrap ((In t k:Nat)+(Dw x.comps:Int))=((In t (k+1):Nat):Int):=by
      rw[hsn,IntKind.wrap_i64];omega
     simp(disch:=omega)only[go_sem,gr1,Ed,Lr,Mv,Mw,Ir,Is,It,Iu,Iv,Iw,Ix,e1,e3,e45,e46,e47,Dm,hlt2,Al Ci,jD,Aw];intro r6 hr6;dsimp only at hr6;have gr6:upd heap r6 (some (.cells (Ud x) 168)) r6=some (.cells (Ud x) 168):=Ac _ _ _;simp(disch:=omega)only[go_sem,e1,e3,e45,e46,e47,gr6,Ci,Mt,Mu];refine Ae.monoR (Vl hG _ x.comps fx.2) ?_;cases h3:x.comps.all Fc
     ·simp(disch:=omega)only[go_sem,e1,e3,e45,e46,e47,gr6,Ci,Mt,Mu];exact Wj.dropA r6 hr6 (Wj.sub sK (.refl ⟨by rw[hR,Gz mx (by simp [Gu,h3])];rfl,rfl⟩))
     simp(disch:=omega)only[go_sem,e1,e3,e45,e46,e47,gr6,Ci,Mt,Mu];refine Ae.monoR (Pr hG _ x.c (by omega) fx.1.2) ?_;cases h4:Kg x.c
     ·simp(disch:=omega)only[go_sem,e1,e3,e45,e46,e47,gr6,Ci,Mt,Mu];exact Wj.dropA r6 hr6 (Wj.sub sK (.refl ⟨by rw[hR,Gz mx (by simp [Gu,h4])];rfl,rfl⟩))
     simp(disch:=omega)only[go_sem,e1,e3,e45,e46,e47,gr6,Ci,Mt,Mu,hwe];refine⟨k+1,_,Ws.drop _ r6,(hI _ _ _).2 ?_,by omega⟩;simp(disch:=omega)only[go_sem,e1,e3,e45,e46,e47,hwd,hwe];(repeat' apply And.intro)<;>(try first | rfl | assumption | omega)
     ·exact hst (by simp [Gu,h3,h4])
     ·exact Rd hr6
    ·have:k=t.arms.length:=by omega
     subst this;have hall:=Rk hp;have hN:In t t.arms.length=Dw t.comps+Pk t.arms:=by rw[In,List.take_length]
     have hlt': ¬(t.arms.length:Int)<(t.arms.length:Int):=by omega
     simp(disch:=omega)only[go_sem,e1,e3,e45,e46,e47,hlt'];exact Wj.sub sK (.refl ⟨by rw[hR,hall,hN,jS];congr 2;simp;omega,rfl⟩)
  ·have ha': ¬(t.arms.length:Int)=0:=by omega
   simp(disch:=omega)only[go_sem,gr1,Ed,Lr,Mv,Mw,Ir,Is,It,Iu,Iv,Iw,Ix,Dm,h2',hv,ha',xft,xtf,xff,xtt];have ha0: ¬t.arms= []:=fun e=>ha (by rw[e];rfl);exact Wj.sub sK (.refl ⟨by simp [Hd,h1,hv,ha0],rfl⟩)
 ·by_cases ha:t.arms.length=0
  ·have ha':(t.arms.length:Int)=0:=by omega
   simp(disch:=omega)only[go_sem,gr1,Ed,Lr,Mv,Mw,Ir,Is,It,Iu,Iv,Iw,Ix,Dm,h2',hv,ha',xft,xtf,xff,xtt];exact Wj.sub sK (.refl ⟨by simp [Hd,h1,hv,ha],rfl⟩)
  ·have ha': ¬(t.arms.length:Int)=0:=by omega
   simp(disch:=omega)only[go_sem,gr1,Ed,Lr,Mv,Mw,Ir,Is,It,Iu,Iv,Iw,Ix,Dm,h2',hv,ha',xft,xtf,xff,xtt];refine Ae.monoR (Vd hG K t.var f6.1) ?_;cases h3:Lq t.var
   ·simp(disch:=omega)only[go_sem,gr1,Ed,Lr,Mv,Mw,Ir,Is,It,Iu,Iv,Iw,Ix];exact Wj.sub sK (.refl ⟨by simp [Hd,hv,h3],rfl⟩)
   ·have hR:Hd t=(t.arms.all Gu&&decide (Dw t.comps+Pk t.arms<=32)):=by
     have h16:t.arms.length<=16:=by omega
     have ha0: ¬t.arms= []:=fun e=>ha (by rw[e];rfl);simp [Hd,h1,hv,ha0,h3,h16]
    simp(disch:=omega)only[go_sem,gr1,Ed,Lr,Mv,Mw,Ir,Is,It,Iu,Iv,Iw,Ix,Dm];have hc40:=Pn f5;obtain⟨I,hI⟩: ∃I:Nat->(Nat->DVal)->Ab->Prop,∀k env heap,I k env heap↔(env 1= .optr r1 0/\env 3=dI (In t k:Nat)/\env 45=Dm t.arms/\env 46=dI t.arms.length/\env 47=dI k/\k<=t.arms.length/\In t k<=(k+1)*1099511627776/\(∀x∈t.arms.take k,Gu x=true)/\heap=K):=⟨_,fun _ _ _=>Iff.rfl⟩;refine Dt1.run I (fun k=>t.arms.length-k) 0 ((hI _ _ _).2 ?_) ?_
    ·simp(disch:=omega)only[go_sem,Dm,Bu4];simp;try omega
    ·try clear ha'
     try clear ha
     intro k env heap hi;obtain⟨e1,e3,e45,e46,e47,hk,hs,hp,rfl⟩:=(hI _ _ _).1 hi;by_cases hlt:k<t.arms.length
     ·have hlt2:(k:Int)<(t.arms.length:Int):=by omega
      have hwd:IntKind.i64.wrap ((k:Int)+1)=((k+1:Nat):Int):=by rw[IntKind.wrap_i64];omega
      have mx:=List.getElem_mem hlt;have hst:Gu t.arms[k]=true-> ∀x∈t.arms.take (k+1),Gu x=true:=On hlt hp;have hsn:In t (k+1)=In t k+Dw t.arms[k].comps:=by rw[In,Vm hlt,In];omega
      have Aw:=Bu Ci t.arms k hlt;obtain⟨x,hx⟩: ∃x,x=t.arms[k]:=⟨_,rfl⟩;rw[<-hx] at Aw mx hst hsn;have fx:=f7.2 x mx;have fn:=Pn fx.2;have fc:=fx.1.1;have hwe:IntKind.i64.wrap ((In t k:Nat)+(Dw x.comps:Int))=((In t (k+1):Nat):Int):=by
       rw[hsn,IntKind.wrap_i64];omega
      simp(disch:=omega)only[go_sem,gr1,Ed,Lr,Mv,Mw,Ir,Is,It,Iu,Iv,Iw,Ix,e1,e3,e45,e46,e47,Dm,hlt2,Al Ci,jD,Aw];intro r6 hr6;dsimp only at hr6;have gr6:upd heap r6 (some (.cells (Ud x) 168)) r6=some (.cells (Ud x) 168):=Ac _ _ _;simp(disch:=omega)only[go_sem,e1,e3,e45,e46,e47,gr6,Ci,Mt,Mu];refine Ae.monoR (Vl hG _ x.comps fx.2) ?_;cases h3:x.comps.all Fc
      ·simp(disch:=omega)only[go_sem,e1,e3,e45,e46,e47,gr6,Ci,Mt,Mu];exact Wj.dropA r6 hr6 (Wj.sub sK (.refl ⟨by rw[hR,Gz mx (by simp [Gu,h3])];rfl,rfl⟩))
      simp(disch:=omega)only[go_sem,e1,e3,e45,e46,e47,gr6,Ci,Mt,Mu];refine Ae.monoR (Pr hG _ x.c (by omega) fx.1.2) ?_;cases h4:Kg x.c
      ·simp(disch:=omega)only[go_sem,e1,e3,e45,e46,e47,gr6,Ci,Mt,Mu];exact Wj.dropA r6 hr6 (Wj.sub sK (.refl ⟨by rw[hR,Gz mx (by simp [Gu,h4])];rfl,rfl⟩))
      simp(disch:=omega)only[go_sem,e1,e3,e45,e46,e47,gr6,Ci,Mt,Mu,hwe];refine⟨k+1,_,Ws.drop _ r6,(hI _ _ _).2 ?_,by omega⟩;simp(disch:=omega)only[go_sem,e1,e3,e45,e46,e47,hwd,hwe];(repeat' apply And.intro)<;>(try first | rfl | assumption | omega)
      ·exact hst (by simp [Gu,h3,h4])
      ·exact Rd hr6
     ·have:k=t.arms.length:=by omega
      subst this;have hall:=Rk hp;have hN:In t t.arms.length=Dw t.comps+Pk t.arms:=by rw[In,List.take_length]
      have hlt': ¬(t.arms.length:Int)<(t.arms.length:Int):=by omega
      simp(disch:=omega)only[go_sem,e1,e3,e45,e46,e47,hlt'];exact Wj.sub sK (.refl ⟨by rw[hR,hall,hN,jS];congr 2;simp;omega,rfl⟩)
theorem Fw8 (K:Ab) (t:Typ) (r1:Nat) (ht:Np 1048576 t) (gr1:K r1=some (.cells (Dp t) 62)):Ae Tryz.prog G 121 [.optr r1 0] K (Ba (.bool (Fb t.names 64)) K):=by
 obtain⟨f0,f1,f2,f3,f4,f5,f6,f7⟩:=ht;refine Aa Tryz.func121 Tryz.call121 rfl (by kernel_rfl) ?_;simp(disch:=omega)only[go_sem,gr1,Ed,Lr,Mv,Mw,Ir,Is,It,Iu,Iv,Iw,Ix,Ah (Ad _),Av (Ad _) (Ad _)];refine Ae.monoR (Ab2 hG K t.names 64 f0) ?_;simp(disch:=omega)only[go_sem];exact Wj.refl ⟨rfl,rfl⟩
theorem Fw9 (K:Ab) (t:Typ) (r1:Nat) (ht:Np 1048576 t) (gr1:K r1=some (.cells (Dp t) 62)):Ae Tryz.prog G 123 [.optr r1 0] K (Ba (.bool (Cl t.lo&&Cl t.hi)) K):=by
 obtain⟨f0,f1,f2,f3,f4,f5,f6,f7⟩:=ht;refine Aa Tryz.func123 Tryz.call123 rfl (by kernel_rfl) ?_;simp(disch:=omega)only[go_sem,gr1,Ed,Lr,Mv,Mw,Ir,Is,It,Iu,Iv,Iw,Ix,Ah (Ad _),Av (Ad _) (Ad _)];intro q hq;dsimp only at hq;simp(disch:=omega)only[go_sem];refine Ae.monoR (Fi7 hG K [t.lo,t.hi] q _ _ (by simp) hq (by simp) (by intro x hx;simp at hx;rcases hx with rfl | rfl<;>assumption) rfl) ?_;simp(disch:=omega)only[go_sem];exact Wj.refl ⟨by simp,rfl⟩
theorem Fx0 (K:Ab) (t:Typ) (r1:Nat) (ht:Np 1048576 t) (gr1:K r1=some (.cells (Dp t) 62)):Ae Tryz.prog G 125 [.optr r1 0] K (Ba (.bool (Cm t.sub)) K):=by
 obtain⟨f0,f1,f2,f3,f4,f5,f6,f7⟩:=ht;refine Aa Tryz.func125 Tryz.call125 rfl (by kernel_rfl) ?_;simp(disch:=omega)only[go_sem,gr1,Ed,Lr,Mv,Mw,Ir,Is,It,Iu,Iv,Iw,Ix,Ah (Ad _),Av (Ad _) (Ad _)];refine Ae.monoR (Pm hG K t.sub f3) ?_;simp(disch:=omega)only[go_sem];exact Wj.refl ⟨rfl,rfl⟩
theorem Fx1 (K:Ab) (t:Typ) (r1:Nat) (ht:Np 1048576 t) (gr1:K r1=some (.cells (Dp t) 62)):Ae Tryz.prog G 127 [.optr r1 0] K (Ba (.bool (Cm t.sub&&Fk t.disc)) K):=by
 obtain⟨f0,f1,f2,f3,f4,f5,f6,f7⟩:=ht;refine Aa Tryz.func127 Tryz.call127 rfl (by kernel_rfl) ?_;simp(disch:=omega)only[go_sem,gr1,Ed,Lr,Mv,Mw,Ir,Is,It,Iu,Iv,Iw,Ix,Ah (Ad _),Av (Ad _) (Ad _)];refine Ae.monoR (Pm hG K t.sub f3) ?_;cases h1:Cm t.sub
 ·simp(disch:=omega)only[go_sem,gr1,Ed,Lr,Mv,Mw,Ir,Is,It,Iu,Iv,Iw,Ix];exact Wj.refl ⟨rfl,rfl⟩
 simp(disch:=omega)only[go_sem,gr1,Ed,Lr,Mv,Mw,Ir,Is,It,Iu,Iv,Iw,Ix];refine Ae.monoR (Aq4 hG K t.disc f4) ?_;simp(disch:=omega)only[go_sem];exact Wj.refl ⟨by simp,rfl⟩
theorem Fx2 (K:Ab) (t:Typ) (r1:Nat) (ht:Np 1048576 t) (gr1:K r1=some (.cells (Dp t) 62)):Ae Tryz.prog G 128 [.optr r1 0] K (Ba (.bool (Hd t)) K):=by
 obtain⟨f0,f1,f2,f3,f4,f5,f6,f7⟩:=ht;refine Aa Tryz.func128 Tryz.call128 rfl (by kernel_rfl) ?_;simp(disch:=omega)only[go_sem,gr1,Ed,Lr,Mv,Mw,Ir,Is,It,Iu,Iv,Iw,Ix,Ah (Ad _),Av (Ad _) (Ad _)];refine Ae.monoR (Ci3 hG K t ⟨f0,f1,f2,f3,f4,f5,f6,f7⟩) ?_;simp(disch:=omega)only[go_sem];exact Wj.refl ⟨rfl,rfl⟩
theorem Fx3 (K:Ab) (t:Typ) (r1:Nat) (ht:Np 1048576 t) (gr1:K r1=some (.cells (Dp t) 62)):Ae Tryz.prog G 130 [.optr r1 0] K (Ba (.bool (Cm t.sub)) K):=by
 obtain⟨f0,f1,f2,f3,f4,f5,f6,f7⟩:=ht;refine Aa Tryz.func130 Tryz.call130 rfl (by kernel_rfl) ?_;simp(disch:=omega)only[go_sem,gr1,Ed,Lr,Mv,Mw,Ir,Is,It,Iu,Iv,Iw,Ix,Ah (Ad _),Av (Ad _) (Ad _)];refine Ae.monoR (Pm hG K t.sub f3) ?_;simp(disch:=omega)only[go_sem];exact Wj.refl ⟨rfl,rfl⟩
theorem Fx4 (K:Ab):Ae Tryz.prog G 131 [] K (Ba (.bool true) K):=by
 refine Aa Tryz.func131 Tryz.call131 rfl (by kernel_rfl) ?_;simp(disch:=omega)only[go_sem];exact Wj.refl ⟨rfl,rfl⟩
end
theorem Eu3 (a b:Ex):
  (if 9<=(repl 2 [DVal.int .u8 0,DVal.int .u8 0,DVal.int .i64 0,DVal.str [],DVal.nilSlice,DVal.nilSlice,DVal.int .i64 0,DVal.int .i64 0,DVal.int .i64 0]).length then(if 18<=(dEx a++List.drop 9 (repl 2 [DVal.int .u8 0,DVal.int .u8 0,DVal.int .i64 0,DVal.str [],DVal.nilSlice,DVal.nilSlice,DVal.int .i64 0,DVal.int .i64 0,DVal.int .i64 0])).length then some (List.take 9 (dEx a++List.drop 9 (repl 2 [DVal.int .u8 0,DVal.int .u8 0,DVal.int .i64 0,DVal.str [],DVal.nilSlice,DVal.nilSlice,DVal.int .i64 0,DVal.int .i64 0,DVal.int .i64 0]))++dEx b++List.drop 18 (dEx a++List.drop 9 (repl 2 [DVal.int .u8 0,DVal.int .u8 0,DVal.int .i64 0,DVal.str [],DVal.nilSlice,DVal.nilSlice,DVal.int .i64 0,DVal.int .i64 0,DVal.int .i64 0]))) else none) else none)=some (dEx a++dEx b):=Av (Ad _) (Ad _)
theorem Eu4 (a b c:Ex):
  (if 9<=(repl 3 [DVal.int .u8 0,DVal.int .u8 0,DVal.int .i64 0,DVal.str [],DVal.nilSlice,DVal.nilSlice,DVal.int .i64 0,DVal.int .i64 0,DVal.int .i64 0]).length then(if 18<=(dEx a++List.drop 9 (repl 3 [DVal.int .u8 0,DVal.int .u8 0,DVal.int .i64 0,DVal.str [],DVal.nilSlice,DVal.nilSlice,DVal.int .i64 0,DVal.int .i64 0,DVal.int .i64 0])).length then(if 27<=(List.take 9 (dEx a++List.drop 9 (repl 3 [DVal.int .u8 0,DVal.int .u8 0,DVal.int .i64 0,DVal.str [],DVal.nilSlice,DVal.nilSlice,DVal.int .i64 0,DVal.int .i64 0,DVal.int .i64 0]))++dEx b++List.drop 18 (dEx a++List.drop 9 (repl 3 [DVal.int .u8 0,DVal.int .u8 0,DVal.int .i64 0,DVal.str [],DVal.nilSlice,DVal.nilSlice,DVal.int .i64 0,DVal.int .i64 0,DVal.int .i64 0]))).length then some (List.take 18 (List.take 9 (dEx a++List.drop 9 (repl 3 [DVal.int .u8 0,DVal.int .u8 0,DVal.int .i64 0,DVal.str [],DVal.nilSlice,DVal.nilSlice,DVal.int .i64 0,DVal.int .i64 0,DVal.int .i64 0]))++dEx b++List.drop 18 (dEx a++List.drop 9 (repl 3 [DVal.int .u8 0,DVal.int .u8 0,DVal.int .i64 0,DVal.str [],DVal.nilSlice,DVal.nilSlice,DVal.int .i64 0,DVal.int .i64 0,DVal.int .i64 0])))++dEx c++List.drop 27 (List.take 9 (dEx a++List.drop 9 (repl 3 [DVal.int .u8 0,DVal.int .u8 0,DVal.int .i64 0,DVal.str [],DVal.nilSlice,DVal.nilSlice,DVal.int .i64 0,DVal.int .i64 0,DVal.int .i64 0]))++dEx b++List.drop 18 (dEx a++List.drop 9 (repl 3 [DVal.int .u8 0,DVal.int .u8 0,DVal.int .i64 0,DVal.str [],DVal.nilSlice,DVal.nilSlice,DVal.int .i64 0,DVal.int .i64 0,DVal.int .i64 0])))) else none) else none) else none)=some (dEx a++dEx b++dEx c):=Do9 (Ad _) (Ad _) (Ad _)
theorem Eu5 (a b c d:Ex):
  (if 9<=(repl 4 [DVal.int .u8 0,DVal.int .u8 0,DVal.int .i64 0,DVal.str [],DVal.nilSlice,DVal.nilSlice,DVal.int .i64 0,DVal.int .i64 0,DVal.int .i64 0]).length then(if 18<=(dEx a++List.drop 9 (repl 4 [DVal.int .u8 0,DVal.int .u8 0,DVal.int .i64 0,DVal.str [],DVal.nilSlice,DVal.nilSlice,DVal.int .i64 0,DVal.int .i64 0,DVal.int .i64 0])).length then(if 27<=(List.take 9 (dEx a++List.drop 9 (repl 4 [DVal.int .u8 0,DVal.int .u8 0,DVal.int .i64 0,DVal.str [],DVal.nilSlice,DVal.nilSlice,DVal.int .i64 0,DVal.int .i64 0,DVal.int .i64 0]))++dEx b++List.drop 18 (dEx a++List.drop 9 (repl 4 [DVal.int .u8 0,DVal.int .u8 0,DVal.int .i64 0,DVal.str [],DVal.nilSlice,DVal.nilSlice,DVal.int .i64 0,DVal.int .i64 0,DVal.int .i64 0]))).length then(if 36<=(List.take 18 (List.take 9 (dEx a++List.drop 9 (repl 4 [DVal.int .u8 0,DVal.int .u8 0,DVal.int .i64 0,DVal.str [],DVal.nilSlice,DVal.nilSlice,DVal.int .i64 0,DVal.int .i64 0,DVal.int .i64 0]))++dEx b++List.drop 18 (dEx a++List.drop 9 (repl 4 [DVal.int .u8 0,DVal.int .u8 0,DVal.int .i64 0,DVal.str [],DVal.nilSlice,DVal.nilSlice,DVal.int .i64 0,DVal.int .i64 0,DVal.int .i64 0])))++dEx c++List.drop 27 (List.take 9 (dEx a++List.drop 9 (repl 4 [DVal.int .u8 0,DVal.int .u8 0,DVal.int .i64 0,DVal.str [],DVal.nilSlice,DVal.nilSlice,DVal.int .i64 0,DVal.int .i64 0,DVal.int .i64 0]))++dEx b++List.drop 18 (dEx a++List.drop 9 (repl 4 [DVal.int .u8 0,DVal.int .u8 0,DVal.int .i64 0,DVal.str [],DVal.nilSlice,DVal.nilSlice,DVal.int .i64 0,DVal.int .i64 0,DVal.int .i64 0])))).length then some (List.take 27 (List.take 18 (List.take 9 (dEx a++List.drop 9 (repl 4 [DVal.int .u8 0,DVal.int .u8 0,DVal.int .i64 0,DVal.str [],DVal.nilSlice,DVal.nilSlice,DVal.int .i64 0,DVal.int .i64 0,DVal.int .i64 0]))++dEx b++List.drop 18 (dEx a++List.drop 9 (repl 4 [DVal.int .u8 0,DVal.int .u8 0,DVal.int .i64 0,DVal.str [],DVal.nilSlice,DVal.nilSlice,DVal.int .i64 0,DVal.int .i64 0,DVal.int .i64 0])))++dEx c++List.drop 27 (List.take 9 (dEx a++List.drop 9 (repl 4 [DVal.int .u8 0,DVal.int .u8 0,DVal.int .i64 0,DVal.str [],DVal.nilSlice,DVal.nilSlice,DVal.int .i64 0,DVal.int .i64 0,DVal.int .i64 0]))++dEx b++List.drop 18 (dEx a++List.drop 9 (repl 4 [DVal.int .u8 0,DVal.int .u8 0,DVal.int .i64 0,DVal.str [],DVal.nilSlice,DVal.nilSlice,DVal.int .i64 0,DVal.int .i64 0,DVal.int .i64 0]))))++dEx d++List.drop 36 (List.take 18 (List.take 9 (dEx a++List.drop 9 (repl 4 [DVal.int .u8 0,DVal.int .u8 0,DVal.int .i64 0,DVal.str [],DVal.nilSlice,DVal.nilSlice,DVal.int .i64 0,DVal.int .i64 0,DVal.int .i64 0]))++dEx b++List.drop 18 (dEx a++List.drop 9 (repl 4 [DVal.int .u8 0,DVal.int .u8 0,DVal.int .i64 0,DVal.str [],DVal.nilSlice,DVal.nilSlice,DVal.int .i64 0,DVal.int .i64 0,DVal.int .i64 0])))++dEx c++List.drop 27 (List.take 9 (dEx a++List.drop 9 (repl 4 [DVal.int .u8 0,DVal.int .u8 0,DVal.int .i64 0,DVal.str [],DVal.nilSlice,DVal.nilSlice,DVal.int .i64 0,DVal.int .i64 0,DVal.int .i64 0]))++dEx b++List.drop 18 (dEx a++List.drop 9 (repl 4 [DVal.int .u8 0,DVal.int .u8 0,DVal.int .i64 0,DVal.str [],DVal.nilSlice,DVal.nilSlice,DVal.int .i64 0,DVal.int .i64 0,DVal.int .i64 0]))))) else none) else none) else none) else none)=some (dEx a++dEx b++dEx c++dEx d):=Dp0 (Ad _) (Ad _) (Ad _) (Ad _)
attribute [go_sem] Eu3 Eu4 Eu5 Lr Mv Mw Ir Is It Iu Iv Iw Ix Et6 Et7 Et8 Et9 Eu0 Eu1 Eu2
end Go.Dl

-- Chapter 4: which type definitions are valid: package shape (printed by gen_cr.py).
namespace Go.Dl
open Go Go.Proofs
set_option maxRecDepth 100000
section
variable {G:Nat->DVal} (hG:GX G)
include hG
set_option maxHeartbeats 400000000 in
theorem Ci4 (H:Ab) (t:Typ) (ht:Np 1048576 t):Ae Tryz.prog G 26 [.agg (Dp t)] H (Ba (.bool (Jr t)) H):=by
 have ht':=ht;obtain⟨f0,f1,f2,f3,f4,f5,f6,f7⟩:=ht;obtain⟨-,k0,k255⟩:=f6;have pb: ∀x∈ [t.lo,t.hi],Ef 1048576 x:=by intro x hx;simp at hx;rcases hx with rfl | rfl<;>assumption
 have pi: ∀x∈ [t.sub.name,t.sub.lo,t.sub.hi,t.sub.value],Ef 1048576 x:=by
  obtain⟨i0,i1,i2,i3⟩:=f3;intro x hx;simp at hx;rcases hx with rfl | rfl | rfl | rfl<;>assumption
 have pd: ∀x∈ [t.disc.name,t.disc.lo,t.disc.hi],Ef 1048576 x:=by
  obtain⟨i0,i1,i2⟩:=f4;intro x hx;simp at hx;rcases hx with rfl | rfl | rfl<;>assumption
 have eb: [t.lo,t.hi].all noE=Aq1 t:=by simp [Aq1]
 have ei: [t.sub.name,t.sub.lo,t.sub.hi,t.sub.value].all noE=Xm t.sub:=by simp [Xm,Bool.and_assoc]
 have ed: [t.disc.name,t.disc.lo,t.disc.hi].all noE=Xn t.disc:=by simp [Xn,Bool.and_assoc]
 refine Aa Tryz.func26 Tryz.call26 rfl (by kernel_rfl) ?_;simp(disch:=omega)only[go_sem,DVal.cells];intro r1 hr1;dsimp only at hr1;obtain⟨K0,hK0⟩: ∃K',K'=upd H r1 (some (.cells (Dp t) 62)):=⟨_,rfl⟩;rw[<-hK0];have gr1:K0 r1=some (.cells (Dp t) 62):=by rw[hK0];exact Ac _ _ _
 have sK0:Sub H K0:=by rw[hK0];exact(Sub.refl _).new hr1 _
 simp(disch:=omega)only[go_sem,gr1];intro r3 hr3;dsimp only at hr3;have n13:r1≠r3:=Am hr3 gr1;simp(disch:=omega)only[go_sem,n13,gr1];obtain⟨K,hK⟩: ∃K',K'=upd K0 r3 (some (.cells [.nilFunc, .func (.func 121) [] [.optr r1 0], .func (.func 123) [] [.optr r1 0], .func (.func 125) [] [.optr r1 0], .func (.func 127) [] [.optr r1 0], .func (.func 128) [] [.optr r1 0], .func (.func 130) [] [.optr r1 0], .func (.func 131) [] []] 161)):=⟨_,rfl⟩;rw[<-hK];have gr3:K r3=some (.cells [.nilFunc, .func (.func 121) [] [.optr r1 0], .func (.func 123) [] [.optr r1 0], .func (.func 125) [] [.optr r1 0], .func (.func 127) [] [.optr r1 0], .func (.func 128) [] [.optr r1 0], .func (.func 130) [] [.optr r1 0], .func (.func 131) [] []] 161):=by rw[hK];exact Ac _ _ _
 have sK:Sub K0 K:=by rw[hK];exact(Sub.refl _).new hr3 _
 have g1:K r1=some (.cells (Dp t) 62):=sK _ _ gr1;have g3:=gr3;have t1:Sub H K:=sK0.trans sK;clear hK hK0 sK sK0 gr1 gr3;by_cases hk0:t.kind=0
 ·have hk:=hk0;simp(disch:=omega)only[go_sem,g1,g3,hk];exact Wj.sub t1 (.refl ⟨by simp [Jr,Af7,Af6, *],rfl⟩)
 by_cases hk8:8<=t.kind
 ·have h0: ¬t.kind=0:=hk0;simp(disch:=omega)only[go_sem,g1,g3,h0,hk8];exact Wj.sub t1 (.refl ⟨by unfold Jr;rw[if_neg (by omega),if_neg (by omega),if_neg (by omega),if_neg (by omega),if_neg (by omega),decide_eq_false (by omega)];rfl,rfl⟩)
 have hkk:t.kind=1\/t.kind=2\/t.kind=3\/t.kind=4\/t.kind=5\/t.kind=6\/t.kind=7:=by omega
 clear hk0 hk8 k0 k255;rcases hkk with hk | hk | hk | hk | hk | hk | hk;all_goals
  have w1:=fun q hq=>My G K t r1 q [1] _ g1 hq (by decide) rfl;have w2:=fun q hq=>My G K t r1 q [2] _ g1 hq (by decide) rfl;have w3:=fun q hq=>My G K t r1 q [3,4,6] _ g1 hq (by decide) rfl;have w4:=fun q hq=>My G K t r1 q [4] _ g1 hq (by decide) rfl;have w5:=fun q hq=>My G K t r1 q [5] _ g1 hq (by decide) rfl;have w7:=fun q hq=>My G K t r1 q [7] _ g1 hq (by decide) rfl;simp only[List.map,List.any,List.length,Nat.zero_add,Nat.reduceAdd,Bool.or_false] at w1 w2 w3 w4 w5 w7
  repeat' first
   | with_reducible refine Ae.monoR (w1 _ (by assumption)) ?_
   | with_reducible refine Ae.monoR (w2 _ (by assumption)) ?_
   | with_reducible refine Ae.monoR (w3 _ (by assumption)) ?_
   | with_reducible refine Ae.monoR (w4 _ (by assumption)) ?_
   | with_reducible refine Ae.monoR (w5 _ (by assumption)) ?_
   | with_reducible refine Ae.monoR (w7 _ (by assumption)) ?_
   | with_reducible refine Ae.monoR (Fw8 hG K t r1 ht' g1) ?_
   | with_reducible refine Ae.monoR (Fw9 hG K t r1 ht' g1) ?_
   | with_reducible refine Ae.monoR (Fx0 hG K t r1 ht' g1) ?_
   | with_reducible refine Ae.monoR (Fx1 hG K t r1 ht' g1) ?_
   | with_reducible refine Ae.monoR (Fx2 hG K t r1 ht' g1) ?_
   | with_reducible refine Ae.monoR (Fx3 hG K t r1 ht' g1) ?_
   | with_reducible refine Ae.monoR (Fx4 hG K) ?_
   | (intro q hq;dsimp only at hq)
   | simp(disch:=omega)only[go_sem,g1,g3,hk,dW,Cv,Dm, *]
   | (with_reducible refine Qd ?_ ?_<;>intro hb)
   | (with_reducible refine Sb ?_ ?_<;>intro hb)
   | refine Ae.monoR (Aq5 G K [t.lo,t.hi] _ _ _ (by simp) (by assumption) (by simp) pb eb) ?_
   | refine Ae.monoR (Aq5 G K [t.sub.name,t.sub.lo,t.sub.hi,t.sub.value] _ _ _ (by simp) (by assumption) (by simp) pi ei) ?_
   | refine Ae.monoR (Aq5 G K [t.disc.name,t.disc.lo,t.disc.hi] _ _ _ (by simp) (by assumption) (by simp) pd ed) ?_
   | (clear w1 w2 w3 w4 w5 w7 pb pi pd eb ei ed ht' f0 f1 f2 f3 f4 f5 f7 g1 g3;refine Wj.sub t1 (.refl ?_);refine⟨?_,rfl⟩;simp only[decide_eq_true_eq,decide_eq_false_iff_not,Bool.not_eq_true',Bool.not_eq_false',Es7] at*;first | (simp [Jr,Af7,Af6, *];done) | (simp [Jr,Af7,Af6,hk];intros;simp_all;done))
end
end Go.Dl

-- Chapter 4: which records and type definitions are valid, by the reference (printed by gen_cn.py).
namespace Go.Dl
open Go Go.Proofs
set_option maxRecDepth 100000
section
variable (G:Nat->DVal) (H:Ab)
theorem Ci5 (s:Ind) (hs:Uf 1048576 s):Ae Tryz.prog G 194 [.agg (Er s)] H (Ba (.bool (Xm s)) H):=by
 obtain⟨f0,f1,f2,f3⟩:=hs;refine Aa Tryz.func194 Tryz.call194 rfl (by kernel_rfl) ?_;simp(disch:=omega)only[go_sem,DVal.cells];intro r1 hr1;dsimp only at hr1;obtain⟨K,hK⟩: ∃K',K'=upd H r1 (some (.cells (Er s) 56)):=⟨_,rfl⟩;rw[<-hK];have gr1:K r1=some (.cells (Er s) 56):=by rw[hK];exact Ac _ _ _
 have sK:Sub H K:=by rw[hK];exact(Sub.refl _).new hr1 _
 simp(disch:=omega)only[go_sem,gr1,Ag,Bi,Bj,Bk,Bl];refine Ae.monoR (Co G K s.name f0) ?_;cases h1:noE s.name
 ·simp(disch:=omega)only[go_sem,gr1,Ag,Bi,Bj,Bk,Bl];exact Wj.sub sK (.refl ⟨by simp [Xm, *],rfl⟩)
 simp(disch:=omega)only[go_sem,gr1,Ag,Bi,Bj,Bk,Bl];refine Ae.monoR (Co G K s.lo f1) ?_;cases h2:noE s.lo
 ·simp(disch:=omega)only[go_sem,gr1,Ag,Bi,Bj,Bk,Bl];exact Wj.sub sK (.refl ⟨by simp [Xm, *],rfl⟩)
 simp(disch:=omega)only[go_sem,gr1,Ag,Bi,Bj,Bk,Bl];refine Ae.monoR (Co G K s.hi f2) ?_;cases h3:noE s.hi
 ·simp(disch:=omega)only[go_sem,gr1,Ag,Bi,Bj,Bk,Bl];exact Wj.sub sK (.refl ⟨by simp [Xm, *],rfl⟩)
 simp(disch:=omega)only[go_sem,gr1,Ag,Bi,Bj,Bk,Bl];refine Ae.monoR (Co G K s.value f3) ?_;simp(disch:=omega)only[go_sem,gr1,Ag,Bi,Bj,Bk,Bl];exact Wj.sub sK (.refl ⟨by simp [Xm, *],rfl⟩)
theorem Ci6 (d:Dis) (hd:Wf 1048576 d):Ae Tryz.prog G 195 [.agg (Fj d)] H (Ba (.bool (Xn d)) H):=by
 obtain⟨f0,f1,f2⟩:=hd;refine Aa Tryz.func195 Tryz.call195 rfl (by kernel_rfl) ?_;simp(disch:=omega)only[go_sem,DVal.cells];intro r1 hr1;dsimp only at hr1;obtain⟨K,hK⟩: ∃K',K'=upd H r1 (some (.cells (Fj d) 58)):=⟨_,rfl⟩;rw[<-hK];have gr1:K r1=some (.cells (Fj d) 58):=by rw[hK];exact Ac _ _ _
 have sK:Sub H K:=by rw[hK];exact(Sub.refl _).new hr1 _
 simp(disch:=omega)only[go_sem,gr1,Ax,Dc,Dd,De];refine Ae.monoR (Co G K d.name f0) ?_;cases h1:noE d.name
 ·simp(disch:=omega)only[go_sem,gr1,Ax,Dc,Dd,De];exact Wj.sub sK (.refl ⟨by simp [Xn, *],rfl⟩)
 simp(disch:=omega)only[go_sem,gr1,Ax,Dc,Dd,De];refine Ae.monoR (Co G K d.lo f1) ?_;cases h2:noE d.lo
 ·simp(disch:=omega)only[go_sem,gr1,Ax,Dc,Dd,De];exact Wj.sub sK (.refl ⟨by simp [Xn, *],rfl⟩)
 simp(disch:=omega)only[go_sem,gr1,Ax,Dc,Dd,De];refine Ae.monoR (Co G K d.hi f2) ?_;simp(disch:=omega)only[go_sem,gr1,Ax,Dc,Dd,De];exact Wj.sub sK (.refl ⟨by simp [Xn, *],rfl⟩)
set_option maxHeartbeats 40000000 in
theorem Bu5 (t:Typ) (ht:Np 1048576 t):Ae Tryz.prog G 196 [.agg (Dp t)] H (Ba (.bool (Hd t)) H):=by
 obtain⟨f0,f1,f2,f3,f4,f5,f6,f7⟩:=ht;have a7:=f7.1;refine Aa Tryz.func196 Tryz.call196 rfl (by kernel_rfl) ?_;simp(disch:=omega)only[go_sem,DVal.cells];intro r1 hr1;dsimp only at hr1;obtain⟨K,hK⟩: ∃K',K'=upd H r1 (some (.cells (Dp t) 62)):=⟨_,rfl⟩;rw[<-hK];have gr1:K r1=some (.cells (Dp t) 62):=by rw[hK];exact Ac _ _ _
 have sK:Sub H K:=by rw[hK];exact(Sub.refl _).new hr1 _
 simp(disch:=omega)only[go_sem,gr1];refine Ae.monoR (Lw G K t.comps f5) ?_;cases h1:t.comps.all Fc
 ·simp(disch:=omega)only[go_sem,gr1];exact Wj.sub sK (.refl ⟨by simp [Hd,h1],rfl⟩)
 have hpos: ¬((Dw t.comps:Nat):Int)<0:=by omega
 by_cases hv:t.var= []
 ·by_cases ha:t.arms.length=0
  ·have ha':(t.arms.length:Int)=0:=by omega
   have hR:Hd t=(t.arms.all Gu&&decide (Dw t.comps+Pk t.arms<=32)):=by simp [Hd,h1,hv,ha]
   simp(disch:=omega)only[go_sem,gr1,Dm,hpos,hv,ha',xft,xtf,xff,xtt];have hc40:=Pn f5;obtain⟨I,hI⟩: ∃I:Nat->(Nat->DVal)->Ab->Prop,∀k env heap,I k env heap↔(env 1= .optr r1 0/\env 3=dI (In t k:Nat)/\env 4=dI k/\k<=t.arms.length/\In t k<=(k+1)*1099511627776/\(∀x∈t.arms.take k,Gu x=true)/\heap=K):=⟨_,fun _ _ _=>Iff.rfl⟩;refine Dt1.run I (fun k=>t.arms.length-k) 0 ((hI _ _ _).2 ?_) ?_
   ·simp(disch:=omega)only[go_sem,Dm,Bu4];simp;try omega
   ·try clear ha'
    try clear ha
    intro k env heap hi;obtain⟨e1,e3,e4,hk,hs,hp,rfl⟩:=(hI _ _ _).1 hi;have hfl:=Al Ci t.arms;by_cases hlt:k<t.arms.length
    ·have hlt2:(k:Int)<(t.arms.length:Int):=by omega
     have hwd:IntKind.i64.wrap ((k:Int)+1)=((k+1:Nat):Int):=by rw[IntKind.wrap_i64];omega
     have mx:=List.getElem_mem hlt;have hst:Gu t.arms[k]=true-> ∀x∈t.arms.take (k+1),Gu x=true:=On hlt hp;have hsn:In t (k+1)=In t k+Dw t.arms[k].comps:=by rw[In,Vm hlt,In];omega
     have x0:=Ck Ci t.arms k hlt 0 (by decide);rw[Mt] at x0;have x0z:=x0;rw[Nat.add_zero] at x0z;have x1:=Ck Ci t.arms k hlt 1 (by decide);rw[Mu] at x1;obtain⟨x,hx⟩: ∃x,x=t.arms[k]:=⟨_,rfl⟩;rw[<-hx] at x0 x0z x1 mx hst hsn;have fx:=f7.2 x mx;have fn:=Pn fx.2;have fc:=fx.1.1;have hwe:IntKind.i64.wrap ((In t k:Nat)+(Dw x.comps:Int))=((In t (k+1):Nat):Int):=by
      rw[hsn,IntKind.wrap_i64];omega
     simp(disch:=omega)only[go_sem,gr1,e1,e3,e4,Dm,hlt2,hfl,jD,x0,x0z,x1];refine Ae.monoR (Lw G _ x.comps fx.2) ?_;cases h3:x.comps.all Fc
     ·simp(disch:=omega)only[go_sem,gr1,e1,e3,e4,Dm,hlt2,hfl,jD,x0,x0z,x1];exact Wj.sub sK (.refl ⟨by rw[hR,Gz mx (by simp [Gu,h3])];rfl,rfl⟩)
     have hpos: ¬((Dw x.comps:Nat):Int)<0:=by omega
     simp(disch:=omega)only[go_sem,gr1,e1,e3,e4,Dm,hlt2,hfl,jD,x0,x0z,x1,hpos];refine Ae.monoR (Om G _ x.c (by omega)) ?_;cases h4:Kg x.c
     ·simp(disch:=omega)only[go_sem,gr1,e1,e3,e4,Dm,hlt2,hfl,jD,x0,x0z,x1];exact Wj.sub sK (.refl ⟨by rw[hR,Gz mx (by simp [Gu,h4])];rfl,rfl⟩)
     simp(disch:=omega)only[go_sem,gr1,e1,e3,e4,Dm,hlt2,hfl,jD,x0,x0z,x1,hwe];refine⟨k+1,_,Ws.refl _,(hI _ _ _).2 ?_,by omega⟩;simp(disch:=omega)only[go_sem,e1,e3,e4,hwd,hwe];(repeat' apply And.intro)<;>(try first | rfl | assumption | omega);exact hst (by simp [Gu,h3,h4])
    ·have:k=t.arms.length:=by omega
     subst this;have hall:=Rk hp;have hN:In t t.arms.length=Dw t.comps+Pk t.arms:=by rw[In,List.take_length]
     have hlt': ¬(t.arms.length:Int)<(t.arms.length:Int):=by omega
     simp(disch:=omega)only[go_sem,gr1,e1,e3,e4,Dm,hlt'];exact Wj.sub sK (.refl ⟨by rw[hR,hall,hN,jS];congr 2;simp;omega,rfl⟩)
  ·have ha': ¬(t.arms.length:Int)=0:=by omega
   simp(disch:=omega)only[go_sem,gr1,Dm,hpos,hv,ha',xft,xtf,xff,xtt];have ha0: ¬t.arms= []:=fun e=>ha (by rw[e];rfl);exact Wj.sub sK (.refl ⟨by simp [Hd,h1,hv,ha0],rfl⟩)
 ·by_cases ha:t.arms.length=0
  ·have ha':(t.arms.length:Int)=0:=by omega
   simp(disch:=omega)only[go_sem,gr1,Dm,hpos,hv,ha',xft,xtf,xff,xtt];exact Wj.sub sK (.refl ⟨by simp [Hd,h1,hv,ha],rfl⟩)
  ·have ha': ¬(t.arms.length:Int)=0:=by omega
   by_cases h2:16<t.arms.length
   ·have h2':(16:Int)<(t.arms.length:Int):=by omega
    simp(disch:=omega)only[go_sem,gr1,Dm,hpos,hv,ha',h2',xft,xtf,xff,xtt];exact Wj.sub sK (.refl ⟨by simp [Hd,h1];omega,rfl⟩)
   have h2': ¬(16:Int)<(t.arms.length:Int):=by omega
   simp(disch:=omega)only[go_sem,gr1,Dm,hpos,hv,ha',h2',xft,xtf,xff,xtt];refine Ae.monoR (Ve G K t.var) ?_;cases h3:Lq t.var
   ·simp(disch:=omega)only[go_sem,gr1];exact Wj.sub sK (.refl ⟨by simp [Hd,hv,h3],rfl⟩)
   ·have hR:Hd t=(t.arms.all Gu&&decide (Dw t.comps+Pk t.arms<=32)):=by
     have h16:t.arms.length<=16:=by omega
     have ha0: ¬t.arms= []:=fun e=>ha (by rw[e];rfl);simp [Hd,h1,hv,ha0,h3,h16]
    simp(disch:=omega)only[go_sem,gr1,Dm];have hc40:=Pn f5;obtain⟨I,hI⟩: ∃I:Nat->(Nat->DVal)->Ab->Prop,∀k env heap,I k env heap↔(env 1= .optr r1 0/\env 3=dI (In t k:Nat)/\env 4=dI k/\k<=t.arms.length/\In t k<=(k+1)*1099511627776/\(∀x∈t.arms.take k,Gu x=true)/\heap=K):=⟨_,fun _ _ _=>Iff.rfl⟩;refine Dt1.run I (fun k=>t.arms.length-k) 0 ((hI _ _ _).2 ?_) ?_
    ·simp(disch:=omega)only[go_sem,Dm,Bu4];simp;try omega
    ·try clear ha'
     try clear ha
     intro k env heap hi;obtain⟨e1,e3,e4,hk,hs,hp,rfl⟩:=(hI _ _ _).1 hi;have hfl:=Al Ci t.arms;by_cases hlt:k<t.arms.length
     ·have hlt2:(k:Int)<(t.arms.length:Int):=by omega
      have hwd:IntKind.i64.wrap ((k:Int)+1)=((k+1:Nat):Int):=by rw[IntKind.wrap_i64];omega
      have mx:=List.getElem_mem hlt;have hst:Gu t.arms[k]=true-> ∀x∈t.arms.take (k+1),Gu x=true:=On hlt hp;have hsn:In t (k+1)=In t k+Dw t.arms[k].comps:=by rw[In,Vm hlt,In];omega
      have x0:=Ck Ci t.arms k hlt 0 (by decide);rw[Mt] at x0;have x0z:=x0;rw[Nat.add_zero] at x0z;have x1:=Ck Ci t.arms k hlt 1 (by decide);rw[Mu] at x1;obtain⟨x,hx⟩: ∃x,x=t.arms[k]:=⟨_,rfl⟩;rw[<-hx] at x0 x0z x1 mx hst hsn;have fx:=f7.2 x mx;have fn:=Pn fx.2;have fc:=fx.1.1;have hwe:IntKind.i64.wrap ((In t k:Nat)+(Dw x.comps:Int))=((In t (k+1):Nat):Int):=by
       rw[hsn,IntKind.wrap_i64];omega
      simp(disch:=omega)only[go_sem,gr1,e1,e3,e4,Dm,hlt2,hfl,jD,x0,x0z,x1];refine Ae.monoR (Lw G _ x.comps fx.2) ?_;cases h3:x.comps.all Fc
      ·simp(disch:=omega)only[go_sem,gr1,e1,e3,e4,Dm,hlt2,hfl,jD,x0,x0z,x1];exact Wj.sub sK (.refl ⟨by rw[hR,Gz mx (by simp [Gu,h3])];rfl,rfl⟩)
      have hpos: ¬((Dw x.comps:Nat):Int)<0:=by omega
      simp(disch:=omega)only[go_sem,gr1,e1,e3,e4,Dm,hlt2,hfl,jD,x0,x0z,x1,hpos];refine Ae.monoR (Om G _ x.c (by omega)) ?_;cases h4:Kg x.c
      ·simp(disch:=omega)only[go_sem,gr1,e1,e3,e4,Dm,hlt2,hfl,jD,x0,x0z,x1];exact Wj.sub sK (.refl ⟨by rw[hR,Gz mx (by simp [Gu,h4])];rfl,rfl⟩)
      simp(disch:=omega)only[go_sem,gr1,e1,e3,e4,Dm,hlt2,hfl,jD,x0,x0z,x1,hwe];refine⟨k+1,_,Ws.refl _,(hI _ _ _).2 ?_,by omega⟩;simp(disch:=omega)only[go_sem,e1,e3,e4,hwd,hwe];(repeat' apply And.intro)<;>(try first | rfl | assumption | omega);exact hst (by simp [Gu,h3,h4])
     ·have:k=t.arms.length:=by omega
      subst this;have hall:=Rk hp;have hN:In t t.arms.length=Dw t.comps+Pk t.arms:=by rw[In,List.take_length]
      have hlt': ¬(t.arms.length:Int)<(t.arms.length:Int):=by omega
      simp(disch:=omega)only[go_sem,gr1,e1,e3,e4,Dm,hlt'];exact Wj.sub sK (.refl ⟨by rw[hR,hall,hN,jS];congr 2;simp;omega,rfl⟩)
set_option maxHeartbeats 400000000 in
theorem Bu6 (t:Typ) (ht:Np 1048576 t):Ae Tryz.prog G 70 [.agg (Dp t)] H (Ba (.bool (Jr t)) H):=by
 have ht':=ht;obtain⟨f0,f1,f2,f3,f4,f5,f6,f7⟩:=ht;refine Aa Tryz.func70 Tryz.call70 rfl (by kernel_rfl) ?_;simp(disch:=omega)only[go_sem,DVal.cells];intro r1 hr1;dsimp only at hr1;obtain⟨K,hK⟩: ∃K',K'=upd H r1 (some (.cells (Dp t) 62)):=⟨_,rfl⟩;rw[<-hK];have gr1:K r1=some (.cells (Dp t) 62):=by rw[hK];exact Ac _ _ _
 have sK:Sub H K:=by rw[hK];exact(Sub.refl _).new hr1 _
 clear hK hr1;have w:=Xs G K t.names 64 f0;rw[dW] at w
 repeat' first
  | with_reducible refine Ae.monoR (Co G K t.lo f1) ?_
  | with_reducible refine Ae.monoR (Co G K t.hi f2) ?_
  | with_reducible refine Ae.monoR (Ci5 G K t.sub f3) ?_
  | with_reducible refine Ae.monoR (Ci6 G K t.disc f4) ?_
  | with_reducible refine Ae.monoR w ?_
  | with_reducible refine Ae.monoR (Rj G K t.lo t.hi f1 f2) ?_
  | with_reducible refine Ae.monoR (Vk G K t.sub f3) ?_
  | with_reducible refine Ae.monoR (Af9 G K t.disc f4) ?_
  | with_reducible refine Ae.monoR (Bu5 G K t ht') ?_
  | simp(disch:=omega)only[go_sem,gr1,dW,Cv,Dm, *]
  | (with_reducible refine Qd ?_ ?_<;>intro hb)
  | (with_reducible refine Sb ?_ ?_<;>intro hb)
  | (clear w ht' f0 f1 f2 f3 f4 f5 f6 f7 gr1;refine Wj.sub sK (.refl ?_);refine⟨?_,rfl⟩;simp only[decide_eq_true_eq,decide_eq_false_iff_not,Es7] at*;simp [Jr,Af7,Aq1,Af6, *];done)
end
end Go.Dl

-- Chapter 4: the writer of package shape: words (printed by gen_ta.py).
namespace Go.Dl
open Go Go.Proofs
set_option maxRecDepth 100000
def SAt (B:Ab) (r:Nat) (ts:List Tok) (H:Ab):Prop:= ∃v,Df (upd B r (some (.cells [v] 150))) 31 4 ts.length (ts.flatMap Af) v H
def SrC (P:Program) (G:Nat->DVal) (f:FuncId) (args:List DVal) (t:List Tok):Prop:=
 ∀B r ts H,B r=none->ts.length+t.length<=1000000000->SAt B r ts H->Ae P G f (.optr r 0::args) H (fun e H'=>e= .ret (.optr r 0)/\SAt B r (ts++t) H')
section
variable {B B1 H H':Ab} {r x:Nat} {ts:List Tok}
theorem SAt.keep (h:SAt B r ts H) {o:DObj} (hx:B x=some o) (n:x≠r):H x=some o:=by
 obtain⟨v,h⟩:=h;exact h.keep (by rw[Em _ _ _ _ n];exact hx)
theorem SAt.lo (h:SAt B r ts H) (hx:H x=none):B x=none/\x≠r:=by
 obtain⟨v,h⟩:=h;have:=h.sub.lo hx;simp only[upd] at this;split at this
 ·cases this
 ·exact⟨this,‹_›⟩
theorem SAt.frame (h:SAt B r ts H) (hx:H x=none) (o:DObj):SAt (upd B x (some o)) r ts (upd H x (some o)):=by
 have n:=(h.lo hx).2;obtain⟨v,h⟩:=h;refine⟨v, ?_⟩;rw[Ay6 n.symm];exact h.frame hx o
theorem SAt.less (h:SAt B r ts H) (s:Sub B1 B):SAt B1 r ts H:=by
 obtain⟨v,h⟩:=h;exact⟨v,h.less (s.both r _)⟩
theorem SAt.drop {o:DObj} (h:SAt (upd B x (some o)) r ts H) (hx:B x=none):SAt B r ts H:=h.less ((Sub.refl B).new hx _)
end
section
variable {G:Nat->DVal} {H:Ab}
set_option maxHeartbeats 4000000 in
theorem Yr (hG:GX G) (ws:List (List UInt8)):SrC Tryz.prog G 114 [dW ws] (ws.map Aj):=by
 intro B r ts H hB hlen hw;rw[jK] at hlen;refine Aa Tryz.func114 Tryz.call114 rfl (by kernel_rfl) ?_;simp(disch:=omega)only[go_sem,dW];obtain⟨I,hI⟩: ∃I:Nat->(Nat->DVal)->Ab->Prop,∀j env heap,I j env heap↔(env 0= .optr r 0/\env 8=dW ws/\env 9=dI ws.length/\env 10=dI j/\j<=ws.length/\SAt B r (ts++(ws.take j).map Aj) heap):=⟨_,fun _ _ _=>Iff.rfl⟩;refine Dt1.run I (fun j=>ws.length-j) 0 ((hI _ _ _).2 ?_) ?_
 ·simp(disch:=omega)only[go_sem];(repeat' apply And.intro)<;>(try first | rfl | assumption | omega);simpa using hw
 ·intro j env heap hi;obtain⟨e0,e8,e9,e10,hj,hwj⟩:=(hI _ _ _).1 hi;by_cases hlt:j<ws.length
  ·have hlt':(j:Int)<(ws.length:Int):=by omega
   have hw1:IntKind.i64.wrap ((j:Int)+1)=((j+1:Nat):Int):=by rw[IntKind.wrap_i64];omega
   have Aw:(ws.map DVal.str)[j]? =some (.str ws[j]):=by rw[List.getElem?_map,List.getElem?_eq_getElem hlt];rfl
   have hml:(ws.map DVal.str).length=ws.length:=jK _;have htk:(ws.take (j+1)).map Aj=(ws.take j).map Aj++ [Aj ws[j]]:=by rw[List.take_add_one,List.getElem?_eq_getElem hlt,Option.toList_some,List.map_append,List.map_singleton]
   obtain⟨s,hse⟩: ∃s,s=ws[j]:=⟨_,rfl⟩;rw[<-hse] at Aw htk;simp(disch:=omega)only[go_sem,e0,e8,e9,e10,hlt',dW,Aw,hml,jD];intro r6 hr6;dsimp only at hr6;simp(disch:=omega)only[go_sem,e0,e8,e9,e10];obtain⟨v,hv⟩:=hwj;have gr:=hv.keep (Ac _ _ _);have n6:r≠r6:=Am hr6 gr;have m6:=n6.symm;have hl2:(ts++(ws.take j).map Aj).length<=1000000000:=by rw[jC,jK,List.length_take];omega
   refine(Ae3 hG _ s).mono ?_;rintro _ H2 ⟨rfl,rfl⟩;cases hkb:As4 s with
   | true=>
    have hk:Aj s=⟨2,0,s,0⟩:=by rw[Aj,Dz,hkb];rfl
    simp(disch:=omega)only[go_sem,e0,e8,e9,e10];refine Ak (by kernel_rfl) pL8 (by kernel_rfl) ?_;simp(disch:=omega)only[go_sem,e0,e8,e9,e10,gr,n6,m6];intro r24 hr24;dsimp only at hr24;have n24:r≠r24:=Am hr24 (Ph gr n6);have m24:=n24.symm;have hv6:=(hv.new hr6 _).new hr24 (some (.cells (Af (Aj s)) 31));simp(disch:=omega)only[go_sem,e0,e8,e9,e10,gr,n6,m6,n24,m24];rw[hk] at hv6;refine Df.append (m:=1) hv6 rfl (by omega) fun v2 H6 hv2=> ?_;have g6:=hv2.keep (Ac _ _ _);obtain⟨j1,j2⟩:=hv2.cell1;simp(disch:=omega)only[go_sem,e0,e8,e9,e10,g6,j1,j2];refine⟨j+1,_,Ws.refl _,(hI _ _ _).2 ?_,by omega⟩;simp(disch:=omega)only[go_sem,e0,e8,e9,e10,hw1];(repeat' apply And.intro)<;>(try first | rfl | assumption | omega);refine⟨v2, ?_⟩;have hv3:=hv2.at (Ac _ _ _) (some (.cells [v2] 150));rw[Ht] at hv3;rw[htk,<-jO,Ea,hk,jC,jQ];exact hv3
   | false=>
    have hk:Aj s=⟨4,0,s,0⟩:=by rw[Aj,Dz,hkb];rfl
    simp(disch:=omega)only[go_sem,e0,e8,e9,e10];refine Ak (by kernel_rfl) pL8 (by kernel_rfl) ?_;simp(disch:=omega)only[go_sem,e0,e8,e9,e10,gr,n6,m6];intro r24 hr24;dsimp only at hr24;have n24:r≠r24:=Am hr24 (Ph gr n6);have m24:=n24.symm;have hv6:=(hv.new hr6 _).new hr24 (some (.cells (Af (Aj s)) 31));simp(disch:=omega)only[go_sem,e0,e8,e9,e10,gr,n6,m6,n24,m24];rw[hk] at hv6;refine Df.append (m:=1) hv6 rfl (by omega) fun v2 H6 hv2=> ?_;have g6:=hv2.keep (Ac _ _ _);obtain⟨j1,j2⟩:=hv2.cell1;simp(disch:=omega)only[go_sem,e0,e8,e9,e10,g6,j1,j2];refine⟨j+1,_,Ws.refl _,(hI _ _ _).2 ?_,by omega⟩;simp(disch:=omega)only[go_sem,e0,e8,e9,e10,hw1];(repeat' apply And.intro)<;>(try first | rfl | assumption | omega);refine⟨v2, ?_⟩;have hv3:=hv2.at (Ac _ _ _) (some (.cells [v2] 150));rw[Ht] at hv3;rw[htk,<-jO,Ea,hk,jC,jQ];exact hv3
  ·have:j=ws.length:=by omega
   subst this;have hlt': ¬(ws.length:Int)<(ws.length:Int):=by omega
   rw[List.take_length] at hwj;simp(disch:=omega)only[go_sem,e0,e8,e9,e10,hlt'];exact Wj.refl ⟨rfl,hwj⟩
set_option maxHeartbeats 4000000 in
theorem Cu9 (hG:GX G) (ws:List (List UInt8)) {B H:Ab} {r q:Nat} {ts:List Tok} (hq:B q=some (.cells (ws.map .str) 9)) (hB:B r=none) (hlen:ts.length+(ws.map Aj).length<=1000000000) (hw:SAt B r ts H):
  Ae Tryz.prog G 114 [.optr r 0, .oslice 1 q 0 ws.length ws.length] H (fun e H'=>e= .ret (.optr r 0)/\SAt B r (ts++ws.map Aj) H'):=by
 have nqr:q≠r:=fun e=>by rw[e,hB] at hq;cases hq
 rw[jK] at hlen;refine Aa Tryz.func114 Tryz.call114 rfl (by kernel_rfl) ?_;simp(disch:=omega)only[go_sem,dW];obtain⟨I,hI⟩: ∃I:Nat->(Nat->DVal)->Ab->Prop,∀j env heap,I j env heap↔(env 0= .optr r 0/\env 8= .oslice 1 q 0 ws.length ws.length/\env 9=dI ws.length/\env 10=dI j/\j<=ws.length/\SAt B r (ts++(ws.take j).map Aj) heap):=⟨_,fun _ _ _=>Iff.rfl⟩;refine Dt1.run I (fun j=>ws.length-j) 0 ((hI _ _ _).2 ?_) ?_
 ·simp(disch:=omega)only[go_sem];(repeat' apply And.intro)<;>(try first | rfl | assumption | omega);simpa using hw
 ·intro j env heap hi;obtain⟨e0,e8,e9,e10,hj,hwj⟩:=(hI _ _ _).1 hi;have gq:=hwj.keep hq nqr;by_cases hlt:j<ws.length
  ·have hlt':(j:Int)<(ws.length:Int):=by omega
   have hw1:IntKind.i64.wrap ((j:Int)+1)=((j+1:Nat):Int):=by rw[IntKind.wrap_i64];omega
   have Aw:(ws.map DVal.str)[j]? =some (.str ws[j]):=by rw[List.getElem?_map,List.getElem?_eq_getElem hlt];rfl
   have hml:(ws.map DVal.str).length=ws.length:=jK _;have htk:(ws.take (j+1)).map Aj=(ws.take j).map Aj++ [Aj ws[j]]:=by rw[List.take_add_one,List.getElem?_eq_getElem hlt,Option.toList_some,List.map_append,List.map_singleton]
   obtain⟨s,hse⟩: ∃s,s=ws[j]:=⟨_,rfl⟩;rw[<-hse] at Aw htk;simp(disch:=omega)only[go_sem,e0,e8,e9,e10,hlt',gq,Aw,hml,jD];intro r6 hr6;dsimp only at hr6;simp(disch:=omega)only[go_sem,e0,e8,e9,e10];obtain⟨v,hv⟩:=hwj;have gr:=hv.keep (Ac _ _ _);have n6:r≠r6:=Am hr6 gr;have m6:=n6.symm;have hl2:(ts++(ws.take j).map Aj).length<=1000000000:=by rw[jC,jK,List.length_take];omega
   refine(Ae3 hG _ s).mono ?_;rintro _ H2 ⟨rfl,rfl⟩;cases hkb:As4 s with
   | true=>
    have hk:Aj s=⟨2,0,s,0⟩:=by rw[Aj,Dz,hkb];rfl
    simp(disch:=omega)only[go_sem,e0,e8,e9,e10];refine Ak (by kernel_rfl) pL8 (by kernel_rfl) ?_;simp(disch:=omega)only[go_sem,e0,e8,e9,e10,gr,n6,m6];intro r24 hr24;dsimp only at hr24;have n24:r≠r24:=Am hr24 (Ph gr n6);have m24:=n24.symm;have hv6:=(hv.new hr6 _).new hr24 (some (.cells (Af (Aj s)) 31));simp(disch:=omega)only[go_sem,e0,e8,e9,e10,gr,n6,m6,n24,m24];rw[hk] at hv6;refine Df.append (m:=1) hv6 rfl (by omega) fun v2 H6 hv2=> ?_;have g6:=hv2.keep (Ac _ _ _);obtain⟨j1,j2⟩:=hv2.cell1;simp(disch:=omega)only[go_sem,e0,e8,e9,e10,g6,j1,j2];refine⟨j+1,_,Ws.refl _,(hI _ _ _).2 ?_,by omega⟩;simp(disch:=omega)only[go_sem,e0,e8,e9,e10,hw1];(repeat' apply And.intro)<;>(try first | rfl | assumption | omega);refine⟨v2, ?_⟩;have hv3:=hv2.at (Ac _ _ _) (some (.cells [v2] 150));rw[Ht] at hv3;rw[htk,<-jO,Ea,hk,jC,jQ];exact hv3
   | false=>
    have hk:Aj s=⟨4,0,s,0⟩:=by rw[Aj,Dz,hkb];rfl
    simp(disch:=omega)only[go_sem,e0,e8,e9,e10];refine Ak (by kernel_rfl) pL8 (by kernel_rfl) ?_;simp(disch:=omega)only[go_sem,e0,e8,e9,e10,gr,n6,m6];intro r24 hr24;dsimp only at hr24;have n24:r≠r24:=Am hr24 (Ph gr n6);have m24:=n24.symm;have hv6:=(hv.new hr6 _).new hr24 (some (.cells (Af (Aj s)) 31));simp(disch:=omega)only[go_sem,e0,e8,e9,e10,gr,n6,m6,n24,m24];rw[hk] at hv6;refine Df.append (m:=1) hv6 rfl (by omega) fun v2 H6 hv2=> ?_;have g6:=hv2.keep (Ac _ _ _);obtain⟨j1,j2⟩:=hv2.cell1;simp(disch:=omega)only[go_sem,e0,e8,e9,e10,g6,j1,j2];refine⟨j+1,_,Ws.refl _,(hI _ _ _).2 ?_,by omega⟩;simp(disch:=omega)only[go_sem,e0,e8,e9,e10,hw1];(repeat' apply And.intro)<;>(try first | rfl | assumption | omega);refine⟨v2, ?_⟩;have hv3:=hv2.at (Ac _ _ _) (some (.cells [v2] 150));rw[Ht] at hv3;rw[htk,<-jO,Ea,hk,jC,jQ];exact hv3
  ·have:j=ws.length:=by omega
   subst this;have hlt': ¬(ws.length:Int)<(ws.length:Int):=by omega
   rw[List.take_length] at hwj;simp(disch:=omega)only[go_sem,e0,e8,e9,e10,hlt'];exact Wj.refl ⟨rfl,hwj⟩
end
section
variable {G:Nat->DVal} {H B:Ab} {r:Nat} {ts:List Tok}
theorem SAt.ne {x:Nat} (h:SAt B r ts H) (hx:H x=none):r≠x:=fun e=>(h.lo hx).2 e.symm
theorem SAt.start {B:Ab} {r:Nat} (hr:B r=none):SAt B r [] (upd B r (some (.cells [.nilSlice] 150))):=⟨_, .inl ⟨rfl,rfl,rfl,Sub.refl _⟩⟩
theorem SAt.cell (h:SAt B r ts H) (hr:B r=none): ∃v,H r=some (.cells [v] 150)/\Qg H v B (Aq ts):=by
 obtain⟨v,h⟩:=h;exact⟨v,h.keep (Ac _ _ _),Qg.own (h.less ((Sub.refl B).up hr _))⟩
theorem SAt.sub (h:SAt B r ts H) (hr:B r=none):Sub B H:=by
 obtain⟨v,h⟩:=h;exact((Sub.refl B).up hr _).trans h.sub
def SQ (B:Ab) (r:Nat) (ts:List Tok) (e:DEnd) (H':Ab):Prop:=e= .ret (.optr r 0)/\SAt B r ts H'
theorem Wg (hG:GX G) (s:List UInt8) {q:Nat} (hq:H q=none) (hB:B r=none) (hlen:ts.length+1<=1000000000) (hw:SAt B r ts H):Ae Tryz.prog G 114 [.optr r 0, .oslice 1 q 0 1 1] (upd H q (some (.cells [.str s] 9))) (SQ B r (ts++ [Aj s])):=by
 refine Ae.fzA q hq ?_;have n:r≠q:=hw.ne hq;simp only[fzs,fz,if_neg n,if_pos];exact Yr hG [s] B r ts H hB hlen hw
theorem Fq1 (hG:GX G) (s t:List UInt8) {q:Nat} (hq:H q=none) (hB:B r=none) (hlen:ts.length+2<=1000000000) (hw:SAt B r ts H):Ae Tryz.prog G 114 [.optr r 0, .oslice 1 q 0 2 2] (upd H q (some (.cells [.str s, .str t] 9))) (SQ B r (ts++ [Aj s,Aj t])):=by
 refine Ae.fzA q hq ?_;have n:r≠q:=hw.ne hq;simp only[fzs,fz,if_neg n,if_pos];exact Yr hG [s,t] B r ts H hB hlen hw
end
end Go.Dl

-- Chapter 3: the reference's tokens: words, joining, operators.
namespace Go.Dl
open Go Go.Proofs
set_option maxRecDepth 100000
def Bb (s:List UInt8):Tok:=⟨4,0,s,0⟩
def Az (s:List UInt8):Tok:=⟨2,0,s,0⟩
section
variable {G:Nat->DVal} {H:Ab}
theorem Cn (G:Nat->DVal) (H:Ab) (s:List UInt8):Ae Tryz.prog G 295 [.str s] H (Ba (.agg (Af (Bb s))) H):=by
 refine Aa Tryz.func295 Tryz.call295 rfl (by kernel_rfl) ?_;simp(disch:=omega)only[go_sem];intro r hr;dsimp only at hr;simp(disch:=omega)only[go_sem];exact Wj.sub ((Sub.refl H).new hr _) (.refl ⟨rfl,rfl⟩)
theorem Ho (G:Nat->DVal) (H:Ab) (s:List UInt8):Ae Tryz.prog G 354 [.str s] H (Ba (.agg (Af (Az s))) H):=by
 refine Aa Tryz.func354 Tryz.call354 rfl (by kernel_rfl) ?_;simp(disch:=omega)only[go_sem];intro r hr;dsimp only at hr;simp(disch:=omega)only[go_sem];exact Wj.sub ((Sub.refl H).new hr _) (.refl ⟨rfl,rfl⟩)
theorem Ug (G:Nat->DVal) (H:Ab) (s:List UInt8):Ae Tryz.prog G 355 [.str s] H (Ba (.agg (Af (Dq s))) H):=by
 refine Aa Tryz.func355 Tryz.call355 rfl (by kernel_rfl) ?_;simp(disch:=omega)only[go_sem];intro r hr;dsimp only at hr;simp(disch:=omega)only[go_sem];exact Wj.sub ((Sub.refl H).new hr _) (.refl ⟨rfl,rfl⟩)
theorem Bm3 (G:Nat->DVal) (H:Ab) (v:DVal):Ae Tryz.prog G 353 [v] H (Ba v H):=by
 refine Aa Tryz.func353 Tryz.call353 rfl (by kernel_rfl) ?_;simp(disch:=omega)only[go_sem];exact Wj.refl ⟨rfl,rfl⟩
theorem Rt (G:Nat->DVal) (H:Ab) (t:Tok) {q:Nat} (hq:H q=none):Ae Tryz.prog G 353 [.oslice 4 q 0 1 1] (upd H q (some (.cells (Af t) 31))) (Ba (Aq [t]) H):=by
 refine Ae.fzA q hq ?_;have e:fzs q (Af t) [.oslice 4 q 0 1 1]= [Aq [t]]:=by simp [fzs,fz,Aq,Af]
 rw[e];exact Bm3 G H _
theorem Dp2 (G:Nat->DVal) (H:Ab) (t u:Tok) {q:Nat} (hq:H q=none):Ae Tryz.prog G 353 [.oslice 4 q 0 2 2] (upd H q (some (.cells (Af t++Af u) 31))) (Ba (Aq [t,u]) H):=by
 refine Ae.fzA q hq ?_;have e:fzs q (Af t++Af u) [.oslice 4 q 0 2 2]= [Aq [t,u]]:=by simp [fzs,fz,Aq,Af]
 rw[e];exact Bm3 G H _
def Bh4 (tss:List (List Tok)):DVal:= .vslice (tss.map Aq) tss.length
set_option maxHeartbeats 4000000 in
theorem Uh (G:Nat->DVal) (H:Ab) (tss:List (List Tok)) (hn:tss.length<=1000000) (hl:(tss.flatten).length<=100000000):Ae Tryz.prog G 291 [Bh4 tss] H (fun e H'=> ∃v,e= .ret v/\Df H 31 4 (tss.flatten).length ((tss.flatten).flatMap Af) v H'):=by
 refine Aa Tryz.func291 Tryz.call291 rfl (by kernel_rfl) ?_;simp(disch:=omega)only[go_sem];obtain⟨I,hI⟩: ∃I:Nat->(Nat->DVal)->Ab->Prop,∀j env heap,I j env heap↔(env 0=Bh4 tss/\env 4=dI j/\j<=tss.length/\Df H 31 4 ((tss.take j).flatten).length (((tss.take j).flatten).flatMap Af) (env 3) heap):=⟨_,fun _ _ _=>Iff.rfl⟩;refine Dt1.run I (fun j=>tss.length-j) 0 ((hI _ _ _).2 ?_) ?_
 ·simp(disch:=omega)only[go_sem];(repeat' apply And.intro)<;>(try first | rfl | assumption | omega);exact Df.nil _ _ (Sub.refl H)
 ·intro j env heap hi;obtain⟨e0,e4,hj,hv⟩:=(hI _ _ _).1 hi;by_cases hlt:j<tss.length
  ·have hlt':(j:Int)<(tss.length:Int):=by omega
   have hw1:IntKind.i64.wrap ((j:Int)+1)=((j+1:Nat):Int):=by rw[IntKind.wrap_i64];omega
   have Aw:(tss.map Aq)[j]? =some (Aq tss[j]):=by rw[List.getElem?_map,List.getElem?_eq_getElem hlt];rfl
   have hml:(tss.map Aq).length=tss.length:=jK _;have htk:(tss.take (j+1)).flatten=(tss.take j).flatten++tss[j]:=by rw[Hl hlt,List.flatten_append];simp
   have hle:((tss.take (j+1)).flatten).length<=(tss.flatten).length:=by
    conv=>rhs;rw[<-List.take_append_drop (j+1) tss,List.flatten_append,jC]
    omega
   obtain⟨ts,hts⟩: ∃ts,ts=tss[j]:=⟨_,rfl⟩;rw[<-hts] at Aw htk;rw[htk,jC] at hle;have hnl:=Al Gc ts;have hft:(ts.flatMap Af).take (ts.length*4)=ts.flatMap Af:=List.take_of_length_le (by omega);obtain⟨v,hve⟩: ∃v,v=env 3:=⟨_,rfl⟩;rw[<-hve] at hv;have hone:(ts.flatMap Af).all (fun d=>d.one)=true:=by
    rw[List.all_eq_true];intro d hd;obtain⟨t,_,hd⟩:=List.mem_flatMap.1 hd;exact List.all_eq_true.1 (Ce8 t) d hd
   simp(disch:=omega)only[go_sem,e0,e4,<-hve,hlt',Bh4,Aw,hml,jD,Aq,hft,hone,hnl];refine Df.append (m:=ts.length) hv hnl (by omega) fun v2 H2 hv2=> ?_;simp(disch:=omega)only[go_sem,e0,e4];refine⟨j+1,_,Ws.refl _,(hI _ _ _).2 ?_,by omega⟩;simp(disch:=omega)only[go_sem,e0,e4,hw1];(repeat' apply And.intro)<;>(try first | rfl | assumption | omega);rw[htk,jC,List.flatMap_append];exact hv2
  ·have:j=tss.length:=by omega
   subst this;have hlt': ¬(tss.length:Int)<(tss.length:Int):=by omega
   rw[List.take_length] at hv;simp(disch:=omega)only[go_sem,e0,e4,hlt',Bh4];exact Wj.refl ⟨_,rfl,hv⟩
theorem Fq2 (G:Nat->DVal) (H:Ab) (tss:List (List Tok)) (hn:tss.length<=1000000) (hl:(tss.flatten).length<=100000000):Ae Tryz.prog G 291 [Bh4 tss] H (Ba (Aq tss.flatten) H):=(Uh G H tss hn hl).frozenJ
theorem Cw (G:Nat->DVal) (H:Ab) (tss:List (List Tok)) {q n:Nat} (hq:H q=none) (hn:tss.length=n) (hn2:n<=1000000) (hl:(tss.flatten).length<=100000000):Ae Tryz.prog G 291 [.oslice 1 q 0 n n] (upd H q (some (.cells (tss.map Aq) 32))) (Ba (Aq tss.flatten) H):=by
 subst hn;refine Ae.fzA q hq ?_;have e:fzs q (tss.map Aq) [.oslice 1 q 0 tss.length tss.length]= [Bh4 tss]:=by
  simp only[fzs,fz,if_pos,jJ,Nat.mul_one,Bh4];rw[List.take_of_length_le (by simp)]
 rw[e];exact Fq2 G H tss hn2 hl
end
end Go.Dl
