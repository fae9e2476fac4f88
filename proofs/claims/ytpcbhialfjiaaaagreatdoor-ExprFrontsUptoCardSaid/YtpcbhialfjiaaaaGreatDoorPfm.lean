/- The data level and the contracts of the functions that are reached (part 13). -/
import Derived.Test.YtpcbhialfjiaaaaGreatDoorPfl
set_option linter.unusedSimpArgs false
set_option linter.unusedVariables false
set_option linter.unusedSectionVars false
-- Chapter 3: ExprFronts (its walk: under way).
namespace Go.Dl
open Go Go.Proofs
set_option maxRecDepth 100000
theorem Bi3 (l:List Ch):Gm l l=true:=(Xi l l).2 rfl
section
variable {G:Nat->DVal}
set_option maxHeartbeats 8000000 in
theorem Ze (hG:GX G) (H:Ac) (l:List Tok) (level:Int) (hT:Gq l):
  Ai Tryz.prog G 4 [Cc l,dI level] H (Au (.bool true) H):=by
 by_cases h6:600<l.length
 ·have h6':(600:Int)<(l.length:Int):=by omega
  refine Ad Tryz.func4 Tryz.call4 rfl (by kernel_rfl) ?_;simp(disch:=omega) only[go_sem,↓reduceIte,Cc,h6'];refine(Aj2 hG H).mono ?_;rintro _ H1 ⟨rfl,rfl⟩;simp(disch:=omega) only[go_sem,↓reduceIte];exact Nu.refl ⟨rfl,rfl⟩
 ·have h6': ¬(600:Int)<(l.length:Int):=by omega
  have hl:l.length<=800000:=by omega
  obtain⟨p,hp⟩: ∃p,p=Ee l level:=⟨_,rfl⟩;obtain⟨q,hq⟩: ∃q,q=Po l:=⟨_,rfl⟩;obtain⟨u,hu⟩: ∃u,u=Pp l:=⟨_,rfl⟩;have hpb:=Bs1 hT level (by omega);have hqb:=Bi0 hT (by omega);have hub:=Bi1 hT (by omega);rw[<-hp] at hpb;rw[<-hq] at hqb;rw[<-hu] at hub;refine Ad Tryz.func4 Tryz.call4 rfl (by kernel_rfl) ?_;simp(disch:=omega) only[go_sem,↓reduceIte,Cc,h6'];refine(Tg hG H level hl hT).mono ?_;rw[<-hp];rintro _ H1 ⟨rfl,eH1⟩;replace eH1:=eH1.symm;subst eH1;have hl1:=Ah p.1;have ho1:=Al p.1;simp(disch:=omega) only[go_sem,↓reduceIte,Xg,dE];intro r5 h5;dsimp only at h5;simp(disch:=omega) only[go_sem,↓reduceIte,hl1,ho1];obtain⟨K1,hK1⟩: ∃K,K=upd H r5 (some (.cells (dEx p.1) 27)):=⟨_,rfl⟩;rw[<-hK1];have g5:K1 r5=some (.cells (dEx p.1) 27):=by rw[hK1];exact Aa _ _ _
  have hs1:Sub H K1:=by rw[hK1];exact(Sub.refl _).new h5 _
  clear hK1;refine(Bh9 K1 level hl hT).mono ?_;rw[<-hp];rintro _ H1 ⟨rfl,eH1⟩;replace eH1:=eH1.symm;subst eH1;simp(disch:=omega) only[go_sem,↓reduceIte,Xg,dE];intro r8 h8;dsimp only at h8;simp(disch:=omega) only[go_sem,↓reduceIte,hl1,ho1];obtain⟨K2,hK2⟩: ∃K,K=upd K1 r8 (some (.cells (dEx p.1) 27)):=⟨_,rfl⟩;rw[<-hK2];have g58:K2 r5=some (.cells (dEx p.1) 27):=by rw[hK2];exact Ag g5 (Ae h8 g5)
  have g8:K2 r8=some (.cells (dEx p.1) 27):=by rw[hK2];exact Aa _ _ _
  have hs2:Sub H K2:=by rw[hK2];exact hs1.new h8 _
  clear hK2;refine(Av5 hG K2 hl hT).mono ?_;rw[<-hq];rintro _ H2 ⟨rfl,eH2⟩;replace eH2:=eH2.symm;subst eH2;simp(disch:=omega) only[go_sem,↓reduceIte,Vi];refine(Al7 K2 hl hT).mono ?_;rw[<-hq];rintro _ H3 ⟨rfl,eH3⟩;replace eH3:=eH3.symm;subst eH3;simp(disch:=omega) only[go_sem,↓reduceIte,Vi];refine(Av6 hG K2 hl hT).mono ?_;rw[<-hu];rintro _ H4 ⟨rfl,eH4⟩;replace eH4:=eH4.symm;subst eH4;simp(disch:=omega) only[go_sem,↓reduceIte,Vj];refine(Al8 K2 hl hT).mono ?_;rw[<-hu];rintro _ H5 ⟨rfl,eH5⟩;replace eH5:=eH5.symm;subst eH5;simp(disch:=omega) only[go_sem,↓reduceIte,Vj];refine Aj (by kernel_rfl) (.take 0 (.take 1 (.go 2 [] (.take 3 (.take 4 (.take 5 (.take 6 (.take 7 (.take 8 (.take 9 (.take 10 (.take 11 (.take 12 (.take 13 (.take 14 (.take 16 (.go 15 [16] (.go 17 [] (.go 18 [] (.take 19 (.take 20 .done))))))))))))))))))))) (by kernel_rfl) ?_;simp(disch:=omega) only[go_sem,↓reduceIte,g58,g8,hl1,ho1];refine Ai.monoR (Af5 G p.1 (by omega) p.1 K2) ?_;rw[Br2];simp(disch:=omega) only[go_sem,↓reduceIte,g58,g8,hl1,ho1];refine Ai.monoR (Yn G p.1 K2 (by omega)) ?_;simp(disch:=omega) only[go_sem,↓reduceIte,g58,g8,hl1,ho1];refine Ai.monoR (Yn G p.1 K2 (by omega)) ?_;simp(disch:=omega) only[go_sem,↓reduceIte,g58,g8,hl1,ho1];have hln:(Fw p.1).length<=1099511627776:=by rw[Wv];have:=Ob p.1;omega
  refine Ai.monoR (Bi2 G _ _ K2 hln hln) ?_;rw[decide_eq_true rfl];simp(disch:=omega) only[go_sem,↓reduceIte,g58,g8,hl1,ho1];try simp(disch:=omega) only[go_sem,↓reduceIte]
  refine Ai.monoR (Af6 G K2 q.1 q.1 (by omega)) ?_;rw[Bg7];simp(disch:=omega) only[go_sem,↓reduceIte];refine Ai.monoR (Vc G K2 u.1 u.1 (by omega)) ?_;rw[Bi3];simp(disch:=omega) only[go_sem,↓reduceIte];refine(Aj2 hG K2).mono ?_;rintro _ H1 ⟨rfl,rfl⟩;simp(disch:=omega) only[go_sem,↓reduceIte];exact Nu.sub hs2 (.refl ⟨rfl,rfl⟩)
end
end Go.Dl
