/- The data level and the contracts of the functions that are reached (part 9). -/
import Derived.Test.YtlahodmjhbpfiaaGreatDoorPuh
set_option linter.unusedSimpArgs false
set_option linter.unusedVariables false
set_option linter.unusedSectionVars false
-- Chapter 3: the reference's tokens of an expression.
namespace Go.Dl
open Go Go.Proofs
set_option maxRecDepth 100000
theorem Ef3:Aj Qf=Bb Qf:=by rw[Aj,show Dz Qf=4 by decide+kernel];rfl
theorem Bv0:Aj Ep=Bb Ep:=by rw[Aj,show Dz Ep=4 by decide+kernel];rfl
theorem Bv1:Aj Fu=Bb Fu:=by rw[Aj,show Dz Fu=4 by decide+kernel];rfl
theorem Sw:Aj By=Bb By:=by rw[Aj,show Dz By=4 by decide+kernel];rfl
theorem Sx:Aj Cb=Bb Cb:=by rw[Aj,show Dz Cb=4 by decide+kernel];rfl
theorem Fi8:Aj Ak9=Az Ak9:=by rw[Aj,show Dz Ak9=2 by decide+kernel];rfl
theorem Bv2:Aj Hu=Az Hu:=by rw[Aj,show Dz Hu=2 by decide+kernel];rfl
theorem Fq4:Aj wIf=Az wIf:=by rw[Aj,show Dz wIf=2 by decide+kernel];rfl
theorem Eu6:Aj Rg=Az Rg:=by rw[Aj,show Dz Rg=2 by decide+kernel];rfl
theorem Eu7:Aj Sj=Az Sj:=by rw[Aj,show Dz Sj=2 by decide+kernel];rfl
theorem Bm5:Aj wIn=Az wIn:=by rw[Aj,show Dz wIn=2 by decide+kernel];rfl
theorem Bv3:Aj Tw=Az Tw:=by rw[Aj,show Dz Tw=2 by decide+kernel];rfl
section
variable {G:Nat->DVal}
set_option maxHeartbeats 16000000 in
theorem Dp3 (G:Nat->DVal) (e:Ex) (hf:Ca e=true) (hlen:(Ai e).length<=100000) (ih: ∀x∈parts e,Zd Tryz.prog G 290 x) (H:Ab):
  Ae Tryz.prog G 290 [.agg (dEx e)] H (Ba (Aq (Ai e)) H):=by
 have hfl:=Al Ad e.l;have hlv:=Af1 e;refine Aa Tryz.func290 Tryz.call290 rfl (by kernel_rfl) ?_;simp(disch:=omega)only[go_sem,DVal.cells];intro r2 hr2;dsimp only at hr2;obtain⟨K,hK⟩: ∃K',K'=upd H r2 (some (.cells (dEx e) 27)):=⟨_,rfl⟩;rw[<-hK];have g2:K r2=some (.cells (dEx e) 27):=by rw[hK];exact Ac _ _ _
 have hs:Sub H K:=by rw[hK];exact(Sub.refl H).new hr2 _
 simp(disch:=omega)only[go_sem,g2];by_cases hk:e.kind=1
 ·have ht:Ai e= [Bl1 e.n]:=Ec8 hk;rw[ht];simp(disch:=omega)only[go_sem,hk,g2];intro q1 hq1;dsimp only at hq1;have nq1:r2≠q1:=Am hq1 g2;try simp(disch:=omega)only[go_sem,g2,nq1,Af,Ap,Ar,Au,jA,jB,jE,jJ,jL,jI,jG,jH]
  refine Ae.monoR (Rt G K (Bl1 e.n) hq1) ?_;try simp(disch:=omega)only[go_sem,g2,Af]
  exact Wj.sub hs (.refl ⟨rfl,rfl⟩)
 have z1:=hk;clear hk;by_cases hk:e.kind=2
 ·have ht:Ai e= [Az Hu]:=by rw[Ec9 hk,Bv2]
  rw[ht];simp(disch:=omega)only[go_sem,hk,g2];refine Ae.monoR (Ho G K Hu) ?_;try simp(disch:=omega)only[go_sem,g2,Af]
  intro q1 hq1;dsimp only at hq1;have nq1:r2≠q1:=Am hq1 g2;try simp(disch:=omega)only[go_sem,g2,nq1,Af,Ap,Ar,Au,jA,jB,jE,jJ,jL,jI,jG,jH]
  refine Ae.monoR (Rt G K (Az Hu) hq1) ?_;try simp(disch:=omega)only[go_sem,g2,Af]
  exact Wj.sub hs (.refl ⟨rfl,rfl⟩)
 have z2:=hk;clear hk;by_cases hk:e.kind=3
 ·have ht:Ai e= [Dq e.s]:=Ed0 hk;rw[ht];simp(disch:=omega)only[go_sem,hk,g2];refine Ae.monoR (Ug G K e.s) ?_;try simp(disch:=omega)only[go_sem,g2,Af]
  intro q1 hq1;dsimp only at hq1;have nq1:r2≠q1:=Am hq1 g2;try simp(disch:=omega)only[go_sem,g2,nq1,Af,Ap,Ar,Au,jA,jB,jE,jJ,jL,jI,jG,jH]
  refine Ae.monoR (Rt G K (Dq e.s) hq1) ?_;try simp(disch:=omega)only[go_sem,g2,Af]
  exact Wj.sub hs (.refl ⟨rfl,rfl⟩)
 have z3:=hk;clear hk;by_cases hk:e.kind=4
 ·obtain⟨⟨x,hx,_⟩,_⟩:=Do6 (.inl hk) hf;have ht:Ai e= [Ai x,[Bb Qf,Dq e.s]].flatten:=by rw[Ed1 hk,<-Ef3];unfold tE;rw[hx];simp
  have hj: [Ai x,[Bb Qf,Dq e.s]].flatten.length<=100000000:=by rw[<-ht];omega
  rw[ht];have hll:e.l.length=1:=by rw[hx];rfl
  have hl0:=lx0 hx;obtain⟨hx1,hx2⟩:=ih x (Bd (by rw[hx];simp));simp(disch:=omega)only[go_sem,hk];refine Ak (by kernel_rfl) pL21 (by kernel_rfl) ?_;simp(disch:=omega)only[go_sem,g2,hll,hfl,hl0];refine Ae.monoR (hx2 K) ?_;try simp(disch:=omega)only[go_sem,g2,Af]
  refine Ae.monoR (Cn G K Qf) ?_;try simp(disch:=omega)only[go_sem,g2,Af]
  refine Ae.monoR (Ug G K e.s) ?_;try simp(disch:=omega)only[go_sem,g2,Af]
  intro q1 hq1;dsimp only at hq1;have nq1:r2≠q1:=Am hq1 g2;try simp(disch:=omega)only[go_sem,g2,nq1,Af,Ap,Ar,Au,jA,jB,jE,jJ,jL,jI,jG,jH]
  refine Ae.monoR (Dp2 G K (Bb Qf) (Dq e.s) hq1) ?_;try simp(disch:=omega)only[go_sem,g2,Af,nq1]
  intro q2 hq2;dsimp only at hq2;have nq2:r2≠q2:=Am hq2 g2;try simp(disch:=omega)only[go_sem,g2,nq2,Af,Ap,Ar,Au,jA,jB,jE,jJ,jL,jI,jG,jH]
  refine Ae.monoR (Cw G K [Ai x,[Bb Qf,Dq e.s]] hq2 rfl (by simp) hj) ?_;try simp(disch:=omega)only[go_sem,g2,Af,nq1,nq2]
  exact Wj.sub hs (.refl ⟨rfl,rfl⟩)
 have z4:=hk;clear hk;by_cases hk:e.kind=5
 ·obtain⟨⟨x,hx,_⟩,_⟩:=ff5 hk hf;have ht:Ai e= [Ai x,[Bb Qf,Az Ak9]].flatten:=by rw[Ed2 hk,<-Ef3,<-Fi8];unfold tE;rw[hx];simp
  have hj: [Ai x,[Bb Qf,Az Ak9]].flatten.length<=100000000:=by rw[<-ht];omega
  rw[ht];have hll:e.l.length=1:=by rw[hx];rfl
  have hl0:=lx0 hx;obtain⟨hx1,hx2⟩:=ih x (Bd (by rw[hx];simp));simp(disch:=omega)only[go_sem,hk,g2,hll,hfl,hl0];refine Ae.monoR (hx2 K) ?_;try simp(disch:=omega)only[go_sem,g2,Af]
  refine Ae.monoR (Cn G K Qf) ?_;try simp(disch:=omega)only[go_sem,g2,Af]
  refine Ae.monoR (Ho G K Ak9) ?_;try simp(disch:=omega)only[go_sem,g2,Af]
  intro q1 hq1;dsimp only at hq1;have nq1:r2≠q1:=Am hq1 g2;try simp(disch:=omega)only[go_sem,g2,nq1,Af,Ap,Ar,Au,jA,jB,jE,jJ,jL,jI,jG,jH]
  refine Ae.monoR (Dp2 G K (Bb Qf) (Az Ak9) hq1) ?_;try simp(disch:=omega)only[go_sem,g2,Af,nq1]
  intro q2 hq2;dsimp only at hq2;have nq2:r2≠q2:=Am hq2 g2;try simp(disch:=omega)only[go_sem,g2,nq2,Af,Ap,Ar,Au,jA,jB,jE,jJ,jL,jI,jG,jH]
  refine Ae.monoR (Cw G K [Ai x,[Bb Qf,Az Ak9]] hq2 rfl (by simp) hj) ?_;try simp(disch:=omega)only[go_sem,g2,Af,nq1,nq2]
  exact Wj.sub hs (.refl ⟨rfl,rfl⟩)
 have z5:=hk;clear hk;by_cases hk:e.kind=6
 ·obtain⟨⟨x,hx,_⟩,_⟩:=Do6 (.inr hk) hf;have ht:Ai e= [Ai x,[Bb Fu,Dq e.s]].flatten:=by rw[Ed3 hk,<-Bv1];unfold tE;rw[hx];simp
  have hj: [Ai x,[Bb Fu,Dq e.s]].flatten.length<=100000000:=by rw[<-ht];omega
  rw[ht];have hll:e.l.length=1:=by rw[hx];rfl
  have hl0:=lx0 hx;obtain⟨hx1,hx2⟩:=ih x (Bd (by rw[hx];simp));simp(disch:=omega)only[go_sem,hk];refine Ak (by kernel_rfl) pL21 (by kernel_rfl) ?_;simp(disch:=omega)only[go_sem,g2,hll,hfl,hl0];refine Ae.monoR (hx2 K) ?_;try simp(disch:=omega)only[go_sem,g2,Af]
  refine Ae.monoR (Cn G K Fu) ?_;try simp(disch:=omega)only[go_sem,g2,Af]
  refine Ae.monoR (Ug G K e.s) ?_;try simp(disch:=omega)only[go_sem,g2,Af]
  intro q1 hq1;dsimp only at hq1;have nq1:r2≠q1:=Am hq1 g2;try simp(disch:=omega)only[go_sem,g2,nq1,Af,Ap,Ar,Au,jA,jB,jE,jJ,jL,jI,jG,jH]
  refine Ae.monoR (Dp2 G K (Bb Fu) (Dq e.s) hq1) ?_;try simp(disch:=omega)only[go_sem,g2,Af,nq1]
  intro q2 hq2;dsimp only at hq2;have nq2:r2≠q2:=Am hq2 g2;try simp(disch:=omega)only[go_sem,g2,nq2,Af,Ap,Ar,Au,jA,jB,jE,jJ,jL,jI,jG,jH]
  refine Ae.monoR (Cw G K [Ai x,[Bb Fu,Dq e.s]] hq2 rfl (by simp) hj) ?_;try simp(disch:=omega)only[go_sem,g2,Af,nq1,nq2]
  exact Wj.sub hs (.refl ⟨rfl,rfl⟩)
 have z6:=hk;clear hk;by_cases hk:e.kind=7
 ·obtain⟨⟨x,hx,_⟩,ha,_⟩:=ff7 hk hf;have ht:Ai e= [Ai x,[Bb By],taE e,[Bb Cb]].flatten:=by rw[Ed4 hk,<-Sw,<-Sx];unfold tE;rw[hx];simp
  have hta:(taE e).length<=100000:=by rw[ht] at hlen;simp at hlen;omega
  have hj: [Ai x,[Bb By],taE e,[Bb Cb]].flatten.length<=100000000:=by rw[<-ht];omega
  rw[ht];have hll:e.l.length=1:=by rw[hx];rfl
  have hl0:=lx0 hx;obtain⟨hx1,hx2⟩:=ih x (Bd (by rw[hx];simp));have har:=Bb1 ha;have hal:e.a.length<=1000000:=by
   rw[Kf,jF,jF,jF,decide_eq_true_eq,decide_eq_true_eq] at ha;omega
  have hao: ∀a∈e.a,Zd Tryz.prog G 290 a.e/\ ∀c∈a.c,∀x∈c.l,Zd Tryz.prog G 290 x:=fun a h=>⟨ih _ (Jg h (Ky a)),fun c hc x hx=>ih _ (Jg h (Qe hc hx))⟩;have hra:=(Bm4 G K e.a hal har hao (by unfold taE at hta;omega)).frozenJ;simp(disch:=omega)only[go_sem,hk];refine Ak (by kernel_rfl) pL35 (by kernel_rfl) ?_;simp(disch:=omega)only[go_sem,g2,hll,hfl,hl0];refine Ae.monoR (hx2 K) ?_;try simp(disch:=omega)only[go_sem,g2,Af]
  refine Ae.monoR (Cn G K By) ?_;try simp(disch:=omega)only[go_sem,g2,Af]
  intro q1 hq1;dsimp only at hq1;have nq1:r2≠q1:=Am hq1 g2;try simp(disch:=omega)only[go_sem,g2,nq1,Af,Ap,Ar,Au,jA,jB,jE,jJ,jL,jI,jG,jH]
  refine Ae.monoR (Rt G K (Bb By) hq1) ?_;try simp(disch:=omega)only[go_sem,g2,Af,nq1]
  refine Ae.monoR (hra) ?_;try simp(disch:=omega)only[go_sem,g2,Af,nq1]
  refine Ae.monoR (Cn G K Cb) ?_;try simp(disch:=omega)only[go_sem,g2,Af,nq1]
  intro q2 hq2;dsimp only at hq2;have nq2:r2≠q2:=Am hq2 g2;try simp(disch:=omega)only[go_sem,g2,nq2,Af,Ap,Ar,Au,jA,jB,jE,jJ,jL,jI,jG,jH]
  refine Ae.monoR (Rt G K (Bb Cb) hq2) ?_;try simp(disch:=omega)only[go_sem,g2,Af,nq1,nq2]
  intro q3 hq3;dsimp only at hq3;have nq3:r2≠q3:=Am hq3 g2;try simp(disch:=omega)only[go_sem,g2,nq3,Af,Ap,Ar,Au,jA,jB,jE,jJ,jL,jI,jG,jH]
  refine Ae.monoR (Cw G K [Ai x,[Bb By],taE e,[Bb Cb]] hq3 rfl (by simp) hj) ?_;try simp(disch:=omega)only[go_sem,g2,Af,nq1,nq2,nq3]
  exact Wj.sub hs (.refl ⟨rfl,rfl⟩)
 have z7:=hk;clear hk;by_cases hk:e.kind=8
 ·obtain⟨⟨x,y,hx,_⟩,_⟩:=ff8 hk hf;have hll:e.l.length=2:=by rw[hx];rfl
  have hl0:=lx0 hx;have hl1:=lx1 hx;have hy0:(e.l.flatMap dEx)[9]? =some (.int .u8 y.kind):=by
   rw[hx,List.flatMap_cons,List.flatMap_cons,Ki x,Ki y];rfl
  obtain⟨hx1,hx2⟩:=ih x (Bd (by rw[hx];simp));obtain⟨hy1,hy2⟩:=ih y (Bd (by rw[hx];simp));by_cases hb:y.kind=9\/y.kind=10
  ·have ht:Ai e= [Ai x,[Bb Fu],Ai y].flatten:=by
    have hb':Tz y.kind=true:=by rw[Tz,Bool.or_eq_true,decide_eq_true_eq,decide_eq_true_eq];exact hb
    rw[Db9 hk,<-Bv1];unfold tE;rw[hx];show Ai x++Aj Fu::Ty (!Tz y.kind) (Ai y)=_;rw[hb'];simp [Ty]
   have hj: [Ai x,[Bb Fu],Ai y].flatten.length<=100000000:=by rw[<-ht];omega
   rw[ht];rcases hb with b9 | b10
   ·simp(disch:=omega)only[go_sem,hk,g2,hll,hfl,hy0,b9];refine Ak (by kernel_rfl) pL23 (by kernel_rfl) ?_;simp(disch:=omega)only[go_sem,g2,hll,hfl,hl0,hl1];refine Ae.monoR (hx2 K) ?_;try simp(disch:=omega)only[go_sem,g2,Af]
    refine Ae.monoR (Cn G K Fu) ?_;try simp(disch:=omega)only[go_sem,g2,Af]
    intro q1 hq1;dsimp only at hq1;have nq1:r2≠q1:=Am hq1 g2;try simp(disch:=omega)only[go_sem,g2,nq1,Af,Ap,Ar,Au,jA,jB,jE,jJ,jL,jI,jG,jH]
    refine Ae.monoR (Rt G K (Bb Fu) hq1) ?_;try simp(disch:=omega)only[go_sem,g2,Af,nq1]
    try simp(disch:=omega)only[go_sem,g2,hll,hfl,hl0,hl1]
    refine Ae.monoR (hy2 K) ?_;try simp(disch:=omega)only[go_sem,g2,Af,nq1]
    intro q2 hq2;dsimp only at hq2;have nq2:r2≠q2:=Am hq2 g2;try simp(disch:=omega)only[go_sem,g2,nq2,Af,Ap,Ar,Au,jA,jB,jE,jJ,jL,jI,jG,jH]
    refine Ae.monoR (Cw G K [Ai x,[Bb Fu],Ai y] hq2 rfl (by simp) hj) ?_;try simp(disch:=omega)only[go_sem,g2,Af,nq1,nq2]
    exact Wj.sub hs (.refl ⟨rfl,rfl⟩)
   ·simp(disch:=omega)only[go_sem,hk,g2,hll,hfl,hy0,b10];refine Ak (by kernel_rfl) pL23 (by kernel_rfl) ?_;simp(disch:=omega)only[go_sem,g2,hll,hfl,hl0,hl1];refine Ae.monoR (hx2 K) ?_;try simp(disch:=omega)only[go_sem,g2,Af]
    refine Ae.monoR (Cn G K Fu) ?_;try simp(disch:=omega)only[go_sem,g2,Af]
    intro q1 hq1;dsimp only at hq1;have nq1:r2≠q1:=Am hq1 g2;try simp(disch:=omega)only[go_sem,g2,nq1,Af,Ap,Ar,Au,jA,jB,jE,jJ,jL,jI,jG,jH]
    refine Ae.monoR (Rt G K (Bb Fu) hq1) ?_;try simp(disch:=omega)only[go_sem,g2,Af,nq1]
    try simp(disch:=omega)only[go_sem,g2,hll,hfl,hl0,hl1]
    refine Ae.monoR (hy2 K) ?_;try simp(disch:=omega)only[go_sem,g2,Af,nq1]
    intro q2 hq2;dsimp only at hq2;have nq2:r2≠q2:=Am hq2 g2;try simp(disch:=omega)only[go_sem,g2,nq2,Af,Ap,Ar,Au,jA,jB,jE,jJ,jL,jI,jG,jH]
    refine Ae.monoR (Cw G K [Ai x,[Bb Fu],Ai y] hq2 rfl (by simp) hj) ?_;try simp(disch:=omega)only[go_sem,g2,Af,nq1,nq2]
    exact Wj.sub hs (.refl ⟨rfl,rfl⟩)
  ·obtain⟨b9,b10⟩: ¬y.kind=9/\ ¬y.kind=10:=⟨fun h=>hb (.inl h),fun h=>hb (.inr h)⟩;have ht:Ai e= [Ai x,[Bb Fu,Bb By],Ai y,[Bb Cb]].flatten:=by
    have hb':Tz y.kind=false:=by rw[Tz,decide_eq_false b9,decide_eq_false b10];rfl
    rw[Db9 hk,<-Bv1,<-Sw,<-Sx];unfold tE;rw[hx];show Ai x++Aj Fu::Ty (!Tz y.kind) (Ai y)=_;rw[hb'];simp [Ty]
   have hj: [Ai x,[Bb Fu,Bb By],Ai y,[Bb Cb]].flatten.length<=100000000:=by rw[<-ht];omega
   rw[ht];simp(disch:=omega)only[go_sem,hk,g2,hll,hfl,hy0,b9,b10];refine Ak (by kernel_rfl) pL27 (by kernel_rfl) ?_;simp(disch:=omega)only[go_sem,g2,hll,hfl,hl0,hl1];refine Ae.monoR (hx2 K) ?_;try simp(disch:=omega)only[go_sem,g2,Af]
   refine Ae.monoR (Cn G K Fu) ?_;try simp(disch:=omega)only[go_sem,g2,Af]
   refine Ae.monoR (Cn G K By) ?_;try simp(disch:=omega)only[go_sem,g2,Af]
   intro q1 hq1;dsimp only at hq1;have nq1:r2≠q1:=Am hq1 g2;try simp(disch:=omega)only[go_sem,g2,nq1,Af,Ap,Ar,Au,jA,jB,jE,jJ,jL,jI,jG,jH]
   refine Ae.monoR (Dp2 G K (Bb Fu) (Bb By) hq1) ?_;try simp(disch:=omega)only[go_sem,g2,Af,nq1]
   try simp(disch:=omega)only[go_sem,g2,hll,hfl,hl0,hl1]
   refine Ae.monoR (hy2 K) ?_;try simp(disch:=omega)only[go_sem,g2,Af,nq1]
   refine Ae.monoR (Cn G K Cb) ?_;try simp(disch:=omega)only[go_sem,g2,Af,nq1]
   intro q2 hq2;dsimp only at hq2;have nq2:r2≠q2:=Am hq2 g2;try simp(disch:=omega)only[go_sem,g2,nq2,Af,Ap,Ar,Au,jA,jB,jE,jJ,jL,jI,jG,jH]
   refine Ae.monoR (Rt G K (Bb Cb) hq2) ?_;try simp(disch:=omega)only[go_sem,g2,Af,nq1,nq2]
   intro q3 hq3;dsimp only at hq3;have nq3:r2≠q3:=Am hq3 g2;try simp(disch:=omega)only[go_sem,g2,nq3,Af,Ap,Ar,Au,jA,jB,jE,jJ,jL,jI,jG,jH]
   refine Ae.monoR (Cw G K [Ai x,[Bb Fu,Bb By],Ai y,[Bb Cb]] hq3 rfl (by simp) hj) ?_;try simp(disch:=omega)only[go_sem,g2,Af,nq1,nq2,nq3]
   exact Wj.sub hs (.refl ⟨rfl,rfl⟩)
 have z8:=hk;clear hk;by_cases hk:e.kind=9
 ·obtain⟨hx,ha,_⟩:=ff9 hk hf;have ht:Ai e= [[Bb By],taE e,[Bb Cb]].flatten:=by rw[Ed5 hk,<-Sw,<-Sx];simp
  have hta:(taE e).length<=100000:=by rw[ht] at hlen;simp at hlen;omega
  have hj: [[Bb By],taE e,[Bb Cb]].flatten.length<=100000000:=by rw[<-ht];omega
  rw[ht];rw[Gs] at ha;simp only[jF,decide_eq_true_eq,Bool.not_eq_true'] at ha;have har:=Qh ha.2;have hal:e.a.length<=1000000:=by omega
  have hao: ∀a∈e.a,Zd Tryz.prog G 290 a.e/\ ∀c∈a.c,∀x∈c.l,Zd Tryz.prog G 290 x:=fun a h=>⟨ih _ (Jg h (Ky a)),fun c hc x hx=>ih _ (Jg h (Qe hc hx))⟩;have hra:=(Bm4 G K e.a hal har hao (by unfold taE at hta;omega)).frozenJ;simp(disch:=omega)only[go_sem,hk];refine Ak (by kernel_rfl) pL49 (by kernel_rfl) ?_;simp(disch:=omega)only[go_sem,g2];refine Ae.monoR (Cn G K By) ?_;try simp(disch:=omega)only[go_sem,g2,Af]
  intro q1 hq1;dsimp only at hq1;have nq1:r2≠q1:=Am hq1 g2;try simp(disch:=omega)only[go_sem,g2,nq1,Af,Ap,Ar,Au,jA,jB,jE,jJ,jL,jI,jG,jH]
  refine Ae.monoR (Rt G K (Bb By) hq1) ?_;try simp(disch:=omega)only[go_sem,g2,Af,nq1]
  refine Ae.monoR (hra) ?_;try simp(disch:=omega)only[go_sem,g2,Af,nq1]
  refine Ae.monoR (Cn G K Cb) ?_;try simp(disch:=omega)only[go_sem,g2,Af,nq1]
  intro q2 hq2;dsimp only at hq2;have nq2:r2≠q2:=Am hq2 g2;try simp(disch:=omega)only[go_sem,g2,nq2,Af,Ap,Ar,Au,jA,jB,jE,jJ,jL,jI,jG,jH]
  refine Ae.monoR (Rt G K (Bb Cb) hq2) ?_;try simp(disch:=omega)only[go_sem,g2,Af,nq1,nq2]
  intro q3 hq3;dsimp only at hq3;have nq3:r2≠q3:=Am hq3 g2;try simp(disch:=omega)only[go_sem,g2,nq3,Af,Ap,Ar,Au,jA,jB,jE,jJ,jL,jI,jG,jH]
  refine Ae.monoR (Cw G K [[Bb By],taE e,[Bb Cb]] hq3 rfl (by simp) hj) ?_;try simp(disch:=omega)only[go_sem,g2,Af,nq1,nq2,nq3]
  exact Wj.sub hs (.refl ⟨rfl,rfl⟩)
 have z9:=hk;clear hk;by_cases hk:e.kind=10
 ·obtain⟨⟨x,y,z,hx⟩,_⟩:=Fh1 hk hf;have ht:Ai e= [[Bb By,Az wIf],Ai x,[Az Rg],Ai y,[Az Sj],Ai z,[Bb Cb]].flatten:=by
   rw[Ct5 hk,<-Sw,<-Fq4,<-Eu6,<-Eu7,<-Sx];unfold tE;rw[hx];simp
  have hj: [[Bb By,Az wIf],Ai x,[Az Rg],Ai y,[Az Sj],Ai z,[Bb Cb]].flatten.length<=100000000:=by rw[<-ht];omega
  rw[ht];have hll:e.l.length=3:=by rw[hx];rfl
  have hl0:=lx0 hx;have hl1:=lx1 hx;have hl2:=lx2 hx;obtain⟨hx1,hx2⟩:=ih x (Bd (by rw[hx];simp));obtain⟨hy1,hy2⟩:=ih y (Bd (by rw[hx];simp));obtain⟨hz1,hz2⟩:=ih z (Bd (by rw[hx];simp));simp(disch:=omega)only[go_sem,hk];refine Ak (by kernel_rfl) pL9 (by kernel_rfl) ?_;simp(disch:=omega)only[go_sem,g2,hll,hfl,hl0,hl1,hl2];refine Ae.monoR (Cn G K By) ?_;try simp(disch:=omega)only[go_sem,g2,Af]
  refine Ae.monoR (Ho G K wIf) ?_;try simp(disch:=omega)only[go_sem,g2,Af]
  intro q1 hq1;dsimp only at hq1;have nq1:r2≠q1:=Am hq1 g2;try simp(disch:=omega)only[go_sem,g2,nq1,Af,Ap,Ar,Au,jA,jB,jE,jJ,jL,jI,jG,jH]
  refine Ae.monoR (Dp2 G K (Bb By) (Az wIf) hq1) ?_;try simp(disch:=omega)only[go_sem,g2,Af,nq1]
  try simp(disch:=omega)only[go_sem,g2,hll,hfl,hl0,hl1,hl2]
  refine Ae.monoR (hx2 K) ?_;try simp(disch:=omega)only[go_sem,g2,Af,nq1]
  refine Ae.monoR (Ho G K Rg) ?_;try simp(disch:=omega)only[go_sem,g2,Af,nq1]
  intro q2 hq2;dsimp only at hq2;have nq2:r2≠q2:=Am hq2 g2;try simp(disch:=omega)only[go_sem,g2,nq2,Af,Ap,Ar,Au,jA,jB,jE,jJ,jL,jI,jG,jH]
  refine Ae.monoR (Rt G K (Az Rg) hq2) ?_;try simp(disch:=omega)only[go_sem,g2,Af,nq1,nq2]
  try simp(disch:=omega)only[go_sem,g2,hll,hfl,hl0,hl1,hl2]
  refine Ae.monoR (hy2 K) ?_;try simp(disch:=omega)only[go_sem,g2,Af,nq1,nq2]
  refine Ae.monoR (Ho G K Sj) ?_;try simp(disch:=omega)only[go_sem,g2,Af,nq1,nq2]
  intro q3 hq3;dsimp only at hq3;have nq3:r2≠q3:=Am hq3 g2;try simp(disch:=omega)only[go_sem,g2,nq3,Af,Ap,Ar,Au,jA,jB,jE,jJ,jL,jI,jG,jH]
  refine Ae.monoR (Rt G K (Az Sj) hq3) ?_;try simp(disch:=omega)only[go_sem,g2,Af,nq1,nq2,nq3]
  try simp(disch:=omega)only[go_sem,g2,hll,hfl,hl0,hl1,hl2]
  refine Ae.monoR (hz2 K) ?_;try simp(disch:=omega)only[go_sem,g2,Af,nq1,nq2,nq3]
  refine Ae.monoR (Cn G K Cb) ?_;try simp(disch:=omega)only[go_sem,g2,Af,nq1,nq2,nq3]
  intro q4 hq4;dsimp only at hq4;have nq4:r2≠q4:=Am hq4 g2;try simp(disch:=omega)only[go_sem,g2,nq4,Af,Ap,Ar,Au,jA,jB,jE,jJ,jL,jI,jG,jH]
  refine Ae.monoR (Rt G K (Bb Cb) hq4) ?_;try simp(disch:=omega)only[go_sem,g2,Af,nq1,nq2,nq3,nq4]
  intro q5 hq5;dsimp only at hq5;have nq5:r2≠q5:=Am hq5 g2;try simp(disch:=omega)only[go_sem,g2,nq5,Af,Ap,Ar,Au,jA,jB,jE,jJ,jL,jI,jG,jH]
  try simp(disch:=omega)only[go_sem,repl7]
  refine Ae.monoR (Cw G K [[Bb By,Az wIf],Ai x,[Az Rg],Ai y,[Az Sj],Ai z,[Bb Cb]] hq5 rfl (by simp) hj) ?_;try simp(disch:=omega)only[go_sem,g2,Af,nq1,nq2,nq3,nq4,nq5]
  exact Wj.sub hs (.refl ⟨rfl,rfl⟩)
 have z10:=hk;clear hk;by_cases hk:e.kind=11
 ·obtain⟨⟨x,hx⟩,⟨o,ho,hoo⟩,_⟩:=Fh2 hk hf;have ht:Ai e= [(Eh o).map Aj,Ay x (Jp e)].flatten:=by
   rw[Ct6 hk,ho,jD];unfold pE tE;rw[hx];simp [Ay]
  have hj: [(Eh o).map Aj,Ay x (Jp e)].flatten.length<=100000000:=by rw[<-ht];omega
  rw[ht];have hll:e.l.length=1:=by rw[hx];rfl
  have hl0:=lx0 hx;obtain⟨hx1,hx2⟩:=ih x (Bd (by rw[hx];simp));have hls:=Xt G K e 0 (.inl rfl) (.inl hk) (fun h=>absurd h (by omega));have hlp:Hg e 0=Jp e:=by
   have:Bo e≠1:=by
    unfold Bo;rcases hoo with h | h | h | h<;>subst h<;>simp [hk,ho]
   rw[Hg,if_neg (by omega),if_neg this]
  rw[hlp] at hls;simp(disch:=omega)only[go_sem,hk];refine Ak (by kernel_rfl) pL46 (by kernel_rfl) ?_;simp(disch:=omega)only[go_sem,g2,hll,hfl,hl0,ho];refine Ae.monoR (Bb5 G K o (by omega)) ?_;try simp(disch:=omega)only[go_sem,g2,Af]
  try simp(disch:=omega)only[go_sem,g2,hll,hfl,hl0]
  refine Ae.monoR (hls) ?_;try simp(disch:=omega)only[go_sem,g2,Af]
  refine Ae.monoR (Ek G K x (Jp e) (by omega) hx2) ?_;try simp(disch:=omega)only[go_sem,g2,Af]
  intro q1 hq1;dsimp only at hq1;have nq1:r2≠q1:=Am hq1 g2;try simp(disch:=omega)only[go_sem,g2,nq1,Af,Ap,Ar,Au,jA,jB,jE,jJ,jL,jI,jG,jH]
  refine Ae.monoR (Cw G K [(Eh o).map Aj,Ay x (Jp e)] hq1 rfl (by simp) hj) ?_;try simp(disch:=omega)only[go_sem,g2,Af,nq1]
  exact Wj.sub hs (.refl ⟨rfl,rfl⟩)
 have z11:=hk;clear hk;by_cases hk:e.kind=12
 ·obtain⟨⟨x,y,hx⟩,⟨o,ho,hoo⟩,_⟩:=Fh3 hk hf;have ht:Ai e= [Ay x (Ge e),(Eh o).map Aj,Ay y (Hk e)].flatten:=by
   rw[Ct7 hk,ho,jD];unfold pE tE;rw[hx];simp [Ay]
  have hj: [Ay x (Ge e),(Eh o).map Aj,Ay y (Hk e)].flatten.length<=100000000:=by rw[<-ht];omega
  rw[ht];have hll:e.l.length=2:=by rw[hx];rfl
  have hl0:=lx0 hx;have hl1:=lx1 hx;obtain⟨hx1,hx2⟩:=ih x (Bd (by rw[hx];simp));obtain⟨hy1,hy2⟩:=ih y (Bd (by rw[hx];simp));have hls:=Xt G K e 0 (.inl rfl) (.inr (.inl hk)) (fun _=>by omega);have hls2:=Xt G K e 1 (.inr rfl) (.inr (.inl hk)) (fun _=>by omega);rw[show Hg e 0=Ge e by rw[Hg,if_pos hk,if_pos rfl]] at hls;rw[show Hg e 1=Hk e by rw[Hg,if_pos hk,if_neg (by decide)]] at hls2;simp(disch:=omega)only[go_sem,hk];refine Ak (by kernel_rfl) pL26 (by kernel_rfl) ?_;simp(disch:=omega)only[go_sem,g2,hll,hfl,hl0,hl1,ho];refine Ae.monoR (hls) ?_;try simp(disch:=omega)only[go_sem,g2,Af]
  refine Ae.monoR (Ek G K x (Ge e) (by omega) hx2) ?_;try simp(disch:=omega)only[go_sem,g2,Af]
  try simp(disch:=omega)only[go_sem,g2,hll,hfl,hl0,hl1,ho]
  refine Ae.monoR (Bb5 G K o (by omega)) ?_;try simp(disch:=omega)only[go_sem,g2,Af]
  try simp(disch:=omega)only[go_sem,g2,hll,hfl,hl0,hl1]
  refine Ae.monoR (hls2) ?_;try simp(disch:=omega)only[go_sem,g2,Af]
  refine Ae.monoR (Ek G K y (Hk e) (by omega) hy2) ?_;try simp(disch:=omega)only[go_sem,g2,Af]
  intro q1 hq1;dsimp only at hq1;have nq1:r2≠q1:=Am hq1 g2;try simp(disch:=omega)only[go_sem,g2,nq1,Af,Ap,Ar,Au,jA,jB,jE,jJ,jL,jI,jG,jH]
  refine Ae.monoR (Cw G K [Ay x (Ge e),(Eh o).map Aj,Ay y (Hk e)] hq1 rfl (by simp) hj) ?_;try simp(disch:=omega)only[go_sem,g2,Af,nq1]
  exact Wj.sub hs (.refl ⟨rfl,rfl⟩)
 have z12:=hk;clear hk;have hk':e.kind=13\/e.kind=14:=by
  by_cases a:e.kind=13
  ·exact .inl a
  ·by_cases b:e.kind=14
   ·exact .inr b
   ·exfalso;unfold Ca at hf;simp [z1,z2,z3,z4,z5,z6,z7,z8,z9,z10,z11,z12,a,b] at hf
 obtain⟨hsh,_⟩:=Ee1 hk' hf;simp(disch:=omega)only[go_sem,z1,z2,z3,z4,z5,z6,z7,z8,z9,z10,z11,z12];refine Ae.monoR (Ho G K wIn) ?_;try simp(disch:=omega)only[go_sem,g2,Af]
 intro q1 hq1;dsimp only at hq1;have nq1:r2≠q1:=Am hq1 g2;try simp(disch:=omega)only[go_sem,g2,nq1,Af,Ap,Ar,Au,jA,jB,jE,jJ,jL,jI,jG,jH]
 refine Ae.monoR (Rt G K (Az wIn) hq1) ?_;try simp(disch:=omega)only[go_sem,g2,Af,nq1]
 rcases hk' with hk | hk
 ·simp(disch:=omega)only[go_sem,g2,hk];rcases hsh with⟨x,y,z,hx⟩ | ⟨x,y,hx,hy⟩
  ·have ht:Ai e= [[Ay x 2,[Az wIn],Ay y 2].flatten,[Bb Ep],Ay z 2].flatten:=by
    rw[Bt7 hk,Nz,if_pos (by rw[hx];rfl),<-Bv0];simp only[<-Bm5,<-Bv3];unfold pE tE;rw[hx];simp [Ay]
   have hj: [[Ay x 2,[Az wIn],Ay y 2].flatten,[Bb Ep],Ay z 2].flatten.length<=100000000:=by rw[<-ht];omega
   rw[ht];have hj1: [Ay x 2,[Az wIn],Ay y 2].flatten.length<=100000000:=by simp at hj⊢;omega
   have hll:e.l.length=3:=by rw[hx];rfl
   have hl0:=lx0 hx;have hl1:=lx1 hx;have hl2:=lx2 hx;obtain⟨hx1,hx2⟩:=ih x (Bd (by rw[hx];simp));obtain⟨hy1,hy2⟩:=ih y (Bd (by rw[hx];simp));obtain⟨hz1,hz2⟩:=ih z (Bd (by rw[hx];simp));refine Ak (by kernel_rfl) pL13 (by kernel_rfl) ?_;simp(disch:=omega)only[go_sem,g2,hll,hfl,hl0,hl1,hl2];refine Ae.monoR (Ek G K x 2 (by omega) hx2) ?_;try simp(disch:=omega)only[go_sem,g2,Af]
   try simp(disch:=omega)only[go_sem,g2,hll,hfl,hl0,hl1,hl2]
   refine Ae.monoR (Ek G K y 2 (by omega) hy2) ?_;try simp(disch:=omega)only[go_sem,g2,Af]
   intro q5 hq5;dsimp only at hq5;have nq5:r2≠q5:=Am hq5 g2;try simp(disch:=omega)only[go_sem,g2,nq5,Af,Ap,Ar,Au,jA,jB,jE,jJ,jL,jI,jG,jH]
   refine Ae.monoR (Cw G K [Ay x 2,[Az wIn],Ay y 2] hq5 rfl (by simp) hj1) ?_;try simp(disch:=omega)only[go_sem,g2,Af,nq5]
   simp(disch:=omega)only[go_sem,g2,hll];refine Ak (by kernel_rfl) pL29 (by kernel_rfl) ?_;simp(disch:=omega)only[go_sem,g2,hll,hfl,hl0,hl1,hl2];refine Ae.monoR (Cn G K Ep) ?_;try simp(disch:=omega)only[go_sem,g2,Af]
   intro q6 hq6;dsimp only at hq6;have nq6:r2≠q6:=Am hq6 g2;try simp(disch:=omega)only[go_sem,g2,nq6,Af,Ap,Ar,Au,jA,jB,jE,jJ,jL,jI,jG,jH]
   refine Ae.monoR (Rt G K (Bb Ep) hq6) ?_;try simp(disch:=omega)only[go_sem,g2,Af,nq6]
   try simp(disch:=omega)only[go_sem,g2,hll,hfl,hl0,hl1,hl2]
   refine Ae.monoR (Ek G K z 2 (by omega) hz2) ?_;try simp(disch:=omega)only[go_sem,g2,Af,nq6]
   intro q7 hq7;dsimp only at hq7;have nq7:r2≠q7:=Am hq7 g2;try simp(disch:=omega)only[go_sem,g2,nq7,Af,Ap,Ar,Au,jA,jB,jE,jJ,jL,jI,jG,jH]
   refine Ae.monoR (Cw G K [[Ay x 2,[Az wIn],Ay y 2].flatten,[Bb Ep],Ay z 2] hq7 rfl (by simp) hj) ?_;try simp(disch:=omega)only[go_sem,g2,Af,nq6,nq7]
   exact Wj.sub hs (.refl ⟨rfl,rfl⟩)
  ·have hpy:Ay y 2=Ai y:=by
    have:Bo y=5:=lv5 (by rw[Cq,jF,decide_eq_true_eq,decide_eq_true_eq] at hy;omega);rw[Ay,this];rfl
   have ht:Ai e= [Ay x 2,[Az wIn],Ay y 2].flatten:=by
    rw[Bt7 hk,Nz,if_neg (by rw[hx];simp),hpy];simp only[<-Bm5,<-Bv3];unfold pE tE;rw[hx];simp [Ay]
   have hj: [Ay x 2,[Az wIn],Ay y 2].flatten.length<=100000000:=by rw[<-ht];omega
   rw[ht];have hll:e.l.length=2:=by rw[hx];rfl
   have hl0:=lx0 hx;have hl1:=lx1 hx;obtain⟨hx1,hx2⟩:=ih x (Bd (by rw[hx];simp));obtain⟨hy1,hy2⟩:=ih y (Bd (by rw[hx];simp));refine Ak (by kernel_rfl) pL13 (by kernel_rfl) ?_;simp(disch:=omega)only[go_sem,g2,hll,hfl,hl0,hl1];refine Ae.monoR (Ek G K x 2 (by omega) hx2) ?_;try simp(disch:=omega)only[go_sem,g2,Af]
   try simp(disch:=omega)only[go_sem,g2,hll,hfl,hl0,hl1]
   refine Ae.monoR (Ek G K y 2 (by omega) hy2) ?_;try simp(disch:=omega)only[go_sem,g2,Af]
   intro q5 hq5;dsimp only at hq5;have nq5:r2≠q5:=Am hq5 g2;try simp(disch:=omega)only[go_sem,g2,nq5,Af,Ap,Ar,Au,jA,jB,jE,jJ,jL,jI,jG,jH]
   refine Ae.monoR (Cw G K [Ay x 2,[Az wIn],Ay y 2] hq5 rfl (by simp) hj) ?_;try simp(disch:=omega)only[go_sem,g2,Af,nq5]
   try simp(disch:=omega)only[go_sem,g2,hll]
   exact Wj.sub hs (.refl ⟨rfl,rfl⟩)
 ·simp(disch:=omega)only[go_sem,g2,hk];refine Ae.monoR (Ho G K Tw) ?_;try simp(disch:=omega)only[go_sem,g2,Af,nq1]
  refine Ae.monoR (Ho G K wIn) ?_;try simp(disch:=omega)only[go_sem,g2,Af,nq1]
  intro q2 hq2;dsimp only at hq2;have nq2:r2≠q2:=Am hq2 g2;try simp(disch:=omega)only[go_sem,g2,nq2,Af,Ap,Ar,Au,jA,jB,jE,jJ,jL,jI,jG,jH]
  refine Ae.monoR (Dp2 G K (Az Tw) (Az wIn) hq2) ?_;try simp(disch:=omega)only[go_sem,g2,Af,nq1,nq2]
  rcases hsh with⟨x,y,z,hx⟩ | ⟨x,y,hx,hy⟩
  ·have ht:Ai e= [[Ay x 2,[Az Tw,Az wIn],Ay y 2].flatten,[Bb Ep],Ay z 2].flatten:=by
    rw[Bt8 hk,Nz,if_pos (by rw[hx];rfl),<-Bv0];simp only[<-Bm5,<-Bv3];unfold pE tE;rw[hx];simp [Ay]
   have hj: [[Ay x 2,[Az Tw,Az wIn],Ay y 2].flatten,[Bb Ep],Ay z 2].flatten.length<=100000000:=by rw[<-ht];omega
   rw[ht];have hj1: [Ay x 2,[Az Tw,Az wIn],Ay y 2].flatten.length<=100000000:=by simp at hj⊢;omega
   have hll:e.l.length=3:=by rw[hx];rfl
   have hl0:=lx0 hx;have hl1:=lx1 hx;have hl2:=lx2 hx;obtain⟨hx1,hx2⟩:=ih x (Bd (by rw[hx];simp));obtain⟨hy1,hy2⟩:=ih y (Bd (by rw[hx];simp));obtain⟨hz1,hz2⟩:=ih z (Bd (by rw[hx];simp));refine Ak (by kernel_rfl) pL13 (by kernel_rfl) ?_;simp(disch:=omega)only[go_sem,g2,hll,hfl,hl0,hl1,hl2];refine Ae.monoR (Ek G K x 2 (by omega) hx2) ?_;try simp(disch:=omega)only[go_sem,g2,Af]
   try simp(disch:=omega)only[go_sem,g2,hll,hfl,hl0,hl1,hl2]
   refine Ae.monoR (Ek G K y 2 (by omega) hy2) ?_;try simp(disch:=omega)only[go_sem,g2,Af]
   intro q5 hq5;dsimp only at hq5;have nq5:r2≠q5:=Am hq5 g2;try simp(disch:=omega)only[go_sem,g2,nq5,Af,Ap,Ar,Au,jA,jB,jE,jJ,jL,jI,jG,jH]
   refine Ae.monoR (Cw G K [Ay x 2,[Az Tw,Az wIn],Ay y 2] hq5 rfl (by simp) hj1) ?_;try simp(disch:=omega)only[go_sem,g2,Af,nq5]
   simp(disch:=omega)only[go_sem,g2,hll];refine Ak (by kernel_rfl) pL29 (by kernel_rfl) ?_;simp(disch:=omega)only[go_sem,g2,hll,hfl,hl0,hl1,hl2];refine Ae.monoR (Cn G K Ep) ?_;try simp(disch:=omega)only[go_sem,g2,Af]
   intro q6 hq6;dsimp only at hq6;have nq6:r2≠q6:=Am hq6 g2;try simp(disch:=omega)only[go_sem,g2,nq6,Af,Ap,Ar,Au,jA,jB,jE,jJ,jL,jI,jG,jH]
   refine Ae.monoR (Rt G K (Bb Ep) hq6) ?_;try simp(disch:=omega)only[go_sem,g2,Af,nq6]
   try simp(disch:=omega)only[go_sem,g2,hll,hfl,hl0,hl1,hl2]
   refine Ae.monoR (Ek G K z 2 (by omega) hz2) ?_;try simp(disch:=omega)only[go_sem,g2,Af,nq6]
   intro q7 hq7;dsimp only at hq7;have nq7:r2≠q7:=Am hq7 g2;try simp(disch:=omega)only[go_sem,g2,nq7,Af,Ap,Ar,Au,jA,jB,jE,jJ,jL,jI,jG,jH]
   refine Ae.monoR (Cw G K [[Ay x 2,[Az Tw,Az wIn],Ay y 2].flatten,[Bb Ep],Ay z 2] hq7 rfl (by simp) hj) ?_;try simp(disch:=omega)only[go_sem,g2,Af,nq6,nq7]
   exact Wj.sub hs (.refl ⟨rfl,rfl⟩)
  ·have hpy:Ay y 2=Ai y:=by
    have:Bo y=5:=lv5 (by rw[Cq,jF,decide_eq_true_eq,decide_eq_true_eq] at hy;omega);rw[Ay,this];rfl
   have ht:Ai e= [Ay x 2,[Az Tw,Az wIn],Ay y 2].flatten:=by
    rw[Bt8 hk,Nz,if_neg (by rw[hx];simp),hpy];simp only[<-Bm5,<-Bv3];unfold pE tE;rw[hx];simp [Ay]
   have hj: [Ay x 2,[Az Tw,Az wIn],Ay y 2].flatten.length<=100000000:=by rw[<-ht];omega
   rw[ht];have hll:e.l.length=2:=by rw[hx];rfl
   have hl0:=lx0 hx;have hl1:=lx1 hx;obtain⟨hx1,hx2⟩:=ih x (Bd (by rw[hx];simp));obtain⟨hy1,hy2⟩:=ih y (Bd (by rw[hx];simp));refine Ak (by kernel_rfl) pL13 (by kernel_rfl) ?_;simp(disch:=omega)only[go_sem,g2,hll,hfl,hl0,hl1];refine Ae.monoR (Ek G K x 2 (by omega) hx2) ?_;try simp(disch:=omega)only[go_sem,g2,Af]
   try simp(disch:=omega)only[go_sem,g2,hll,hfl,hl0,hl1]
   refine Ae.monoR (Ek G K y 2 (by omega) hy2) ?_;try simp(disch:=omega)only[go_sem,g2,Af]
   intro q5 hq5;dsimp only at hq5;have nq5:r2≠q5:=Am hq5 g2;try simp(disch:=omega)only[go_sem,g2,nq5,Af,Ap,Ar,Au,jA,jB,jE,jJ,jL,jI,jG,jH]
   refine Ae.monoR (Cw G K [Ay x 2,[Az Tw,Az wIn],Ay y 2] hq5 rfl (by simp) hj) ?_;try simp(disch:=omega)only[go_sem,g2,Af,nq5]
   try simp(disch:=omega)only[go_sem,g2,hll]
   exact Wj.sub hs (.refl ⟨rfl,rfl⟩)
end
end Go.Dl

-- Chapter 3: the reference's Tokens, ArgTokens, ChoiceTokens; ExprTexts.
namespace Go.Dl
open Go Go.Proofs
set_option maxRecDepth 100000
section
variable {G:Nat->DVal}
theorem Dc5 (G:Nat->DVal) (e:Ex): ∀d,En d e=true->Ez e<=5000->Zd Tryz.prog G 290 e:=by
 refine Ex.ind (p:=fun e=> ∀d,En d e=true->Ez e<=5000->Zd Tryz.prog G 290 e) (fun e ih d hv hsz=> ?_) e;obtain⟨hf,hp⟩:=Jq hv;have hlen:=Bl9 e d hv;exact⟨by omega,fun H=>Dp3 G e hf (by omega) (fun x hx=>ih x hx (d+1) (hp x hx) (by have:=Sh hx;omega)) H⟩
theorem Ci8 {e:Ex} (h:Cl e=true):Ez e<=256:=by
 rw[Cl,jF,decide_eq_true_eq] at h;exact h.2
set_option maxHeartbeats 4000000 in
theorem Xv (G:Nat->DVal) (H:Ab) (l:List Ch) (hb:Lg l<=90000000000):Ae Tryz.prog G 361 [dCl l] H (Ba (.tuple [Aq (Ej l).1,dI (Ej l).2]) H):=by
 rw[Ej];refine Aa Tryz.func361 Tryz.call361 rfl (by kernel_rfl) ?_;simp(disch:=omega)only[go_sem];refine(Om G H l hb).mono ?_;rintro _ H1 ⟨rfl,rfl⟩;cases hm:Kg l with
 | false=>
  simp(disch:=omega)only[go_sem];exact Qg.fin (Sub.refl _) (Qg.tuple (.cons (Qg.nil (Sub.refl _)) (Px.keep (Sub.refl _) _))) ⟨rfl,rfl⟩
 | true=>
  have hlen:=Al7 hm;obtain⟨h1,-⟩:=Sp hm;have hll:l.length<=1000000:=by
   rw[Kg,jF] at hm;have h2:=hm.1;simp only[Ct,jF,decide_eq_true_eq] at h2;omega
  simp(disch:=omega)only[go_sem];refine((Vn G H1 l (n:=l.length) hll (fun c hc=>(h1 c hc).1) (fun c hc x hx=>Dc5 G x 1 (Uc ((h1 c hc).2 x hx)) (by have:=Ci8 ((h1 c hc).2 x hx);omega)) (by omega)).frozenJ).mono ?_;rintro _ H2 ⟨rfl,rfl⟩;simp(disch:=omega)only[go_sem];exact Wj.refl ⟨rfl,rfl⟩
theorem Po (l:List Ch):(Ej l).1.length<=1000000:=by
 rw[Ej];split
 ·have:=Al7 ‹_›;dsimp only;omega
 ·exact Nat.zero_le _
end
end Go.Dl

-- Chapter 4: the pages of package shape: records (printed by gen_te.py).
namespace Go.Dl
open Go Go.Proofs
set_option maxRecDepth 100000
section
variable {P:Program} {G:Nat->DVal} {N:Nat} {Q:DExit->DS->Prop}
theorem Dc6 {id:Nat} {ops:Array Oper} {s:DS} (Q1:DExit->DS->Prop) (h:dwp P G N (.region id ops true) Q1 s) (k: ∀e s',Q1 e s'->Q e s'):dwp P G N (.region id ops true) Q s:=by
 simp only[dwp] at h⊢
 intro F n B hF a w hS;exact wpIn_mono (h F n B hF a w hS) fun e a w ⟨e',s',q,r⟩=>⟨e',s',k _ _ q,r⟩
end
section
end
def Ib (d:Int) (v:List UInt8):Lin:=⟨Fg (d+1),[Aj Hy,Dq v,Aj wIs]⟩
theorem Jx (l:List Cmp) (d:Int):(Hz l d).length<=l.length+1:=by
 rw[Hz];split<;>simp
theorem Nt (d:Int) (l:List Arm) (h: ∀a∈l,a.comps.length<=40):(l.flatMap (Jf d)).length<=l.length*42:=by
 induction l with
 | nil=>simp
 | cons a l ih=>
  have h1:=ih fun x hx=>h x (List.mem_cons_of_mem _ hx);have h2:=h a (List.mem_cons_self ..);have h3:=Jx a.comps (Fg (d+3));rw[List.flatMap_cons,jC,jA,Jf,jA];omega
section
variable {G:Nat->DVal}
def Jz (t:Typ) (d:Int):List Lin:=(if t.var= [] then [] else Ib d t.var::(t.arms.flatMap (Jf d)++ [⟨Fg (d+1),[Aj He,Aj Hy,Aj Ew]⟩]))++ [⟨d,[Aj He,Aj Bt]⟩]
def Ip (t:Typ) (d:Int):List Lin:=⟨d,[Aj Bt]⟩::(if t.comps.isEmpty then [] else Hz t.comps (Fg (d+1)))
theorem Bv4 (t:Typ) (d:Int):Xo t d=Ip t d++Jz t d:=by rw[Xo,Ip,Jz];simp [Ib]
set_option maxHeartbeats 40000000 in
theorem Ag0 (hG:GX G) (t:Typ) (d:Int) (hm:Hd t=true) (ht:Np 1048576 t) (hc40:t.comps.length<=40) (hac: ∀a∈t.arms,a.comps.length<=40) (B:Ab) (r:Nat) (ls:List Lin) (H:Ab) (hB:B r=none) (hlen:ls.length<=100) (hp:PAt B r ls H):
  Ae Tryz.prog G 119 [.optr r 0, .agg (Dp t),dI d] H (fun e H'=>e= .ret (.tuple [])/\PAt B r (ls++Xo t d) H'):=by
 obtain⟨f0,f1,f2,f3,f4,f5,f6,f7⟩:=ht;simp only[Hd,jF,decide_eq_true_eq,List.all_eq_true] at hm;obtain⟨⟨⟨⟨⟨hcm,-⟩,ha16⟩,-⟩,harm⟩,-⟩:=hm;have har: ∀a∈t.arms,(∀c∈a.comps,Fc c=true)/\Kg a.c=true:=fun a ha=>by
  have:=harm a ha;rw[Gu,jF,List.all_eq_true] at this;exact this
 have hcl1:=Jx t.comps (Fg (d+1));have hnv:(Bv [t.var]).length=1:=rfl;refine Aa Tryz.func119 Tryz.call119 rfl (by kernel_rfl) ?_;simp(disch:=omega)only[go_sem,DVal.cells];intro rT hrT;dsimp only at hrT;have hwrT:=hp.frame hrT (.cells (Dp t) 62);have zrT:B rT=none:=(hp.lo hrT).1;have nrT:rT≠r:=(hp.lo hrT).2;obtain⟨B1,hXB1⟩: ∃X,X=upd B rT (some (.cells (Dp t) 62)):=⟨_,rfl⟩;have brT:B1 rT=some (.cells (Dp t) 62):=by rw[hXB1];exact Ac _ _ _
 have sB1:Sub B B1:=by rw[hXB1];exact(Sub.refl _).up zrT _
 have rB1:B1 r=none:=by rw[hXB1,Em _ _ _ _ nrT.symm];exact hB
 obtain⟨K1,hXK1⟩: ∃X,X=upd H rT (some (.cells (Dp t) 62)):=⟨_,rfl⟩;rw[<-hXB1,<-hXK1] at hwrT;rw[<-hXK1];have grT:K1 rT=some (.cells (Dp t) 62):=by rw[hXK1];exact Ac _ _ _
 clear hXB1 hXK1;simp(disch:=omega)only[go_sem];intro q1 hq1;dsimp only at hq1;simp(disch:=omega)only[go_sem];refine(Xu hG _ [Bt] _ rfl hq1 (by simp) rB1 (by omega) hwrT).mono ?_;rintro _ K2 ⟨rfl,hp2⟩;have gT2:=hp2.keep brT nrT;obtain⟨ls1,hls1⟩: ∃l,l=ls++Ip t d:=⟨_,rfl⟩;have hX:ls++Xo t d=ls1++Jz t d:=by rw[Bv4,hls1,jO]
 by_cases c0:t.comps.length=0
 ·have c0': ¬(0:Int)<(t.comps.length:Int):=by omega
  have hc0:t.comps= []:=List.length_eq_zero_iff.1 c0;have hl1:ls1.length<=300:=by rw[hls1,Ip,hc0];simp;omega
  have hp4:PAt B1 r ls1 K2:=by rw[hls1,Ip,hc0];exact hp2
  have gT:=gT2;clear hls1;obtain⟨B0,hB0⟩: ∃X,X=K2:=⟨_,rfl⟩;simp(disch:=omega)only[go_sem,gT2,Cv,c0'];rw[<-hB0] at hp4 gT⊢
  clear hB0 hp2 gT2;by_cases v0:t.var= []
  ·simp(disch:=omega)only[go_sem,gT,v0];intro q9 hq9;dsimp only at hq9;simp(disch:=omega)only[go_sem];refine(Xu hG _ [He,Bt] _ rfl hq9 (by simp) rB1 (by omega) hp4).mono ?_;rintro _ K9 ⟨rfl,hp9⟩;simp(disch:=omega)only[go_sem];refine Wj.refl ⟨rfl, ?_⟩;rw[hX,Jz,if_pos v0];exact hp9.less sB1
  ·simp(disch:=omega)only[go_sem,gT,v0];refine Dc6 (fun e s'=>e= .normal/\s'.env 0= .optr r 0/\s'.env 2=dI d/\s'.env 4= .optr rT 0/\PAt B1 r (ls1++ [Ib d t.var]) s'.heap) ?_ ?_
   ·refine Ak (by kernel_rfl) pL0 (by kernel_rfl) ?_;simp(disch:=omega)only[go_sem,gT];have tA:=Sub.refl B0;have bT:=gT
    repeat'
     first
     | with_reducible apply And.intro
     |with_reducible show Ae _ _ 114 _ _ _
      have pT:=h.g bT;refine(h.put hG [Hy] bqa (by(try simp only[jC,jA,jB,jK,jN,jP,List.length_flatMap] at hlen⊢)<;>omega)).mono ?_;rintro _ K ⟨rfl,h⟩;try simp(disch:=omega)only[go_sem,pT,h.g bT]
     |with_reducible show Ae _ _ 114 _ _ _
      have pT:=h.g bT;refine(h.put hG [wIs] bqb (by(try simp only[jC,jA,jB,jK,jN,jP,List.length_flatMap] at hlen⊢)<;>omega)).mono ?_;rintro _ K ⟨rfl,h⟩;try simp(disch:=omega)only[go_sem,pT,h.g bT]
     |with_reducible show Ae _ _ 115 _ _ _
      have pT:=h.g bT;refine(h.nms hG [t.var] (by simp) bqn (by(try simp only[jC,jA,jB,jK,jN,jP,List.length_flatMap] at hlen⊢)<;>omega)).mono ?_;rintro _ K ⟨rfl,h⟩;try simp(disch:=omega)only[go_sem,pT,h.g bT]
     |with_reducible show Ae _ _ 120 _ _ _
      refine(Fs G _ (hp4.more h.hs) h.hr h.hw (by omega)).mono ?_;rintro _ KZ ⟨rfl,hpZ⟩;simp(disch:=omega)only[go_sem];have hp5:PAt B1 r (ls1++ [Ib d t.var]) KZ:=by simpa [Ib,Fg,Bv,Et] using hpZ
      exact hp5
     |intro qa hqa;dsimp only at hqa
      have pT:=h.g bT;obtain⟨B,K,e,h,s,bqa⟩:=h.new hqa (.cells [.str [99,97,115,101]] 9);rw[e];replace bT:=s _ _ bT;try replace bqn:=s _ _ bqn
      try replace bqb:=s _ _ bqb
      try simp(disch:=omega)only[go_sem,pT,h.g bT]
     |intro qa hqa;dsimp only at hqa
      have pT:=bT;obtain⟨K,e,tA,s,bqa⟩:=tA.newK hqa (.cells [.str [99,97,115,101]] 9);rw[e];replace bT:=s _ _ bT;try replace bqn:=s _ _ bqn
      try replace bqb:=s _ _ bqb
      try simp(disch:=omega)only[go_sem,pT,bT]
     |intro qn hqn;dsimp only at hqn
      have pT:=h.g bT;obtain⟨B,K,e,h,s,bqn⟩:=h.new hqn (.cells [.str t.var] 9);rw[e];replace bT:=s _ _ bT;try replace bqa:=s _ _ bqa
      try replace bqb:=s _ _ bqb
      try simp(disch:=omega)only[go_sem,pT,h.g bT]
     |intro qn hqn;dsimp only at hqn
      have pT:=bT;obtain⟨K,e,tA,s,bqn⟩:=tA.newK hqn (.cells [.str t.var] 9);rw[e];replace bT:=s _ _ bT;try replace bqa:=s _ _ bqa
      try replace bqb:=s _ _ bqb
      try simp(disch:=omega)only[go_sem,pT,bT]
     |intro qb hqb;dsimp only at hqb
      have pT:=h.g bT;obtain⟨B,K,e,h,s,bqb⟩:=h.new hqb (.cells [.str [105,115]] 9);rw[e];replace bT:=s _ _ bT;try replace bqa:=s _ _ bqa
      try replace bqn:=s _ _ bqn
      try simp(disch:=omega)only[go_sem,pT,h.g bT]
     |intro qb hqb;dsimp only at hqb
      have pT:=bT;obtain⟨K,e,tA,s,bqb⟩:=tA.newK hqb (.cells [.str [105,115]] 9);rw[e];replace bT:=s _ _ bT;try replace bqa:=s _ _ bqa
      try replace bqn:=s _ _ bqn
      try simp(disch:=omega)only[go_sem,pT,bT]
     |intro rw hrw;dsimp only at hrw
      have pT:=bT;obtain⟨K,e,h⟩:=St.start tA hrw;rw[e];try simp(disch:=omega)only[go_sem,pT,h.g bT]
   ·rintro _ ⟨env,K5⟩ ⟨rfl,x0,x2,x4,hp5⟩;dsimp only at x0 x2 x4 hp5;have gT5:=hp5.keep brT nrT;obtain⟨ls2,hls2⟩: ∃l,l=ls1++ [Ib d t.var]:=⟨_,rfl⟩;have hl2:ls2.length<=301:=by rw[hls2,jC,jQ];omega
    have hR:ls++Xo t d=ls2++t.arms.flatMap (Jf d)++ [⟨Fg (d+1),[Aj He,Aj Hy,Aj Ew]⟩]++ [⟨d,[Aj He,Aj Bt]⟩]:=by rw[hX,Jz,if_neg v0,hls2];simp
    rw[<-hls2] at hp5;clear hls2;simp(disch:=omega)only[go_sem,x0,x2,x4,gT5,Dm];obtain⟨I,hI⟩: ∃I:Nat->(Nat->DVal)->Ab->Prop,∀k env heap,I k env heap↔(env 0= .optr r 0/\env 2=dI d/\env 42=Dm t.arms/\env 43=dI t.arms.length/\env 44=dI k/\k<=t.arms.length/\PAt B1 r (ls2++(t.arms.take k).flatMap (Jf d)) heap):=⟨_,fun _ _ _=>Iff.rfl⟩;refine Dt1.run I (fun k=>t.arms.length-k) 0 ((hI _ _ _).2 ?_) ?_
    ·simp(disch:=omega)only[go_sem,x0,x2,x4,gT5,Dm];(repeat' apply And.intro)<;>(try first | rfl | assumption | omega);simpa using hp5
    ·clear x0 x2 x4;intro k env heap hi;obtain⟨e0,e2,e42,e43,e44,hk,hpk⟩:=(hI _ _ _).1 hi;by_cases hlt:k<t.arms.length
     ·have hlt':(k:Int)<(t.arms.length:Int):=by omega
      have hw1:IntKind.i64.wrap ((k:Int)+1)=((k+1:Nat):Int):=by rw[IntKind.wrap_i64];omega
      have Aw:=Bu Ci t.arms k hlt;have hfl:=Al Ci t.arms;have mx:=List.getElem_mem hlt;have htk:(t.arms.take (k+1)).flatMap (Jf d)=(t.arms.take k).flatMap (Jf d)++Jf d t.arms[k]:=by rw[Hl hlt,List.flatMap_append];simp
      have hla:=Nt d (t.arms.take k) fun a ha=>hac a (List.mem_of_mem_take ha);rw[List.length_take] at hla;obtain⟨x,hx⟩: ∃x,x=t.arms[k]:=⟨_,rfl⟩;rw[<-hx] at Aw mx htk;obtain⟨x1,x2⟩:=har x mx;have x3:=hac x mx;have hck:=Po x.c;have fx:=f7.2 x mx;have fc:=fx.1.1;have hll:(ls2++(t.arms.take k).flatMap (Jf d)).length<=10000:=by rw[jC];omega
      simp(disch:=omega)only[go_sem,e0,e2,e42,e43,e44,Dm,hlt',Aw,hfl,jD];intro r7 hr7;dsimp only at hr7;have hp7:=hpk.frame hr7 (.cells (Ud x) 168);have z7:B1 r7=none:=(hpk.lo hr7).1;have n7:r7≠r:=(hpk.lo hr7).2;obtain⟨B7,hX⟩: ∃X,X=upd B1 r7 (some (.cells (Ud x) 168)):=⟨_,rfl⟩;have b7:B7 r7=some (.cells (Ud x) 168):=by rw[hX];exact Ac _ _ _
      have s7:Sub B1 B7:=by rw[hX];exact(Sub.refl _).up z7 _
      have r7':B7 r=none:=by rw[hX,Em _ _ _ _ n7.symm];exact rB1
      obtain⟨K7,hX7⟩: ∃X,X=upd heap r7 (some (.cells (Ud x) 168)):=⟨_,rfl⟩;rw[<-hX,<-hX7] at hp7;clear hX;have g7:=hp7.keep b7 n7;simp(disch:=omega)only[go_sem,e0,e2,e42,e43,e44];rw[<-hX7];simp(disch:=omega)only[go_sem,e0,e2,e42,e43,e44,g7,Ci,Mt,Mu];refine Ae.monoR (Sq hG _ x.c (by omega) fx.1.2) ?_;simp(disch:=omega)only[go_sem,e0,e2,e42,e43,e44,g7,Ci,Mt,Mu];intro rw hrw;dsimp only at hrw;simp(disch:=omega)only[go_sem];intro q hq;dsimp only at hq;simp(disch:=omega)only[go_sem];refine(Wg hG Ob hq hrw (by simp) (SAt.start hrw)).mono ?_;rintro _ K2 ⟨rfl,hw2⟩;rw[jG] at hw2;simp(disch:=omega)only[go_sem,e0,e2,e42,e43,e44];obtain⟨v,hv⟩:=hw2;have gr:=hv.keep (Ac _ _ _);have hnl:=Al Gc (Ej x.c).1;simp(disch:=omega)only[go_sem,e0,e2,e42,e43,e44,gr,Aq,Ha,Fx,hnl,jD];refine Df.append (m:=(Ej x.c).1.length) hv hnl (by simp;omega) fun v2 H6 hv2=> ?_;have g6:=hv2.keep (Ac _ _ _);obtain⟨j1,j2⟩:=hv2.cell1;simp(disch:=omega)only[go_sem,e0,e2,e42,e43,e44,g6,j1,j2];have hv3:=hv2.at (Ac _ _ _) (some (.cells [v2] 150));rw[Ht] at hv3;have hw5:SAt K7 rw (([Aj Ob]:List Tok)++(Ej x.c).1) (upd H6 rw (some (.cells [v2] 150))):=⟨v2,by rw[jC,List.flatMap_append];exact hv3⟩;intro q2 hq2;dsimp only at hq2;simp(disch:=omega)only[go_sem,e0,e2,e42,e43,e44];refine(Wg hG Cc hq2 hrw (by simp;omega) hw5).mono ?_;rintro _ K8 ⟨rfl,hw8⟩;simp(disch:=omega)only[go_sem,e0,e2,e42,e43,e44];refine(Fs G _ hp7 hrw hw8 (by omega)).mono ?_;rintro _ K9 ⟨rfl,hp9⟩;have g9:=hp9.keep b7 n7;have hcl:=Jx x.comps (IntKind.i64.wrap (d+3));simp(disch:=omega)only[go_sem,e0,e2,e42,e43,e44,g9,Ci,Mt,Mu];refine(Sv hG x.comps _ x1 fx.2 (by omega) B7 r _ _ r7' (by rw[jC,jQ];omega) hp9).mono ?_;rintro _ KA ⟨rfl,hpA⟩;simp(disch:=omega)only[go_sem,e0,e2,e42,e43,e44];refine⟨k+1,_,Ws.refl _,(hI _ _ _).2 ?_,by omega⟩;simp(disch:=omega)only[go_sem,e0,e2,e42,e43,e44,hw1];(repeat' apply And.intro)<;>(try first | rfl | assumption | omega);rw[htk,<-jO];have hpB:=hpA.less s7;simpa [Jf,Fg] using hpB
     ·have:k=t.arms.length:=by omega
      subst this;have hlt': ¬(t.arms.length:Int)<(t.arms.length:Int):=by omega
      rw[List.take_length] at hpk;have hla:=Nt d t.arms hac;have hll:(ls2++t.arms.flatMap (Jf d)).length<=10000:=by rw[jC];omega
      simp(disch:=omega)only[go_sem,e0,e2,e42,e43,e44,Dm,hlt'];intro q8 hq8;dsimp only at hq8;simp(disch:=omega)only[go_sem,e0,e2,e42,e43,e44];refine(Xu hG _ [He,Hy,Ew] _ rfl hq8 (by simp) rB1 (by omega) hpk).mono ?_;rintro _ K8 ⟨rfl,hp8⟩;simp(disch:=omega)only[go_sem,e0,e2,e42,e43,e44];intro q9 hq9;dsimp only at hq9;simp(disch:=omega)only[go_sem,e0,e2,e42,e43,e44];refine(Xu hG _ [He,Bt] _ rfl hq9 (by simp) rB1 (by rw[jC,jQ];omega) hp8).mono ?_;rintro _ K9 ⟨rfl,hp9⟩;simp(disch:=omega)only[go_sem];refine Wj.refl ⟨rfl, ?_⟩;have hpZ:=hp9.less sB1;rw[hR];simpa [Fg] using hpZ
 ·have c0':(0:Int)<(t.comps.length:Int):=by omega
  have hc0: ¬t.comps.isEmpty=true:=by intro e;exact c0 (by rw[List.isEmpty_iff.1 e];rfl)
  have hl1:ls1.length<=300:=by rw[hls1,Ip,if_neg hc0,jC,jA];omega
  simp(disch:=omega)only[go_sem,gT2,Cv,c0'];refine(Sv hG t.comps _ hcm f5 (by omega) B1 r _ _ rB1 (by rw[jC,jQ];have:=Jx t.comps (IntKind.i64.wrap (d+1));omega) hp2).mono ?_;rintro _ B0 ⟨rfl,hp3⟩;have gT:=hp3.keep brT nrT;have hp4:PAt B1 r ls1 B0:=by rw[hls1,Ip,if_neg hc0];simpa [Fg] using hp3
  clear hls1 hp3;simp(disch:=omega)only[go_sem,gT,Cv];by_cases v0:t.var= []
  ·simp(disch:=omega)only[go_sem,gT,v0];intro q9 hq9;dsimp only at hq9;simp(disch:=omega)only[go_sem];refine(Xu hG _ [He,Bt] _ rfl hq9 (by simp) rB1 (by omega) hp4).mono ?_;rintro _ K9 ⟨rfl,hp9⟩;simp(disch:=omega)only[go_sem];refine Wj.refl ⟨rfl, ?_⟩;rw[hX,Jz,if_pos v0];exact hp9.less sB1
  ·simp(disch:=omega)only[go_sem,gT,v0];refine Dc6 (fun e s'=>e= .normal/\s'.env 0= .optr r 0/\s'.env 2=dI d/\s'.env 4= .optr rT 0/\PAt B1 r (ls1++ [Ib d t.var]) s'.heap) ?_ ?_
   ·refine Ak (by kernel_rfl) pL0 (by kernel_rfl) ?_;simp(disch:=omega)only[go_sem,gT];have tA:=Sub.refl B0;have bT:=gT
    repeat'
     first
     | with_reducible apply And.intro
     |with_reducible show Ae _ _ 114 _ _ _
      have pT:=h.g bT;refine(h.put hG [Hy] bqa (by(try simp only[jC,jA,jB,jK,jN,jP,List.length_flatMap] at hlen⊢)<;>omega)).mono ?_;rintro _ K ⟨rfl,h⟩;try simp(disch:=omega)only[go_sem,pT,h.g bT]
     |with_reducible show Ae _ _ 114 _ _ _
      have pT:=h.g bT;refine(h.put hG [wIs] bqb (by(try simp only[jC,jA,jB,jK,jN,jP,List.length_flatMap] at hlen⊢)<;>omega)).mono ?_;rintro _ K ⟨rfl,h⟩;try simp(disch:=omega)only[go_sem,pT,h.g bT]
     |with_reducible show Ae _ _ 115 _ _ _
      have pT:=h.g bT;refine(h.nms hG [t.var] (by simp) bqn (by(try simp only[jC,jA,jB,jK,jN,jP,List.length_flatMap] at hlen⊢)<;>omega)).mono ?_;rintro _ K ⟨rfl,h⟩;try simp(disch:=omega)only[go_sem,pT,h.g bT]
     |with_reducible show Ae _ _ 120 _ _ _
      refine(Fs G _ (hp4.more h.hs) h.hr h.hw (by omega)).mono ?_;rintro _ KZ ⟨rfl,hpZ⟩;simp(disch:=omega)only[go_sem];have hp5:PAt B1 r (ls1++ [Ib d t.var]) KZ:=by simpa [Ib,Fg,Bv,Et] using hpZ
      exact hp5
     |intro qa hqa;dsimp only at hqa
      have pT:=h.g bT;obtain⟨B,K,e,h,s,bqa⟩:=h.new hqa (.cells [.str [99,97,115,101]] 9);rw[e];replace bT:=s _ _ bT;try replace bqn:=s _ _ bqn
      try replace bqb:=s _ _ bqb
      try simp(disch:=omega)only[go_sem,pT,h.g bT]
     |intro qa hqa;dsimp only at hqa
      have pT:=bT;obtain⟨K,e,tA,s,bqa⟩:=tA.newK hqa (.cells [.str [99,97,115,101]] 9);rw[e];replace bT:=s _ _ bT;try replace bqn:=s _ _ bqn
      try replace bqb:=s _ _ bqb
      try simp(disch:=omega)only[go_sem,pT,bT]
     |intro qn hqn;dsimp only at hqn
      have pT:=h.g bT;obtain⟨B,K,e,h,s,bqn⟩:=h.new hqn (.cells [.str t.var] 9);rw[e];replace bT:=s _ _ bT;try replace bqa:=s _ _ bqa
      try replace bqb:=s _ _ bqb
      try simp(disch:=omega)only[go_sem,pT,h.g bT]
     |intro qn hqn;dsimp only at hqn
      have pT:=bT;obtain⟨K,e,tA,s,bqn⟩:=tA.newK hqn (.cells [.str t.var] 9);rw[e];replace bT:=s _ _ bT;try replace bqa:=s _ _ bqa
      try replace bqb:=s _ _ bqb
      try simp(disch:=omega)only[go_sem,pT,bT]
     |intro qb hqb;dsimp only at hqb
      have pT:=h.g bT;obtain⟨B,K,e,h,s,bqb⟩:=h.new hqb (.cells [.str [105,115]] 9);rw[e];replace bT:=s _ _ bT;try replace bqa:=s _ _ bqa
      try replace bqn:=s _ _ bqn
      try simp(disch:=omega)only[go_sem,pT,h.g bT]
     |intro qb hqb;dsimp only at hqb
      have pT:=bT;obtain⟨K,e,tA,s,bqb⟩:=tA.newK hqb (.cells [.str [105,115]] 9);rw[e];replace bT:=s _ _ bT;try replace bqa:=s _ _ bqa
      try replace bqn:=s _ _ bqn
      try simp(disch:=omega)only[go_sem,pT,bT]
     |intro rw hrw;dsimp only at hrw
      have pT:=bT;obtain⟨K,e,h⟩:=St.start tA hrw;rw[e];try simp(disch:=omega)only[go_sem,pT,h.g bT]
   ·rintro _ ⟨env,K5⟩ ⟨rfl,x0,x2,x4,hp5⟩;dsimp only at x0 x2 x4 hp5;have gT5:=hp5.keep brT nrT;obtain⟨ls2,hls2⟩: ∃l,l=ls1++ [Ib d t.var]:=⟨_,rfl⟩;have hl2:ls2.length<=301:=by rw[hls2,jC,jQ];omega
    have hR:ls++Xo t d=ls2++t.arms.flatMap (Jf d)++ [⟨Fg (d+1),[Aj He,Aj Hy,Aj Ew]⟩]++ [⟨d,[Aj He,Aj Bt]⟩]:=by rw[hX,Jz,if_neg v0,hls2];simp
    rw[<-hls2] at hp5;clear hls2;simp(disch:=omega)only[go_sem,x0,x2,x4,gT5,Dm];obtain⟨I,hI⟩: ∃I:Nat->(Nat->DVal)->Ab->Prop,∀k env heap,I k env heap↔(env 0= .optr r 0/\env 2=dI d/\env 42=Dm t.arms/\env 43=dI t.arms.length/\env 44=dI k/\k<=t.arms.length/\PAt B1 r (ls2++(t.arms.take k).flatMap (Jf d)) heap):=⟨_,fun _ _ _=>Iff.rfl⟩;refine Dt1.run I (fun k=>t.arms.length-k) 0 ((hI _ _ _).2 ?_) ?_
    ·simp(disch:=omega)only[go_sem,x0,x2,x4,gT5,Dm];(repeat' apply And.intro)<;>(try first | rfl | assumption | omega);simpa using hp5
    ·clear x0 x2 x4;intro k env heap hi;obtain⟨e0,e2,e42,e43,e44,hk,hpk⟩:=(hI _ _ _).1 hi;by_cases hlt:k<t.arms.length
     ·have hlt':(k:Int)<(t.arms.length:Int):=by omega
      have hw1:IntKind.i64.wrap ((k:Int)+1)=((k+1:Nat):Int):=by rw[IntKind.wrap_i64];omega
      have Aw:=Bu Ci t.arms k hlt;have hfl:=Al Ci t.arms;have mx:=List.getElem_mem hlt;have htk:(t.arms.take (k+1)).flatMap (Jf d)=(t.arms.take k).flatMap (Jf d)++Jf d t.arms[k]:=by rw[Hl hlt,List.flatMap_append];simp
      have hla:=Nt d (t.arms.take k) fun a ha=>hac a (List.mem_of_mem_take ha);rw[List.length_take] at hla;obtain⟨x,hx⟩: ∃x,x=t.arms[k]:=⟨_,rfl⟩;rw[<-hx] at Aw mx htk;obtain⟨x1,x2⟩:=har x mx;have x3:=hac x mx;have hck:=Po x.c;have fx:=f7.2 x mx;have fc:=fx.1.1;have hll:(ls2++(t.arms.take k).flatMap (Jf d)).length<=10000:=by rw[jC];omega
      simp(disch:=omega)only[go_sem,e0,e2,e42,e43,e44,Dm,hlt',Aw,hfl,jD];intro r7 hr7;dsimp only at hr7;have hp7:=hpk.frame hr7 (.cells (Ud x) 168);have z7:B1 r7=none:=(hpk.lo hr7).1;have n7:r7≠r:=(hpk.lo hr7).2;obtain⟨B7,hX⟩: ∃X,X=upd B1 r7 (some (.cells (Ud x) 168)):=⟨_,rfl⟩;have b7:B7 r7=some (.cells (Ud x) 168):=by rw[hX];exact Ac _ _ _
      have s7:Sub B1 B7:=by rw[hX];exact(Sub.refl _).up z7 _
      have r7':B7 r=none:=by rw[hX,Em _ _ _ _ n7.symm];exact rB1
      obtain⟨K7,hX7⟩: ∃X,X=upd heap r7 (some (.cells (Ud x) 168)):=⟨_,rfl⟩;rw[<-hX,<-hX7] at hp7;clear hX;have g7:=hp7.keep b7 n7;simp(disch:=omega)only[go_sem,e0,e2,e42,e43,e44];rw[<-hX7];simp(disch:=omega)only[go_sem,e0,e2,e42,e43,e44,g7,Ci,Mt,Mu];refine Ae.monoR (Sq hG _ x.c (by omega) fx.1.2) ?_;simp(disch:=omega)only[go_sem,e0,e2,e42,e43,e44,g7,Ci,Mt,Mu];intro rw hrw;dsimp only at hrw;simp(disch:=omega)only[go_sem];intro q hq;dsimp only at hq;simp(disch:=omega)only[go_sem];refine(Wg hG Ob hq hrw (by simp) (SAt.start hrw)).mono ?_;rintro _ K2 ⟨rfl,hw2⟩;rw[jG] at hw2;simp(disch:=omega)only[go_sem,e0,e2,e42,e43,e44];obtain⟨v,hv⟩:=hw2;have gr:=hv.keep (Ac _ _ _);have hnl:=Al Gc (Ej x.c).1;simp(disch:=omega)only[go_sem,e0,e2,e42,e43,e44,gr,Aq,Ha,Fx,hnl,jD];refine Df.append (m:=(Ej x.c).1.length) hv hnl (by simp;omega) fun v2 H6 hv2=> ?_;have g6:=hv2.keep (Ac _ _ _);obtain⟨j1,j2⟩:=hv2.cell1;simp(disch:=omega)only[go_sem,e0,e2,e42,e43,e44,g6,j1,j2];have hv3:=hv2.at (Ac _ _ _) (some (.cells [v2] 150));rw[Ht] at hv3;have hw5:SAt K7 rw (([Aj Ob]:List Tok)++(Ej x.c).1) (upd H6 rw (some (.cells [v2] 150))):=⟨v2,by rw[jC,List.flatMap_append];exact hv3⟩;intro q2 hq2;dsimp only at hq2;simp(disch:=omega)only[go_sem,e0,e2,e42,e43,e44];refine(Wg hG Cc hq2 hrw (by simp;omega) hw5).mono ?_;rintro _ K8 ⟨rfl,hw8⟩;simp(disch:=omega)only[go_sem,e0,e2,e42,e43,e44];refine(Fs G _ hp7 hrw hw8 (by omega)).mono ?_;rintro _ K9 ⟨rfl,hp9⟩;have g9:=hp9.keep b7 n7;have hcl:=Jx x.comps (IntKind.i64.wrap (d+3));simp(disch:=omega)only[go_sem,e0,e2,e42,e43,e44,g9,Ci,Mt,Mu];refine(Sv hG x.comps _ x1 fx.2 (by omega) B7 r _ _ r7' (by rw[jC,jQ];omega) hp9).mono ?_;rintro _ KA ⟨rfl,hpA⟩;simp(disch:=omega)only[go_sem,e0,e2,e42,e43,e44];refine⟨k+1,_,Ws.refl _,(hI _ _ _).2 ?_,by omega⟩;simp(disch:=omega)only[go_sem,e0,e2,e42,e43,e44,hw1];(repeat' apply And.intro)<;>(try first | rfl | assumption | omega);rw[htk,<-jO];have hpB:=hpA.less s7;simpa [Jf,Fg] using hpB
     ·have:k=t.arms.length:=by omega
      subst this;have hlt': ¬(t.arms.length:Int)<(t.arms.length:Int):=by omega
      rw[List.take_length] at hpk;have hla:=Nt d t.arms hac;have hll:(ls2++t.arms.flatMap (Jf d)).length<=10000:=by rw[jC];omega
      simp(disch:=omega)only[go_sem,e0,e2,e42,e43,e44,Dm,hlt'];intro q8 hq8;dsimp only at hq8;simp(disch:=omega)only[go_sem,e0,e2,e42,e43,e44];refine(Xu hG _ [He,Hy,Ew] _ rfl hq8 (by simp) rB1 (by omega) hpk).mono ?_;rintro _ K8 ⟨rfl,hp8⟩;simp(disch:=omega)only[go_sem,e0,e2,e42,e43,e44];intro q9 hq9;dsimp only at hq9;simp(disch:=omega)only[go_sem,e0,e2,e42,e43,e44];refine(Xu hG _ [He,Bt] _ rfl hq9 (by simp) rB1 (by rw[jC,jQ];omega) hp8).mono ?_;rintro _ K9 ⟨rfl,hp9⟩;simp(disch:=omega)only[go_sem];refine Wj.refl ⟨rfl, ?_⟩;have hpZ:=hp9.less sB1;rw[hR];simpa [Fg] using hpZ
end
end Go.Dl

-- Chapter 4: tokens of indications, discrete ranges, names, values, by the reference (printed by gen_tg.py).
namespace Go.Dl
open Go Go.Proofs
set_option maxRecDepth 100000
theorem Bb8:Aj Gy=Az Gy:=by rw[Aj,show Dz Gy=2 by decide+kernel];rfl
theorem Rl:Aj Dr=Bb Dr:=by rw[Aj,show Dz Dr=4 by decide+kernel];rfl
theorem Dp4:Aj Qi=Bb Qi:=by rw[Aj,show Dz Qi=4 by decide+kernel];rfl
theorem Ag1:Aj Ew=Bb Ew:=by rw[Aj,show Dz Ew=4 by decide+kernel];rfl
theorem Ci9:Aj Cx=Bb Cx:=by rw[Aj,show Dz Cx=4 by decide+kernel];rfl
theorem Bv5:Aj Md=Az Md:=by rw[Aj,show Dz Md=2 by decide+kernel];rfl
theorem Au6:Aj Hy=Az Hy:=by rw[Aj,show Dz Hy=2 by decide+kernel];rfl
theorem Ey3:Aj wIs=Az wIs:=by rw[Aj,show Dz wIs=2 by decide+kernel];rfl
theorem Dc7:Aj Ob=Az Ob:=by rw[Aj,show Dz Ob=2 by decide+kernel];rfl
theorem Ag2:Aj Cc=Bb Cc:=by rw[Aj,show Dz Cc=4 by decide+kernel];rfl
theorem Bv6:Aj He=Az He:=by rw[Aj,show Dz He=2 by decide+kernel];rfl
theorem Oq:Aj Bt=Az Bt:=by rw[Aj,show Dz Bt=2 by decide+kernel];rfl
theorem Fi9:Aj As7=Az As7:=by rw[Aj,show Dz As7=2 by decide+kernel];rfl
theorem Ef4:Aj Ps=Az Ps:=by rw[Aj,show Dz Ps=2 by decide+kernel];rfl
theorem Fq5:Aj wOf=Az wOf:=by rw[Aj,show Dz wOf=2 by decide+kernel];rfl
theorem Dp5:Aj Lv=Az Lv:=by rw[Aj,show Dz Lv=2 by decide+kernel];rfl
theorem Bb9:Aj Gf=Az Gf:=by rw[Aj,show Dz Gf=2 by decide+kernel];rfl
theorem Cv1:Aj Km=Az Km:=by rw[Aj,show Dz Km=2 by decide+kernel];rfl
theorem Bf (u:List DVal):repl 4 u=u++(u++(u++u)):=by simp [repl]
theorem Bg (u:List DVal):repl 5 u=u++(u++(u++(u++u))):=by simp [repl]
theorem Bh (u:List DVal):repl 6 u=u++(u++(u++(u++(u++u)))):=by simp [repl]
section
variable (G:Nat->DVal) (H:Ab)
theorem Rm (e:Ex) (hm:Cl e=true) (H:Ab):Ae Tryz.prog G 290 [.agg (dEx e)] H (Ba (Aq (Ai e)) H):=(Dc5 G e 1 (Uc hm) (by have:=Ci8 hm;omega)).2 H
theorem Cz (s:List UInt8):Ae Tryz.prog G 292 [.str s] H (Ba (Aq [Bb s]) H):=by
 refine Aa Tryz.func292 Tryz.call292 rfl (by kernel_rfl) ?_;simp(disch:=omega)only[go_sem];refine Ae.monoR (Cn G H s) ?_;simp(disch:=omega)only[go_sem,Af,Ap,Ar,Au,Bf,Bg,Bh,jA,jB,jE,jJ,jL,jI,jG,jH];intro q hq;dsimp only at hq;simp(disch:=omega)only[go_sem,Af,Ap,Ar,Au,Bf,Bg,Bh,jA,jB,jE,jJ,jL,jI,jG,jH];have hv:Df H 31 4 1 (Af (Bb s)) (.oslice 4 q 0 1 1) (upd H q (some (.cells (Af (Bb s)) 31))):= .inr ⟨q,hq,rfl,rfl,Ac _ _ _,(Sub.refl H).new hq _⟩;exact hv.fin ⟨rfl,rfl⟩
theorem Bp (s:List UInt8):Ae Tryz.prog G 293 [.str s] H (Ba (Aq [Az s]) H):=by
 refine Aa Tryz.func293 Tryz.call293 rfl (by kernel_rfl) ?_;simp(disch:=omega)only[go_sem];refine Ae.monoR (Ho G H s) ?_;simp(disch:=omega)only[go_sem,Af,Ap,Ar,Au,Bf,Bg,Bh,jA,jB,jE,jJ,jL,jI,jG,jH];intro q hq;dsimp only at hq;simp(disch:=omega)only[go_sem,Af,Ap,Ar,Au,Bf,Bg,Bh,jA,jB,jE,jJ,jL,jI,jG,jH];have hv:Df H 31 4 1 (Af (Az s)) (.oslice 4 q 0 1 1) (upd H q (some (.cells (Af (Az s)) 31))):= .inr ⟨q,hq,rfl,rfl,Ac _ _ _,(Sub.refl H).new hq _⟩;exact hv.fin ⟨rfl,rfl⟩
theorem Vp (s:List UInt8):Ae Tryz.prog G 298 [.str s] H (Ba (Aq [Dq s]) H):=by
 refine Aa Tryz.func298 Tryz.call298 rfl (by kernel_rfl) ?_;simp(disch:=omega)only[go_sem];refine Ae.monoR (Ug G H s) ?_;simp(disch:=omega)only[go_sem,Af,Ap,Ar,Au,Bf,Bg,Bh,jA,jB,jE,jJ,jL,jI,jG,jH];intro q hq;dsimp only at hq;simp(disch:=omega)only[go_sem,Af,Ap,Ar,Au,Bf,Bg,Bh,jA,jB,jE,jJ,jL,jI,jG,jH];have hv:Df H 31 4 1 (Af (Dq s)) (.oslice 4 q 0 1 1) (upd H q (some (.cells (Af (Dq s)) 31))):= .inr ⟨q,hq,rfl,rfl,Ac _ _ _,(Sub.refl H).new hq _⟩;exact hv.fin ⟨rfl,rfl⟩
set_option maxHeartbeats 4000000 in
theorem Aq6 (e:Ex) (hm:Cl e=true):Ae Tryz.prog G 360 [.agg (dEx e)] H (Ba (Aq (Ay e 2)) H):=by
 have hlen:=Hw hm;have hpl:=Bb6 hm;refine Aa Tryz.func360 Tryz.call360 rfl (by kernel_rfl) ?_;simp(disch:=omega)only[go_sem,DVal.cells];intro r2 hr2;dsimp only at hr2;obtain⟨K,hK⟩: ∃K',K'=upd H r2 (some (.cells (dEx e) 27)):=⟨_,rfl⟩;rw[<-hK];have g2:K r2=some (.cells (dEx e) 27):=by rw[hK];exact Ac _ _ _
 have hs:Sub H K:=by rw[hK];exact(Sub.refl H).new hr2 _
 clear hK;simp(disch:=omega)only[go_sem,g2];refine Ae.monoR (Xh G K e) ?_;try simp(disch:=omega)only[go_sem,g2]
 by_cases c:Bo e<2
 ·have hp:Ay e 2= [[Bb By],Ai e,[Bb Cb]].flatten:=by rw[Ay,decide_eq_true c,Ty,if_pos rfl,Sw,Sx];simp
  rw[hp] at hpl⊢
  simp(disch:=omega)only[go_sem,c];refine Ak (by kernel_rfl) pL65 (by kernel_rfl) ?_;simp(disch:=omega)only[go_sem,g2];refine Ae.monoR (Cz G K By) ?_;try simp(disch:=omega)only[go_sem,g2]
  refine Ae.monoR (Rm G e hm K) ?_;try simp(disch:=omega)only[go_sem,g2]
  refine Ae.monoR (Cz G K Cb) ?_;try simp(disch:=omega)only[go_sem,g2]
  intro q3 hq3;dsimp only at hq3;have nq3:r2≠q3:=Am hq3 g2;try simp(disch:=omega)only[go_sem,g2,nq3,Af,Ap,Ar,Au,Bf,Bg,Bh,jA,jB,jE,jJ,jL,jI,jG,jH]
  refine Ae.monoR (Cw G K [[Bb By],Ai e,[Bb Cb]] hq3 rfl (by simp) (by omega)) ?_;try simp(disch:=omega)only[go_sem,g2,nq3]
  exact Wj.sub hs (.refl ⟨rfl,rfl⟩)
 ·have hp:Ay e 2=Ai e:=by rw[Ay,decide_eq_false c];rfl
  rw[hp];simp(disch:=omega)only[go_sem,c,g2];refine Ae.monoR (Rm G e hm K) ?_;try simp(disch:=omega)only[go_sem,g2]
  exact Wj.sub hs (.refl ⟨rfl,rfl⟩)
set_option maxHeartbeats 4000000 in
theorem Ql (a b:Ex) (ha:Cl a=true) (hb:Cl b=true):Ae Tryz.prog G 294 [.agg (dEx a), .agg (dEx b)] H (Ba (Aq (Eu a b)) H):=by
 have hbl:=Oo ha hb;have ht:Eu a b= [Ay a 2,[Bb Ep],Ay b 2].flatten:=by rw[Eu,Bv0];simp
 rw[ht] at hbl⊢
 refine Aa Tryz.func294 Tryz.call294 rfl (by kernel_rfl) ?_;simp(disch:=omega)only[go_sem,DVal.cells];intro r1 hr1;dsimp only at hr1;obtain⟨K1,hK1⟩: ∃X,X=upd H r1 (some (.cells (dEx a) 27)):=⟨_,rfl⟩;rw[<-hK1];have g1':K1 r1=some (.cells (dEx a) 27):=by rw[hK1];exact Ac _ _ _
 have hs1:Sub H K1:=by rw[hK1];exact(Sub.refl H).new hr1 _
 clear hK1;simp(disch:=omega)only[go_sem,DVal.cells];intro r2 hr2;dsimp only at hr2;obtain⟨K,hK⟩: ∃X,X=upd K1 r2 (some (.cells (dEx b) 27)):=⟨_,rfl⟩;rw[<-hK];have g2:K r2=some (.cells (dEx b) 27):=by rw[hK];exact Ac _ _ _
 have hs2:Sub K1 K:=by rw[hK];exact(Sub.refl _).new hr2 _
 have g1:=hs2 _ _ g1';have hs:Sub H K:=hs1.trans hs2;clear hK;simp(disch:=omega)only[go_sem,g1,g2];refine Ak (by kernel_rfl) pL59 (by kernel_rfl) ?_;simp(disch:=omega)only[go_sem,g1,g2];refine Ae.monoR (Aq6 G K a ha) ?_;try simp(disch:=omega)only[go_sem,g2,g1]
 refine Ae.monoR (Cz G K Ep) ?_;try simp(disch:=omega)only[go_sem,g2,g1]
 refine Ae.monoR (Aq6 G K b hb) ?_;try simp(disch:=omega)only[go_sem,g2,g1]
 intro q3 hq3;dsimp only at hq3;have nq1:r1≠q3:=Am hq3 g1;have nq2:r2≠q3:=Am hq3 g2;try simp(disch:=omega)only[go_sem,g1,g2,nq1,nq2,Af,Ap,Ar,Au,Bf,Bg,Bh,jA,jB,jE,jJ,jL,jI,jG,jH]
 refine Ae.monoR (Cw G K [Ay a 2,[Bb Ep],Ay b 2] hq3 rfl (by simp) (by omega)) ?_;try simp(disch:=omega)only[go_sem,g2,g1,nq1,nq2]
 exact Wj.sub hs (.refl ⟨rfl,rfl⟩)
set_option maxHeartbeats 8000000 in
theorem Pp (s:Ind) (hm:Cm s=true) (hf:Uf 1048576 s):Ae Tryz.prog G 173 [.agg (Er s)] H (Ba (Aq (Im s)) H):=by
 obtain⟨m1,m2,m3⟩:=Bu8 hm;obtain⟨f0,f1,f2,f3⟩:=hf;have hil:=Js hm;refine Aa Tryz.func173 Tryz.call173 rfl (by kernel_rfl) ?_;simp(disch:=omega)only[go_sem,DVal.cells];intro r2 hr2;dsimp only at hr2;obtain⟨K,hK⟩: ∃K',K'=upd H r2 (some (.cells (Er s) 56)):=⟨_,rfl⟩;rw[<-hK];have g2:K r2=some (.cells (Er s) 56):=by rw[hK];exact Ac _ _ _
 have hs:Sub H K:=by rw[hK];exact(Sub.refl H).new hr2 _
 clear hK;simp(disch:=omega)only[go_sem,g2,Ag,Bi,Bj,Bk,Bl];refine Ae.monoR (Rm G s.name m1 K) ?_;try simp(disch:=omega)only[go_sem,g2,Ag,Bi,Bj,Bk,Bl]
 refine Ae.monoR (Co G K s.value f3) ?_;try simp(disch:=omega)only[go_sem,g2,Ag,Bi,Bj,Bk,Bl]
 cases h0:noE s.value
 ·have ht:Im s= [Ai s.name,[Bb By],Ai s.value,[Bb Cb]].flatten:=by rw[Im,h0,Sw,Sx];simp
  rw[ht] at hil⊢
  simp(disch:=omega)only[go_sem];refine Ak (by kernel_rfl) pL58 (by kernel_rfl) ?_;simp(disch:=omega)only[go_sem,g2,Ag,Bi,Bj,Bk,Bl];refine Ae.monoR (Cz G K By) ?_;try simp(disch:=omega)only[go_sem,g2,Ag,Bi,Bj,Bk,Bl]
  refine Ae.monoR (Rm G s.value (m2 h0) K) ?_;try simp(disch:=omega)only[go_sem,g2,Ag,Bi,Bj,Bk,Bl]
  refine Ae.monoR (Cz G K Cb) ?_;try simp(disch:=omega)only[go_sem,g2,Ag,Bi,Bj,Bk,Bl]
  intro q3 hq3;dsimp only at hq3;have nq3:r2≠q3:=Am hq3 g2;try simp(disch:=omega)only[go_sem,g2,nq3,Af,Ap,Ar,Au,Bf,Bg,Bh,jA,jB,jE,jJ,jL,jI,jG,jH]
  refine Ae.monoR (Cw G K [Ai s.name,[Bb By],Ai s.value,[Bb Cb]] hq3 rfl (by simp) (by omega)) ?_;try simp(disch:=omega)only[go_sem,g2,nq3]
  exact Wj.sub hs (.refl ⟨rfl,rfl⟩)
 ·simp(disch:=omega)only[go_sem,g2,Ag,Bi,Bj,Bk,Bl];refine Ae.monoR (Co G K s.lo f1) ?_;try simp(disch:=omega)only[go_sem,g2,Ag,Bi,Bj,Bk,Bl]
  cases h1:noE s.lo
  ·have ht:Im s= [Ai s.name,[Az Gy],Eu s.lo s.hi].flatten:=by rw[Im,h0,h1,Bb8];simp
   rw[ht] at hil⊢
   obtain⟨ml,mh⟩:=m3 h0 h1;simp(disch:=omega)only[go_sem];refine Ak (by kernel_rfl) pL54 (by kernel_rfl) ?_;simp(disch:=omega)only[go_sem,g2,Ag,Bi,Bj,Bk,Bl];refine Ae.monoR (Bp G K Gy) ?_;try simp(disch:=omega)only[go_sem,g2,Ag,Bi,Bj,Bk,Bl]
   refine Ae.monoR (Ql G K s.lo s.hi ml mh) ?_;try simp(disch:=omega)only[go_sem,g2,Ag,Bi,Bj,Bk,Bl]
   intro q3 hq3;dsimp only at hq3;have nq3:r2≠q3:=Am hq3 g2;try simp(disch:=omega)only[go_sem,g2,nq3,Af,Ap,Ar,Au,Bf,Bg,Bh,jA,jB,jE,jJ,jL,jI,jG,jH]
   refine Ae.monoR (Cw G K [Ai s.name,[Az Gy],Eu s.lo s.hi] hq3 rfl (by simp) (by omega)) ?_;try simp(disch:=omega)only[go_sem,g2,nq3]
   exact Wj.sub hs (.refl ⟨rfl,rfl⟩)
  ·have ht:Im s=Ai s.name:=by rw[Im,h0,h1];simp
   rw[ht];simp(disch:=omega)only[go_sem];exact Wj.sub hs (.refl ⟨rfl,rfl⟩)
set_option maxHeartbeats 8000000 in
theorem Bc0 (d:Dis) (hm:Fk d=true) (hf:Wf 1048576 d):Ae Tryz.prog G 174 [.agg (Fj d)] H (Ba (Aq (Pt d)) H):=by
 obtain⟨m1,m2⟩:=Bu9 hm;obtain⟨f0,f1,f2⟩:=hf;have hil:=Ys hm;refine Aa Tryz.func174 Tryz.call174 rfl (by kernel_rfl) ?_;simp(disch:=omega)only[go_sem,DVal.cells];intro r2 hr2;dsimp only at hr2;obtain⟨K,hK⟩: ∃K',K'=upd H r2 (some (.cells (Fj d) 58)):=⟨_,rfl⟩;rw[<-hK];have g2:K r2=some (.cells (Fj d) 58):=by rw[hK];exact Ac _ _ _
 have hs:Sub H K:=by rw[hK];exact(Sub.refl H).new hr2 _
 clear hK;simp(disch:=omega)only[go_sem,g2,Ax,Dc,Dd,De];refine Ae.monoR (Co G K d.lo f1) ?_;try simp(disch:=omega)only[go_sem,g2,Ax,Dc,Dd,De]
 cases h1:noE d.lo
 ·obtain⟨ml,mh,mn⟩:=m2 h1;simp(disch:=omega)only[go_sem,g2,Ax,Dc,Dd,De];refine Ae.monoR (Co G K d.name f0) ?_;try simp(disch:=omega)only[go_sem,g2,Ax,Dc,Dd,De]
  cases h0:noE d.name
  ·have ht:Pt d= [Ai d.name,[Az Gy],Eu d.lo d.hi].flatten:=by rw[Pt,h1,h0,Bb8];simp
   rw[ht] at hil⊢
   simp(disch:=omega)only[go_sem];refine Ak (by kernel_rfl) pL51 (by kernel_rfl) ?_;simp(disch:=omega)only[go_sem,g2,Ax,Dc,Dd,De];refine Ae.monoR (Rm G d.name (mn h0) K) ?_;try simp(disch:=omega)only[go_sem,g2,Ax,Dc,Dd,De]
   refine Ae.monoR (Bp G K Gy) ?_;try simp(disch:=omega)only[go_sem,g2,Ax,Dc,Dd,De]
   refine Ae.monoR (Ql G K d.lo d.hi ml mh) ?_;try simp(disch:=omega)only[go_sem,g2,Ax,Dc,Dd,De]
   intro q3 hq3;dsimp only at hq3;have nq3:r2≠q3:=Am hq3 g2;try simp(disch:=omega)only[go_sem,g2,nq3,Af,Ap,Ar,Au,Bf,Bg,Bh,jA,jB,jE,jJ,jL,jI,jG,jH]
   refine Ae.monoR (Cw G K [Ai d.name,[Az Gy],Eu d.lo d.hi] hq3 rfl (by simp) (by omega)) ?_;try simp(disch:=omega)only[go_sem,g2,nq3]
   exact Wj.sub hs (.refl ⟨rfl,rfl⟩)
  ·have ht:Pt d=Eu d.lo d.hi:=by rw[Pt,h1,h0];rfl
   rw[ht];simp(disch:=omega)only[go_sem,g2,Ax,Dc,Dd,De];refine Ae.monoR (Ql G K d.lo d.hi ml mh) ?_;try simp(disch:=omega)only[go_sem,g2,Ax,Dc,Dd,De]
   exact Wj.sub hs (.refl ⟨rfl,rfl⟩)
 ·have ht:Pt d=Ai d.name:=by rw[Pt,h1];rfl
  rw[ht];simp(disch:=omega)only[go_sem,g2,Ax,Dc,Dd,De];refine Ae.monoR (Rm G d.name (m1 h1) K) ?_;try simp(disch:=omega)only[go_sem,g2,Ax,Dc,Dd,De]
  exact Wj.sub hs (.refl ⟨rfl,rfl⟩)
set_option maxHeartbeats 4000000 in
theorem Ik (e:Ex) (hm:Gx e=true) (he:Ef 1048576 e):Ae Tryz.prog G 297 [.agg (dEx e)] H (Ba (Aq (Li e)) H):=by
 have hdl:=Su hm;refine Aa Tryz.func297 Tryz.call297 rfl (by kernel_rfl) ?_;simp(disch:=omega)only[go_sem,DVal.cells];intro r2 hr2;dsimp only at hr2;obtain⟨K,hK⟩: ∃K',K'=upd H r2 (some (.cells (dEx e) 27)):=⟨_,rfl⟩;rw[<-hK];have g2:K r2=some (.cells (dEx e) 27):=by rw[hK];exact Ac _ _ _
 have hs:Sub H K:=by rw[hK];exact(Sub.refl H).new hr2 _
 clear hK;simp(disch:=omega)only[go_sem,g2];refine Ae.monoR (Co G K e he) ?_;try simp(disch:=omega)only[go_sem,g2]
 cases h0:noE e
 ·have hme:Cl e=true:=by rw[Gx,h0,Bool.false_or] at hm;exact hm
  have ht:Li e= [[Bb Qi],Ai e].flatten:=by rw[Li,h0,Dp4];simp
  rw[ht] at hdl⊢
  simp(disch:=omega)only[go_sem];refine Ak (by kernel_rfl) pL67 (by kernel_rfl) ?_;simp(disch:=omega)only[go_sem,g2];refine Ae.monoR (Cz G K Qi) ?_;try simp(disch:=omega)only[go_sem,g2]
  refine Ae.monoR (Rm G e hme K) ?_;try simp(disch:=omega)only[go_sem,g2]
  intro q3 hq3;dsimp only at hq3;have nq3:r2≠q3:=Am hq3 g2;try simp(disch:=omega)only[go_sem,g2,nq3,Af,Ap,Ar,Au,Bf,Bg,Bh,jA,jB,jE,jJ,jL,jI,jG,jH]
  refine Ae.monoR (Cw G K [[Bb Qi],Ai e] hq3 rfl (by simp) (by omega)) ?_;try simp(disch:=omega)only[go_sem,g2,nq3]
  exact Wj.sub hs (.refl ⟨rfl,rfl⟩)
 ·have ht:Li e= []:=by rw[Li,h0];rfl
  rw[ht];simp(disch:=omega)only[go_sem];exact Qg.fin hs (Qg.nil hs) ⟨rfl,rfl⟩
set_option maxHeartbeats 8000000 in
theorem Ko (ws:List (List UInt8)) (hws:ws.length<=1000000):Ae Tryz.prog G 296 [dW ws] H (Ba (Aq (Bv ws)) H):=by
 suffices hown:Ae Tryz.prog G 296 [dW ws] H (fun e H'=> ∃v,e= .ret v/\Df H 31 4 (Bv ws).length ((Bv ws).flatMap Af) v H') from hown.frozenJ
 refine Aa Tryz.func296 Tryz.call296 rfl (by kernel_rfl) ?_;simp(disch:=omega)only[go_sem];obtain⟨I,hI⟩: ∃I:Nat->(Nat->DVal)->Ab->Prop,∀j env heap,I j env heap↔(env 0=dW ws/\env 4=dI j/\j<=ws.length/\Df H 31 4 (Bv (ws.take j)).length ((Bv (ws.take j)).flatMap Af) (env 3) heap):=⟨_,fun _ _ _=>Iff.rfl⟩;refine Dt1.run I (fun j=>ws.length-j) 0 ((hI _ _ _).2 ?_) ?_
 ·simp(disch:=omega)only[go_sem];(repeat' apply And.intro)<;>(try first | rfl | assumption | omega);exact Df.nil _ _ (Sub.refl H)
 ·intro j env heap hi;obtain⟨e0,e4,hj,hv⟩:=(hI _ _ _).1 hi;obtain⟨v,hve⟩: ∃v,v=env 3:=⟨_,rfl⟩;rw[<-hve] at hv;by_cases hlt:j<ws.length
  ·have hlt':(j:Int)<(ws.length:Int):=by omega
   have hw1:IntKind.i64.wrap ((j:Int)+1)=((j+1:Nat):Int):=by rw[IntKind.wrap_i64];omega
   have Aw:(ws.map DVal.str)[j]? =some (.str ws[j]):=by rw[List.getElem?_map,List.getElem?_eq_getElem hlt];rfl
   have hml:(ws.map DVal.str).length=ws.length:=jK _;have hl2:=Mf j hj;by_cases j0:j=0
   ·subst j0;have htk:Bv (ws.take (0+1))= [Dq ws[0]]:=Vo hlt;obtain⟨s,hse⟩: ∃s,s=ws[0]:=⟨_,rfl⟩;rw[<-hse] at Aw htk;have hv0:Df H 31 4 0 [] v heap:=hv;simp(disch:=omega)only[go_sem,e0,e4,<-hve,hlt',dW,Aw,hml,jD];refine Ae.monoR (Ug G _ s) ?_;simp(disch:=omega)only[go_sem,e0,e4,<-hve,Af,Ap,Ar,Au,Bf,Bg,Bh,jA,jB,jE,jJ,jL,jI,jG,jH];intro r25 hr25;dsimp only at hr25;have hv6:=hv0.new hr25 (some (.cells (Af (Dq s)) 31));simp(disch:=omega)only[go_sem,e0,e4,<-hve,Af,Ap,Ar,Au,Bf,Bg,Bh,jA,jB,jE,jJ,jL,jI,jG,jH];refine Df.append (m:=1) hv6 rfl (by omega) fun v2 H6 hv2=> ?_;simp(disch:=omega)only[go_sem,e0,e4];refine⟨0+1,_,Ws.refl _,(hI _ _ _).2 ?_,by omega⟩;simp(disch:=omega)only[go_sem,e0,e4,hw1];(repeat' apply And.intro)<;>(try first | rfl | assumption | omega);rw[htk];exact hv2
   ·have j0':(0:Int)<(j:Int):=by omega
    have htk:Bv (ws.take (j+1))=(Bv (ws.take j)++ [Bb Cx])++ [Dq ws[j]]:=by rw[Sr hlt (by omega),Ci9];simp
    obtain⟨s,hse⟩: ∃s,s=ws[j]:=⟨_,rfl⟩;rw[<-hse] at Aw htk;simp(disch:=omega)only[go_sem,e0,e4,<-hve,hlt',dW,Aw,hml,jD,j0'];refine Ae.monoR (Cn G _ Cx) ?_;simp(disch:=omega)only[go_sem,e0,e4,<-hve,Af,Ap,Ar,Au,Bf,Bg,Bh,jA,jB,jE,jJ,jL,jI,jG,jH];intro r24 hr24;dsimp only at hr24;have hv5:=hv.new hr24 (some (.cells (Af (Bb Cx)) 31));simp(disch:=omega)only[go_sem,e0,e4,<-hve,Af,Ap,Ar,Au,Bf,Bg,Bh,jA,jB,jE,jJ,jL,jI,jG,jH];refine Df.append (m:=1) hv5 rfl (by omega) fun v1 H5 hv1=> ?_;simp(disch:=omega)only[go_sem,e0,e4,dW,Aw,hml,jD];refine Ae.monoR (Ug G _ s) ?_;simp(disch:=omega)only[go_sem,e0,e4,Af,Ap,Ar,Au,Bf,Bg,Bh,jA,jB,jE,jJ,jL,jI,jG,jH];intro r25 hr25;dsimp only at hr25;have hv6:=hv1.new hr25 (some (.cells (Af (Dq s)) 31));simp(disch:=omega)only[go_sem,e0,e4,Af,Ap,Ar,Au,Bf,Bg,Bh,jA,jB,jE,jJ,jL,jI,jG,jH];refine Df.append (m:=1) hv6 rfl (by omega) fun v2 H6 hv2=> ?_;simp(disch:=omega)only[go_sem,e0,e4];refine⟨j+1,_,Ws.refl _,(hI _ _ _).2 ?_,by omega⟩;simp(disch:=omega)only[go_sem,e0,e4,hw1];(repeat' apply And.intro)<;>(try first | rfl | assumption | omega);rw[htk,Ea,Ea,jC,jC];exact hv2
  ·have:j=ws.length:=by omega
   subst this;have hlt': ¬(ws.length:Int)<(ws.length:Int):=by omega
   rw[List.take_length] at hv;simp(disch:=omega)only[go_sem,e0,e4,<-hve,hlt',dW];exact Wj.refl ⟨_,rfl,hv⟩
end
end Go.Dl

-- Chapter 3: slices.Grow and slices.Concat at tokens.
namespace Go.Dl
open Go Go.Proofs
set_option maxRecDepth 100000
theorem Cv2 (ts:List Tok):loose.looses (ts.flatMap Af)=true:=by
 rw[Cr3];intro d hd;obtain⟨t,_,hd⟩:=List.mem_flatMap.1 hd;have: ∀d∈Af t,loose d=true:=by
  rw[show Af t= [.int .u8 t.kind, .int .i64 t.line, .str t.text, .int .i64 t.n] from rfl];intro d hd;simp only[List.mem_cons,List.not_mem_nil,or_false] at hd;rcases hd with rfl | rfl | rfl | rfl<;>rfl
 exact this d hd
theorem Dl6.looseT {e:TypeId} {size n:Nat} {cs:List DVal} {v:DVal} {X:Ab} (h:Dl6 h0 e size n cs v X) (hl:loose.looses cs=true):Dl.loose v=true/\Cd9 h0 X:=by
 rcases h with⟨_,_,rfl,rfl⟩ | ⟨r,_,_,rfl,rfl⟩
 ·exact⟨rfl,Cd9.refl _⟩
 ·exact⟨rfl,(Cd9.refl h0).upd hl⟩
theorem Dl6.over0 {e:TypeId} {size n:Nat} {cs:List DVal} {v:DVal} {H X:Ab} (h:Dl6 h0 e size n cs v X) (hd:En7 H X):Df H e size n cs v (Bg7 H X):=by
 have key:Sub H (Bg7 H X):=fun b o hb=>by rw[Bs5 (hd.x (by rw[hb];simp))];exact hb
 rcases h with⟨rfl,rfl,rfl,rfl⟩ | ⟨r,_,hl,rfl,rfl⟩
 ·exact .inl ⟨rfl,rfl,rfl,key⟩
 ·exact .inr ⟨r,hd r (by rw[Ac];simp),hl,rfl,by rw[Dw7 (Ac _ _ _)],key⟩
theorem Px.lentA {P:Program} {G:Nat->DVal} {f:FuncId} {args args':List DVal} {H':Ab} {ty:TypeId} {size n:Nat} {cs:List DVal} (h:Px H' args h0 args') (k:Ae P G f args' h0 fun e X=> ∃v,e= .ret v/\Dl6 h0 ty size n cs v X) (hl:loose.looses cs=true):
  Ae P G f args H' fun e H2=> ∃v,e= .ret v/\Df H' ty size n cs v H2:=
 (k.frame (fun w vs hw hr=>h w hw vs hr) (fun e X ⟨v,hv,ho⟩=>⟨v,hv,(ho.looseT hl).1,(ho.looseT hl).2⟩)).mono fun e H2 ⟨X,⟨v,hv,ho⟩,hd,hH⟩=>⟨v,hv,by rw[hH];exact ho.over0 hd⟩
end Go.Dl
