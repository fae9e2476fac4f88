/- The data level and the contracts of the functions that are reached (part 9). -/
import Derived.Test.YtpkdkhoeaibpaaaGreatDoorPdh
set_option linter.unusedSimpArgs false
set_option linter.unusedVariables false
set_option linter.unusedSectionVars false
-- Chapter 4: which records and type definitions are valid, by the reference (printed by gen_cn.py).
namespace Go.Dl
open Go Go.Proofs
set_option maxRecDepth 100000
section
variable (G:Nat->DVal) (H:Bb)
theorem Bu (s:Ind) (hs:Vp 1048576 s):Bh Tryz.prog G 95 [.agg (Fb s)] H (Bt (.bool (Df s)) H):=by
 obtain⟨f0,f1,f2,f3⟩:=hs;refine Bc Tryz.func95 Tryz.call95 rfl (by kernel_rfl) ?_;simp(disch:=omega) only[go_sem,↓reduceIte,DVal.cells];intro r1 hr1;dsimp only at hr1;obtain⟨K,hK⟩: ∃K',K'=upd H r1 (some (.cells (Fb s) 45)):=⟨_,rfl⟩;rw[<-hK];have gr1:K r1=some (.cells (Fb s) 45):=by rw[hK];exact Bp _ _ _
 have sK:Sub H K:=by rw[hK];exact(Sub.refl _).new hr1 _
 simp(disch:=omega) only[go_sem,↓reduceIte,gr1,Bl,Cf,Cg,Ci,Cj];refine Bh.monoR (Bm G K s.name f0) ?_;cases h1:noE s.name
 ·simp(disch:=omega) only[go_sem,↓reduceIte,gr1,Bl,Cf,Cg,Ci,Cj];exact Rm.sub sK (.refl ⟨by simp [Df, *],rfl⟩)
 simp(disch:=omega) only[go_sem,↓reduceIte,gr1,Bl,Cf,Cg,Ci,Cj];refine Bh.monoR (Bm G K s.lo f1) ?_;cases h2:noE s.lo
 ·simp(disch:=omega) only[go_sem,↓reduceIte,gr1,Bl,Cf,Cg,Ci,Cj];exact Rm.sub sK (.refl ⟨by simp [Df, *],rfl⟩)
 simp(disch:=omega) only[go_sem,↓reduceIte,gr1,Bl,Cf,Cg,Ci,Cj];refine Bh.monoR (Bm G K s.hi f2) ?_;cases h3:noE s.hi
 ·simp(disch:=omega) only[go_sem,↓reduceIte,gr1,Bl,Cf,Cg,Ci,Cj];exact Rm.sub sK (.refl ⟨by simp [Df, *],rfl⟩)
 simp(disch:=omega) only[go_sem,↓reduceIte,gr1,Bl,Cf,Cg,Ci,Cj];refine Bh.monoR (Bm G K s.value f3) ?_;simp(disch:=omega) only[go_sem,↓reduceIte,gr1,Bl,Cf,Cg,Ci,Cj];exact Rm.sub sK (.refl ⟨by simp [Df, *],rfl⟩)
theorem Bv (d:Dis) (hd:Yt 1048576 d):Bh Tryz.prog G 96 [.agg (Gh d)] H (Bt (.bool (Cn d)) H):=by
 obtain⟨f0,f1,f2⟩:=hd;refine Bc Tryz.func96 Tryz.call96 rfl (by kernel_rfl) ?_;simp(disch:=omega) only[go_sem,↓reduceIte,DVal.cells];intro r1 hr1;dsimp only at hr1;obtain⟨K,hK⟩: ∃K',K'=upd H r1 (some (.cells (Gh d) 47)):=⟨_,rfl⟩;rw[<-hK];have gr1:K r1=some (.cells (Gh d) 47):=by rw[hK];exact Bp _ _ _
 have sK:Sub H K:=by rw[hK];exact(Sub.refl _).new hr1 _
 simp(disch:=omega) only[go_sem,↓reduceIte,gr1,Bs,Dt,Du,Dv];refine Bh.monoR (Bm G K d.name f0) ?_;cases h1:noE d.name
 ·simp(disch:=omega) only[go_sem,↓reduceIte,gr1,Bs,Dt,Du,Dv];exact Rm.sub sK (.refl ⟨by simp [Cn, *],rfl⟩)
 simp(disch:=omega) only[go_sem,↓reduceIte,gr1,Bs,Dt,Du,Dv];refine Bh.monoR (Bm G K d.lo f1) ?_;cases h2:noE d.lo
 ·simp(disch:=omega) only[go_sem,↓reduceIte,gr1,Bs,Dt,Du,Dv];exact Rm.sub sK (.refl ⟨by simp [Cn, *],rfl⟩)
 simp(disch:=omega) only[go_sem,↓reduceIte,gr1,Bs,Dt,Du,Dv];refine Bh.monoR (Bm G K d.hi f2) ?_;simp(disch:=omega) only[go_sem,↓reduceIte,gr1,Bs,Dt,Du,Dv];exact Rm.sub sK (.refl ⟨by simp [Cn, *],rfl⟩)
set_option maxHeartbeats 40000000 in
theorem Lk (t:Typ) (ht:Nh 1048576 t):Bh Tryz.prog G 97 [.agg (Dr t)] H (Bt (.bool (Gg t)) H):=by
 obtain⟨f0,f1,f2,f3,f4,f5,f6,f7⟩:=ht;have a7:=f7.1;refine Bc Tryz.func97 Tryz.call97 rfl (by kernel_rfl) ?_;simp(disch:=omega) only[go_sem,↓reduceIte,DVal.cells];intro r1 hr1;dsimp only at hr1;obtain⟨K,hK⟩: ∃K',K'=upd H r1 (some (.cells (Dr t) 53)):=⟨_,rfl⟩;rw[<-hK];have gr1:K r1=some (.cells (Dr t) 53):=by rw[hK];exact Bp _ _ _
 have sK:Sub H K:=by rw[hK];exact(Sub.refl _).new hr1 _
 simp(disch:=omega) only[go_sem,↓reduceIte,gr1,Ab,Al,Am,An,Ac,Ad,Ae,Af,Ag,Ah,Ai];refine Bh.monoR (Ib G K t.comps f5) ?_;cases h1:t.comps.all Gf
 ·simp(disch:=omega) only[go_sem,↓reduceIte,gr1,Ab,Al,Am,An,Ac,Ad,Ae,Af,Ag,Ah,Ai];exact Rm.sub sK (.refl ⟨by simp [Gg,h1],rfl⟩)
 have hpos: ¬((Dk t.comps:Nat):Int)<0:=by omega
 by_cases hv:t.var= []
 ·by_cases ha:t.arms.length=0
  ·have ha':(t.arms.length:Int)=0:=by omega
   have hR:Gg t=(t.arms.all Fq&&decide (Dk t.comps+Mf t.arms<=32)):=by simp [Gg,h1,hv,ha]
   simp(disch:=omega) only[go_sem,↓reduceIte,gr1,Ab,Al,Am,An,Ac,Ad,Ae,Af,Ag,Ah,Ai,Bo,hpos,hv,ha',xft,xtf,xff,xtt];have hc40:=Ky f5;obtain⟨I,hI⟩: ∃I:Nat->(Nat->DVal)->Bb->Prop,∀k env heap,I k env heap↔(env 1= .optr r1 0/\env 3=dI (Fz t k:Nat)/\env 4=dI k/\k<=t.arms.length/\Fz t k<=(k+1)*1099511627776/\(∀x∈t.arms.take k,Fq x=true)/\heap=K):=⟨_,fun _ _ _=>Iff.rfl⟩;refine Cn3.run I (fun k=>t.arms.length-k) 0 ((hI _ _ _).2 ?_) ?_
   ·simp(disch:=omega) only[go_sem,↓reduceIte,Bo,Av2];simp;try omega
   ·try clear ha'
    try clear ha
    intro k env heap hi;obtain⟨e1,e3,e4,hk,hs,hp,rfl⟩:=(hI _ _ _).1 hi;have hfl:=Bq Dm t.arms;by_cases hlt:k<t.arms.length
    ·have hlt2:(k:Int)<(t.arms.length:Int):=by omega
     have hwd:IntKind.i64.wrap ((k:Int)+1)=((k+1:Nat):Int):=by rw[IntKind.wrap_i64];omega
     have mx:=List.getElem_mem hlt;have hst:Fq t.arms[k]=true-> ∀x∈t.arms.take (k+1),Fq x=true:=Ki hlt hp;have hsn:Fz t (k+1)=Fz t k+Dk t.arms[k].comps:=by rw[Fz,Pv hlt,Fz];omega
     have x0:=Cy Dm t.arms k hlt 0 (by decide);rw[Qm] at x0;have x0z:=x0;rw[Nat.add_zero] at x0z;have x1:=Cy Dm t.arms k hlt 1 (by decide);rw[Qn] at x1;obtain⟨x,hx⟩: ∃x,x=t.arms[k]:=⟨_,rfl⟩;rw[<-hx] at x0 x0z x1 mx hst hsn;have fx:=f7.2 x mx;have fn:=Ky fx.2;have fc:=fx.1.1;have hwe:IntKind.i64.wrap ((Fz t k:Nat)+(Dk x.comps:Int))=((Fz t (k+1):Nat):Int):=by
      rw[hsn,IntKind.wrap_i64];omega
     simp(disch:=omega) only[go_sem,↓reduceIte,gr1,Ab,Al,Am,An,Ac,Ad,Ae,Af,Ag,Ah,Ai,e1,e3,e4,Bo,hlt2,hfl,Int.toNat_natCast,x0,x0z,x1];refine Bh.monoR (Ib G _ x.comps fx.2) ?_;cases h3:x.comps.all Gf
     ·simp(disch:=omega) only[go_sem,↓reduceIte,gr1,Ab,Al,Am,An,Ac,Ad,Ae,Af,Ag,Ah,Ai,e1,e3,e4,Bo,hlt2,hfl,Int.toNat_natCast,x0,x0z,x1];exact Rm.sub sK (.refl ⟨by rw[hR,Fe mx (by simp [Fq,h3])];rfl,rfl⟩)
     have hpos: ¬((Dk x.comps:Nat):Int)<0:=by omega
     simp(disch:=omega) only[go_sem,↓reduceIte,gr1,Ab,Al,Am,An,Ac,Ad,Ae,Af,Ag,Ah,Ai,e1,e3,e4,Bo,hlt2,hfl,Int.toNat_natCast,x0,x0z,x1,hpos];refine Bh.monoR (Oi G _ x.c (by omega)) ?_;cases h4:Og x.c
     ·simp(disch:=omega) only[go_sem,↓reduceIte,gr1,Ab,Al,Am,An,Ac,Ad,Ae,Af,Ag,Ah,Ai,e1,e3,e4,Bo,hlt2,hfl,Int.toNat_natCast,x0,x0z,x1];exact Rm.sub sK (.refl ⟨by rw[hR,Fe mx (by simp [Fq,h4])];rfl,rfl⟩)
     simp(disch:=omega) only[go_sem,↓reduceIte,gr1,Ab,Al,Am,An,Ac,Ad,Ae,Af,Ag,Ah,Ai,e1,e3,e4,Bo,hlt2,hfl,Int.toNat_natCast,x0,x0z,x1,hwe];refine⟨k+1,_,Rd.refl _,(hI _ _ _).2 ?_,by omega⟩;simp(disch:=omega) only[go_sem,↓reduceIte,e1,e3,e4,hwd,hwe];(repeat' apply And.intro)<;>(try first | rfl | assumption | omega);exact hst (by simp [Fq,h3,h4])
    ·have:k=t.arms.length:=by omega
     subst this;have hall:=Mg hp;have hN:Fz t t.arms.length=Dk t.comps+Mf t.arms:=by rw[Fz,List.take_length]
     have hlt': ¬(t.arms.length:Int)<(t.arms.length:Int):=by omega
     simp(disch:=omega) only[go_sem,↓reduceIte,gr1,Ab,Al,Am,An,Ac,Ad,Ae,Af,Ag,Ah,Ai,e1,e3,e4,Bo,hlt'];exact Rm.sub sK (.refl ⟨by rw[hR,hall,hN,Bool.true_and];congr 2;simp;omega,rfl⟩)
  ·have ha': ¬(t.arms.length:Int)=0:=by omega
   simp(disch:=omega) only[go_sem,↓reduceIte,gr1,Ab,Al,Am,An,Ac,Ad,Ae,Af,Ag,Ah,Ai,Bo,hpos,hv,ha',xft,xtf,xff,xtt];have ha0: ¬t.arms= []:=fun e=>ha (by rw[e];rfl);exact Rm.sub sK (.refl ⟨by simp [Gg,h1,hv,ha0],rfl⟩)
 ·by_cases ha:t.arms.length=0
  ·have ha':(t.arms.length:Int)=0:=by omega
   simp(disch:=omega) only[go_sem,↓reduceIte,gr1,Ab,Al,Am,An,Ac,Ad,Ae,Af,Ag,Ah,Ai,Bo,hpos,hv,ha',xft,xtf,xff,xtt];exact Rm.sub sK (.refl ⟨by simp [Gg,h1,hv,ha],rfl⟩)
  ·have ha': ¬(t.arms.length:Int)=0:=by omega
   by_cases h2:16<t.arms.length
   ·have h2':(16:Int)<(t.arms.length:Int):=by omega
    simp(disch:=omega) only[go_sem,↓reduceIte,gr1,Ab,Al,Am,An,Ac,Ad,Ae,Af,Ag,Ah,Ai,Bo,hpos,hv,ha',h2',xft,xtf,xff,xtt];exact Rm.sub sK (.refl ⟨by simp [Gg,h1];omega,rfl⟩)
   have h2': ¬(16:Int)<(t.arms.length:Int):=by omega
   simp(disch:=omega) only[go_sem,↓reduceIte,gr1,Ab,Al,Am,An,Ac,Ad,Ae,Af,Ag,Ah,Ai,Bo,hpos,hv,ha',h2',xft,xtf,xff,xtt];refine Bh.monoR (Kc G K t.var) ?_;cases h3:Gk t.var
   ·simp(disch:=omega) only[go_sem,↓reduceIte,gr1,Ab,Al,Am,An,Ac,Ad,Ae,Af,Ag,Ah,Ai];exact Rm.sub sK (.refl ⟨by simp [Gg,hv,h3],rfl⟩)
   ·have hR:Gg t=(t.arms.all Fq&&decide (Dk t.comps+Mf t.arms<=32)):=by
     have h16:t.arms.length<=16:=by omega
     have ha0: ¬t.arms= []:=fun e=>ha (by rw[e];rfl);simp [Gg,h1,hv,ha0,h3,h16]
    simp(disch:=omega) only[go_sem,↓reduceIte,gr1,Ab,Al,Am,An,Ac,Ad,Ae,Af,Ag,Ah,Ai,Bo];have hc40:=Ky f5;obtain⟨I,hI⟩: ∃I:Nat->(Nat->DVal)->Bb->Prop,∀k env heap,I k env heap↔(env 1= .optr r1 0/\env 3=dI (Fz t k:Nat)/\env 4=dI k/\k<=t.arms.length/\Fz t k<=(k+1)*1099511627776/\(∀x∈t.arms.take k,Fq x=true)/\heap=K):=⟨_,fun _ _ _=>Iff.rfl⟩;refine Cn3.run I (fun k=>t.arms.length-k) 0 ((hI _ _ _).2 ?_) ?_
    ·simp(disch:=omega) only[go_sem,↓reduceIte,Bo,Av2];simp;try omega
    ·try clear ha'
     try clear ha
     intro k env heap hi;obtain⟨e1,e3,e4,hk,hs,hp,rfl⟩:=(hI _ _ _).1 hi;have hfl:=Bq Dm t.arms;by_cases hlt:k<t.arms.length
     ·have hlt2:(k:Int)<(t.arms.length:Int):=by omega
      have hwd:IntKind.i64.wrap ((k:Int)+1)=((k+1:Nat):Int):=by rw[IntKind.wrap_i64];omega
      have mx:=List.getElem_mem hlt;have hst:Fq t.arms[k]=true-> ∀x∈t.arms.take (k+1),Fq x=true:=Ki hlt hp;have hsn:Fz t (k+1)=Fz t k+Dk t.arms[k].comps:=by rw[Fz,Pv hlt,Fz];omega
      have x0:=Cy Dm t.arms k hlt 0 (by decide);rw[Qm] at x0;have x0z:=x0;rw[Nat.add_zero] at x0z;have x1:=Cy Dm t.arms k hlt 1 (by decide);rw[Qn] at x1;obtain⟨x,hx⟩: ∃x,x=t.arms[k]:=⟨_,rfl⟩;rw[<-hx] at x0 x0z x1 mx hst hsn;have fx:=f7.2 x mx;have fn:=Ky fx.2;have fc:=fx.1.1;have hwe:IntKind.i64.wrap ((Fz t k:Nat)+(Dk x.comps:Int))=((Fz t (k+1):Nat):Int):=by
       rw[hsn,IntKind.wrap_i64];omega
      simp(disch:=omega) only[go_sem,↓reduceIte,gr1,Ab,Al,Am,An,Ac,Ad,Ae,Af,Ag,Ah,Ai,e1,e3,e4,Bo,hlt2,hfl,Int.toNat_natCast,x0,x0z,x1];refine Bh.monoR (Ib G _ x.comps fx.2) ?_;cases h3:x.comps.all Gf
      ·simp(disch:=omega) only[go_sem,↓reduceIte,gr1,Ab,Al,Am,An,Ac,Ad,Ae,Af,Ag,Ah,Ai,e1,e3,e4,Bo,hlt2,hfl,Int.toNat_natCast,x0,x0z,x1];exact Rm.sub sK (.refl ⟨by rw[hR,Fe mx (by simp [Fq,h3])];rfl,rfl⟩)
      have hpos: ¬((Dk x.comps:Nat):Int)<0:=by omega
      simp(disch:=omega) only[go_sem,↓reduceIte,gr1,Ab,Al,Am,An,Ac,Ad,Ae,Af,Ag,Ah,Ai,e1,e3,e4,Bo,hlt2,hfl,Int.toNat_natCast,x0,x0z,x1,hpos];refine Bh.monoR (Oi G _ x.c (by omega)) ?_;cases h4:Og x.c
      ·simp(disch:=omega) only[go_sem,↓reduceIte,gr1,Ab,Al,Am,An,Ac,Ad,Ae,Af,Ag,Ah,Ai,e1,e3,e4,Bo,hlt2,hfl,Int.toNat_natCast,x0,x0z,x1];exact Rm.sub sK (.refl ⟨by rw[hR,Fe mx (by simp [Fq,h4])];rfl,rfl⟩)
      simp(disch:=omega) only[go_sem,↓reduceIte,gr1,Ab,Al,Am,An,Ac,Ad,Ae,Af,Ag,Ah,Ai,e1,e3,e4,Bo,hlt2,hfl,Int.toNat_natCast,x0,x0z,x1,hwe];refine⟨k+1,_,Rd.refl _,(hI _ _ _).2 ?_,by omega⟩;simp(disch:=omega) only[go_sem,↓reduceIte,e1,e3,e4,hwd,hwe];(repeat' apply And.intro)<;>(try first | rfl | assumption | omega);exact hst (by simp [Fq,h3,h4])
     ·have:k=t.arms.length:=by omega
      subst this;have hall:=Mg hp;have hN:Fz t t.arms.length=Dk t.comps+Mf t.arms:=by rw[Fz,List.take_length]
      have hlt': ¬(t.arms.length:Int)<(t.arms.length:Int):=by omega
      simp(disch:=omega) only[go_sem,↓reduceIte,gr1,Ab,Al,Am,An,Ac,Ad,Ae,Af,Ag,Ah,Ai,e1,e3,e4,Bo,hlt'];exact Rm.sub sK (.refl ⟨by rw[hR,hall,hN,Bool.true_and];congr 2;simp;omega,rfl⟩)
set_option maxHeartbeats 400000000 in
theorem Av3 (t:Typ) (ht:Nh 1048576 t):Bh Tryz.prog G 27 [.agg (Dr t)] H (Bt (.bool (Ba t)) H):=by
 have ht':=ht;obtain⟨f0,f1,f2,f3,f4,f5,f6,f7⟩:=ht;refine Bc Tryz.func27 Tryz.call27 rfl (by kernel_rfl) ?_;simp(disch:=omega) only[go_sem,↓reduceIte,DVal.cells];intro r1 hr1;dsimp only at hr1;obtain⟨K,hK⟩: ∃K',K'=upd H r1 (some (.cells (Dr t) 53)):=⟨_,rfl⟩;rw[<-hK];have gr1:K r1=some (.cells (Dr t) 53):=by rw[hK];exact Bp _ _ _
 have sK:Sub H K:=by rw[hK];exact(Sub.refl _).new hr1 _
 by_cases hk:t.kind=1
 ·by_cases n0:t.names.length=0
  rotate_left
  ·have n0': ¬(t.names.length:Int)=0:=by omega
   simp(disch:=omega) only[go_sem,↓reduceIte,gr1,Ab,Al,Am,An,Ac,Ad,Ae,Af,Ag,Ah,Ai,hk,dW,n0'];refine Bh.monoR (Bm G K t.lo f1) ?_;cases l0:noE t.lo
   ·simp(disch:=omega) only[go_sem,↓reduceIte,gr1,Ab,Al,Am,An,Ac,Ad,Ae,Af,Ag,Ah,Ai,hk];refine Bh.monoR (Bu G K t.sub f3) ?_;simp(disch:=omega) only[go_sem,↓reduceIte,gr1,Ab,Al,Am,An,Ac,Ad,Ae,Af,Ag,Ah,Ai,hk];refine Bh.monoR (Bv G K t.disc f4) ?_;by_cases c0:t.comps.length=0
    rotate_left
    ·have c0': ¬(t.comps.length:Int)=0:=by omega
     simp(disch:=omega) only[go_sem,↓reduceIte,gr1,Ab,Al,Am,An,Ac,Ad,Ae,Af,Ag,Ah,Ai,hk,Bk,c0'];refine Bh.monoR (Ct G K t.names 64 f0) ?_;cases hc:Cs t.names 64
     ·simp(disch:=omega) only[go_sem,↓reduceIte,gr1,Ab,Al,Am,An,Ac,Ad,Ae,Af,Ag,Ah,Ai,hk];exact Rm.sub sK (.refl ⟨by simp [Ba,Be,Bg,Bd, *],rfl⟩)
     simp(disch:=omega) only[go_sem,↓reduceIte,gr1,Ab,Al,Am,An,Ac,Ad,Ae,Af,Ag,Ah,Ai,hk];exact Rm.sub sK (.refl ⟨by simp [Ba,Be,Bg,Bd, *],rfl⟩)
    have c0':(t.comps.length:Int)=0:=by omega
    by_cases v0:t.var= []
    rotate_left
    ·simp(disch:=omega) only[go_sem,↓reduceIte,gr1,Ab,Al,Am,An,Ac,Ad,Ae,Af,Ag,Ah,Ai,hk,Bk,c0',v0];refine Bh.monoR (Ct G K t.names 64 f0) ?_;cases hc:Cs t.names 64
     ·simp(disch:=omega) only[go_sem,↓reduceIte,gr1,Ab,Al,Am,An,Ac,Ad,Ae,Af,Ag,Ah,Ai,hk];exact Rm.sub sK (.refl ⟨by simp [Ba,Be,Bg,Bd, *],rfl⟩)
     simp(disch:=omega) only[go_sem,↓reduceIte,gr1,Ab,Al,Am,An,Ac,Ad,Ae,Af,Ag,Ah,Ai,hk];exact Rm.sub sK (.refl ⟨by simp [Ba,Be,Bg,Bd, *],rfl⟩)
    by_cases a0:t.arms.length=0
    rotate_left
    ·have a0': ¬(t.arms.length:Int)=0:=by omega
     simp(disch:=omega) only[go_sem,↓reduceIte,gr1,Ab,Al,Am,An,Ac,Ad,Ae,Af,Ag,Ah,Ai,hk,Bk,Bo,c0',v0,a0'];refine Bh.monoR (Ct G K t.names 64 f0) ?_;cases hc:Cs t.names 64
     ·simp(disch:=omega) only[go_sem,↓reduceIte,gr1,Ab,Al,Am,An,Ac,Ad,Ae,Af,Ag,Ah,Ai,hk];exact Rm.sub sK (.refl ⟨by simp [Ba,Be,Bg,Bd, *],rfl⟩)
     simp(disch:=omega) only[go_sem,↓reduceIte,gr1,Ab,Al,Am,An,Ac,Ad,Ae,Af,Ag,Ah,Ai,hk];exact Rm.sub sK (.refl ⟨by simp [Ba,Be,Bg,Bd, *],rfl⟩)
    have a0':(t.arms.length:Int)=0:=by omega
    simp(disch:=omega) only[go_sem,↓reduceIte,gr1,Ab,Al,Am,An,Ac,Ad,Ae,Af,Ag,Ah,Ai,hk,Bk,Bo,c0',v0,a0'];refine Bh.monoR (Ct G K t.names 64 f0) ?_;cases hc:Cs t.names 64
    ·simp(disch:=omega) only[go_sem,↓reduceIte,gr1,Ab,Al,Am,An,Ac,Ad,Ae,Af,Ag,Ah,Ai,hk];exact Rm.sub sK (.refl ⟨by simp [Ba,Be,Bg,Bd, *],rfl⟩)
    simp(disch:=omega) only[go_sem,↓reduceIte,gr1,Ab,Al,Am,An,Ac,Ad,Ae,Af,Ag,Ah,Ai,hk];exact Rm.sub sK (.refl ⟨by simp [Ba,Be,Bg,Bd, *],rfl⟩)
   simp(disch:=omega) only[go_sem,↓reduceIte,gr1,Ab,Al,Am,An,Ac,Ad,Ae,Af,Ag,Ah,Ai,hk];refine Bh.monoR (Bm G K t.hi f2) ?_;simp(disch:=omega) only[go_sem,↓reduceIte,gr1,Ab,Al,Am,An,Ac,Ad,Ae,Af,Ag,Ah,Ai,hk];refine Bh.monoR (Bu G K t.sub f3) ?_;simp(disch:=omega) only[go_sem,↓reduceIte,gr1,Ab,Al,Am,An,Ac,Ad,Ae,Af,Ag,Ah,Ai,hk];refine Bh.monoR (Bv G K t.disc f4) ?_;by_cases c0:t.comps.length=0
   rotate_left
   ·have c0': ¬(t.comps.length:Int)=0:=by omega
    simp(disch:=omega) only[go_sem,↓reduceIte,gr1,Ab,Al,Am,An,Ac,Ad,Ae,Af,Ag,Ah,Ai,hk,Bk,c0'];refine Bh.monoR (Ct G K t.names 64 f0) ?_;cases hc:Cs t.names 64
    ·simp(disch:=omega) only[go_sem,↓reduceIte,gr1,Ab,Al,Am,An,Ac,Ad,Ae,Af,Ag,Ah,Ai,hk];exact Rm.sub sK (.refl ⟨by simp [Ba,Be,Bg,Bd, *],rfl⟩)
    simp(disch:=omega) only[go_sem,↓reduceIte,gr1,Ab,Al,Am,An,Ac,Ad,Ae,Af,Ag,Ah,Ai,hk];cases l1:noE t.hi
    ·simp(disch:=omega) only[go_sem,↓reduceIte,gr1,Ab,Al,Am,An,Ac,Ad,Ae,Af,Ag,Ah,Ai,hk];exact Rm.sub sK (.refl ⟨by simp [Ba,Be,Bg,Bd, *],rfl⟩)
    simp(disch:=omega) only[go_sem,↓reduceIte,gr1,Ab,Al,Am,An,Ac,Ad,Ae,Af,Ag,Ah,Ai,hk];cases b3:Df t.sub
    ·simp(disch:=omega) only[go_sem,↓reduceIte,gr1,Ab,Al,Am,An,Ac,Ad,Ae,Af,Ag,Ah,Ai,hk];exact Rm.sub sK (.refl ⟨by simp [Ba,Be,Bg,Bd, *],rfl⟩)
    simp(disch:=omega) only[go_sem,↓reduceIte,gr1,Ab,Al,Am,An,Ac,Ad,Ae,Af,Ag,Ah,Ai,hk];cases b4:Cn t.disc
    ·simp(disch:=omega) only[go_sem,↓reduceIte,gr1,Ab,Al,Am,An,Ac,Ad,Ae,Af,Ag,Ah,Ai,hk];exact Rm.sub sK (.refl ⟨by simp [Ba,Be,Bg,Bd, *],rfl⟩)
    simp(disch:=omega) only[go_sem,↓reduceIte,gr1,Ab,Al,Am,An,Ac,Ad,Ae,Af,Ag,Ah,Ai,hk];exact Rm.sub sK (.refl ⟨by simp [Ba,Be,Bg,Bd, *],rfl⟩)
   have c0':(t.comps.length:Int)=0:=by omega
   by_cases v0:t.var= []
   rotate_left
   ·simp(disch:=omega) only[go_sem,↓reduceIte,gr1,Ab,Al,Am,An,Ac,Ad,Ae,Af,Ag,Ah,Ai,hk,Bk,c0',v0];refine Bh.monoR (Ct G K t.names 64 f0) ?_;cases hc:Cs t.names 64
    ·simp(disch:=omega) only[go_sem,↓reduceIte,gr1,Ab,Al,Am,An,Ac,Ad,Ae,Af,Ag,Ah,Ai,hk];exact Rm.sub sK (.refl ⟨by simp [Ba,Be,Bg,Bd, *],rfl⟩)
    simp(disch:=omega) only[go_sem,↓reduceIte,gr1,Ab,Al,Am,An,Ac,Ad,Ae,Af,Ag,Ah,Ai,hk];cases l1:noE t.hi
    ·simp(disch:=omega) only[go_sem,↓reduceIte,gr1,Ab,Al,Am,An,Ac,Ad,Ae,Af,Ag,Ah,Ai,hk];exact Rm.sub sK (.refl ⟨by simp [Ba,Be,Bg,Bd, *],rfl⟩)
    simp(disch:=omega) only[go_sem,↓reduceIte,gr1,Ab,Al,Am,An,Ac,Ad,Ae,Af,Ag,Ah,Ai,hk];cases b3:Df t.sub
    ·simp(disch:=omega) only[go_sem,↓reduceIte,gr1,Ab,Al,Am,An,Ac,Ad,Ae,Af,Ag,Ah,Ai,hk];exact Rm.sub sK (.refl ⟨by simp [Ba,Be,Bg,Bd, *],rfl⟩)
    simp(disch:=omega) only[go_sem,↓reduceIte,gr1,Ab,Al,Am,An,Ac,Ad,Ae,Af,Ag,Ah,Ai,hk];cases b4:Cn t.disc
    ·simp(disch:=omega) only[go_sem,↓reduceIte,gr1,Ab,Al,Am,An,Ac,Ad,Ae,Af,Ag,Ah,Ai,hk];exact Rm.sub sK (.refl ⟨by simp [Ba,Be,Bg,Bd, *],rfl⟩)
    simp(disch:=omega) only[go_sem,↓reduceIte,gr1,Ab,Al,Am,An,Ac,Ad,Ae,Af,Ag,Ah,Ai,hk];exact Rm.sub sK (.refl ⟨by simp [Ba,Be,Bg,Bd, *],rfl⟩)
   by_cases a0:t.arms.length=0
   rotate_left
   ·have a0': ¬(t.arms.length:Int)=0:=by omega
    simp(disch:=omega) only[go_sem,↓reduceIte,gr1,Ab,Al,Am,An,Ac,Ad,Ae,Af,Ag,Ah,Ai,hk,Bk,Bo,c0',v0,a0'];refine Bh.monoR (Ct G K t.names 64 f0) ?_;cases hc:Cs t.names 64
    ·simp(disch:=omega) only[go_sem,↓reduceIte,gr1,Ab,Al,Am,An,Ac,Ad,Ae,Af,Ag,Ah,Ai,hk];exact Rm.sub sK (.refl ⟨by simp [Ba,Be,Bg,Bd, *],rfl⟩)
    simp(disch:=omega) only[go_sem,↓reduceIte,gr1,Ab,Al,Am,An,Ac,Ad,Ae,Af,Ag,Ah,Ai,hk];cases l1:noE t.hi
    ·simp(disch:=omega) only[go_sem,↓reduceIte,gr1,Ab,Al,Am,An,Ac,Ad,Ae,Af,Ag,Ah,Ai,hk];exact Rm.sub sK (.refl ⟨by simp [Ba,Be,Bg,Bd, *],rfl⟩)
    simp(disch:=omega) only[go_sem,↓reduceIte,gr1,Ab,Al,Am,An,Ac,Ad,Ae,Af,Ag,Ah,Ai,hk];cases b3:Df t.sub
    ·simp(disch:=omega) only[go_sem,↓reduceIte,gr1,Ab,Al,Am,An,Ac,Ad,Ae,Af,Ag,Ah,Ai,hk];exact Rm.sub sK (.refl ⟨by simp [Ba,Be,Bg,Bd, *],rfl⟩)
    simp(disch:=omega) only[go_sem,↓reduceIte,gr1,Ab,Al,Am,An,Ac,Ad,Ae,Af,Ag,Ah,Ai,hk];cases b4:Cn t.disc
    ·simp(disch:=omega) only[go_sem,↓reduceIte,gr1,Ab,Al,Am,An,Ac,Ad,Ae,Af,Ag,Ah,Ai,hk];exact Rm.sub sK (.refl ⟨by simp [Ba,Be,Bg,Bd, *],rfl⟩)
    simp(disch:=omega) only[go_sem,↓reduceIte,gr1,Ab,Al,Am,An,Ac,Ad,Ae,Af,Ag,Ah,Ai,hk];exact Rm.sub sK (.refl ⟨by simp [Ba,Be,Bg,Bd, *],rfl⟩)
   have a0':(t.arms.length:Int)=0:=by omega
   simp(disch:=omega) only[go_sem,↓reduceIte,gr1,Ab,Al,Am,An,Ac,Ad,Ae,Af,Ag,Ah,Ai,hk,Bk,Bo,c0',v0,a0'];refine Bh.monoR (Ct G K t.names 64 f0) ?_;cases hc:Cs t.names 64
   ·simp(disch:=omega) only[go_sem,↓reduceIte,gr1,Ab,Al,Am,An,Ac,Ad,Ae,Af,Ag,Ah,Ai,hk];exact Rm.sub sK (.refl ⟨by simp [Ba,Be,Bg,Bd, *],rfl⟩)
   simp(disch:=omega) only[go_sem,↓reduceIte,gr1,Ab,Al,Am,An,Ac,Ad,Ae,Af,Ag,Ah,Ai,hk];cases l1:noE t.hi
   ·simp(disch:=omega) only[go_sem,↓reduceIte,gr1,Ab,Al,Am,An,Ac,Ad,Ae,Af,Ag,Ah,Ai,hk];exact Rm.sub sK (.refl ⟨by simp [Ba,Be,Bg,Bd, *],rfl⟩)
   simp(disch:=omega) only[go_sem,↓reduceIte,gr1,Ab,Al,Am,An,Ac,Ad,Ae,Af,Ag,Ah,Ai,hk];cases b3:Df t.sub
   ·simp(disch:=omega) only[go_sem,↓reduceIte,gr1,Ab,Al,Am,An,Ac,Ad,Ae,Af,Ag,Ah,Ai,hk];exact Rm.sub sK (.refl ⟨by simp [Ba,Be,Bg,Bd, *],rfl⟩)
   simp(disch:=omega) only[go_sem,↓reduceIte,gr1,Ab,Al,Am,An,Ac,Ad,Ae,Af,Ag,Ah,Ai,hk];cases b4:Cn t.disc
   ·simp(disch:=omega) only[go_sem,↓reduceIte,gr1,Ab,Al,Am,An,Ac,Ad,Ae,Af,Ag,Ah,Ai,hk];exact Rm.sub sK (.refl ⟨by simp [Ba,Be,Bg,Bd, *],rfl⟩)
   simp(disch:=omega) only[go_sem,↓reduceIte,gr1,Ab,Al,Am,An,Ac,Ad,Ae,Af,Ag,Ah,Ai,hk];exact Rm.sub sK (.refl ⟨by simp [Ba,Be,Bg,Bd, *],rfl⟩)
  have n0':(t.names.length:Int)=0:=by omega
  simp(disch:=omega) only[go_sem,↓reduceIte,gr1,Ab,Al,Am,An,Ac,Ad,Ae,Af,Ag,Ah,Ai,hk,dW,n0'];refine Bh.monoR (Bm G K t.lo f1) ?_;cases l0:noE t.lo
  ·simp(disch:=omega) only[go_sem,↓reduceIte,gr1,Ab,Al,Am,An,Ac,Ad,Ae,Af,Ag,Ah,Ai,hk];refine Bh.monoR (Bu G K t.sub f3) ?_;simp(disch:=omega) only[go_sem,↓reduceIte,gr1,Ab,Al,Am,An,Ac,Ad,Ae,Af,Ag,Ah,Ai,hk];refine Bh.monoR (Bv G K t.disc f4) ?_;by_cases c0:t.comps.length=0
   rotate_left
   ·have c0': ¬(t.comps.length:Int)=0:=by omega
    simp(disch:=omega) only[go_sem,↓reduceIte,gr1,Ab,Al,Am,An,Ac,Ad,Ae,Af,Ag,Ah,Ai,hk,Bk,c0'];refine Bh.monoR (Ct G K t.names 64 f0) ?_;cases hc:Cs t.names 64
    ·simp(disch:=omega) only[go_sem,↓reduceIte,gr1,Ab,Al,Am,An,Ac,Ad,Ae,Af,Ag,Ah,Ai,hk];exact Rm.sub sK (.refl ⟨by simp [Ba,Be,Bg,Bd, *],rfl⟩)
    simp(disch:=omega) only[go_sem,↓reduceIte,gr1,Ab,Al,Am,An,Ac,Ad,Ae,Af,Ag,Ah,Ai,hk];exact Rm.sub sK (.refl ⟨by simp [Ba,Be,Bg,Bd, *],rfl⟩)
   have c0':(t.comps.length:Int)=0:=by omega
   by_cases v0:t.var= []
   rotate_left
   ·simp(disch:=omega) only[go_sem,↓reduceIte,gr1,Ab,Al,Am,An,Ac,Ad,Ae,Af,Ag,Ah,Ai,hk,Bk,c0',v0];refine Bh.monoR (Ct G K t.names 64 f0) ?_;cases hc:Cs t.names 64
    ·simp(disch:=omega) only[go_sem,↓reduceIte,gr1,Ab,Al,Am,An,Ac,Ad,Ae,Af,Ag,Ah,Ai,hk];exact Rm.sub sK (.refl ⟨by simp [Ba,Be,Bg,Bd, *],rfl⟩)
    simp(disch:=omega) only[go_sem,↓reduceIte,gr1,Ab,Al,Am,An,Ac,Ad,Ae,Af,Ag,Ah,Ai,hk];exact Rm.sub sK (.refl ⟨by simp [Ba,Be,Bg,Bd, *],rfl⟩)
   by_cases a0:t.arms.length=0
   rotate_left
   ·have a0': ¬(t.arms.length:Int)=0:=by omega
    simp(disch:=omega) only[go_sem,↓reduceIte,gr1,Ab,Al,Am,An,Ac,Ad,Ae,Af,Ag,Ah,Ai,hk,Bk,Bo,c0',v0,a0'];refine Bh.monoR (Ct G K t.names 64 f0) ?_;cases hc:Cs t.names 64
    ·simp(disch:=omega) only[go_sem,↓reduceIte,gr1,Ab,Al,Am,An,Ac,Ad,Ae,Af,Ag,Ah,Ai,hk];exact Rm.sub sK (.refl ⟨by simp [Ba,Be,Bg,Bd, *],rfl⟩)
    simp(disch:=omega) only[go_sem,↓reduceIte,gr1,Ab,Al,Am,An,Ac,Ad,Ae,Af,Ag,Ah,Ai,hk];exact Rm.sub sK (.refl ⟨by simp [Ba,Be,Bg,Bd, *],rfl⟩)
   have a0':(t.arms.length:Int)=0:=by omega
   simp(disch:=omega) only[go_sem,↓reduceIte,gr1,Ab,Al,Am,An,Ac,Ad,Ae,Af,Ag,Ah,Ai,hk,Bk,Bo,c0',v0,a0'];refine Bh.monoR (Ct G K t.names 64 f0) ?_;cases hc:Cs t.names 64
   ·simp(disch:=omega) only[go_sem,↓reduceIte,gr1,Ab,Al,Am,An,Ac,Ad,Ae,Af,Ag,Ah,Ai,hk];exact Rm.sub sK (.refl ⟨by simp [Ba,Be,Bg,Bd, *],rfl⟩)
   simp(disch:=omega) only[go_sem,↓reduceIte,gr1,Ab,Al,Am,An,Ac,Ad,Ae,Af,Ag,Ah,Ai,hk];exact Rm.sub sK (.refl ⟨by simp [Ba,Be,Bg,Bd, *],rfl⟩)
  simp(disch:=omega) only[go_sem,↓reduceIte,gr1,Ab,Al,Am,An,Ac,Ad,Ae,Af,Ag,Ah,Ai,hk];refine Bh.monoR (Bm G K t.hi f2) ?_;simp(disch:=omega) only[go_sem,↓reduceIte,gr1,Ab,Al,Am,An,Ac,Ad,Ae,Af,Ag,Ah,Ai,hk];refine Bh.monoR (Bu G K t.sub f3) ?_;simp(disch:=omega) only[go_sem,↓reduceIte,gr1,Ab,Al,Am,An,Ac,Ad,Ae,Af,Ag,Ah,Ai,hk];refine Bh.monoR (Bv G K t.disc f4) ?_;by_cases c0:t.comps.length=0
  rotate_left
  ·have c0': ¬(t.comps.length:Int)=0:=by omega
   simp(disch:=omega) only[go_sem,↓reduceIte,gr1,Ab,Al,Am,An,Ac,Ad,Ae,Af,Ag,Ah,Ai,hk,Bk,c0'];refine Bh.monoR (Ct G K t.names 64 f0) ?_;cases hc:Cs t.names 64
   ·simp(disch:=omega) only[go_sem,↓reduceIte,gr1,Ab,Al,Am,An,Ac,Ad,Ae,Af,Ag,Ah,Ai,hk];exact Rm.sub sK (.refl ⟨by simp [Ba,Be,Bg,Bd, *],rfl⟩)
   simp(disch:=omega) only[go_sem,↓reduceIte,gr1,Ab,Al,Am,An,Ac,Ad,Ae,Af,Ag,Ah,Ai,hk];cases l1:noE t.hi
   ·simp(disch:=omega) only[go_sem,↓reduceIte,gr1,Ab,Al,Am,An,Ac,Ad,Ae,Af,Ag,Ah,Ai,hk];exact Rm.sub sK (.refl ⟨by simp [Ba,Be,Bg,Bd, *],rfl⟩)
   simp(disch:=omega) only[go_sem,↓reduceIte,gr1,Ab,Al,Am,An,Ac,Ad,Ae,Af,Ag,Ah,Ai,hk];cases b3:Df t.sub
   ·simp(disch:=omega) only[go_sem,↓reduceIte,gr1,Ab,Al,Am,An,Ac,Ad,Ae,Af,Ag,Ah,Ai,hk];exact Rm.sub sK (.refl ⟨by simp [Ba,Be,Bg,Bd, *],rfl⟩)
   simp(disch:=omega) only[go_sem,↓reduceIte,gr1,Ab,Al,Am,An,Ac,Ad,Ae,Af,Ag,Ah,Ai,hk];cases b4:Cn t.disc
   ·simp(disch:=omega) only[go_sem,↓reduceIte,gr1,Ab,Al,Am,An,Ac,Ad,Ae,Af,Ag,Ah,Ai,hk];exact Rm.sub sK (.refl ⟨by simp [Ba,Be,Bg,Bd, *],rfl⟩)
   simp(disch:=omega) only[go_sem,↓reduceIte,gr1,Ab,Al,Am,An,Ac,Ad,Ae,Af,Ag,Ah,Ai,hk];exact Rm.sub sK (.refl ⟨by simp [Ba,Be,Bg,Bd, *],rfl⟩)
  have c0':(t.comps.length:Int)=0:=by omega
  by_cases v0:t.var= []
  rotate_left
  ·simp(disch:=omega) only[go_sem,↓reduceIte,gr1,Ab,Al,Am,An,Ac,Ad,Ae,Af,Ag,Ah,Ai,hk,Bk,c0',v0];refine Bh.monoR (Ct G K t.names 64 f0) ?_;cases hc:Cs t.names 64
   ·simp(disch:=omega) only[go_sem,↓reduceIte,gr1,Ab,Al,Am,An,Ac,Ad,Ae,Af,Ag,Ah,Ai,hk];exact Rm.sub sK (.refl ⟨by simp [Ba,Be,Bg,Bd, *],rfl⟩)
   simp(disch:=omega) only[go_sem,↓reduceIte,gr1,Ab,Al,Am,An,Ac,Ad,Ae,Af,Ag,Ah,Ai,hk];cases l1:noE t.hi
   ·simp(disch:=omega) only[go_sem,↓reduceIte,gr1,Ab,Al,Am,An,Ac,Ad,Ae,Af,Ag,Ah,Ai,hk];exact Rm.sub sK (.refl ⟨by simp [Ba,Be,Bg,Bd, *],rfl⟩)
   simp(disch:=omega) only[go_sem,↓reduceIte,gr1,Ab,Al,Am,An,Ac,Ad,Ae,Af,Ag,Ah,Ai,hk];cases b3:Df t.sub
   ·simp(disch:=omega) only[go_sem,↓reduceIte,gr1,Ab,Al,Am,An,Ac,Ad,Ae,Af,Ag,Ah,Ai,hk];exact Rm.sub sK (.refl ⟨by simp [Ba,Be,Bg,Bd, *],rfl⟩)
   simp(disch:=omega) only[go_sem,↓reduceIte,gr1,Ab,Al,Am,An,Ac,Ad,Ae,Af,Ag,Ah,Ai,hk];cases b4:Cn t.disc
   ·simp(disch:=omega) only[go_sem,↓reduceIte,gr1,Ab,Al,Am,An,Ac,Ad,Ae,Af,Ag,Ah,Ai,hk];exact Rm.sub sK (.refl ⟨by simp [Ba,Be,Bg,Bd, *],rfl⟩)
   simp(disch:=omega) only[go_sem,↓reduceIte,gr1,Ab,Al,Am,An,Ac,Ad,Ae,Af,Ag,Ah,Ai,hk];exact Rm.sub sK (.refl ⟨by simp [Ba,Be,Bg,Bd, *],rfl⟩)
  by_cases a0:t.arms.length=0
  rotate_left
  ·have a0': ¬(t.arms.length:Int)=0:=by omega
   simp(disch:=omega) only[go_sem,↓reduceIte,gr1,Ab,Al,Am,An,Ac,Ad,Ae,Af,Ag,Ah,Ai,hk,Bk,Bo,c0',v0,a0'];refine Bh.monoR (Ct G K t.names 64 f0) ?_;cases hc:Cs t.names 64
   ·simp(disch:=omega) only[go_sem,↓reduceIte,gr1,Ab,Al,Am,An,Ac,Ad,Ae,Af,Ag,Ah,Ai,hk];exact Rm.sub sK (.refl ⟨by simp [Ba,Be,Bg,Bd, *],rfl⟩)
   simp(disch:=omega) only[go_sem,↓reduceIte,gr1,Ab,Al,Am,An,Ac,Ad,Ae,Af,Ag,Ah,Ai,hk];cases l1:noE t.hi
   ·simp(disch:=omega) only[go_sem,↓reduceIte,gr1,Ab,Al,Am,An,Ac,Ad,Ae,Af,Ag,Ah,Ai,hk];exact Rm.sub sK (.refl ⟨by simp [Ba,Be,Bg,Bd, *],rfl⟩)
   simp(disch:=omega) only[go_sem,↓reduceIte,gr1,Ab,Al,Am,An,Ac,Ad,Ae,Af,Ag,Ah,Ai,hk];cases b3:Df t.sub
   ·simp(disch:=omega) only[go_sem,↓reduceIte,gr1,Ab,Al,Am,An,Ac,Ad,Ae,Af,Ag,Ah,Ai,hk];exact Rm.sub sK (.refl ⟨by simp [Ba,Be,Bg,Bd, *],rfl⟩)
   simp(disch:=omega) only[go_sem,↓reduceIte,gr1,Ab,Al,Am,An,Ac,Ad,Ae,Af,Ag,Ah,Ai,hk];cases b4:Cn t.disc
   ·simp(disch:=omega) only[go_sem,↓reduceIte,gr1,Ab,Al,Am,An,Ac,Ad,Ae,Af,Ag,Ah,Ai,hk];exact Rm.sub sK (.refl ⟨by simp [Ba,Be,Bg,Bd, *],rfl⟩)
   simp(disch:=omega) only[go_sem,↓reduceIte,gr1,Ab,Al,Am,An,Ac,Ad,Ae,Af,Ag,Ah,Ai,hk];exact Rm.sub sK (.refl ⟨by simp [Ba,Be,Bg,Bd, *],rfl⟩)
  have a0':(t.arms.length:Int)=0:=by omega
  simp(disch:=omega) only[go_sem,↓reduceIte,gr1,Ab,Al,Am,An,Ac,Ad,Ae,Af,Ag,Ah,Ai,hk,Bk,Bo,c0',v0,a0'];refine Bh.monoR (Ct G K t.names 64 f0) ?_;cases hc:Cs t.names 64
  ·simp(disch:=omega) only[go_sem,↓reduceIte,gr1,Ab,Al,Am,An,Ac,Ad,Ae,Af,Ag,Ah,Ai,hk];exact Rm.sub sK (.refl ⟨by simp [Ba,Be,Bg,Bd, *],rfl⟩)
  simp(disch:=omega) only[go_sem,↓reduceIte,gr1,Ab,Al,Am,An,Ac,Ad,Ae,Af,Ag,Ah,Ai,hk];cases l1:noE t.hi
  ·simp(disch:=omega) only[go_sem,↓reduceIte,gr1,Ab,Al,Am,An,Ac,Ad,Ae,Af,Ag,Ah,Ai,hk];exact Rm.sub sK (.refl ⟨by simp [Ba,Be,Bg,Bd, *],rfl⟩)
  simp(disch:=omega) only[go_sem,↓reduceIte,gr1,Ab,Al,Am,An,Ac,Ad,Ae,Af,Ag,Ah,Ai,hk];cases b3:Df t.sub
  ·simp(disch:=omega) only[go_sem,↓reduceIte,gr1,Ab,Al,Am,An,Ac,Ad,Ae,Af,Ag,Ah,Ai,hk];exact Rm.sub sK (.refl ⟨by simp [Ba,Be,Bg,Bd, *],rfl⟩)
  simp(disch:=omega) only[go_sem,↓reduceIte,gr1,Ab,Al,Am,An,Ac,Ad,Ae,Af,Ag,Ah,Ai,hk];cases b4:Cn t.disc
  ·simp(disch:=omega) only[go_sem,↓reduceIte,gr1,Ab,Al,Am,An,Ac,Ad,Ae,Af,Ag,Ah,Ai,hk];exact Rm.sub sK (.refl ⟨by simp [Ba,Be,Bg,Bd, *],rfl⟩)
  simp(disch:=omega) only[go_sem,↓reduceIte,gr1,Ab,Al,Am,An,Ac,Ad,Ae,Af,Ag,Ah,Ai,hk];exact Rm.sub sK (.refl ⟨by simp [Ba,Be,Bg,Bd, *],rfl⟩)
 have k1:=hk;clear hk;by_cases hk:t.kind=2
 ·by_cases n0:t.names.length=0
  rotate_left
  ·have n0': ¬(t.names.length:Int)=0:=by omega
   simp(disch:=omega) only[go_sem,↓reduceIte,gr1,Ab,Al,Am,An,Ac,Ad,Ae,Af,Ag,Ah,Ai,hk,dW,n0'];refine Bh.monoR (Bm G K t.lo f1) ?_;cases l0:noE t.lo
   ·simp(disch:=omega) only[go_sem,↓reduceIte,gr1,Ab,Al,Am,An,Ac,Ad,Ae,Af,Ag,Ah,Ai,hk];refine Bh.monoR (Bu G K t.sub f3) ?_;simp(disch:=omega) only[go_sem,↓reduceIte,gr1,Ab,Al,Am,An,Ac,Ad,Ae,Af,Ag,Ah,Ai,hk];refine Bh.monoR (Bv G K t.disc f4) ?_;by_cases c0:t.comps.length=0
    rotate_left
    ·have c0': ¬(t.comps.length:Int)=0:=by omega
     simp(disch:=omega) only[go_sem,↓reduceIte,gr1,Ab,Al,Am,An,Ac,Ad,Ae,Af,Ag,Ah,Ai,hk,Bk,c0'];exact Rm.sub sK (.refl ⟨by simp [Ba,Be,Bg,Bd, *],rfl⟩)
    have c0':(t.comps.length:Int)=0:=by omega
    by_cases v0:t.var= []
    rotate_left
    ·simp(disch:=omega) only[go_sem,↓reduceIte,gr1,Ab,Al,Am,An,Ac,Ad,Ae,Af,Ag,Ah,Ai,hk,Bk,c0',v0];exact Rm.sub sK (.refl ⟨by simp [Ba,Be,Bg,Bd, *],rfl⟩)
    by_cases a0:t.arms.length=0
    rotate_left
    ·have a0': ¬(t.arms.length:Int)=0:=by omega
     simp(disch:=omega) only[go_sem,↓reduceIte,gr1,Ab,Al,Am,An,Ac,Ad,Ae,Af,Ag,Ah,Ai,hk,Bk,Bo,c0',v0,a0'];exact Rm.sub sK (.refl ⟨by simp [Ba,Be,Bg,Bd, *],rfl⟩)
    have a0':(t.arms.length:Int)=0:=by omega
    simp(disch:=omega) only[go_sem,↓reduceIte,gr1,Ab,Al,Am,An,Ac,Ad,Ae,Af,Ag,Ah,Ai,hk,Bk,Bo,c0',v0,a0'];exact Rm.sub sK (.refl ⟨by simp [Ba,Be,Bg,Bd, *],rfl⟩)
   simp(disch:=omega) only[go_sem,↓reduceIte,gr1,Ab,Al,Am,An,Ac,Ad,Ae,Af,Ag,Ah,Ai,hk];refine Bh.monoR (Bm G K t.hi f2) ?_;simp(disch:=omega) only[go_sem,↓reduceIte,gr1,Ab,Al,Am,An,Ac,Ad,Ae,Af,Ag,Ah,Ai,hk];refine Bh.monoR (Bu G K t.sub f3) ?_;simp(disch:=omega) only[go_sem,↓reduceIte,gr1,Ab,Al,Am,An,Ac,Ad,Ae,Af,Ag,Ah,Ai,hk];refine Bh.monoR (Bv G K t.disc f4) ?_;by_cases c0:t.comps.length=0
   rotate_left
   ·have c0': ¬(t.comps.length:Int)=0:=by omega
    simp(disch:=omega) only[go_sem,↓reduceIte,gr1,Ab,Al,Am,An,Ac,Ad,Ae,Af,Ag,Ah,Ai,hk,Bk,c0'];exact Rm.sub sK (.refl ⟨by simp [Ba,Be,Bg,Bd, *],rfl⟩)
   have c0':(t.comps.length:Int)=0:=by omega
   by_cases v0:t.var= []
   rotate_left
   ·simp(disch:=omega) only[go_sem,↓reduceIte,gr1,Ab,Al,Am,An,Ac,Ad,Ae,Af,Ag,Ah,Ai,hk,Bk,c0',v0];exact Rm.sub sK (.refl ⟨by simp [Ba,Be,Bg,Bd, *],rfl⟩)
   by_cases a0:t.arms.length=0
   rotate_left
   ·have a0': ¬(t.arms.length:Int)=0:=by omega
    simp(disch:=omega) only[go_sem,↓reduceIte,gr1,Ab,Al,Am,An,Ac,Ad,Ae,Af,Ag,Ah,Ai,hk,Bk,Bo,c0',v0,a0'];exact Rm.sub sK (.refl ⟨by simp [Ba,Be,Bg,Bd, *],rfl⟩)
   have a0':(t.arms.length:Int)=0:=by omega
   simp(disch:=omega) only[go_sem,↓reduceIte,gr1,Ab,Al,Am,An,Ac,Ad,Ae,Af,Ag,Ah,Ai,hk,Bk,Bo,c0',v0,a0'];exact Rm.sub sK (.refl ⟨by simp [Ba,Be,Bg,Bd, *],rfl⟩)
  have n0':(t.names.length:Int)=0:=by omega
  simp(disch:=omega) only[go_sem,↓reduceIte,gr1,Ab,Al,Am,An,Ac,Ad,Ae,Af,Ag,Ah,Ai,hk,dW,n0'];refine Bh.monoR (Bm G K t.lo f1) ?_;cases l0:noE t.lo
  ·simp(disch:=omega) only[go_sem,↓reduceIte,gr1,Ab,Al,Am,An,Ac,Ad,Ae,Af,Ag,Ah,Ai,hk];refine Bh.monoR (Bu G K t.sub f3) ?_;simp(disch:=omega) only[go_sem,↓reduceIte,gr1,Ab,Al,Am,An,Ac,Ad,Ae,Af,Ag,Ah,Ai,hk];refine Bh.monoR (Bv G K t.disc f4) ?_;by_cases c0:t.comps.length=0
   rotate_left
   ·have c0': ¬(t.comps.length:Int)=0:=by omega
    simp(disch:=omega) only[go_sem,↓reduceIte,gr1,Ab,Al,Am,An,Ac,Ad,Ae,Af,Ag,Ah,Ai,hk,Bk,c0'];refine Bh.monoR (Ew G K t.lo t.hi f1 f2) ?_;cases hc:(Cp t.lo&&Cp t.hi)
    ·simp(disch:=omega) only[go_sem,↓reduceIte,gr1,Ab,Al,Am,An,Ac,Ad,Ae,Af,Ag,Ah,Ai,hk];exact Rm.sub sK (.refl ⟨by simp [Ba,Be,Bg,Bd, *],rfl⟩)
    simp(disch:=omega) only[go_sem,↓reduceIte,gr1,Ab,Al,Am,An,Ac,Ad,Ae,Af,Ag,Ah,Ai,hk];cases b3:Df t.sub
    ·simp(disch:=omega) only[go_sem,↓reduceIte,gr1,Ab,Al,Am,An,Ac,Ad,Ae,Af,Ag,Ah,Ai,hk];exact Rm.sub sK (.refl ⟨by simp [Ba,Be,Bg,Bd, *],rfl⟩)
    simp(disch:=omega) only[go_sem,↓reduceIte,gr1,Ab,Al,Am,An,Ac,Ad,Ae,Af,Ag,Ah,Ai,hk];cases b4:Cn t.disc
    ·simp(disch:=omega) only[go_sem,↓reduceIte,gr1,Ab,Al,Am,An,Ac,Ad,Ae,Af,Ag,Ah,Ai,hk];exact Rm.sub sK (.refl ⟨by simp [Ba,Be,Bg,Bd, *],rfl⟩)
    simp(disch:=omega) only[go_sem,↓reduceIte,gr1,Ab,Al,Am,An,Ac,Ad,Ae,Af,Ag,Ah,Ai,hk];exact Rm.sub sK (.refl ⟨by simp [Ba,Be,Bg,Bd, *],rfl⟩)
   have c0':(t.comps.length:Int)=0:=by omega
   by_cases v0:t.var= []
   rotate_left
   ·simp(disch:=omega) only[go_sem,↓reduceIte,gr1,Ab,Al,Am,An,Ac,Ad,Ae,Af,Ag,Ah,Ai,hk,Bk,c0',v0];refine Bh.monoR (Ew G K t.lo t.hi f1 f2) ?_;cases hc:(Cp t.lo&&Cp t.hi)
    ·simp(disch:=omega) only[go_sem,↓reduceIte,gr1,Ab,Al,Am,An,Ac,Ad,Ae,Af,Ag,Ah,Ai,hk];exact Rm.sub sK (.refl ⟨by simp [Ba,Be,Bg,Bd, *],rfl⟩)
    simp(disch:=omega) only[go_sem,↓reduceIte,gr1,Ab,Al,Am,An,Ac,Ad,Ae,Af,Ag,Ah,Ai,hk];cases b3:Df t.sub
    ·simp(disch:=omega) only[go_sem,↓reduceIte,gr1,Ab,Al,Am,An,Ac,Ad,Ae,Af,Ag,Ah,Ai,hk];exact Rm.sub sK (.refl ⟨by simp [Ba,Be,Bg,Bd, *],rfl⟩)
    simp(disch:=omega) only[go_sem,↓reduceIte,gr1,Ab,Al,Am,An,Ac,Ad,Ae,Af,Ag,Ah,Ai,hk];cases b4:Cn t.disc
    ·simp(disch:=omega) only[go_sem,↓reduceIte,gr1,Ab,Al,Am,An,Ac,Ad,Ae,Af,Ag,Ah,Ai,hk];exact Rm.sub sK (.refl ⟨by simp [Ba,Be,Bg,Bd, *],rfl⟩)
    simp(disch:=omega) only[go_sem,↓reduceIte,gr1,Ab,Al,Am,An,Ac,Ad,Ae,Af,Ag,Ah,Ai,hk];exact Rm.sub sK (.refl ⟨by simp [Ba,Be,Bg,Bd, *],rfl⟩)
   by_cases a0:t.arms.length=0
   rotate_left
   ·have a0': ¬(t.arms.length:Int)=0:=by omega
    simp(disch:=omega) only[go_sem,↓reduceIte,gr1,Ab,Al,Am,An,Ac,Ad,Ae,Af,Ag,Ah,Ai,hk,Bk,Bo,c0',v0,a0'];refine Bh.monoR (Ew G K t.lo t.hi f1 f2) ?_;cases hc:(Cp t.lo&&Cp t.hi)
    ·simp(disch:=omega) only[go_sem,↓reduceIte,gr1,Ab,Al,Am,An,Ac,Ad,Ae,Af,Ag,Ah,Ai,hk];exact Rm.sub sK (.refl ⟨by simp [Ba,Be,Bg,Bd, *],rfl⟩)
    simp(disch:=omega) only[go_sem,↓reduceIte,gr1,Ab,Al,Am,An,Ac,Ad,Ae,Af,Ag,Ah,Ai,hk];cases b3:Df t.sub
    ·simp(disch:=omega) only[go_sem,↓reduceIte,gr1,Ab,Al,Am,An,Ac,Ad,Ae,Af,Ag,Ah,Ai,hk];exact Rm.sub sK (.refl ⟨by simp [Ba,Be,Bg,Bd, *],rfl⟩)
    simp(disch:=omega) only[go_sem,↓reduceIte,gr1,Ab,Al,Am,An,Ac,Ad,Ae,Af,Ag,Ah,Ai,hk];cases b4:Cn t.disc
    ·simp(disch:=omega) only[go_sem,↓reduceIte,gr1,Ab,Al,Am,An,Ac,Ad,Ae,Af,Ag,Ah,Ai,hk];exact Rm.sub sK (.refl ⟨by simp [Ba,Be,Bg,Bd, *],rfl⟩)
    simp(disch:=omega) only[go_sem,↓reduceIte,gr1,Ab,Al,Am,An,Ac,Ad,Ae,Af,Ag,Ah,Ai,hk];exact Rm.sub sK (.refl ⟨by simp [Ba,Be,Bg,Bd, *],rfl⟩)
   have a0':(t.arms.length:Int)=0:=by omega
   simp(disch:=omega) only[go_sem,↓reduceIte,gr1,Ab,Al,Am,An,Ac,Ad,Ae,Af,Ag,Ah,Ai,hk,Bk,Bo,c0',v0,a0'];refine Bh.monoR (Ew G K t.lo t.hi f1 f2) ?_;cases hc:(Cp t.lo&&Cp t.hi)
   ·simp(disch:=omega) only[go_sem,↓reduceIte,gr1,Ab,Al,Am,An,Ac,Ad,Ae,Af,Ag,Ah,Ai,hk];exact Rm.sub sK (.refl ⟨by simp [Ba,Be,Bg,Bd, *],rfl⟩)
   simp(disch:=omega) only[go_sem,↓reduceIte,gr1,Ab,Al,Am,An,Ac,Ad,Ae,Af,Ag,Ah,Ai,hk];cases b3:Df t.sub
   ·simp(disch:=omega) only[go_sem,↓reduceIte,gr1,Ab,Al,Am,An,Ac,Ad,Ae,Af,Ag,Ah,Ai,hk];exact Rm.sub sK (.refl ⟨by simp [Ba,Be,Bg,Bd, *],rfl⟩)
   simp(disch:=omega) only[go_sem,↓reduceIte,gr1,Ab,Al,Am,An,Ac,Ad,Ae,Af,Ag,Ah,Ai,hk];cases b4:Cn t.disc
   ·simp(disch:=omega) only[go_sem,↓reduceIte,gr1,Ab,Al,Am,An,Ac,Ad,Ae,Af,Ag,Ah,Ai,hk];exact Rm.sub sK (.refl ⟨by simp [Ba,Be,Bg,Bd, *],rfl⟩)
   simp(disch:=omega) only[go_sem,↓reduceIte,gr1,Ab,Al,Am,An,Ac,Ad,Ae,Af,Ag,Ah,Ai,hk];exact Rm.sub sK (.refl ⟨by simp [Ba,Be,Bg,Bd, *],rfl⟩)
  simp(disch:=omega) only[go_sem,↓reduceIte,gr1,Ab,Al,Am,An,Ac,Ad,Ae,Af,Ag,Ah,Ai,hk];refine Bh.monoR (Bm G K t.hi f2) ?_;simp(disch:=omega) only[go_sem,↓reduceIte,gr1,Ab,Al,Am,An,Ac,Ad,Ae,Af,Ag,Ah,Ai,hk];refine Bh.monoR (Bu G K t.sub f3) ?_;simp(disch:=omega) only[go_sem,↓reduceIte,gr1,Ab,Al,Am,An,Ac,Ad,Ae,Af,Ag,Ah,Ai,hk];refine Bh.monoR (Bv G K t.disc f4) ?_;by_cases c0:t.comps.length=0
  rotate_left
  ·have c0': ¬(t.comps.length:Int)=0:=by omega
   simp(disch:=omega) only[go_sem,↓reduceIte,gr1,Ab,Al,Am,An,Ac,Ad,Ae,Af,Ag,Ah,Ai,hk,Bk,c0'];refine Bh.monoR (Ew G K t.lo t.hi f1 f2) ?_;cases hc:(Cp t.lo&&Cp t.hi)
   ·simp(disch:=omega) only[go_sem,↓reduceIte,gr1,Ab,Al,Am,An,Ac,Ad,Ae,Af,Ag,Ah,Ai,hk];exact Rm.sub sK (.refl ⟨by simp [Ba,Be,Bg,Bd, *],rfl⟩)
   simp(disch:=omega) only[go_sem,↓reduceIte,gr1,Ab,Al,Am,An,Ac,Ad,Ae,Af,Ag,Ah,Ai,hk];cases b3:Df t.sub
   ·simp(disch:=omega) only[go_sem,↓reduceIte,gr1,Ab,Al,Am,An,Ac,Ad,Ae,Af,Ag,Ah,Ai,hk];exact Rm.sub sK (.refl ⟨by simp [Ba,Be,Bg,Bd, *],rfl⟩)
   simp(disch:=omega) only[go_sem,↓reduceIte,gr1,Ab,Al,Am,An,Ac,Ad,Ae,Af,Ag,Ah,Ai,hk];cases b4:Cn t.disc
   ·simp(disch:=omega) only[go_sem,↓reduceIte,gr1,Ab,Al,Am,An,Ac,Ad,Ae,Af,Ag,Ah,Ai,hk];exact Rm.sub sK (.refl ⟨by simp [Ba,Be,Bg,Bd, *],rfl⟩)
   simp(disch:=omega) only[go_sem,↓reduceIte,gr1,Ab,Al,Am,An,Ac,Ad,Ae,Af,Ag,Ah,Ai,hk];exact Rm.sub sK (.refl ⟨by simp [Ba,Be,Bg,Bd, *],rfl⟩)
  have c0':(t.comps.length:Int)=0:=by omega
  by_cases v0:t.var= []
  rotate_left
  ·simp(disch:=omega) only[go_sem,↓reduceIte,gr1,Ab,Al,Am,An,Ac,Ad,Ae,Af,Ag,Ah,Ai,hk,Bk,c0',v0];refine Bh.monoR (Ew G K t.lo t.hi f1 f2) ?_;cases hc:(Cp t.lo&&Cp t.hi)
   ·simp(disch:=omega) only[go_sem,↓reduceIte,gr1,Ab,Al,Am,An,Ac,Ad,Ae,Af,Ag,Ah,Ai,hk];exact Rm.sub sK (.refl ⟨by simp [Ba,Be,Bg,Bd, *],rfl⟩)
   simp(disch:=omega) only[go_sem,↓reduceIte,gr1,Ab,Al,Am,An,Ac,Ad,Ae,Af,Ag,Ah,Ai,hk];cases b3:Df t.sub
   ·simp(disch:=omega) only[go_sem,↓reduceIte,gr1,Ab,Al,Am,An,Ac,Ad,Ae,Af,Ag,Ah,Ai,hk];exact Rm.sub sK (.refl ⟨by simp [Ba,Be,Bg,Bd, *],rfl⟩)
   simp(disch:=omega) only[go_sem,↓reduceIte,gr1,Ab,Al,Am,An,Ac,Ad,Ae,Af,Ag,Ah,Ai,hk];cases b4:Cn t.disc
   ·simp(disch:=omega) only[go_sem,↓reduceIte,gr1,Ab,Al,Am,An,Ac,Ad,Ae,Af,Ag,Ah,Ai,hk];exact Rm.sub sK (.refl ⟨by simp [Ba,Be,Bg,Bd, *],rfl⟩)
   simp(disch:=omega) only[go_sem,↓reduceIte,gr1,Ab,Al,Am,An,Ac,Ad,Ae,Af,Ag,Ah,Ai,hk];exact Rm.sub sK (.refl ⟨by simp [Ba,Be,Bg,Bd, *],rfl⟩)
  by_cases a0:t.arms.length=0
  rotate_left
  ·have a0': ¬(t.arms.length:Int)=0:=by omega
   simp(disch:=omega) only[go_sem,↓reduceIte,gr1,Ab,Al,Am,An,Ac,Ad,Ae,Af,Ag,Ah,Ai,hk,Bk,Bo,c0',v0,a0'];refine Bh.monoR (Ew G K t.lo t.hi f1 f2) ?_;cases hc:(Cp t.lo&&Cp t.hi)
   ·simp(disch:=omega) only[go_sem,↓reduceIte,gr1,Ab,Al,Am,An,Ac,Ad,Ae,Af,Ag,Ah,Ai,hk];exact Rm.sub sK (.refl ⟨by simp [Ba,Be,Bg,Bd, *],rfl⟩)
   simp(disch:=omega) only[go_sem,↓reduceIte,gr1,Ab,Al,Am,An,Ac,Ad,Ae,Af,Ag,Ah,Ai,hk];cases b3:Df t.sub
   ·simp(disch:=omega) only[go_sem,↓reduceIte,gr1,Ab,Al,Am,An,Ac,Ad,Ae,Af,Ag,Ah,Ai,hk];exact Rm.sub sK (.refl ⟨by simp [Ba,Be,Bg,Bd, *],rfl⟩)
   simp(disch:=omega) only[go_sem,↓reduceIte,gr1,Ab,Al,Am,An,Ac,Ad,Ae,Af,Ag,Ah,Ai,hk];cases b4:Cn t.disc
   ·simp(disch:=omega) only[go_sem,↓reduceIte,gr1,Ab,Al,Am,An,Ac,Ad,Ae,Af,Ag,Ah,Ai,hk];exact Rm.sub sK (.refl ⟨by simp [Ba,Be,Bg,Bd, *],rfl⟩)
   simp(disch:=omega) only[go_sem,↓reduceIte,gr1,Ab,Al,Am,An,Ac,Ad,Ae,Af,Ag,Ah,Ai,hk];exact Rm.sub sK (.refl ⟨by simp [Ba,Be,Bg,Bd, *],rfl⟩)
  have a0':(t.arms.length:Int)=0:=by omega
  simp(disch:=omega) only[go_sem,↓reduceIte,gr1,Ab,Al,Am,An,Ac,Ad,Ae,Af,Ag,Ah,Ai,hk,Bk,Bo,c0',v0,a0'];refine Bh.monoR (Ew G K t.lo t.hi f1 f2) ?_;cases hc:(Cp t.lo&&Cp t.hi)
  ·simp(disch:=omega) only[go_sem,↓reduceIte,gr1,Ab,Al,Am,An,Ac,Ad,Ae,Af,Ag,Ah,Ai,hk];exact Rm.sub sK (.refl ⟨by simp [Ba,Be,Bg,Bd, *],rfl⟩)
  simp(disch:=omega) only[go_sem,↓reduceIte,gr1,Ab,Al,Am,An,Ac,Ad,Ae,Af,Ag,Ah,Ai,hk];cases b3:Df t.sub
  ·simp(disch:=omega) only[go_sem,↓reduceIte,gr1,Ab,Al,Am,An,Ac,Ad,Ae,Af,Ag,Ah,Ai,hk];exact Rm.sub sK (.refl ⟨by simp [Ba,Be,Bg,Bd, *],rfl⟩)
  simp(disch:=omega) only[go_sem,↓reduceIte,gr1,Ab,Al,Am,An,Ac,Ad,Ae,Af,Ag,Ah,Ai,hk];cases b4:Cn t.disc
  ·simp(disch:=omega) only[go_sem,↓reduceIte,gr1,Ab,Al,Am,An,Ac,Ad,Ae,Af,Ag,Ah,Ai,hk];exact Rm.sub sK (.refl ⟨by simp [Ba,Be,Bg,Bd, *],rfl⟩)
  simp(disch:=omega) only[go_sem,↓reduceIte,gr1,Ab,Al,Am,An,Ac,Ad,Ae,Af,Ag,Ah,Ai,hk];exact Rm.sub sK (.refl ⟨by simp [Ba,Be,Bg,Bd, *],rfl⟩)
 have k2:=hk;clear hk;by_cases hk:t.kind=3
 ·by_cases n0:t.names.length=0
  rotate_left
  ·have n0': ¬(t.names.length:Int)=0:=by omega
   simp(disch:=omega) only[go_sem,↓reduceIte,gr1,Ab,Al,Am,An,Ac,Ad,Ae,Af,Ag,Ah,Ai,hk,dW,n0'];refine Bh.monoR (Bm G K t.lo f1) ?_;cases l0:noE t.lo
   ·simp(disch:=omega) only[go_sem,↓reduceIte,gr1,Ab,Al,Am,An,Ac,Ad,Ae,Af,Ag,Ah,Ai,hk];refine Bh.monoR (Bu G K t.sub f3) ?_;simp(disch:=omega) only[go_sem,↓reduceIte,gr1,Ab,Al,Am,An,Ac,Ad,Ae,Af,Ag,Ah,Ai,hk];refine Bh.monoR (Bv G K t.disc f4) ?_;by_cases c0:t.comps.length=0
    rotate_left
    ·have c0': ¬(t.comps.length:Int)=0:=by omega
     simp(disch:=omega) only[go_sem,↓reduceIte,gr1,Ab,Al,Am,An,Ac,Ad,Ae,Af,Ag,Ah,Ai,hk,Bk,c0'];exact Rm.sub sK (.refl ⟨by simp [Ba,Be,Bg,Bd, *],rfl⟩)
    have c0':(t.comps.length:Int)=0:=by omega
    by_cases v0:t.var= []
    rotate_left
    ·simp(disch:=omega) only[go_sem,↓reduceIte,gr1,Ab,Al,Am,An,Ac,Ad,Ae,Af,Ag,Ah,Ai,hk,Bk,c0',v0];exact Rm.sub sK (.refl ⟨by simp [Ba,Be,Bg,Bd, *],rfl⟩)
    by_cases a0:t.arms.length=0
    rotate_left
    ·have a0': ¬(t.arms.length:Int)=0:=by omega
     simp(disch:=omega) only[go_sem,↓reduceIte,gr1,Ab,Al,Am,An,Ac,Ad,Ae,Af,Ag,Ah,Ai,hk,Bk,Bo,c0',v0,a0'];exact Rm.sub sK (.refl ⟨by simp [Ba,Be,Bg,Bd, *],rfl⟩)
    have a0':(t.arms.length:Int)=0:=by omega
    simp(disch:=omega) only[go_sem,↓reduceIte,gr1,Ab,Al,Am,An,Ac,Ad,Ae,Af,Ag,Ah,Ai,hk,Bk,Bo,c0',v0,a0'];exact Rm.sub sK (.refl ⟨by simp [Ba,Be,Bg,Bd, *],rfl⟩)
   simp(disch:=omega) only[go_sem,↓reduceIte,gr1,Ab,Al,Am,An,Ac,Ad,Ae,Af,Ag,Ah,Ai,hk];refine Bh.monoR (Bm G K t.hi f2) ?_;simp(disch:=omega) only[go_sem,↓reduceIte,gr1,Ab,Al,Am,An,Ac,Ad,Ae,Af,Ag,Ah,Ai,hk];refine Bh.monoR (Bu G K t.sub f3) ?_;simp(disch:=omega) only[go_sem,↓reduceIte,gr1,Ab,Al,Am,An,Ac,Ad,Ae,Af,Ag,Ah,Ai,hk];refine Bh.monoR (Bv G K t.disc f4) ?_;by_cases c0:t.comps.length=0
   rotate_left
   ·have c0': ¬(t.comps.length:Int)=0:=by omega
    simp(disch:=omega) only[go_sem,↓reduceIte,gr1,Ab,Al,Am,An,Ac,Ad,Ae,Af,Ag,Ah,Ai,hk,Bk,c0'];exact Rm.sub sK (.refl ⟨by simp [Ba,Be,Bg,Bd, *],rfl⟩)
   have c0':(t.comps.length:Int)=0:=by omega
   by_cases v0:t.var= []
   rotate_left
   ·simp(disch:=omega) only[go_sem,↓reduceIte,gr1,Ab,Al,Am,An,Ac,Ad,Ae,Af,Ag,Ah,Ai,hk,Bk,c0',v0];exact Rm.sub sK (.refl ⟨by simp [Ba,Be,Bg,Bd, *],rfl⟩)
   by_cases a0:t.arms.length=0
   rotate_left
   ·have a0': ¬(t.arms.length:Int)=0:=by omega
    simp(disch:=omega) only[go_sem,↓reduceIte,gr1,Ab,Al,Am,An,Ac,Ad,Ae,Af,Ag,Ah,Ai,hk,Bk,Bo,c0',v0,a0'];exact Rm.sub sK (.refl ⟨by simp [Ba,Be,Bg,Bd, *],rfl⟩)
   have a0':(t.arms.length:Int)=0:=by omega
   simp(disch:=omega) only[go_sem,↓reduceIte,gr1,Ab,Al,Am,An,Ac,Ad,Ae,Af,Ag,Ah,Ai,hk,Bk,Bo,c0',v0,a0'];exact Rm.sub sK (.refl ⟨by simp [Ba,Be,Bg,Bd, *],rfl⟩)
  have n0':(t.names.length:Int)=0:=by omega
  simp(disch:=omega) only[go_sem,↓reduceIte,gr1,Ab,Al,Am,An,Ac,Ad,Ae,Af,Ag,Ah,Ai,hk,dW,n0'];refine Bh.monoR (Bm G K t.lo f1) ?_;cases l0:noE t.lo
  ·simp(disch:=omega) only[go_sem,↓reduceIte,gr1,Ab,Al,Am,An,Ac,Ad,Ae,Af,Ag,Ah,Ai,hk];refine Bh.monoR (Bu G K t.sub f3) ?_;simp(disch:=omega) only[go_sem,↓reduceIte,gr1,Ab,Al,Am,An,Ac,Ad,Ae,Af,Ag,Ah,Ai,hk];refine Bh.monoR (Bv G K t.disc f4) ?_;by_cases c0:t.comps.length=0
   rotate_left
   ·have c0': ¬(t.comps.length:Int)=0:=by omega
    simp(disch:=omega) only[go_sem,↓reduceIte,gr1,Ab,Al,Am,An,Ac,Ad,Ae,Af,Ag,Ah,Ai,hk,Bk,c0'];exact Rm.sub sK (.refl ⟨by simp [Ba,Be,Bg,Bd, *],rfl⟩)
   have c0':(t.comps.length:Int)=0:=by omega
   by_cases v0:t.var= []
   rotate_left
   ·simp(disch:=omega) only[go_sem,↓reduceIte,gr1,Ab,Al,Am,An,Ac,Ad,Ae,Af,Ag,Ah,Ai,hk,Bk,c0',v0];exact Rm.sub sK (.refl ⟨by simp [Ba,Be,Bg,Bd, *],rfl⟩)
   by_cases a0:t.arms.length=0
   rotate_left
   ·have a0': ¬(t.arms.length:Int)=0:=by omega
    simp(disch:=omega) only[go_sem,↓reduceIte,gr1,Ab,Al,Am,An,Ac,Ad,Ae,Af,Ag,Ah,Ai,hk,Bk,Bo,c0',v0,a0'];exact Rm.sub sK (.refl ⟨by simp [Ba,Be,Bg,Bd, *],rfl⟩)
   have a0':(t.arms.length:Int)=0:=by omega
   simp(disch:=omega) only[go_sem,↓reduceIte,gr1,Ab,Al,Am,An,Ac,Ad,Ae,Af,Ag,Ah,Ai,hk,Bk,Bo,c0',v0,a0'];exact Rm.sub sK (.refl ⟨by simp [Ba,Be,Bg,Bd, *],rfl⟩)
  simp(disch:=omega) only[go_sem,↓reduceIte,gr1,Ab,Al,Am,An,Ac,Ad,Ae,Af,Ag,Ah,Ai,hk];refine Bh.monoR (Bm G K t.hi f2) ?_;simp(disch:=omega) only[go_sem,↓reduceIte,gr1,Ab,Al,Am,An,Ac,Ad,Ae,Af,Ag,Ah,Ai,hk];refine Bh.monoR (Bu G K t.sub f3) ?_;simp(disch:=omega) only[go_sem,↓reduceIte,gr1,Ab,Al,Am,An,Ac,Ad,Ae,Af,Ag,Ah,Ai,hk];refine Bh.monoR (Bv G K t.disc f4) ?_;by_cases c0:t.comps.length=0
  rotate_left
  ·have c0': ¬(t.comps.length:Int)=0:=by omega
   simp(disch:=omega) only[go_sem,↓reduceIte,gr1,Ab,Al,Am,An,Ac,Ad,Ae,Af,Ag,Ah,Ai,hk,Bk,c0'];cases l1:noE t.hi
   ·simp(disch:=omega) only[go_sem,↓reduceIte,gr1,Ab,Al,Am,An,Ac,Ad,Ae,Af,Ag,Ah,Ai,hk];exact Rm.sub sK (.refl ⟨by simp [Ba,Be,Bg,Bd, *],rfl⟩)
   simp(disch:=omega) only[go_sem,↓reduceIte,gr1,Ab,Al,Am,An,Ac,Ad,Ae,Af,Ag,Ah,Ai,hk];refine Bh.monoR (Dd G K t.sub f3) ?_;cases hc:Ce t.sub
   ·simp(disch:=omega) only[go_sem,↓reduceIte,gr1,Ab,Al,Am,An,Ac,Ad,Ae,Af,Ag,Ah,Ai,hk];exact Rm.sub sK (.refl ⟨by simp [Ba,Be,Bg,Bd, *],rfl⟩)
   simp(disch:=omega) only[go_sem,↓reduceIte,gr1,Ab,Al,Am,An,Ac,Ad,Ae,Af,Ag,Ah,Ai,hk];cases b4:Cn t.disc
   ·simp(disch:=omega) only[go_sem,↓reduceIte,gr1,Ab,Al,Am,An,Ac,Ad,Ae,Af,Ag,Ah,Ai,hk];exact Rm.sub sK (.refl ⟨by simp [Ba,Be,Bg,Bd, *],rfl⟩)
   simp(disch:=omega) only[go_sem,↓reduceIte,gr1,Ab,Al,Am,An,Ac,Ad,Ae,Af,Ag,Ah,Ai,hk];exact Rm.sub sK (.refl ⟨by simp [Ba,Be,Bg,Bd, *],rfl⟩)
  have c0':(t.comps.length:Int)=0:=by omega
  by_cases v0:t.var= []
  rotate_left
  ·simp(disch:=omega) only[go_sem,↓reduceIte,gr1,Ab,Al,Am,An,Ac,Ad,Ae,Af,Ag,Ah,Ai,hk,Bk,c0',v0];cases l1:noE t.hi
   ·simp(disch:=omega) only[go_sem,↓reduceIte,gr1,Ab,Al,Am,An,Ac,Ad,Ae,Af,Ag,Ah,Ai,hk];exact Rm.sub sK (.refl ⟨by simp [Ba,Be,Bg,Bd, *],rfl⟩)
   simp(disch:=omega) only[go_sem,↓reduceIte,gr1,Ab,Al,Am,An,Ac,Ad,Ae,Af,Ag,Ah,Ai,hk];refine Bh.monoR (Dd G K t.sub f3) ?_;cases hc:Ce t.sub
   ·simp(disch:=omega) only[go_sem,↓reduceIte,gr1,Ab,Al,Am,An,Ac,Ad,Ae,Af,Ag,Ah,Ai,hk];exact Rm.sub sK (.refl ⟨by simp [Ba,Be,Bg,Bd, *],rfl⟩)
   simp(disch:=omega) only[go_sem,↓reduceIte,gr1,Ab,Al,Am,An,Ac,Ad,Ae,Af,Ag,Ah,Ai,hk];cases b4:Cn t.disc
   ·simp(disch:=omega) only[go_sem,↓reduceIte,gr1,Ab,Al,Am,An,Ac,Ad,Ae,Af,Ag,Ah,Ai,hk];exact Rm.sub sK (.refl ⟨by simp [Ba,Be,Bg,Bd, *],rfl⟩)
   simp(disch:=omega) only[go_sem,↓reduceIte,gr1,Ab,Al,Am,An,Ac,Ad,Ae,Af,Ag,Ah,Ai,hk];exact Rm.sub sK (.refl ⟨by simp [Ba,Be,Bg,Bd, *],rfl⟩)
  by_cases a0:t.arms.length=0
  rotate_left
  ·have a0': ¬(t.arms.length:Int)=0:=by omega
   simp(disch:=omega) only[go_sem,↓reduceIte,gr1,Ab,Al,Am,An,Ac,Ad,Ae,Af,Ag,Ah,Ai,hk,Bk,Bo,c0',v0,a0'];cases l1:noE t.hi
   ·simp(disch:=omega) only[go_sem,↓reduceIte,gr1,Ab,Al,Am,An,Ac,Ad,Ae,Af,Ag,Ah,Ai,hk];exact Rm.sub sK (.refl ⟨by simp [Ba,Be,Bg,Bd, *],rfl⟩)
   simp(disch:=omega) only[go_sem,↓reduceIte,gr1,Ab,Al,Am,An,Ac,Ad,Ae,Af,Ag,Ah,Ai,hk];refine Bh.monoR (Dd G K t.sub f3) ?_;cases hc:Ce t.sub
   ·simp(disch:=omega) only[go_sem,↓reduceIte,gr1,Ab,Al,Am,An,Ac,Ad,Ae,Af,Ag,Ah,Ai,hk];exact Rm.sub sK (.refl ⟨by simp [Ba,Be,Bg,Bd, *],rfl⟩)
   simp(disch:=omega) only[go_sem,↓reduceIte,gr1,Ab,Al,Am,An,Ac,Ad,Ae,Af,Ag,Ah,Ai,hk];cases b4:Cn t.disc
   ·simp(disch:=omega) only[go_sem,↓reduceIte,gr1,Ab,Al,Am,An,Ac,Ad,Ae,Af,Ag,Ah,Ai,hk];exact Rm.sub sK (.refl ⟨by simp [Ba,Be,Bg,Bd, *],rfl⟩)
   simp(disch:=omega) only[go_sem,↓reduceIte,gr1,Ab,Al,Am,An,Ac,Ad,Ae,Af,Ag,Ah,Ai,hk];exact Rm.sub sK (.refl ⟨by simp [Ba,Be,Bg,Bd, *],rfl⟩)
  have a0':(t.arms.length:Int)=0:=by omega
  simp(disch:=omega) only[go_sem,↓reduceIte,gr1,Ab,Al,Am,An,Ac,Ad,Ae,Af,Ag,Ah,Ai,hk,Bk,Bo,c0',v0,a0'];cases l1:noE t.hi
  ·simp(disch:=omega) only[go_sem,↓reduceIte,gr1,Ab,Al,Am,An,Ac,Ad,Ae,Af,Ag,Ah,Ai,hk];exact Rm.sub sK (.refl ⟨by simp [Ba,Be,Bg,Bd, *],rfl⟩)
  simp(disch:=omega) only[go_sem,↓reduceIte,gr1,Ab,Al,Am,An,Ac,Ad,Ae,Af,Ag,Ah,Ai,hk];refine Bh.monoR (Dd G K t.sub f3) ?_;cases hc:Ce t.sub
  ·simp(disch:=omega) only[go_sem,↓reduceIte,gr1,Ab,Al,Am,An,Ac,Ad,Ae,Af,Ag,Ah,Ai,hk];exact Rm.sub sK (.refl ⟨by simp [Ba,Be,Bg,Bd, *],rfl⟩)
  simp(disch:=omega) only[go_sem,↓reduceIte,gr1,Ab,Al,Am,An,Ac,Ad,Ae,Af,Ag,Ah,Ai,hk];cases b4:Cn t.disc
  ·simp(disch:=omega) only[go_sem,↓reduceIte,gr1,Ab,Al,Am,An,Ac,Ad,Ae,Af,Ag,Ah,Ai,hk];exact Rm.sub sK (.refl ⟨by simp [Ba,Be,Bg,Bd, *],rfl⟩)
  simp(disch:=omega) only[go_sem,↓reduceIte,gr1,Ab,Al,Am,An,Ac,Ad,Ae,Af,Ag,Ah,Ai,hk];exact Rm.sub sK (.refl ⟨by simp [Ba,Be,Bg,Bd, *],rfl⟩)
 have k3:=hk;clear hk;by_cases hk:t.kind=4
 ·by_cases n0:t.names.length=0
  rotate_left
  ·have n0': ¬(t.names.length:Int)=0:=by omega
   simp(disch:=omega) only[go_sem,↓reduceIte,gr1,Ab,Al,Am,An,Ac,Ad,Ae,Af,Ag,Ah,Ai,hk,dW,n0'];refine Bh.monoR (Bm G K t.lo f1) ?_;cases l0:noE t.lo
   ·simp(disch:=omega) only[go_sem,↓reduceIte,gr1,Ab,Al,Am,An,Ac,Ad,Ae,Af,Ag,Ah,Ai,hk];refine Bh.monoR (Bu G K t.sub f3) ?_;simp(disch:=omega) only[go_sem,↓reduceIte,gr1,Ab,Al,Am,An,Ac,Ad,Ae,Af,Ag,Ah,Ai,hk];refine Bh.monoR (Bv G K t.disc f4) ?_;by_cases c0:t.comps.length=0
    rotate_left
    ·have c0': ¬(t.comps.length:Int)=0:=by omega
     simp(disch:=omega) only[go_sem,↓reduceIte,gr1,Ab,Al,Am,An,Ac,Ad,Ae,Af,Ag,Ah,Ai,hk,Bk,c0'];exact Rm.sub sK (.refl ⟨by simp [Ba,Be,Bg,Bd, *],rfl⟩)
    have c0':(t.comps.length:Int)=0:=by omega
    by_cases v0:t.var= []
    rotate_left
    ·simp(disch:=omega) only[go_sem,↓reduceIte,gr1,Ab,Al,Am,An,Ac,Ad,Ae,Af,Ag,Ah,Ai,hk,Bk,c0',v0];exact Rm.sub sK (.refl ⟨by simp [Ba,Be,Bg,Bd, *],rfl⟩)
    by_cases a0:t.arms.length=0
    rotate_left
    ·have a0': ¬(t.arms.length:Int)=0:=by omega
     simp(disch:=omega) only[go_sem,↓reduceIte,gr1,Ab,Al,Am,An,Ac,Ad,Ae,Af,Ag,Ah,Ai,hk,Bk,Bo,c0',v0,a0'];exact Rm.sub sK (.refl ⟨by simp [Ba,Be,Bg,Bd, *],rfl⟩)
    have a0':(t.arms.length:Int)=0:=by omega
    simp(disch:=omega) only[go_sem,↓reduceIte,gr1,Ab,Al,Am,An,Ac,Ad,Ae,Af,Ag,Ah,Ai,hk,Bk,Bo,c0',v0,a0'];exact Rm.sub sK (.refl ⟨by simp [Ba,Be,Bg,Bd, *],rfl⟩)
   simp(disch:=omega) only[go_sem,↓reduceIte,gr1,Ab,Al,Am,An,Ac,Ad,Ae,Af,Ag,Ah,Ai,hk];refine Bh.monoR (Bm G K t.hi f2) ?_;simp(disch:=omega) only[go_sem,↓reduceIte,gr1,Ab,Al,Am,An,Ac,Ad,Ae,Af,Ag,Ah,Ai,hk];refine Bh.monoR (Bu G K t.sub f3) ?_;simp(disch:=omega) only[go_sem,↓reduceIte,gr1,Ab,Al,Am,An,Ac,Ad,Ae,Af,Ag,Ah,Ai,hk];refine Bh.monoR (Bv G K t.disc f4) ?_;by_cases c0:t.comps.length=0
   rotate_left
   ·have c0': ¬(t.comps.length:Int)=0:=by omega
    simp(disch:=omega) only[go_sem,↓reduceIte,gr1,Ab,Al,Am,An,Ac,Ad,Ae,Af,Ag,Ah,Ai,hk,Bk,c0'];exact Rm.sub sK (.refl ⟨by simp [Ba,Be,Bg,Bd, *],rfl⟩)
   have c0':(t.comps.length:Int)=0:=by omega
   by_cases v0:t.var= []
   rotate_left
   ·simp(disch:=omega) only[go_sem,↓reduceIte,gr1,Ab,Al,Am,An,Ac,Ad,Ae,Af,Ag,Ah,Ai,hk,Bk,c0',v0];exact Rm.sub sK (.refl ⟨by simp [Ba,Be,Bg,Bd, *],rfl⟩)
   by_cases a0:t.arms.length=0
   rotate_left
   ·have a0': ¬(t.arms.length:Int)=0:=by omega
    simp(disch:=omega) only[go_sem,↓reduceIte,gr1,Ab,Al,Am,An,Ac,Ad,Ae,Af,Ag,Ah,Ai,hk,Bk,Bo,c0',v0,a0'];exact Rm.sub sK (.refl ⟨by simp [Ba,Be,Bg,Bd, *],rfl⟩)
   have a0':(t.arms.length:Int)=0:=by omega
   simp(disch:=omega) only[go_sem,↓reduceIte,gr1,Ab,Al,Am,An,Ac,Ad,Ae,Af,Ag,Ah,Ai,hk,Bk,Bo,c0',v0,a0'];exact Rm.sub sK (.refl ⟨by simp [Ba,Be,Bg,Bd, *],rfl⟩)
  have n0':(t.names.length:Int)=0:=by omega
  simp(disch:=omega) only[go_sem,↓reduceIte,gr1,Ab,Al,Am,An,Ac,Ad,Ae,Af,Ag,Ah,Ai,hk,dW,n0'];refine Bh.monoR (Bm G K t.lo f1) ?_;cases l0:noE t.lo
  ·simp(disch:=omega) only[go_sem,↓reduceIte,gr1,Ab,Al,Am,An,Ac,Ad,Ae,Af,Ag,Ah,Ai,hk];refine Bh.monoR (Bu G K t.sub f3) ?_;simp(disch:=omega) only[go_sem,↓reduceIte,gr1,Ab,Al,Am,An,Ac,Ad,Ae,Af,Ag,Ah,Ai,hk];refine Bh.monoR (Bv G K t.disc f4) ?_;by_cases c0:t.comps.length=0
   rotate_left
   ·have c0': ¬(t.comps.length:Int)=0:=by omega
    simp(disch:=omega) only[go_sem,↓reduceIte,gr1,Ab,Al,Am,An,Ac,Ad,Ae,Af,Ag,Ah,Ai,hk,Bk,c0'];exact Rm.sub sK (.refl ⟨by simp [Ba,Be,Bg,Bd, *],rfl⟩)
   have c0':(t.comps.length:Int)=0:=by omega
   by_cases v0:t.var= []
   rotate_left
   ·simp(disch:=omega) only[go_sem,↓reduceIte,gr1,Ab,Al,Am,An,Ac,Ad,Ae,Af,Ag,Ah,Ai,hk,Bk,c0',v0];exact Rm.sub sK (.refl ⟨by simp [Ba,Be,Bg,Bd, *],rfl⟩)
   by_cases a0:t.arms.length=0
   rotate_left
   ·have a0': ¬(t.arms.length:Int)=0:=by omega
    simp(disch:=omega) only[go_sem,↓reduceIte,gr1,Ab,Al,Am,An,Ac,Ad,Ae,Af,Ag,Ah,Ai,hk,Bk,Bo,c0',v0,a0'];exact Rm.sub sK (.refl ⟨by simp [Ba,Be,Bg,Bd, *],rfl⟩)
   have a0':(t.arms.length:Int)=0:=by omega
   simp(disch:=omega) only[go_sem,↓reduceIte,gr1,Ab,Al,Am,An,Ac,Ad,Ae,Af,Ag,Ah,Ai,hk,Bk,Bo,c0',v0,a0'];exact Rm.sub sK (.refl ⟨by simp [Ba,Be,Bg,Bd, *],rfl⟩)
  simp(disch:=omega) only[go_sem,↓reduceIte,gr1,Ab,Al,Am,An,Ac,Ad,Ae,Af,Ag,Ah,Ai,hk];refine Bh.monoR (Bm G K t.hi f2) ?_;simp(disch:=omega) only[go_sem,↓reduceIte,gr1,Ab,Al,Am,An,Ac,Ad,Ae,Af,Ag,Ah,Ai,hk];refine Bh.monoR (Bu G K t.sub f3) ?_;simp(disch:=omega) only[go_sem,↓reduceIte,gr1,Ab,Al,Am,An,Ac,Ad,Ae,Af,Ag,Ah,Ai,hk];refine Bh.monoR (Bv G K t.disc f4) ?_;by_cases c0:t.comps.length=0
  rotate_left
  ·have c0': ¬(t.comps.length:Int)=0:=by omega
   simp(disch:=omega) only[go_sem,↓reduceIte,gr1,Ab,Al,Am,An,Ac,Ad,Ae,Af,Ag,Ah,Ai,hk,Bk,c0'];cases l1:noE t.hi
   ·simp(disch:=omega) only[go_sem,↓reduceIte,gr1,Ab,Al,Am,An,Ac,Ad,Ae,Af,Ag,Ah,Ai,hk];exact Rm.sub sK (.refl ⟨by simp [Ba,Be,Bg,Bd, *],rfl⟩)
   simp(disch:=omega) only[go_sem,↓reduceIte,gr1,Ab,Al,Am,An,Ac,Ad,Ae,Af,Ag,Ah,Ai,hk];refine Bh.monoR (Dd G K t.sub f3) ?_;cases hc:Ce t.sub
   ·simp(disch:=omega) only[go_sem,↓reduceIte,gr1,Ab,Al,Am,An,Ac,Ad,Ae,Af,Ag,Ah,Ai,hk];exact Rm.sub sK (.refl ⟨by simp [Ba,Be,Bg,Bd, *],rfl⟩)
   simp(disch:=omega) only[go_sem,↓reduceIte,gr1,Ab,Al,Am,An,Ac,Ad,Ae,Af,Ag,Ah,Ai,hk];refine Bh.monoR (Jm G K t.disc f4) ?_;cases hd:Fd t.disc
   ·simp(disch:=omega) only[go_sem,↓reduceIte,gr1,Ab,Al,Am,An,Ac,Ad,Ae,Af,Ag,Ah,Ai,hk];exact Rm.sub sK (.refl ⟨by simp [Ba,Be,Bg,Bd, *],rfl⟩)
   simp(disch:=omega) only[go_sem,↓reduceIte,gr1,Ab,Al,Am,An,Ac,Ad,Ae,Af,Ag,Ah,Ai,hk];exact Rm.sub sK (.refl ⟨by simp [Ba,Be,Bg,Bd, *],rfl⟩)
  have c0':(t.comps.length:Int)=0:=by omega
  by_cases v0:t.var= []
  rotate_left
  ·simp(disch:=omega) only[go_sem,↓reduceIte,gr1,Ab,Al,Am,An,Ac,Ad,Ae,Af,Ag,Ah,Ai,hk,Bk,c0',v0];cases l1:noE t.hi
   ·simp(disch:=omega) only[go_sem,↓reduceIte,gr1,Ab,Al,Am,An,Ac,Ad,Ae,Af,Ag,Ah,Ai,hk];exact Rm.sub sK (.refl ⟨by simp [Ba,Be,Bg,Bd, *],rfl⟩)
   simp(disch:=omega) only[go_sem,↓reduceIte,gr1,Ab,Al,Am,An,Ac,Ad,Ae,Af,Ag,Ah,Ai,hk];refine Bh.monoR (Dd G K t.sub f3) ?_;cases hc:Ce t.sub
   ·simp(disch:=omega) only[go_sem,↓reduceIte,gr1,Ab,Al,Am,An,Ac,Ad,Ae,Af,Ag,Ah,Ai,hk];exact Rm.sub sK (.refl ⟨by simp [Ba,Be,Bg,Bd, *],rfl⟩)
   simp(disch:=omega) only[go_sem,↓reduceIte,gr1,Ab,Al,Am,An,Ac,Ad,Ae,Af,Ag,Ah,Ai,hk];refine Bh.monoR (Jm G K t.disc f4) ?_;cases hd:Fd t.disc
   ·simp(disch:=omega) only[go_sem,↓reduceIte,gr1,Ab,Al,Am,An,Ac,Ad,Ae,Af,Ag,Ah,Ai,hk];exact Rm.sub sK (.refl ⟨by simp [Ba,Be,Bg,Bd, *],rfl⟩)
   simp(disch:=omega) only[go_sem,↓reduceIte,gr1,Ab,Al,Am,An,Ac,Ad,Ae,Af,Ag,Ah,Ai,hk];exact Rm.sub sK (.refl ⟨by simp [Ba,Be,Bg,Bd, *],rfl⟩)
  by_cases a0:t.arms.length=0
  rotate_left
  ·have a0': ¬(t.arms.length:Int)=0:=by omega
   simp(disch:=omega) only[go_sem,↓reduceIte,gr1,Ab,Al,Am,An,Ac,Ad,Ae,Af,Ag,Ah,Ai,hk,Bk,Bo,c0',v0,a0'];cases l1:noE t.hi
   ·simp(disch:=omega) only[go_sem,↓reduceIte,gr1,Ab,Al,Am,An,Ac,Ad,Ae,Af,Ag,Ah,Ai,hk];exact Rm.sub sK (.refl ⟨by simp [Ba,Be,Bg,Bd, *],rfl⟩)
   simp(disch:=omega) only[go_sem,↓reduceIte,gr1,Ab,Al,Am,An,Ac,Ad,Ae,Af,Ag,Ah,Ai,hk];refine Bh.monoR (Dd G K t.sub f3) ?_;cases hc:Ce t.sub
   ·simp(disch:=omega) only[go_sem,↓reduceIte,gr1,Ab,Al,Am,An,Ac,Ad,Ae,Af,Ag,Ah,Ai,hk];exact Rm.sub sK (.refl ⟨by simp [Ba,Be,Bg,Bd, *],rfl⟩)
   simp(disch:=omega) only[go_sem,↓reduceIte,gr1,Ab,Al,Am,An,Ac,Ad,Ae,Af,Ag,Ah,Ai,hk];refine Bh.monoR (Jm G K t.disc f4) ?_;cases hd:Fd t.disc
   ·simp(disch:=omega) only[go_sem,↓reduceIte,gr1,Ab,Al,Am,An,Ac,Ad,Ae,Af,Ag,Ah,Ai,hk];exact Rm.sub sK (.refl ⟨by simp [Ba,Be,Bg,Bd, *],rfl⟩)
   simp(disch:=omega) only[go_sem,↓reduceIte,gr1,Ab,Al,Am,An,Ac,Ad,Ae,Af,Ag,Ah,Ai,hk];exact Rm.sub sK (.refl ⟨by simp [Ba,Be,Bg,Bd, *],rfl⟩)
  have a0':(t.arms.length:Int)=0:=by omega
  simp(disch:=omega) only[go_sem,↓reduceIte,gr1,Ab,Al,Am,An,Ac,Ad,Ae,Af,Ag,Ah,Ai,hk,Bk,Bo,c0',v0,a0'];cases l1:noE t.hi
  ·simp(disch:=omega) only[go_sem,↓reduceIte,gr1,Ab,Al,Am,An,Ac,Ad,Ae,Af,Ag,Ah,Ai,hk];exact Rm.sub sK (.refl ⟨by simp [Ba,Be,Bg,Bd, *],rfl⟩)
  simp(disch:=omega) only[go_sem,↓reduceIte,gr1,Ab,Al,Am,An,Ac,Ad,Ae,Af,Ag,Ah,Ai,hk];refine Bh.monoR (Dd G K t.sub f3) ?_;cases hc:Ce t.sub
  ·simp(disch:=omega) only[go_sem,↓reduceIte,gr1,Ab,Al,Am,An,Ac,Ad,Ae,Af,Ag,Ah,Ai,hk];exact Rm.sub sK (.refl ⟨by simp [Ba,Be,Bg,Bd, *],rfl⟩)
  simp(disch:=omega) only[go_sem,↓reduceIte,gr1,Ab,Al,Am,An,Ac,Ad,Ae,Af,Ag,Ah,Ai,hk];refine Bh.monoR (Jm G K t.disc f4) ?_;cases hd:Fd t.disc
  ·simp(disch:=omega) only[go_sem,↓reduceIte,gr1,Ab,Al,Am,An,Ac,Ad,Ae,Af,Ag,Ah,Ai,hk];exact Rm.sub sK (.refl ⟨by simp [Ba,Be,Bg,Bd, *],rfl⟩)
  simp(disch:=omega) only[go_sem,↓reduceIte,gr1,Ab,Al,Am,An,Ac,Ad,Ae,Af,Ag,Ah,Ai,hk];exact Rm.sub sK (.refl ⟨by simp [Ba,Be,Bg,Bd, *],rfl⟩)
 have k4:=hk;clear hk;by_cases hk:t.kind=5
 ·by_cases n0:t.names.length=0
  rotate_left
  ·have n0': ¬(t.names.length:Int)=0:=by omega
   simp(disch:=omega) only[go_sem,↓reduceIte,gr1,Ab,Al,Am,An,Ac,Ad,Ae,Af,Ag,Ah,Ai,hk,dW,n0'];refine Bh.monoR (Bm G K t.lo f1) ?_;cases l0:noE t.lo
   ·simp(disch:=omega) only[go_sem,↓reduceIte,gr1,Ab,Al,Am,An,Ac,Ad,Ae,Af,Ag,Ah,Ai,hk];refine Bh.monoR (Bu G K t.sub f3) ?_;simp(disch:=omega) only[go_sem,↓reduceIte,gr1,Ab,Al,Am,An,Ac,Ad,Ae,Af,Ag,Ah,Ai,hk];refine Bh.monoR (Bv G K t.disc f4) ?_;by_cases c0:t.comps.length=0
    rotate_left
    ·have c0': ¬(t.comps.length:Int)=0:=by omega
     simp(disch:=omega) only[go_sem,↓reduceIte,gr1,Ab,Al,Am,An,Ac,Ad,Ae,Af,Ag,Ah,Ai,hk,Bk,c0'];exact Rm.sub sK (.refl ⟨by simp [Ba,Be,Bg,Bd, *],rfl⟩)
    have c0':(t.comps.length:Int)=0:=by omega
    by_cases v0:t.var= []
    rotate_left
    ·simp(disch:=omega) only[go_sem,↓reduceIte,gr1,Ab,Al,Am,An,Ac,Ad,Ae,Af,Ag,Ah,Ai,hk,Bk,c0',v0];exact Rm.sub sK (.refl ⟨by simp [Ba,Be,Bg,Bd, *],rfl⟩)
    by_cases a0:t.arms.length=0
    rotate_left
    ·have a0': ¬(t.arms.length:Int)=0:=by omega
     simp(disch:=omega) only[go_sem,↓reduceIte,gr1,Ab,Al,Am,An,Ac,Ad,Ae,Af,Ag,Ah,Ai,hk,Bk,Bo,c0',v0,a0'];exact Rm.sub sK (.refl ⟨by simp [Ba,Be,Bg,Bd, *],rfl⟩)
    have a0':(t.arms.length:Int)=0:=by omega
    simp(disch:=omega) only[go_sem,↓reduceIte,gr1,Ab,Al,Am,An,Ac,Ad,Ae,Af,Ag,Ah,Ai,hk,Bk,Bo,c0',v0,a0'];exact Rm.sub sK (.refl ⟨by simp [Ba,Be,Bg,Bd, *],rfl⟩)
   simp(disch:=omega) only[go_sem,↓reduceIte,gr1,Ab,Al,Am,An,Ac,Ad,Ae,Af,Ag,Ah,Ai,hk];refine Bh.monoR (Bm G K t.hi f2) ?_;simp(disch:=omega) only[go_sem,↓reduceIte,gr1,Ab,Al,Am,An,Ac,Ad,Ae,Af,Ag,Ah,Ai,hk];refine Bh.monoR (Bu G K t.sub f3) ?_;simp(disch:=omega) only[go_sem,↓reduceIte,gr1,Ab,Al,Am,An,Ac,Ad,Ae,Af,Ag,Ah,Ai,hk];refine Bh.monoR (Bv G K t.disc f4) ?_;by_cases c0:t.comps.length=0
   rotate_left
   ·have c0': ¬(t.comps.length:Int)=0:=by omega
    simp(disch:=omega) only[go_sem,↓reduceIte,gr1,Ab,Al,Am,An,Ac,Ad,Ae,Af,Ag,Ah,Ai,hk,Bk,c0'];exact Rm.sub sK (.refl ⟨by simp [Ba,Be,Bg,Bd, *],rfl⟩)
   have c0':(t.comps.length:Int)=0:=by omega
   by_cases v0:t.var= []
   rotate_left
   ·simp(disch:=omega) only[go_sem,↓reduceIte,gr1,Ab,Al,Am,An,Ac,Ad,Ae,Af,Ag,Ah,Ai,hk,Bk,c0',v0];exact Rm.sub sK (.refl ⟨by simp [Ba,Be,Bg,Bd, *],rfl⟩)
   by_cases a0:t.arms.length=0
   rotate_left
   ·have a0': ¬(t.arms.length:Int)=0:=by omega
    simp(disch:=omega) only[go_sem,↓reduceIte,gr1,Ab,Al,Am,An,Ac,Ad,Ae,Af,Ag,Ah,Ai,hk,Bk,Bo,c0',v0,a0'];exact Rm.sub sK (.refl ⟨by simp [Ba,Be,Bg,Bd, *],rfl⟩)
   have a0':(t.arms.length:Int)=0:=by omega
   simp(disch:=omega) only[go_sem,↓reduceIte,gr1,Ab,Al,Am,An,Ac,Ad,Ae,Af,Ag,Ah,Ai,hk,Bk,Bo,c0',v0,a0'];exact Rm.sub sK (.refl ⟨by simp [Ba,Be,Bg,Bd, *],rfl⟩)
  have n0':(t.names.length:Int)=0:=by omega
  simp(disch:=omega) only[go_sem,↓reduceIte,gr1,Ab,Al,Am,An,Ac,Ad,Ae,Af,Ag,Ah,Ai,hk,dW,n0'];refine Bh.monoR (Bm G K t.lo f1) ?_;cases l0:noE t.lo
  ·simp(disch:=omega) only[go_sem,↓reduceIte,gr1,Ab,Al,Am,An,Ac,Ad,Ae,Af,Ag,Ah,Ai,hk];refine Bh.monoR (Bu G K t.sub f3) ?_;simp(disch:=omega) only[go_sem,↓reduceIte,gr1,Ab,Al,Am,An,Ac,Ad,Ae,Af,Ag,Ah,Ai,hk];refine Bh.monoR (Bv G K t.disc f4) ?_;by_cases c0:t.comps.length=0
   rotate_left
   ·have c0': ¬(t.comps.length:Int)=0:=by omega
    simp(disch:=omega) only[go_sem,↓reduceIte,gr1,Ab,Al,Am,An,Ac,Ad,Ae,Af,Ag,Ah,Ai,hk,Bk,c0'];exact Rm.sub sK (.refl ⟨by simp [Ba,Be,Bg,Bd, *],rfl⟩)
   have c0':(t.comps.length:Int)=0:=by omega
   by_cases v0:t.var= []
   rotate_left
   ·simp(disch:=omega) only[go_sem,↓reduceIte,gr1,Ab,Al,Am,An,Ac,Ad,Ae,Af,Ag,Ah,Ai,hk,Bk,c0',v0];exact Rm.sub sK (.refl ⟨by simp [Ba,Be,Bg,Bd, *],rfl⟩)
   by_cases a0:t.arms.length=0
   rotate_left
   ·have a0': ¬(t.arms.length:Int)=0:=by omega
    simp(disch:=omega) only[go_sem,↓reduceIte,gr1,Ab,Al,Am,An,Ac,Ad,Ae,Af,Ag,Ah,Ai,hk,Bk,Bo,c0',v0,a0'];exact Rm.sub sK (.refl ⟨by simp [Ba,Be,Bg,Bd, *],rfl⟩)
   have a0':(t.arms.length:Int)=0:=by omega
   simp(disch:=omega) only[go_sem,↓reduceIte,gr1,Ab,Al,Am,An,Ac,Ad,Ae,Af,Ag,Ah,Ai,hk,Bk,Bo,c0',v0,a0'];exact Rm.sub sK (.refl ⟨by simp [Ba,Be,Bg,Bd, *],rfl⟩)
  simp(disch:=omega) only[go_sem,↓reduceIte,gr1,Ab,Al,Am,An,Ac,Ad,Ae,Af,Ag,Ah,Ai,hk];refine Bh.monoR (Bm G K t.hi f2) ?_;simp(disch:=omega) only[go_sem,↓reduceIte,gr1,Ab,Al,Am,An,Ac,Ad,Ae,Af,Ag,Ah,Ai,hk];refine Bh.monoR (Bu G K t.sub f3) ?_;simp(disch:=omega) only[go_sem,↓reduceIte,gr1,Ab,Al,Am,An,Ac,Ad,Ae,Af,Ag,Ah,Ai,hk];refine Bh.monoR (Bv G K t.disc f4) ?_;by_cases c0:t.comps.length=0
  rotate_left
  ·have c0': ¬(t.comps.length:Int)=0:=by omega
   simp(disch:=omega) only[go_sem,↓reduceIte,gr1,Ab,Al,Am,An,Ac,Ad,Ae,Af,Ag,Ah,Ai,hk,Bk,c0'];cases l1:noE t.hi
   ·simp(disch:=omega) only[go_sem,↓reduceIte,gr1,Ab,Al,Am,An,Ac,Ad,Ae,Af,Ag,Ah,Ai,hk];exact Rm.sub sK (.refl ⟨by simp [Ba,Be,Bg,Bd, *],rfl⟩)
   simp(disch:=omega) only[go_sem,↓reduceIte,gr1,Ab,Al,Am,An,Ac,Ad,Ae,Af,Ag,Ah,Ai,hk];cases b3:Df t.sub
   ·simp(disch:=omega) only[go_sem,↓reduceIte,gr1,Ab,Al,Am,An,Ac,Ad,Ae,Af,Ag,Ah,Ai,hk];exact Rm.sub sK (.refl ⟨by simp [Ba,Be,Bg,Bd, *],rfl⟩)
   simp(disch:=omega) only[go_sem,↓reduceIte,gr1,Ab,Al,Am,An,Ac,Ad,Ae,Af,Ag,Ah,Ai,hk];cases b4:Cn t.disc
   ·simp(disch:=omega) only[go_sem,↓reduceIte,gr1,Ab,Al,Am,An,Ac,Ad,Ae,Af,Ag,Ah,Ai,hk];exact Rm.sub sK (.refl ⟨by simp [Ba,Be,Bg,Bd, *],rfl⟩)
   simp(disch:=omega) only[go_sem,↓reduceIte,gr1,Ab,Al,Am,An,Ac,Ad,Ae,Af,Ag,Ah,Ai,hk];refine Bh.monoR (Lk G K t ht') ?_;cases hc:Gg t
   ·simp(disch:=omega) only[go_sem,↓reduceIte,gr1,Ab,Al,Am,An,Ac,Ad,Ae,Af,Ag,Ah,Ai,hk];exact Rm.sub sK (.refl ⟨by simp [Ba,Be,Bg,Bd, *],rfl⟩)
   simp(disch:=omega) only[go_sem,↓reduceIte,gr1,Ab,Al,Am,An,Ac,Ad,Ae,Af,Ag,Ah,Ai,hk];exact Rm.sub sK (.refl ⟨by simp [Ba,Be,Bg,Bd, *],rfl⟩)
  have c0':(t.comps.length:Int)=0:=by omega
  by_cases v0:t.var= []
  rotate_left
  ·simp(disch:=omega) only[go_sem,↓reduceIte,gr1,Ab,Al,Am,An,Ac,Ad,Ae,Af,Ag,Ah,Ai,hk,Bk,c0',v0];cases l1:noE t.hi
   ·simp(disch:=omega) only[go_sem,↓reduceIte,gr1,Ab,Al,Am,An,Ac,Ad,Ae,Af,Ag,Ah,Ai,hk];exact Rm.sub sK (.refl ⟨by simp [Ba,Be,Bg,Bd, *],rfl⟩)
   simp(disch:=omega) only[go_sem,↓reduceIte,gr1,Ab,Al,Am,An,Ac,Ad,Ae,Af,Ag,Ah,Ai,hk];cases b3:Df t.sub
   ·simp(disch:=omega) only[go_sem,↓reduceIte,gr1,Ab,Al,Am,An,Ac,Ad,Ae,Af,Ag,Ah,Ai,hk];exact Rm.sub sK (.refl ⟨by simp [Ba,Be,Bg,Bd, *],rfl⟩)
   simp(disch:=omega) only[go_sem,↓reduceIte,gr1,Ab,Al,Am,An,Ac,Ad,Ae,Af,Ag,Ah,Ai,hk];cases b4:Cn t.disc
   ·simp(disch:=omega) only[go_sem,↓reduceIte,gr1,Ab,Al,Am,An,Ac,Ad,Ae,Af,Ag,Ah,Ai,hk];exact Rm.sub sK (.refl ⟨by simp [Ba,Be,Bg,Bd, *],rfl⟩)
   simp(disch:=omega) only[go_sem,↓reduceIte,gr1,Ab,Al,Am,An,Ac,Ad,Ae,Af,Ag,Ah,Ai,hk];refine Bh.monoR (Lk G K t ht') ?_;cases hc:Gg t
   ·simp(disch:=omega) only[go_sem,↓reduceIte,gr1,Ab,Al,Am,An,Ac,Ad,Ae,Af,Ag,Ah,Ai,hk];exact Rm.sub sK (.refl ⟨by simp [Ba,Be,Bg,Bd, *],rfl⟩)
   simp(disch:=omega) only[go_sem,↓reduceIte,gr1,Ab,Al,Am,An,Ac,Ad,Ae,Af,Ag,Ah,Ai,hk];exact Rm.sub sK (.refl ⟨by simp [Ba,Be,Bg,Bd, *],rfl⟩)
  by_cases a0:t.arms.length=0
  rotate_left
  ·have a0': ¬(t.arms.length:Int)=0:=by omega
   simp(disch:=omega) only[go_sem,↓reduceIte,gr1,Ab,Al,Am,An,Ac,Ad,Ae,Af,Ag,Ah,Ai,hk,Bk,Bo,c0',v0,a0'];cases l1:noE t.hi
   ·simp(disch:=omega) only[go_sem,↓reduceIte,gr1,Ab,Al,Am,An,Ac,Ad,Ae,Af,Ag,Ah,Ai,hk];exact Rm.sub sK (.refl ⟨by simp [Ba,Be,Bg,Bd, *],rfl⟩)
   simp(disch:=omega) only[go_sem,↓reduceIte,gr1,Ab,Al,Am,An,Ac,Ad,Ae,Af,Ag,Ah,Ai,hk];cases b3:Df t.sub
   ·simp(disch:=omega) only[go_sem,↓reduceIte,gr1,Ab,Al,Am,An,Ac,Ad,Ae,Af,Ag,Ah,Ai,hk];exact Rm.sub sK (.refl ⟨by simp [Ba,Be,Bg,Bd, *],rfl⟩)
   simp(disch:=omega) only[go_sem,↓reduceIte,gr1,Ab,Al,Am,An,Ac,Ad,Ae,Af,Ag,Ah,Ai,hk];cases b4:Cn t.disc
   ·simp(disch:=omega) only[go_sem,↓reduceIte,gr1,Ab,Al,Am,An,Ac,Ad,Ae,Af,Ag,Ah,Ai,hk];exact Rm.sub sK (.refl ⟨by simp [Ba,Be,Bg,Bd, *],rfl⟩)
   simp(disch:=omega) only[go_sem,↓reduceIte,gr1,Ab,Al,Am,An,Ac,Ad,Ae,Af,Ag,Ah,Ai,hk];refine Bh.monoR (Lk G K t ht') ?_;cases hc:Gg t
   ·simp(disch:=omega) only[go_sem,↓reduceIte,gr1,Ab,Al,Am,An,Ac,Ad,Ae,Af,Ag,Ah,Ai,hk];exact Rm.sub sK (.refl ⟨by simp [Ba,Be,Bg,Bd, *],rfl⟩)
   simp(disch:=omega) only[go_sem,↓reduceIte,gr1,Ab,Al,Am,An,Ac,Ad,Ae,Af,Ag,Ah,Ai,hk];exact Rm.sub sK (.refl ⟨by simp [Ba,Be,Bg,Bd, *],rfl⟩)
  have a0':(t.arms.length:Int)=0:=by omega
  simp(disch:=omega) only[go_sem,↓reduceIte,gr1,Ab,Al,Am,An,Ac,Ad,Ae,Af,Ag,Ah,Ai,hk,Bk,Bo,c0',v0,a0'];cases l1:noE t.hi
  ·simp(disch:=omega) only[go_sem,↓reduceIte,gr1,Ab,Al,Am,An,Ac,Ad,Ae,Af,Ag,Ah,Ai,hk];exact Rm.sub sK (.refl ⟨by simp [Ba,Be,Bg,Bd, *],rfl⟩)
  simp(disch:=omega) only[go_sem,↓reduceIte,gr1,Ab,Al,Am,An,Ac,Ad,Ae,Af,Ag,Ah,Ai,hk];cases b3:Df t.sub
  ·simp(disch:=omega) only[go_sem,↓reduceIte,gr1,Ab,Al,Am,An,Ac,Ad,Ae,Af,Ag,Ah,Ai,hk];exact Rm.sub sK (.refl ⟨by simp [Ba,Be,Bg,Bd, *],rfl⟩)
  simp(disch:=omega) only[go_sem,↓reduceIte,gr1,Ab,Al,Am,An,Ac,Ad,Ae,Af,Ag,Ah,Ai,hk];cases b4:Cn t.disc
  ·simp(disch:=omega) only[go_sem,↓reduceIte,gr1,Ab,Al,Am,An,Ac,Ad,Ae,Af,Ag,Ah,Ai,hk];exact Rm.sub sK (.refl ⟨by simp [Ba,Be,Bg,Bd, *],rfl⟩)
  simp(disch:=omega) only[go_sem,↓reduceIte,gr1,Ab,Al,Am,An,Ac,Ad,Ae,Af,Ag,Ah,Ai,hk];refine Bh.monoR (Lk G K t ht') ?_;cases hc:Gg t
  ·simp(disch:=omega) only[go_sem,↓reduceIte,gr1,Ab,Al,Am,An,Ac,Ad,Ae,Af,Ag,Ah,Ai,hk];exact Rm.sub sK (.refl ⟨by simp [Ba,Be,Bg,Bd, *],rfl⟩)
  simp(disch:=omega) only[go_sem,↓reduceIte,gr1,Ab,Al,Am,An,Ac,Ad,Ae,Af,Ag,Ah,Ai,hk];exact Rm.sub sK (.refl ⟨by simp [Ba,Be,Bg,Bd, *],rfl⟩)
 have k5:=hk;clear hk;by_cases hk:t.kind=6
 ·by_cases n0:t.names.length=0
  rotate_left
  ·have n0': ¬(t.names.length:Int)=0:=by omega
   simp(disch:=omega) only[go_sem,↓reduceIte,gr1,Ab,Al,Am,An,Ac,Ad,Ae,Af,Ag,Ah,Ai,hk,dW,n0'];refine Bh.monoR (Bm G K t.lo f1) ?_;cases l0:noE t.lo
   ·simp(disch:=omega) only[go_sem,↓reduceIte,gr1,Ab,Al,Am,An,Ac,Ad,Ae,Af,Ag,Ah,Ai,hk];refine Bh.monoR (Bu G K t.sub f3) ?_;simp(disch:=omega) only[go_sem,↓reduceIte,gr1,Ab,Al,Am,An,Ac,Ad,Ae,Af,Ag,Ah,Ai,hk];refine Bh.monoR (Bv G K t.disc f4) ?_;by_cases c0:t.comps.length=0
    rotate_left
    ·have c0': ¬(t.comps.length:Int)=0:=by omega
     simp(disch:=omega) only[go_sem,↓reduceIte,gr1,Ab,Al,Am,An,Ac,Ad,Ae,Af,Ag,Ah,Ai,hk,Bk,c0'];exact Rm.sub sK (.refl ⟨by simp [Ba,Be,Bg,Bd, *],rfl⟩)
    have c0':(t.comps.length:Int)=0:=by omega
    by_cases v0:t.var= []
    rotate_left
    ·simp(disch:=omega) only[go_sem,↓reduceIte,gr1,Ab,Al,Am,An,Ac,Ad,Ae,Af,Ag,Ah,Ai,hk,Bk,c0',v0];exact Rm.sub sK (.refl ⟨by simp [Ba,Be,Bg,Bd, *],rfl⟩)
    by_cases a0:t.arms.length=0
    rotate_left
    ·have a0': ¬(t.arms.length:Int)=0:=by omega
     simp(disch:=omega) only[go_sem,↓reduceIte,gr1,Ab,Al,Am,An,Ac,Ad,Ae,Af,Ag,Ah,Ai,hk,Bk,Bo,c0',v0,a0'];exact Rm.sub sK (.refl ⟨by simp [Ba,Be,Bg,Bd, *],rfl⟩)
    have a0':(t.arms.length:Int)=0:=by omega
    simp(disch:=omega) only[go_sem,↓reduceIte,gr1,Ab,Al,Am,An,Ac,Ad,Ae,Af,Ag,Ah,Ai,hk,Bk,Bo,c0',v0,a0'];exact Rm.sub sK (.refl ⟨by simp [Ba,Be,Bg,Bd, *],rfl⟩)
   simp(disch:=omega) only[go_sem,↓reduceIte,gr1,Ab,Al,Am,An,Ac,Ad,Ae,Af,Ag,Ah,Ai,hk];refine Bh.monoR (Bm G K t.hi f2) ?_;simp(disch:=omega) only[go_sem,↓reduceIte,gr1,Ab,Al,Am,An,Ac,Ad,Ae,Af,Ag,Ah,Ai,hk];refine Bh.monoR (Bu G K t.sub f3) ?_;simp(disch:=omega) only[go_sem,↓reduceIte,gr1,Ab,Al,Am,An,Ac,Ad,Ae,Af,Ag,Ah,Ai,hk];refine Bh.monoR (Bv G K t.disc f4) ?_;by_cases c0:t.comps.length=0
   rotate_left
   ·have c0': ¬(t.comps.length:Int)=0:=by omega
    simp(disch:=omega) only[go_sem,↓reduceIte,gr1,Ab,Al,Am,An,Ac,Ad,Ae,Af,Ag,Ah,Ai,hk,Bk,c0'];exact Rm.sub sK (.refl ⟨by simp [Ba,Be,Bg,Bd, *],rfl⟩)
   have c0':(t.comps.length:Int)=0:=by omega
   by_cases v0:t.var= []
   rotate_left
   ·simp(disch:=omega) only[go_sem,↓reduceIte,gr1,Ab,Al,Am,An,Ac,Ad,Ae,Af,Ag,Ah,Ai,hk,Bk,c0',v0];exact Rm.sub sK (.refl ⟨by simp [Ba,Be,Bg,Bd, *],rfl⟩)
   by_cases a0:t.arms.length=0
   rotate_left
   ·have a0': ¬(t.arms.length:Int)=0:=by omega
    simp(disch:=omega) only[go_sem,↓reduceIte,gr1,Ab,Al,Am,An,Ac,Ad,Ae,Af,Ag,Ah,Ai,hk,Bk,Bo,c0',v0,a0'];exact Rm.sub sK (.refl ⟨by simp [Ba,Be,Bg,Bd, *],rfl⟩)
   have a0':(t.arms.length:Int)=0:=by omega
   simp(disch:=omega) only[go_sem,↓reduceIte,gr1,Ab,Al,Am,An,Ac,Ad,Ae,Af,Ag,Ah,Ai,hk,Bk,Bo,c0',v0,a0'];exact Rm.sub sK (.refl ⟨by simp [Ba,Be,Bg,Bd, *],rfl⟩)
  have n0':(t.names.length:Int)=0:=by omega
  simp(disch:=omega) only[go_sem,↓reduceIte,gr1,Ab,Al,Am,An,Ac,Ad,Ae,Af,Ag,Ah,Ai,hk,dW,n0'];refine Bh.monoR (Bm G K t.lo f1) ?_;cases l0:noE t.lo
  ·simp(disch:=omega) only[go_sem,↓reduceIte,gr1,Ab,Al,Am,An,Ac,Ad,Ae,Af,Ag,Ah,Ai,hk];refine Bh.monoR (Bu G K t.sub f3) ?_;simp(disch:=omega) only[go_sem,↓reduceIte,gr1,Ab,Al,Am,An,Ac,Ad,Ae,Af,Ag,Ah,Ai,hk];refine Bh.monoR (Bv G K t.disc f4) ?_;by_cases c0:t.comps.length=0
   rotate_left
   ·have c0': ¬(t.comps.length:Int)=0:=by omega
    simp(disch:=omega) only[go_sem,↓reduceIte,gr1,Ab,Al,Am,An,Ac,Ad,Ae,Af,Ag,Ah,Ai,hk,Bk,c0'];exact Rm.sub sK (.refl ⟨by simp [Ba,Be,Bg,Bd, *],rfl⟩)
   have c0':(t.comps.length:Int)=0:=by omega
   by_cases v0:t.var= []
   rotate_left
   ·simp(disch:=omega) only[go_sem,↓reduceIte,gr1,Ab,Al,Am,An,Ac,Ad,Ae,Af,Ag,Ah,Ai,hk,Bk,c0',v0];exact Rm.sub sK (.refl ⟨by simp [Ba,Be,Bg,Bd, *],rfl⟩)
   by_cases a0:t.arms.length=0
   rotate_left
   ·have a0': ¬(t.arms.length:Int)=0:=by omega
    simp(disch:=omega) only[go_sem,↓reduceIte,gr1,Ab,Al,Am,An,Ac,Ad,Ae,Af,Ag,Ah,Ai,hk,Bk,Bo,c0',v0,a0'];exact Rm.sub sK (.refl ⟨by simp [Ba,Be,Bg,Bd, *],rfl⟩)
   have a0':(t.arms.length:Int)=0:=by omega
   simp(disch:=omega) only[go_sem,↓reduceIte,gr1,Ab,Al,Am,An,Ac,Ad,Ae,Af,Ag,Ah,Ai,hk,Bk,Bo,c0',v0,a0'];exact Rm.sub sK (.refl ⟨by simp [Ba,Be,Bg,Bd, *],rfl⟩)
  simp(disch:=omega) only[go_sem,↓reduceIte,gr1,Ab,Al,Am,An,Ac,Ad,Ae,Af,Ag,Ah,Ai,hk];refine Bh.monoR (Bm G K t.hi f2) ?_;simp(disch:=omega) only[go_sem,↓reduceIte,gr1,Ab,Al,Am,An,Ac,Ad,Ae,Af,Ag,Ah,Ai,hk];refine Bh.monoR (Bu G K t.sub f3) ?_;simp(disch:=omega) only[go_sem,↓reduceIte,gr1,Ab,Al,Am,An,Ac,Ad,Ae,Af,Ag,Ah,Ai,hk];refine Bh.monoR (Bv G K t.disc f4) ?_;by_cases c0:t.comps.length=0
  rotate_left
  ·have c0': ¬(t.comps.length:Int)=0:=by omega
   simp(disch:=omega) only[go_sem,↓reduceIte,gr1,Ab,Al,Am,An,Ac,Ad,Ae,Af,Ag,Ah,Ai,hk,Bk,c0'];cases l1:noE t.hi
   ·simp(disch:=omega) only[go_sem,↓reduceIte,gr1,Ab,Al,Am,An,Ac,Ad,Ae,Af,Ag,Ah,Ai,hk];exact Rm.sub sK (.refl ⟨by simp [Ba,Be,Bg,Bd, *],rfl⟩)
   simp(disch:=omega) only[go_sem,↓reduceIte,gr1,Ab,Al,Am,An,Ac,Ad,Ae,Af,Ag,Ah,Ai,hk];refine Bh.monoR (Dd G K t.sub f3) ?_;cases hc:Ce t.sub
   ·simp(disch:=omega) only[go_sem,↓reduceIte,gr1,Ab,Al,Am,An,Ac,Ad,Ae,Af,Ag,Ah,Ai,hk];exact Rm.sub sK (.refl ⟨by simp [Ba,Be,Bg,Bd, *],rfl⟩)
   simp(disch:=omega) only[go_sem,↓reduceIte,gr1,Ab,Al,Am,An,Ac,Ad,Ae,Af,Ag,Ah,Ai,hk];cases b4:Cn t.disc
   ·simp(disch:=omega) only[go_sem,↓reduceIte,gr1,Ab,Al,Am,An,Ac,Ad,Ae,Af,Ag,Ah,Ai,hk];exact Rm.sub sK (.refl ⟨by simp [Ba,Be,Bg,Bd, *],rfl⟩)
   simp(disch:=omega) only[go_sem,↓reduceIte,gr1,Ab,Al,Am,An,Ac,Ad,Ae,Af,Ag,Ah,Ai,hk];exact Rm.sub sK (.refl ⟨by simp [Ba,Be,Bg,Bd, *],rfl⟩)
  have c0':(t.comps.length:Int)=0:=by omega
  by_cases v0:t.var= []
  rotate_left
  ·simp(disch:=omega) only[go_sem,↓reduceIte,gr1,Ab,Al,Am,An,Ac,Ad,Ae,Af,Ag,Ah,Ai,hk,Bk,c0',v0];cases l1:noE t.hi
   ·simp(disch:=omega) only[go_sem,↓reduceIte,gr1,Ab,Al,Am,An,Ac,Ad,Ae,Af,Ag,Ah,Ai,hk];exact Rm.sub sK (.refl ⟨by simp [Ba,Be,Bg,Bd, *],rfl⟩)
   simp(disch:=omega) only[go_sem,↓reduceIte,gr1,Ab,Al,Am,An,Ac,Ad,Ae,Af,Ag,Ah,Ai,hk];refine Bh.monoR (Dd G K t.sub f3) ?_;cases hc:Ce t.sub
   ·simp(disch:=omega) only[go_sem,↓reduceIte,gr1,Ab,Al,Am,An,Ac,Ad,Ae,Af,Ag,Ah,Ai,hk];exact Rm.sub sK (.refl ⟨by simp [Ba,Be,Bg,Bd, *],rfl⟩)
   simp(disch:=omega) only[go_sem,↓reduceIte,gr1,Ab,Al,Am,An,Ac,Ad,Ae,Af,Ag,Ah,Ai,hk];cases b4:Cn t.disc
   ·simp(disch:=omega) only[go_sem,↓reduceIte,gr1,Ab,Al,Am,An,Ac,Ad,Ae,Af,Ag,Ah,Ai,hk];exact Rm.sub sK (.refl ⟨by simp [Ba,Be,Bg,Bd, *],rfl⟩)
   simp(disch:=omega) only[go_sem,↓reduceIte,gr1,Ab,Al,Am,An,Ac,Ad,Ae,Af,Ag,Ah,Ai,hk];exact Rm.sub sK (.refl ⟨by simp [Ba,Be,Bg,Bd, *],rfl⟩)
  by_cases a0:t.arms.length=0
  rotate_left
  ·have a0': ¬(t.arms.length:Int)=0:=by omega
   simp(disch:=omega) only[go_sem,↓reduceIte,gr1,Ab,Al,Am,An,Ac,Ad,Ae,Af,Ag,Ah,Ai,hk,Bk,Bo,c0',v0,a0'];cases l1:noE t.hi
   ·simp(disch:=omega) only[go_sem,↓reduceIte,gr1,Ab,Al,Am,An,Ac,Ad,Ae,Af,Ag,Ah,Ai,hk];exact Rm.sub sK (.refl ⟨by simp [Ba,Be,Bg,Bd, *],rfl⟩)
   simp(disch:=omega) only[go_sem,↓reduceIte,gr1,Ab,Al,Am,An,Ac,Ad,Ae,Af,Ag,Ah,Ai,hk];refine Bh.monoR (Dd G K t.sub f3) ?_;cases hc:Ce t.sub
   ·simp(disch:=omega) only[go_sem,↓reduceIte,gr1,Ab,Al,Am,An,Ac,Ad,Ae,Af,Ag,Ah,Ai,hk];exact Rm.sub sK (.refl ⟨by simp [Ba,Be,Bg,Bd, *],rfl⟩)
   simp(disch:=omega) only[go_sem,↓reduceIte,gr1,Ab,Al,Am,An,Ac,Ad,Ae,Af,Ag,Ah,Ai,hk];cases b4:Cn t.disc
   ·simp(disch:=omega) only[go_sem,↓reduceIte,gr1,Ab,Al,Am,An,Ac,Ad,Ae,Af,Ag,Ah,Ai,hk];exact Rm.sub sK (.refl ⟨by simp [Ba,Be,Bg,Bd, *],rfl⟩)
   simp(disch:=omega) only[go_sem,↓reduceIte,gr1,Ab,Al,Am,An,Ac,Ad,Ae,Af,Ag,Ah,Ai,hk];exact Rm.sub sK (.refl ⟨by simp [Ba,Be,Bg,Bd, *],rfl⟩)
  have a0':(t.arms.length:Int)=0:=by omega
  simp(disch:=omega) only[go_sem,↓reduceIte,gr1,Ab,Al,Am,An,Ac,Ad,Ae,Af,Ag,Ah,Ai,hk,Bk,Bo,c0',v0,a0'];cases l1:noE t.hi
  ·simp(disch:=omega) only[go_sem,↓reduceIte,gr1,Ab,Al,Am,An,Ac,Ad,Ae,Af,Ag,Ah,Ai,hk];exact Rm.sub sK (.refl ⟨by simp [Ba,Be,Bg,Bd, *],rfl⟩)
  simp(disch:=omega) only[go_sem,↓reduceIte,gr1,Ab,Al,Am,An,Ac,Ad,Ae,Af,Ag,Ah,Ai,hk];refine Bh.monoR (Dd G K t.sub f3) ?_;cases hc:Ce t.sub
  ·simp(disch:=omega) only[go_sem,↓reduceIte,gr1,Ab,Al,Am,An,Ac,Ad,Ae,Af,Ag,Ah,Ai,hk];exact Rm.sub sK (.refl ⟨by simp [Ba,Be,Bg,Bd, *],rfl⟩)
  simp(disch:=omega) only[go_sem,↓reduceIte,gr1,Ab,Al,Am,An,Ac,Ad,Ae,Af,Ag,Ah,Ai,hk];cases b4:Cn t.disc
  ·simp(disch:=omega) only[go_sem,↓reduceIte,gr1,Ab,Al,Am,An,Ac,Ad,Ae,Af,Ag,Ah,Ai,hk];exact Rm.sub sK (.refl ⟨by simp [Ba,Be,Bg,Bd, *],rfl⟩)
  simp(disch:=omega) only[go_sem,↓reduceIte,gr1,Ab,Al,Am,An,Ac,Ad,Ae,Af,Ag,Ah,Ai,hk];exact Rm.sub sK (.refl ⟨by simp [Ba,Be,Bg,Bd, *],rfl⟩)
 have k6:=hk;clear hk;by_cases hk:t.kind=7
 ·by_cases n0:t.names.length=0
  rotate_left
  ·have n0': ¬(t.names.length:Int)=0:=by omega
   simp(disch:=omega) only[go_sem,↓reduceIte,gr1,Ab,Al,Am,An,Ac,Ad,Ae,Af,Ag,Ah,Ai,hk,dW,n0'];refine Bh.monoR (Bm G K t.lo f1) ?_;cases l0:noE t.lo
   ·simp(disch:=omega) only[go_sem,↓reduceIte,gr1,Ab,Al,Am,An,Ac,Ad,Ae,Af,Ag,Ah,Ai,hk];refine Bh.monoR (Bu G K t.sub f3) ?_;simp(disch:=omega) only[go_sem,↓reduceIte,gr1,Ab,Al,Am,An,Ac,Ad,Ae,Af,Ag,Ah,Ai,hk];refine Bh.monoR (Bv G K t.disc f4) ?_;by_cases c0:t.comps.length=0
    rotate_left
    ·have c0': ¬(t.comps.length:Int)=0:=by omega
     simp(disch:=omega) only[go_sem,↓reduceIte,gr1,Ab,Al,Am,An,Ac,Ad,Ae,Af,Ag,Ah,Ai,hk,Bk,c0'];exact Rm.sub sK (.refl ⟨by simp [Ba,Be,Bg,Bd, *],rfl⟩)
    have c0':(t.comps.length:Int)=0:=by omega
    by_cases v0:t.var= []
    rotate_left
    ·simp(disch:=omega) only[go_sem,↓reduceIte,gr1,Ab,Al,Am,An,Ac,Ad,Ae,Af,Ag,Ah,Ai,hk,Bk,c0',v0];exact Rm.sub sK (.refl ⟨by simp [Ba,Be,Bg,Bd, *],rfl⟩)
    by_cases a0:t.arms.length=0
    rotate_left
    ·have a0': ¬(t.arms.length:Int)=0:=by omega
     simp(disch:=omega) only[go_sem,↓reduceIte,gr1,Ab,Al,Am,An,Ac,Ad,Ae,Af,Ag,Ah,Ai,hk,Bk,Bo,c0',v0,a0'];exact Rm.sub sK (.refl ⟨by simp [Ba,Be,Bg,Bd, *],rfl⟩)
    have a0':(t.arms.length:Int)=0:=by omega
    simp(disch:=omega) only[go_sem,↓reduceIte,gr1,Ab,Al,Am,An,Ac,Ad,Ae,Af,Ag,Ah,Ai,hk,Bk,Bo,c0',v0,a0'];exact Rm.sub sK (.refl ⟨by simp [Ba,Be,Bg,Bd, *],rfl⟩)
   simp(disch:=omega) only[go_sem,↓reduceIte,gr1,Ab,Al,Am,An,Ac,Ad,Ae,Af,Ag,Ah,Ai,hk];refine Bh.monoR (Bm G K t.hi f2) ?_;simp(disch:=omega) only[go_sem,↓reduceIte,gr1,Ab,Al,Am,An,Ac,Ad,Ae,Af,Ag,Ah,Ai,hk];refine Bh.monoR (Bu G K t.sub f3) ?_;simp(disch:=omega) only[go_sem,↓reduceIte,gr1,Ab,Al,Am,An,Ac,Ad,Ae,Af,Ag,Ah,Ai,hk];refine Bh.monoR (Bv G K t.disc f4) ?_;by_cases c0:t.comps.length=0
   rotate_left
   ·have c0': ¬(t.comps.length:Int)=0:=by omega
    simp(disch:=omega) only[go_sem,↓reduceIte,gr1,Ab,Al,Am,An,Ac,Ad,Ae,Af,Ag,Ah,Ai,hk,Bk,c0'];exact Rm.sub sK (.refl ⟨by simp [Ba,Be,Bg,Bd, *],rfl⟩)
   have c0':(t.comps.length:Int)=0:=by omega
   by_cases v0:t.var= []
   rotate_left
   ·simp(disch:=omega) only[go_sem,↓reduceIte,gr1,Ab,Al,Am,An,Ac,Ad,Ae,Af,Ag,Ah,Ai,hk,Bk,c0',v0];exact Rm.sub sK (.refl ⟨by simp [Ba,Be,Bg,Bd, *],rfl⟩)
   by_cases a0:t.arms.length=0
   rotate_left
   ·have a0': ¬(t.arms.length:Int)=0:=by omega
    simp(disch:=omega) only[go_sem,↓reduceIte,gr1,Ab,Al,Am,An,Ac,Ad,Ae,Af,Ag,Ah,Ai,hk,Bk,Bo,c0',v0,a0'];exact Rm.sub sK (.refl ⟨by simp [Ba,Be,Bg,Bd, *],rfl⟩)
   have a0':(t.arms.length:Int)=0:=by omega
   simp(disch:=omega) only[go_sem,↓reduceIte,gr1,Ab,Al,Am,An,Ac,Ad,Ae,Af,Ag,Ah,Ai,hk,Bk,Bo,c0',v0,a0'];exact Rm.sub sK (.refl ⟨by simp [Ba,Be,Bg,Bd, *],rfl⟩)
  have n0':(t.names.length:Int)=0:=by omega
  simp(disch:=omega) only[go_sem,↓reduceIte,gr1,Ab,Al,Am,An,Ac,Ad,Ae,Af,Ag,Ah,Ai,hk,dW,n0'];refine Bh.monoR (Bm G K t.lo f1) ?_;cases l0:noE t.lo
  ·simp(disch:=omega) only[go_sem,↓reduceIte,gr1,Ab,Al,Am,An,Ac,Ad,Ae,Af,Ag,Ah,Ai,hk];refine Bh.monoR (Bu G K t.sub f3) ?_;simp(disch:=omega) only[go_sem,↓reduceIte,gr1,Ab,Al,Am,An,Ac,Ad,Ae,Af,Ag,Ah,Ai,hk];refine Bh.monoR (Bv G K t.disc f4) ?_;by_cases c0:t.comps.length=0
   rotate_left
   ·have c0': ¬(t.comps.length:Int)=0:=by omega
    simp(disch:=omega) only[go_sem,↓reduceIte,gr1,Ab,Al,Am,An,Ac,Ad,Ae,Af,Ag,Ah,Ai,hk,Bk,c0'];exact Rm.sub sK (.refl ⟨by simp [Ba,Be,Bg,Bd, *],rfl⟩)
   have c0':(t.comps.length:Int)=0:=by omega
   by_cases v0:t.var= []
   rotate_left
   ·simp(disch:=omega) only[go_sem,↓reduceIte,gr1,Ab,Al,Am,An,Ac,Ad,Ae,Af,Ag,Ah,Ai,hk,Bk,c0',v0];exact Rm.sub sK (.refl ⟨by simp [Ba,Be,Bg,Bd, *],rfl⟩)
   by_cases a0:t.arms.length=0
   rotate_left
   ·have a0': ¬(t.arms.length:Int)=0:=by omega
    simp(disch:=omega) only[go_sem,↓reduceIte,gr1,Ab,Al,Am,An,Ac,Ad,Ae,Af,Ag,Ah,Ai,hk,Bk,Bo,c0',v0,a0'];exact Rm.sub sK (.refl ⟨by simp [Ba,Be,Bg,Bd, *],rfl⟩)
   have a0':(t.arms.length:Int)=0:=by omega
   simp(disch:=omega) only[go_sem,↓reduceIte,gr1,Ab,Al,Am,An,Ac,Ad,Ae,Af,Ag,Ah,Ai,hk,Bk,Bo,c0',v0,a0'];exact Rm.sub sK (.refl ⟨by simp [Ba,Be,Bg,Bd, *],rfl⟩)
  simp(disch:=omega) only[go_sem,↓reduceIte,gr1,Ab,Al,Am,An,Ac,Ad,Ae,Af,Ag,Ah,Ai,hk];refine Bh.monoR (Bm G K t.hi f2) ?_;simp(disch:=omega) only[go_sem,↓reduceIte,gr1,Ab,Al,Am,An,Ac,Ad,Ae,Af,Ag,Ah,Ai,hk];refine Bh.monoR (Bu G K t.sub f3) ?_;simp(disch:=omega) only[go_sem,↓reduceIte,gr1,Ab,Al,Am,An,Ac,Ad,Ae,Af,Ag,Ah,Ai,hk];refine Bh.monoR (Bv G K t.disc f4) ?_;by_cases c0:t.comps.length=0
  rotate_left
  ·have c0': ¬(t.comps.length:Int)=0:=by omega
   simp(disch:=omega) only[go_sem,↓reduceIte,gr1,Ab,Al,Am,An,Ac,Ad,Ae,Af,Ag,Ah,Ai,hk,Bk,c0'];cases l1:noE t.hi
   ·simp(disch:=omega) only[go_sem,↓reduceIte,gr1,Ab,Al,Am,An,Ac,Ad,Ae,Af,Ag,Ah,Ai,hk];exact Rm.sub sK (.refl ⟨by simp [Ba,Be,Bg,Bd, *],rfl⟩)
   simp(disch:=omega) only[go_sem,↓reduceIte,gr1,Ab,Al,Am,An,Ac,Ad,Ae,Af,Ag,Ah,Ai,hk];cases b3:Df t.sub
   ·simp(disch:=omega) only[go_sem,↓reduceIte,gr1,Ab,Al,Am,An,Ac,Ad,Ae,Af,Ag,Ah,Ai,hk];exact Rm.sub sK (.refl ⟨by simp [Ba,Be,Bg,Bd, *],rfl⟩)
   simp(disch:=omega) only[go_sem,↓reduceIte,gr1,Ab,Al,Am,An,Ac,Ad,Ae,Af,Ag,Ah,Ai,hk];cases b4:Cn t.disc
   ·simp(disch:=omega) only[go_sem,↓reduceIte,gr1,Ab,Al,Am,An,Ac,Ad,Ae,Af,Ag,Ah,Ai,hk];exact Rm.sub sK (.refl ⟨by simp [Ba,Be,Bg,Bd, *],rfl⟩)
   simp(disch:=omega) only[go_sem,↓reduceIte,gr1,Ab,Al,Am,An,Ac,Ad,Ae,Af,Ag,Ah,Ai,hk];exact Rm.sub sK (.refl ⟨by simp [Ba,Be,Bg,Bd, *],rfl⟩)
  have c0':(t.comps.length:Int)=0:=by omega
  by_cases v0:t.var= []
  rotate_left
  ·simp(disch:=omega) only[go_sem,↓reduceIte,gr1,Ab,Al,Am,An,Ac,Ad,Ae,Af,Ag,Ah,Ai,hk,Bk,c0',v0];cases l1:noE t.hi
   ·simp(disch:=omega) only[go_sem,↓reduceIte,gr1,Ab,Al,Am,An,Ac,Ad,Ae,Af,Ag,Ah,Ai,hk];exact Rm.sub sK (.refl ⟨by simp [Ba,Be,Bg,Bd, *],rfl⟩)
   simp(disch:=omega) only[go_sem,↓reduceIte,gr1,Ab,Al,Am,An,Ac,Ad,Ae,Af,Ag,Ah,Ai,hk];cases b3:Df t.sub
   ·simp(disch:=omega) only[go_sem,↓reduceIte,gr1,Ab,Al,Am,An,Ac,Ad,Ae,Af,Ag,Ah,Ai,hk];exact Rm.sub sK (.refl ⟨by simp [Ba,Be,Bg,Bd, *],rfl⟩)
   simp(disch:=omega) only[go_sem,↓reduceIte,gr1,Ab,Al,Am,An,Ac,Ad,Ae,Af,Ag,Ah,Ai,hk];cases b4:Cn t.disc
   ·simp(disch:=omega) only[go_sem,↓reduceIte,gr1,Ab,Al,Am,An,Ac,Ad,Ae,Af,Ag,Ah,Ai,hk];exact Rm.sub sK (.refl ⟨by simp [Ba,Be,Bg,Bd, *],rfl⟩)
   simp(disch:=omega) only[go_sem,↓reduceIte,gr1,Ab,Al,Am,An,Ac,Ad,Ae,Af,Ag,Ah,Ai,hk];exact Rm.sub sK (.refl ⟨by simp [Ba,Be,Bg,Bd, *],rfl⟩)
  by_cases a0:t.arms.length=0
  rotate_left
  ·have a0': ¬(t.arms.length:Int)=0:=by omega
   simp(disch:=omega) only[go_sem,↓reduceIte,gr1,Ab,Al,Am,An,Ac,Ad,Ae,Af,Ag,Ah,Ai,hk,Bk,Bo,c0',v0,a0'];cases l1:noE t.hi
   ·simp(disch:=omega) only[go_sem,↓reduceIte,gr1,Ab,Al,Am,An,Ac,Ad,Ae,Af,Ag,Ah,Ai,hk];exact Rm.sub sK (.refl ⟨by simp [Ba,Be,Bg,Bd, *],rfl⟩)
   simp(disch:=omega) only[go_sem,↓reduceIte,gr1,Ab,Al,Am,An,Ac,Ad,Ae,Af,Ag,Ah,Ai,hk];cases b3:Df t.sub
   ·simp(disch:=omega) only[go_sem,↓reduceIte,gr1,Ab,Al,Am,An,Ac,Ad,Ae,Af,Ag,Ah,Ai,hk];exact Rm.sub sK (.refl ⟨by simp [Ba,Be,Bg,Bd, *],rfl⟩)
   simp(disch:=omega) only[go_sem,↓reduceIte,gr1,Ab,Al,Am,An,Ac,Ad,Ae,Af,Ag,Ah,Ai,hk];cases b4:Cn t.disc
   ·simp(disch:=omega) only[go_sem,↓reduceIte,gr1,Ab,Al,Am,An,Ac,Ad,Ae,Af,Ag,Ah,Ai,hk];exact Rm.sub sK (.refl ⟨by simp [Ba,Be,Bg,Bd, *],rfl⟩)
   simp(disch:=omega) only[go_sem,↓reduceIte,gr1,Ab,Al,Am,An,Ac,Ad,Ae,Af,Ag,Ah,Ai,hk];exact Rm.sub sK (.refl ⟨by simp [Ba,Be,Bg,Bd, *],rfl⟩)
  have a0':(t.arms.length:Int)=0:=by omega
  simp(disch:=omega) only[go_sem,↓reduceIte,gr1,Ab,Al,Am,An,Ac,Ad,Ae,Af,Ag,Ah,Ai,hk,Bk,Bo,c0',v0,a0'];cases l1:noE t.hi
  ·simp(disch:=omega) only[go_sem,↓reduceIte,gr1,Ab,Al,Am,An,Ac,Ad,Ae,Af,Ag,Ah,Ai,hk];exact Rm.sub sK (.refl ⟨by simp [Ba,Be,Bg,Bd, *],rfl⟩)
  simp(disch:=omega) only[go_sem,↓reduceIte,gr1,Ab,Al,Am,An,Ac,Ad,Ae,Af,Ag,Ah,Ai,hk];cases b3:Df t.sub
  ·simp(disch:=omega) only[go_sem,↓reduceIte,gr1,Ab,Al,Am,An,Ac,Ad,Ae,Af,Ag,Ah,Ai,hk];exact Rm.sub sK (.refl ⟨by simp [Ba,Be,Bg,Bd, *],rfl⟩)
  simp(disch:=omega) only[go_sem,↓reduceIte,gr1,Ab,Al,Am,An,Ac,Ad,Ae,Af,Ag,Ah,Ai,hk];cases b4:Cn t.disc
  ·simp(disch:=omega) only[go_sem,↓reduceIte,gr1,Ab,Al,Am,An,Ac,Ad,Ae,Af,Ag,Ah,Ai,hk];exact Rm.sub sK (.refl ⟨by simp [Ba,Be,Bg,Bd, *],rfl⟩)
  simp(disch:=omega) only[go_sem,↓reduceIte,gr1,Ab,Al,Am,An,Ac,Ad,Ae,Af,Ag,Ah,Ai,hk];exact Rm.sub sK (.refl ⟨by simp [Ba,Be,Bg,Bd, *],rfl⟩)
 have k7:=hk;clear hk;by_cases n0:t.names.length=0
 rotate_left
 ·have n0': ¬(t.names.length:Int)=0:=by omega
  simp(disch:=omega) only[go_sem,↓reduceIte,gr1,Ab,Al,Am,An,Ac,Ad,Ae,Af,Ag,Ah,Ai,k1,k2,k3,k4,k5,k6,k7,dW,n0'];refine Bh.monoR (Bm G K t.lo f1) ?_;cases l0:noE t.lo
  ·simp(disch:=omega) only[go_sem,↓reduceIte,gr1,Ab,Al,Am,An,Ac,Ad,Ae,Af,Ag,Ah,Ai,k1,k2,k3,k4,k5,k6,k7];refine Bh.monoR (Bu G K t.sub f3) ?_;simp(disch:=omega) only[go_sem,↓reduceIte,gr1,Ab,Al,Am,An,Ac,Ad,Ae,Af,Ag,Ah,Ai,k1,k2,k3,k4,k5,k6,k7];refine Bh.monoR (Bv G K t.disc f4) ?_;by_cases c0:t.comps.length=0
   rotate_left
   ·have c0': ¬(t.comps.length:Int)=0:=by omega
    simp(disch:=omega) only[go_sem,↓reduceIte,gr1,Ab,Al,Am,An,Ac,Ad,Ae,Af,Ag,Ah,Ai,k1,k2,k3,k4,k5,k6,k7,Bk,c0'];exact Rm.sub sK (.refl ⟨by simp [Ba,Be,Bg,Bd, *],rfl⟩)
   have c0':(t.comps.length:Int)=0:=by omega
   by_cases v0:t.var= []
   rotate_left
   ·simp(disch:=omega) only[go_sem,↓reduceIte,gr1,Ab,Al,Am,An,Ac,Ad,Ae,Af,Ag,Ah,Ai,k1,k2,k3,k4,k5,k6,k7,Bk,c0',v0];exact Rm.sub sK (.refl ⟨by simp [Ba,Be,Bg,Bd, *],rfl⟩)
   by_cases a0:t.arms.length=0
   rotate_left
   ·have a0': ¬(t.arms.length:Int)=0:=by omega
    simp(disch:=omega) only[go_sem,↓reduceIte,gr1,Ab,Al,Am,An,Ac,Ad,Ae,Af,Ag,Ah,Ai,k1,k2,k3,k4,k5,k6,k7,Bk,Bo,c0',v0,a0'];exact Rm.sub sK (.refl ⟨by simp [Ba,Be,Bg,Bd, *],rfl⟩)
   have a0':(t.arms.length:Int)=0:=by omega
   simp(disch:=omega) only[go_sem,↓reduceIte,gr1,Ab,Al,Am,An,Ac,Ad,Ae,Af,Ag,Ah,Ai,k1,k2,k3,k4,k5,k6,k7,Bk,Bo,c0',v0,a0'];exact Rm.sub sK (.refl ⟨by simp [Ba,Be,Bg,Bd, *],rfl⟩)
  simp(disch:=omega) only[go_sem,↓reduceIte,gr1,Ab,Al,Am,An,Ac,Ad,Ae,Af,Ag,Ah,Ai,k1,k2,k3,k4,k5,k6,k7];refine Bh.monoR (Bm G K t.hi f2) ?_;simp(disch:=omega) only[go_sem,↓reduceIte,gr1,Ab,Al,Am,An,Ac,Ad,Ae,Af,Ag,Ah,Ai,k1,k2,k3,k4,k5,k6,k7];refine Bh.monoR (Bu G K t.sub f3) ?_;simp(disch:=omega) only[go_sem,↓reduceIte,gr1,Ab,Al,Am,An,Ac,Ad,Ae,Af,Ag,Ah,Ai,k1,k2,k3,k4,k5,k6,k7];refine Bh.monoR (Bv G K t.disc f4) ?_;by_cases c0:t.comps.length=0
  rotate_left
  ·have c0': ¬(t.comps.length:Int)=0:=by omega
   simp(disch:=omega) only[go_sem,↓reduceIte,gr1,Ab,Al,Am,An,Ac,Ad,Ae,Af,Ag,Ah,Ai,k1,k2,k3,k4,k5,k6,k7,Bk,c0'];exact Rm.sub sK (.refl ⟨by simp [Ba,Be,Bg,Bd, *],rfl⟩)
  have c0':(t.comps.length:Int)=0:=by omega
  by_cases v0:t.var= []
  rotate_left
  ·simp(disch:=omega) only[go_sem,↓reduceIte,gr1,Ab,Al,Am,An,Ac,Ad,Ae,Af,Ag,Ah,Ai,k1,k2,k3,k4,k5,k6,k7,Bk,c0',v0];exact Rm.sub sK (.refl ⟨by simp [Ba,Be,Bg,Bd, *],rfl⟩)
  by_cases a0:t.arms.length=0
  rotate_left
  ·have a0': ¬(t.arms.length:Int)=0:=by omega
   simp(disch:=omega) only[go_sem,↓reduceIte,gr1,Ab,Al,Am,An,Ac,Ad,Ae,Af,Ag,Ah,Ai,k1,k2,k3,k4,k5,k6,k7,Bk,Bo,c0',v0,a0'];exact Rm.sub sK (.refl ⟨by simp [Ba,Be,Bg,Bd, *],rfl⟩)
  have a0':(t.arms.length:Int)=0:=by omega
  simp(disch:=omega) only[go_sem,↓reduceIte,gr1,Ab,Al,Am,An,Ac,Ad,Ae,Af,Ag,Ah,Ai,k1,k2,k3,k4,k5,k6,k7,Bk,Bo,c0',v0,a0'];exact Rm.sub sK (.refl ⟨by simp [Ba,Be,Bg,Bd, *],rfl⟩)
 have n0':(t.names.length:Int)=0:=by omega
 simp(disch:=omega) only[go_sem,↓reduceIte,gr1,Ab,Al,Am,An,Ac,Ad,Ae,Af,Ag,Ah,Ai,k1,k2,k3,k4,k5,k6,k7,dW,n0'];refine Bh.monoR (Bm G K t.lo f1) ?_;cases l0:noE t.lo
 ·simp(disch:=omega) only[go_sem,↓reduceIte,gr1,Ab,Al,Am,An,Ac,Ad,Ae,Af,Ag,Ah,Ai,k1,k2,k3,k4,k5,k6,k7];refine Bh.monoR (Bu G K t.sub f3) ?_;simp(disch:=omega) only[go_sem,↓reduceIte,gr1,Ab,Al,Am,An,Ac,Ad,Ae,Af,Ag,Ah,Ai,k1,k2,k3,k4,k5,k6,k7];refine Bh.monoR (Bv G K t.disc f4) ?_;by_cases c0:t.comps.length=0
  rotate_left
  ·have c0': ¬(t.comps.length:Int)=0:=by omega
   simp(disch:=omega) only[go_sem,↓reduceIte,gr1,Ab,Al,Am,An,Ac,Ad,Ae,Af,Ag,Ah,Ai,k1,k2,k3,k4,k5,k6,k7,Bk,c0'];exact Rm.sub sK (.refl ⟨by simp [Ba,Be,Bg,Bd, *],rfl⟩)
  have c0':(t.comps.length:Int)=0:=by omega
  by_cases v0:t.var= []
  rotate_left
  ·simp(disch:=omega) only[go_sem,↓reduceIte,gr1,Ab,Al,Am,An,Ac,Ad,Ae,Af,Ag,Ah,Ai,k1,k2,k3,k4,k5,k6,k7,Bk,c0',v0];exact Rm.sub sK (.refl ⟨by simp [Ba,Be,Bg,Bd, *],rfl⟩)
  by_cases a0:t.arms.length=0
  rotate_left
  ·have a0': ¬(t.arms.length:Int)=0:=by omega
   simp(disch:=omega) only[go_sem,↓reduceIte,gr1,Ab,Al,Am,An,Ac,Ad,Ae,Af,Ag,Ah,Ai,k1,k2,k3,k4,k5,k6,k7,Bk,Bo,c0',v0,a0'];exact Rm.sub sK (.refl ⟨by simp [Ba,Be,Bg,Bd, *],rfl⟩)
  have a0':(t.arms.length:Int)=0:=by omega
  simp(disch:=omega) only[go_sem,↓reduceIte,gr1,Ab,Al,Am,An,Ac,Ad,Ae,Af,Ag,Ah,Ai,k1,k2,k3,k4,k5,k6,k7,Bk,Bo,c0',v0,a0'];exact Rm.sub sK (.refl ⟨by simp [Ba,Be,Bg,Bd, *],rfl⟩)
 simp(disch:=omega) only[go_sem,↓reduceIte,gr1,Ab,Al,Am,An,Ac,Ad,Ae,Af,Ag,Ah,Ai,k1,k2,k3,k4,k5,k6,k7];refine Bh.monoR (Bm G K t.hi f2) ?_;simp(disch:=omega) only[go_sem,↓reduceIte,gr1,Ab,Al,Am,An,Ac,Ad,Ae,Af,Ag,Ah,Ai,k1,k2,k3,k4,k5,k6,k7];refine Bh.monoR (Bu G K t.sub f3) ?_;simp(disch:=omega) only[go_sem,↓reduceIte,gr1,Ab,Al,Am,An,Ac,Ad,Ae,Af,Ag,Ah,Ai,k1,k2,k3,k4,k5,k6,k7];refine Bh.monoR (Bv G K t.disc f4) ?_;by_cases c0:t.comps.length=0
 rotate_left
 ·have c0': ¬(t.comps.length:Int)=0:=by omega
  simp(disch:=omega) only[go_sem,↓reduceIte,gr1,Ab,Al,Am,An,Ac,Ad,Ae,Af,Ag,Ah,Ai,k1,k2,k3,k4,k5,k6,k7,Bk,c0'];exact Rm.sub sK (.refl ⟨by simp [Ba,Be,Bg,Bd, *],rfl⟩)
 have c0':(t.comps.length:Int)=0:=by omega
 by_cases v0:t.var= []
 rotate_left
 ·simp(disch:=omega) only[go_sem,↓reduceIte,gr1,Ab,Al,Am,An,Ac,Ad,Ae,Af,Ag,Ah,Ai,k1,k2,k3,k4,k5,k6,k7,Bk,c0',v0];exact Rm.sub sK (.refl ⟨by simp [Ba,Be,Bg,Bd, *],rfl⟩)
 by_cases a0:t.arms.length=0
 rotate_left
 ·have a0': ¬(t.arms.length:Int)=0:=by omega
  simp(disch:=omega) only[go_sem,↓reduceIte,gr1,Ab,Al,Am,An,Ac,Ad,Ae,Af,Ag,Ah,Ai,k1,k2,k3,k4,k5,k6,k7,Bk,Bo,c0',v0,a0'];exact Rm.sub sK (.refl ⟨by simp [Ba,Be,Bg,Bd, *],rfl⟩)
 have a0':(t.arms.length:Int)=0:=by omega
 simp(disch:=omega) only[go_sem,↓reduceIte,gr1,Ab,Al,Am,An,Ac,Ad,Ae,Af,Ag,Ah,Ai,k1,k2,k3,k4,k5,k6,k7,Bk,Bo,c0',v0,a0'];exact Rm.sub sK (.refl ⟨by simp [Ba,Be,Bg,Bd, *],rfl⟩)
end
end Go.Dl
