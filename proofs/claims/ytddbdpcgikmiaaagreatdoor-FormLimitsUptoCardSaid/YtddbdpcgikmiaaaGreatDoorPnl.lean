/- The data level and the contracts of the functions that are reached (part 12). -/
import Derived.Test.YtddbdpcgikmiaaaGreatDoorPnk
set_option linter.unusedSimpArgs false
set_option linter.unusedVariables false
set_option linter.unusedSectionVars false
-- Chapter 4: the writer of package shape: 
namespace Go.Dl
open Go Go.Proofs
set_option maxRecDepth 100000
theorem Go6 {x:Ex}:noE x=true↔stE x=ex0:=by
 unfold noE;rw[Wa];rfl
theorem Ds6 {x:Ex} (h:Cg x=true):noE x=false:=by
 cases c:noE x with
 | false=>rfl
 | true=>
  exfalso;have hk:x.kind=0:=by rw[<-Pa,Go6.1 c];rfl
  have hv:=(Is (Qb h)).1;unfold Bc at hv;simp [hk] at hv
theorem Fd5 (e:Ex):(Am e).length<=(Ay e 2).length:=by
 rw[Ay,An4];split<;>omega
section
variable {G:Nat->DVal}
set_option maxHeartbeats 4000000 in
theorem Kf (hG:GX G) (e:Ex) (hm:Ge e=true) (he:Dn 1048576 e):SrC Tryz.prog G 123 [.agg (dEx e)] (Jx e):=by
 intro B0 r ts H hB I hw;refine Ab Tryz.func123 Tryz.call123 rfl (by kernel_rfl) ?_;simp(disch:=omega)only[go_sem,DVal.cells];intro h D;dsimp only at D;have J:=hw.frame D (.cells (dEx e) 27);have aa:B0 h=none:=(hw.lo D).1;have ab:h≠r:=(hw.lo D).2;obtain⟨B1,y⟩: ∃X,X=upd B0 h (some (.cells (dEx e) 27)):=⟨_,rfl⟩;have ac:B1 h=some (.cells (dEx e) 27):=by rw[y];exact Aa _ _ _
 have U:Sub B0 B1:=by rw[y];exact(Sub.refl _).up aa _
 have ad:B1 r=none:=by rw[y,Ak _ _ _ _ ab.symm];exact hB
 obtain⟨L,E⟩: ∃X,X=upd H h (some (.cells (dEx e) 27)):=⟨_,rfl⟩;rw[<-y,<-E] at J;rw[<-E];have C:L h=some (.cells (dEx e) 27):=by rw[E];exact Aa _ _ _
 clear y E;simp(disch:=omega)only[go_sem,C,Ai (Ad _)];intro q hq;dsimp only at hq;simp(disch:=omega)only[go_sem];refine Af.monoR (Ba9 G L [e] q _ _ (by simp) hq (by simp) (by intro x hx;simp at hx;subst hx;assumption) rfl) ?_;rw[show [e].all noE=noE e by simp];cases h0:noE e
 ·have ae:Cg e=true:=by rw[Ge,h0,Bool.false_or] at hm;exact hm
  have ht:Jx e=Ah Kl::Am e:=by rw[Jx,h0];rfl
  rw[ht] at I⊢
  simp(disch:=omega)only[go_sem];refine Aj (by kernel_rfl) (.take 0 (.take 3 (.go 1 [3] (.go 2 [3] (.go 4 [] (.take 5 .done)))))) (by kernel_rfl) ?_;simp(disch:=omega)only[go_sem,C];have h0:St B0 B1 r ts L:=⟨J,ad,U⟩;intro qa V;dsimp only at V;obtain⟨aj,ak,af,W,ag,ah⟩:=h0.new V (.cells [.str [58,61]] 9);rw[af];have M:=ag _ _ ac;have O:=W.g M;try simp(disch:=omega)only[go_sem,C,O]
  refine(W.put hG [Kl] ah (by(try simp only[jC,jA,jB,jK,jN,jP,List.length_flatMap] at I⊢)<;>omega)).mono ?_;rintro _ al ⟨rfl,Y⟩;have Z:=Y.g M;try simp(disch:=omega)only[go_sem,C,O,Z]
  refine(Y.call (Du hG e ae he.fitx) (by(try simp only[jC,jA,jB,jK,jN,jP,List.length_flatMap] at I⊢)<;>omega)).mono ?_;rintro _ am ⟨rfl,S⟩;have ai:=S.g M;try simp(disch:=omega)only[go_sem,C,O,Z,ai]
  exact Es.refl ⟨rfl,by simpa using S.hw.less S.hs⟩
 ·simp(disch:=omega)only[go_sem];exact Es.refl ⟨rfl,by rw[Jx,h0];simpa using J.less U⟩
set_option maxHeartbeats 4000000 in
theorem Uz (hG:GX G) (e:Ex) (hm:Cg e=true) (he:Dn 1048576 e):SrC Tryz.prog G 204 [.agg (dEx e)] (Ay e 2):=by
 intro B0 r ts H hB y hw;have b0:=Fd5 e;refine Ab Tryz.func204 Tryz.call204 rfl (by kernel_rfl) ?_;simp(disch:=omega)only[go_sem,DVal.cells];intro J V;dsimp only at V;have ad:=hw.frame V (.cells (dEx e) 27);have bi:B0 J=none:=(hw.lo V).1;have bj:J≠r:=(hw.lo V).2;obtain⟨B1,O⟩: ∃X,X=upd B0 J (some (.cells (dEx e) 27)):=⟨_,rfl⟩;have ae:B1 J=some (.cells (dEx e) 27):=by rw[O];exact Aa _ _ _
 have au:Sub B0 B1:=by rw[O];exact(Sub.refl _).up bi _
 have av:B1 r=none:=by rw[O,Ak _ _ _ _ bj.symm];exact hB
 obtain⟨W,Y⟩: ∃X,X=upd H J (some (.cells (dEx e) 27)):=⟨_,rfl⟩;rw[<-O,<-Y] at ad;rw[<-Y];have h:W J=some (.cells (dEx e) 27):=by rw[Y];exact Aa _ _ _
 clear O Y;simp(disch:=omega)only[go_sem,h];refine Af.monoR (Xi G W e) ?_;by_cases c:Ba e<2
 ·have hp:Ay e 2=Ah Bi::(Am e++ [Ah Bt]):=by rw[Ay,decide_eq_true c];rfl
  rw[hp] at y⊢
  simp(disch:=omega)only[go_sem,c];refine Aj (by kernel_rfl) (.take 0 (.take 3 (.alt (.go 5 [3] (.go 1 [3] (.go 2 [3] (.go 4 [] (.go 6 [] (.take 7 .done)))))) (.go 1 [3] (.alt (.go 5 [3] (.go 2 [3] (.go 4 [] (.go 6 [] (.take 7 .done))))) (.go 2 [3] (.alt (.go 5 [3] (.go 4 [] (.go 6 [] (.take 7 .done)))) (.go 4 [] (.go 5 [3] (.go 6 [] (.take 7 .done))))))))))) (by kernel_rfl) ?_;simp(disch:=omega)only[go_sem,h];have h0:St B0 B1 r ts W:=⟨ad,av,au⟩;refine⟨?_, ?_⟩
  ·intro qb D;dsimp only at D;obtain⟨b1,b2,bk,aw,bl,E⟩:=h0.new D (.cells [.str [41]] 9);rw[bk];have ax:=bl _ _ ae;have S:=aw.g ax;try simp(disch:=omega)only[go_sem,h,S]
   intro qa U;dsimp only at U;obtain⟨b3,b4,bm,ay,a0,L⟩:=aw.new U (.cells [.str [40]] 9);rw[bm];have Z:=a0 _ _ ax;have bn:=a0 _ _ E;have aa:=ay.g Z;try simp(disch:=omega)only[go_sem,h,S,aa]
   refine(ay.put hG [Bi] L (by(try simp only[jC,jA,jB,jK,jN,jP,List.length_flatMap] at y⊢)<;>omega)).mono ?_;rintro _ b5 ⟨rfl,a1⟩;have af:=a1.g Z;try simp(disch:=omega)only[go_sem,h,S,aa,af]
   refine(a1.call (Du hG e hm he.fitx) (by(try simp only[jC,jA,jB,jK,jN,jP,List.length_flatMap] at y⊢)<;>omega)).mono ?_;rintro _ b6 ⟨rfl,a2⟩;have a3:=a2.g Z;try simp(disch:=omega)only[go_sem,h,S,aa,af,a3]
   refine(a2.put hG [Bt] bn (by(try simp only[jC,jA,jB,jK,jN,jP,List.length_flatMap] at y⊢)<;>omega)).mono ?_;rintro _ b7 ⟨rfl,ag⟩;have bo:=ag.g Z;try simp(disch:=omega)only[go_sem,h,S,aa,af,a3,bo]
   exact Es.refl ⟨rfl,by simpa using ag.hw.less ag.hs⟩
  ·intro qa U;dsimp only at U;obtain⟨b8,b9,bp,ah,bq,L⟩:=h0.new U (.cells [.str [40]] 9);rw[bp];have M:=bq _ _ ae;have C:=ah.g M;try simp(disch:=omega)only[go_sem,h,C]
   refine⟨?_, ?_⟩
   ·intro qb D;dsimp only at D;obtain⟨ca,cb,br,a4,a5,E⟩:=ah.new D (.cells [.str [41]] 9);rw[br];have ab:=a5 _ _ M;have bs:=a5 _ _ L;have ac:=a4.g ab;try simp(disch:=omega)only[go_sem,h,C,ac]
    refine(a4.put hG [Bi] bs (by(try simp only[jC,jA,jB,jK,jN,jP,List.length_flatMap] at y⊢)<;>omega)).mono ?_;rintro _ cc ⟨rfl,a6⟩;have ai:=a6.g ab;try simp(disch:=omega)only[go_sem,h,C,ac,ai]
    refine(a6.call (Du hG e hm he.fitx) (by(try simp only[jC,jA,jB,jK,jN,jP,List.length_flatMap] at y⊢)<;>omega)).mono ?_;rintro _ cd ⟨rfl,a7⟩;have a8:=a7.g ab;try simp(disch:=omega)only[go_sem,h,C,ac,ai,a8]
    refine(a7.put hG [Bt] E (by(try simp only[jC,jA,jB,jK,jN,jP,List.length_flatMap] at y⊢)<;>omega)).mono ?_;rintro _ ce ⟨rfl,aj⟩;have bt:=aj.g ab;try simp(disch:=omega)only[go_sem,h,C,ac,ai,a8,bt]
    exact Es.refl ⟨rfl,by simpa using aj.hw.less aj.hs⟩
   ·refine(ah.put hG [Bi] L (by(try simp only[jC,jA,jB,jK,jN,jP,List.length_flatMap] at y⊢)<;>omega)).mono ?_;rintro _ cf ⟨rfl,ak⟩;have I:=ak.g M;try simp(disch:=omega)only[go_sem,h,C,I]
    refine⟨?_, ?_⟩
    ·intro qb D;dsimp only at D;obtain⟨cg,ci,bu,a9,ba,E⟩:=ak.new D (.cells [.str [41]] 9);rw[bu];have al:=ba _ _ M;have cj:=ba _ _ L;have am:=a9.g al;try simp(disch:=omega)only[go_sem,h,C,I,am]
     refine(a9.call (Du hG e hm he.fitx) (by(try simp only[jC,jA,jB,jK,jN,jP,List.length_flatMap] at y⊢)<;>omega)).mono ?_;rintro _ ck ⟨rfl,bb⟩;have bc:=bb.g al;try simp(disch:=omega)only[go_sem,h,C,I,am,bc]
     refine(bb.put hG [Bt] E (by(try simp only[jC,jA,jB,jK,jN,jP,List.length_flatMap] at y⊢)<;>omega)).mono ?_;rintro _ cl ⟨rfl,ao⟩;have bv:=ao.g al;try simp(disch:=omega)only[go_sem,h,C,I,am,bc,bv]
     exact Es.refl ⟨rfl,by simpa using ao.hw.less ao.hs⟩
    ·refine(ak.call (Du hG e hm he.fitx) (by(try simp only[jC,jA,jB,jK,jN,jP,List.length_flatMap] at y⊢)<;>omega)).mono ?_;rintro _ cm ⟨rfl,bd⟩;have ap:=bd.g M;try simp(disch:=omega)only[go_sem,h,C,I,ap]
     intro qb D;dsimp only at D;obtain⟨cn,co,bw,be,bf,E⟩:=bd.new D (.cells [.str [41]] 9);rw[bw];have bg:=bf _ _ M;have cp:=bf _ _ L;have bh:=be.g bg;try simp(disch:=omega)only[go_sem,h,C,I,ap,bh]
     refine(be.put hG [Bt] E (by(try simp only[jC,jA,jB,jK,jN,jP,List.length_flatMap] at y⊢)<;>omega)).mono ?_;rintro _ cq ⟨rfl,aq⟩;have bx:=aq.g bg;try simp(disch:=omega)only[go_sem,h,C,I,ap,bh,bx]
     exact Es.refl ⟨rfl,by simpa using aq.hw.less aq.hs⟩
 ·have hp:Ay e 2=Am e:=by rw[Ay,decide_eq_false c];rfl
  rw[hp] at y⊢
  simp(disch:=omega)only[go_sem,c,h];have h0:St B0 B1 r ts W:=⟨ad,av,au⟩;refine(h0.call (Du hG e hm he.fitx) (by(try simp only[jC,jA,jB,jK,jN,jP,List.length_flatMap] at y⊢)<;>omega)).mono ?_;rintro _ cr ⟨rfl,ar⟩;have bz:=ar.g ae;simp(disch:=omega)only[go_sem,h,bz];exact Es.refl ⟨rfl,by simpa using ar.hw.less ar.hs⟩
set_option maxHeartbeats 4000000 in
theorem Sg (hG:GX G) (a b:Ex) (ha:Cg a=true) (hb:Cg b=true) (fa:Dn 1048576 a) (fb:Dn 1048576 b):SrC Tryz.prog G 94 [.agg (dEx a), .agg (dEx b)] (Gi a b):=by
 intro B0 r ts H hB C hw;rw[Gi] at C⊢
 refine Ab Tryz.func94 Tryz.call94 rfl (by kernel_rfl) ?_;simp(disch:=omega)only[go_sem,DVal.cells];intro D O;dsimp only at O;have S:=hw.frame O (.cells (dEx a) 27);have a7:B0 D=none:=(hw.lo O).1;have a0:D≠r:=(hw.lo O).2;obtain⟨B1,J⟩: ∃X,X=upd B0 D (some (.cells (dEx a) 27)):=⟨_,rfl⟩;have a8:B1 D=some (.cells (dEx a) 27):=by rw[J];exact Aa _ _ _
 have a9:Sub B0 B1:=by rw[J];exact(Sub.refl _).up a7 _
 have ba:B1 r=none:=by rw[J,Ak _ _ _ _ a0.symm];exact hB
 obtain⟨K1,U⟩: ∃X,X=upd H D (some (.cells (dEx a) 27)):=⟨_,rfl⟩;rw[<-J,<-U] at S;rw[<-U];have bl:K1 D=some (.cells (dEx a) 27):=by rw[U];exact Aa _ _ _
 clear J U;simp(disch:=omega)only[go_sem,DVal.cells];intro E V;dsimp only at V;have ah:=S.frame V (.cells (dEx b) 27);have bb:B1 E=none:=(S.lo V).1;have bc:E≠r:=(S.lo V).2;obtain⟨I,L⟩: ∃X,X=upd B1 E (some (.cells (dEx b) 27)):=⟨_,rfl⟩;have ai:I E=some (.cells (dEx b) 27):=by rw[L];exact Aa _ _ _
 have a1:Sub B1 I:=by rw[L];exact(Sub.refl _).up bb _
 have bd:I r=none:=by rw[L,Ak _ _ _ _ bc.symm];exact ba
 obtain⟨K2,W⟩: ∃X,X=upd K1 E (some (.cells (dEx b) 27)):=⟨_,rfl⟩;rw[<-L,<-W] at ah;rw[<-W];have h:K2 E=some (.cells (dEx b) 27):=by rw[W];exact Aa _ _ _
 clear L W;have be:Sub B0 I:=a9.trans a1;have Y:I D=some (.cells (dEx a) 27):=a1 _ _ a8;have y:=ah.keep Y a0;simp(disch:=omega)only[go_sem,y,h];refine Aj (by kernel_rfl) (.take 0 (.take 1 (.take 5 (.alt (.go 3 [5,1] (.go 2 [5] (.go 4 [5] (.go 6 [] (.take 7 .done))))) (.go 2 [5] (.go 3 [5,1] (.go 4 [5] (.go 6 [] (.take 7 .done))))))))) (by kernel_rfl) ?_;simp(disch:=omega)only[go_sem,y,h];have h0:St B0 I r ts K2:=⟨ah,bd,be⟩;refine⟨?_, ?_⟩
 ·intro qa M;dsimp only at M;obtain⟨bm,bn,bf,aj,s32,ak⟩:=h0.new M (.cells [.str [46,46]] 9);rw[bf];have Z:=s32 _ _ Y;have aa:=s32 _ _ ai;have ab:=aj.g Z;have ac:=aj.g aa;try simp(disch:=omega)only[go_sem,y,h,ab,ac]
  refine(aj.call (Uz hG a ha fa) (by(try simp only[jC,jA,jB,jK,jN,jP,List.length_flatMap] at C⊢)<;>omega)).mono ?_;rintro _ bo ⟨rfl,al⟩;have am:=al.g Z;have ao:=al.g aa;try simp(disch:=omega)only[go_sem,y,h,ab,ac,am,ao]
  refine(al.put hG [Ev] ak (by(try simp only[jC,jA,jB,jK,jN,jP,List.length_flatMap] at C⊢)<;>omega)).mono ?_;rintro _ bp ⟨rfl,ap⟩;have a2:=ap.g Z;have a3:=ap.g aa;try simp(disch:=omega)only[go_sem,y,h,ab,ac,am,ao,a2,a3]
  refine(ap.call (Uz hG b hb fb) (by(try simp only[jC,jA,jB,jK,jN,jP,List.length_flatMap] at C⊢)<;>omega)).mono ?_;rintro _ bq ⟨rfl,ad⟩;have bg:=ad.g Z;have bh:=ad.g aa;try simp(disch:=omega)only[go_sem,y,h,ab,ac,am,ao,a2,a3,bg,bh]
  exact Es.refl ⟨rfl,by simpa using ad.hw.less ad.hs⟩
 ·refine(h0.call (Uz hG a ha fa) (by(try simp only[jC,jA,jB,jK,jN,jP,List.length_flatMap] at C⊢)<;>omega)).mono ?_;rintro _ br ⟨rfl,aq⟩;have ae:=aq.g Y;have af:=aq.g ai;try simp(disch:=omega)only[go_sem,y,h,ae,af]
  intro qa M;dsimp only at M;obtain⟨bs,bt,bi,ar,a4,ak⟩:=aq.new M (.cells [.str [46,46]] 9);rw[bi];have au:=a4 _ _ Y;have av:=a4 _ _ ai;have aw:=ar.g au;have ax:=ar.g av;try simp(disch:=omega)only[go_sem,y,h,ae,af,aw,ax]
  refine(ar.put hG [Ev] ak (by(try simp only[jC,jA,jB,jK,jN,jP,List.length_flatMap] at C⊢)<;>omega)).mono ?_;rintro _ bu ⟨rfl,ay⟩;have a5:=ay.g au;have a6:=ay.g av;try simp(disch:=omega)only[go_sem,y,h,ae,af,aw,ax,a5,a6]
  refine(ay.call (Uz hG b hb fb) (by(try simp only[jC,jA,jB,jK,jN,jP,List.length_flatMap] at C⊢)<;>omega)).mono ?_;rintro _ bv ⟨rfl,ag⟩;have bj:=ag.g au;have bk:=ag.g av;try simp(disch:=omega)only[go_sem,y,h,ae,af,aw,ax,a5,a6,bj,bk]
  exact Es.refl ⟨rfl,by simpa using ag.hw.less ag.hs⟩
theorem Ds7 {s:Ind} (hm:Cr s=true):Cg s.name=true/\(noE s.value=false->Cg s.value=true)/\(noE s.value=true->noE s.lo=false->Cg s.lo=true/\Cg s.hi=true):=by
 rw[Cr,jF] at hm;obtain⟨h1,h2⟩:=hm;refine⟨by rw[Hu,jF] at h1;exact h1.1,fun c=> ?_,fun c d=> ?_⟩
 ·rw[c] at h2;simp at h2;exact h2.2
 ·rw[c,d] at h2;simp at h2;exact h2
set_option maxHeartbeats 8000000 in
theorem Rc (hG:GX G) (s:Ind) (hm:Cr s=true) (hs:Bp1 1048576 s):SrC Tryz.prog G 95 [.agg (Df s)] (Mm s):=by
 intro B0 r ts H hB y hw;obtain⟨m1,m2,m3⟩:=Ds7 hm;obtain⟨f0,f1,f2,V⟩:=hs;have b9:ts.length+(Am s.name).length<=1000000000:=by rw[Mm,jC] at y;omega
 refine Ab Tryz.func95 Tryz.call95 rfl (by kernel_rfl) ?_;simp(disch:=omega)only[go_sem,DVal.cells];intro M W;dsimp only at W;have ay:=hw.frame W (.cells (Df s) 56);have bp:B0 M=none:=(hw.lo W).1;have a0:M≠r:=(hw.lo W).2;obtain⟨B1,S⟩: ∃X,X=upd B0 M (some (.cells (Df s) 56)):=⟨_,rfl⟩;have Y:B1 M=some (.cells (Df s) 56):=by rw[S];exact Aa _ _ _
 have af:Sub B0 B1:=by rw[S];exact(Sub.refl _).up bp _
 have ag:B1 r=none:=by rw[S,Ak _ _ _ _ a0.symm];exact hB
 obtain⟨K1,Z⟩: ∃X,X=upd H M (some (.cells (Df s) 56)):=⟨_,rfl⟩;rw[<-S,<-Z] at ay;rw[<-Z];have bq:K1 M=some (.cells (Df s) 56):=by rw[Z];exact Aa _ _ _
 clear S Z;simp(disch:=omega)only[go_sem,bq,Al,Bv,Bx,By,Bz];refine(Du hG s.name m1 f0.fitx B1 r _ _ ag (by omega) ay).mono ?_;rintro _ K2 ⟨rfl,aa⟩;have h:=aa.keep Y a0;simp(disch:=omega)only[go_sem,h,Al,Bv,Bx,By,Bz,Ai (Ad _)];intro p1 hp1;dsimp only at hp1;simp(disch:=omega)only[go_sem];refine Af.monoR (Ba9 G K2 [s.value] p1 _ _ (by simp) hp1 (by simp) (by intro x hx;simp at hx;subst hx;assumption) rfl) ?_;rw[show [s.value].all noE=noE s.value by simp];cases h0:noE s.value
 ·have ht:Mm s=Am s.name++(Ah Bi::(Am s.value++ [Ah Bt])):=by rw[Mm,h0];rfl
  rw[ht] at y⊢
  have mv:=m2 h0;simp(disch:=omega)only[go_sem];refine Aj (by kernel_rfl) pL9 (by kernel_rfl) ?_;simp(disch:=omega)only[go_sem,h,Al,Bv,Bx,By,Bz];have h0:St B0 B1 r _ K2:=⟨aa,ag,af⟩;refine⟨?_, ?_⟩
  ·intro qb D;dsimp only at D;obtain⟨ca,cb,br,a1,bs,J⟩:=h0.new D (.cells [.str [41]] 9);rw[br];have a2:=bs _ _ Y;have U:=a1.g a2;try simp(disch:=omega)only[go_sem,h,U,Al,Bv,Bx,By,Bz]
   intro qa E;dsimp only at E;obtain⟨cc,cd,bt,a3,a4,I⟩:=a1.new E (.cells [.str [40]] 9);rw[bt];have ab:=a4 _ _ a2;have bu:=a4 _ _ J;have ac:=a3.g ab;try simp(disch:=omega)only[go_sem,h,U,ac,Al,Bv,Bx,By,Bz]
   refine(a3.put hG [Bi] I (by(try simp only[jC,jA,jB,jK,jN,jP,List.length_flatMap] at y⊢)<;>omega)).mono ?_;rintro _ ce ⟨rfl,a5⟩;have ah:=a5.g ab;try simp(disch:=omega)only[go_sem,h,U,ac,ah,Al,Bv,Bx,By,Bz]
   refine(a5.call (Du hG s.value mv V.fitx) (by(try simp only[jC,jA,jB,jK,jN,jP,List.length_flatMap] at y⊢)<;>omega)).mono ?_;rintro _ cf ⟨rfl,a6⟩;have a7:=a6.g ab;try simp(disch:=omega)only[go_sem,h,U,ac,ah,a7,Al,Bv,Bx,By,Bz]
   refine(a6.put hG [Bt] bu (by(try simp only[jC,jA,jB,jK,jN,jP,List.length_flatMap] at y⊢)<;>omega)).mono ?_;rintro _ cg ⟨rfl,ai⟩;have bv:=ai.g ab;try simp(disch:=omega)only[go_sem,h,U,ac,ah,a7,bv,Al,Bv,Bx,By,Bz]
   exact Es.refl ⟨rfl,by simpa using ai.hw.less ai.hs⟩
  ·intro qa E;dsimp only at E;obtain⟨ci,cj,bw,aj,bx,I⟩:=h0.new E (.cells [.str [40]] 9);rw[bw];have O:=bx _ _ Y;have C:=aj.g O;try simp(disch:=omega)only[go_sem,h,C,Al,Bv,Bx,By,Bz]
   refine⟨?_, ?_⟩
   ·intro qb D;dsimp only at D;obtain⟨ck,cl,bz,a8,a9,J⟩:=aj.new D (.cells [.str [41]] 9);rw[bz];have ad:=a9 _ _ O;have b0:=a9 _ _ I;have ae:=a8.g ad;try simp(disch:=omega)only[go_sem,h,C,ae,Al,Bv,Bx,By,Bz]
    refine(a8.put hG [Bi] b0 (by(try simp only[jC,jA,jB,jK,jN,jP,List.length_flatMap] at y⊢)<;>omega)).mono ?_;rintro _ cm ⟨rfl,ba⟩;have ak:=ba.g ad;try simp(disch:=omega)only[go_sem,h,C,ae,ak,Al,Bv,Bx,By,Bz]
    refine(ba.call (Du hG s.value mv V.fitx) (by(try simp only[jC,jA,jB,jK,jN,jP,List.length_flatMap] at y⊢)<;>omega)).mono ?_;rintro _ cn ⟨rfl,bb⟩;have bc:=bb.g ad;try simp(disch:=omega)only[go_sem,h,C,ae,ak,bc,Al,Bv,Bx,By,Bz]
    refine(bb.put hG [Bt] J (by(try simp only[jC,jA,jB,jK,jN,jP,List.length_flatMap] at y⊢)<;>omega)).mono ?_;rintro _ co ⟨rfl,al⟩;have b1:=al.g ad;try simp(disch:=omega)only[go_sem,h,C,ae,ak,bc,b1,Al,Bv,Bx,By,Bz]
    exact Es.refl ⟨rfl,by simpa using al.hw.less al.hs⟩
   ·refine(aj.put hG [Bi] I (by(try simp only[jC,jA,jB,jK,jN,jP,List.length_flatMap] at y⊢)<;>omega)).mono ?_;rintro _ cp ⟨rfl,am⟩;have L:=am.g O;try simp(disch:=omega)only[go_sem,h,C,L,Al,Bv,Bx,By,Bz]
    refine⟨?_, ?_⟩
    ·intro qb D;dsimp only at D;obtain⟨cq,cr,b2,bd,be,J⟩:=am.new D (.cells [.str [41]] 9);rw[b2];have ao:=be _ _ O;have ct:=be _ _ I;have ap:=bd.g ao;try simp(disch:=omega)only[go_sem,h,C,L,ap,Al,Bv,Bx,By,Bz]
     refine(bd.call (Du hG s.value mv V.fitx) (by(try simp only[jC,jA,jB,jK,jN,jP,List.length_flatMap] at y⊢)<;>omega)).mono ?_;rintro _ cu ⟨rfl,bf⟩;have bg:=bf.g ao;try simp(disch:=omega)only[go_sem,h,C,L,ap,bg,Al,Bv,Bx,By,Bz]
     refine(bf.put hG [Bt] J (by(try simp only[jC,jA,jB,jK,jN,jP,List.length_flatMap] at y⊢)<;>omega)).mono ?_;rintro _ cv ⟨rfl,aq⟩;have b3:=aq.g ao;try simp(disch:=omega)only[go_sem,h,C,L,ap,bg,b3,Al,Bv,Bx,By,Bz]
     exact Es.refl ⟨rfl,by simpa using aq.hw.less aq.hs⟩
    ·refine(am.call (Du hG s.value mv V.fitx) (by(try simp only[jC,jA,jB,jK,jN,jP,List.length_flatMap] at y⊢)<;>omega)).mono ?_;rintro _ cw ⟨rfl,bh⟩;have ar:=bh.g O;try simp(disch:=omega)only[go_sem,h,C,L,ar,Al,Bv,Bx,By,Bz]
     intro qb D;dsimp only at D;obtain⟨cx,cy,b4,bi,bj,J⟩:=bh.new D (.cells [.str [41]] 9);rw[b4];have bk:=bj _ _ O;have cz:=bj _ _ I;have bl:=bi.g bk;try simp(disch:=omega)only[go_sem,h,C,L,ar,bl,Al,Bv,Bx,By,Bz]
     refine(bi.put hG [Bt] J (by(try simp only[jC,jA,jB,jK,jN,jP,List.length_flatMap] at y⊢)<;>omega)).mono ?_;rintro _ c0 ⟨rfl,au⟩;have b5:=au.g bk;try simp(disch:=omega)only[go_sem,h,C,L,ar,bl,b5,Al,Bv,Bx,By,Bz]
     exact Es.refl ⟨rfl,by simpa using au.hw.less au.hs⟩
 ·simp(disch:=omega)only[go_sem,h,Al,Bv,Bx,By,Bz,Ai (Ad _)];intro p2 hp2;dsimp only at hp2;simp(disch:=omega)only[go_sem];refine Af.monoR (Ba9 G K2 [s.lo] p2 _ _ (by simp) hp2 (by simp) (by intro x hx;simp at hx;subst hx;assumption) rfl) ?_;rw[show [s.lo].all noE=noE s.lo by simp];cases h1:noE s.lo
  ·have ht:Mm s=Am s.name++(Ah Ht::Gi s.lo s.hi):=by rw[Mm,h0,h1];rfl
   rw[ht] at y⊢
   obtain⟨ml,mh⟩:=m3 h0 h1;simp(disch:=omega)only[go_sem];refine Aj (by kernel_rfl) pL16 (by kernel_rfl) ?_;simp(disch:=omega)only[go_sem,h,Al,Bv,Bx,By,Bz];have h0:St B0 B1 r _ K2:=⟨aa,ag,af⟩;intro qa E;dsimp only at E;obtain⟨c1,c2,b6,bm,b7,I⟩:=h0.new E (.cells [.str [114,97,110,103,101]] 9);rw[b6];have av:=b7 _ _ Y;have aw:=bm.g av;try simp(disch:=omega)only[go_sem,h,aw,Al,Bv,Bx,By,Bz]
   refine(bm.put hG [Ht] I (by(try simp only[jC,jA,jB,jK,jN,jP,List.length_flatMap] at y⊢)<;>omega)).mono ?_;rintro _ c3 ⟨rfl,bn⟩;have bo:=bn.g av;try simp(disch:=omega)only[go_sem,h,aw,bo,Al,Bv,Bx,By,Bz]
   refine(bn.call (Sg hG s.lo s.hi ml mh f1 f2) (by(try simp only[jC,jA,jB,jK,jN,jP,List.length_flatMap] at y⊢)<;>omega)).mono ?_;rintro _ c4 ⟨rfl,ax⟩;have b8:=ax.g av;try simp(disch:=omega)only[go_sem,h,aw,bo,b8,Al,Bv,Bx,By,Bz]
   exact Es.refl ⟨rfl,by simpa using ax.hw.less ax.hs⟩
  ·have ht:Mm s=Am s.name:=by rw[Mm,h0,h1];simp
   rw[ht];simp(disch:=omega)only[go_sem];exact Es.refl ⟨rfl,by simpa using aa.less af⟩
end
theorem Ds8 {d:Dis} (hm:Ib d=true):(noE d.lo=true->Cg d.name=true)/\(noE d.lo=false->Cg d.lo=true/\Cg d.hi=true/\(noE d.name=false->Cg d.name=true)):=by
 rw[Ib] at hm;by_cases c:(noE d.lo&&noE d.hi)=true
 ·rw[if_pos c] at hm;rw[jF] at c;refine⟨fun _=> ?_,fun h=>(by rw[c.1] at h;cases h)⟩;rw[Bool.or_eq_true,jF] at hm;rcases hm with h | h
  ·rw[Hu,jF] at h;exact h.1
  ·exact h.2
 ·rw[if_neg c] at hm;rw[jF,jF] at hm;obtain⟨⟨h1,h2⟩,h3⟩:=hm;refine⟨fun h=>(by rw[Ds6 h1] at h;cases h),fun _=>⟨h1,h2,fun h=> ?_⟩⟩;rw[h,Bool.false_or,Hu,jF] at h3;exact h3.1
theorem Cx0 {e:Ex} (h:Cg e=true):(Ay e 2).length<=5002:=by
 have:=Qi h;rw[Ay,An4];split<;>omega
theorem Aj4 {a b:Ex} (ha:Cg a=true) (hb:Cg b=true):(Gi a b).length<=10005:=by
 have h1:=Cx0 ha;have h2:=Cx0 hb;rw[Gi,jC,jA];omega
theorem Be9 {e:Ex} (h:Ge e=true):(Jx e).length<=5001:=by
 rw[Jx];cases c:noE e
 ·rw[Ge,c,Bool.false_or] at h;have:=Qi h;simp;omega
 ·simp
theorem Aq8 {s:Ind} (hm:Cr s=true):(Mm s).length<=20000:=by
 obtain⟨y,C,h⟩:=Ds7 hm;have h1:=Qi y;rw[Mm,jC];cases h0:noE s.value
 ·have:=Qi (C h0);simp;omega
 ·cases h2:noE s.lo
  ·have:=Aj4 (h h0 h2).1 (h h0 h2).2;simp;omega
  ·simp;omega
theorem Ft3 {d:Dis} (hm:Ib d=true):(Ax2 d).length<=20000:=by
 obtain⟨h,y⟩:=Ds8 hm;rw[Ax2];cases h1:noE d.lo
 ·obtain⟨C,D,E⟩:=y h1;have hb:=Aj4 C D;cases h0:noE d.name
  ·have:=Qi (E h0);simp;omega
  ·simp;omega
 ·have:=Qi (h h1);simp;omega
theorem Wj {ws:List (List UInt8)} {m:Nat} (h:Ih ws m=true):ws.length<=m/\(Cp ws).length<=2*m:=by
 rw[Ih,jF,jF,decide_eq_true_eq,decide_eq_true_eq] at h;have h1:=Qe (ws:=ws) ws.length (Nat.le_refl _);rw[List.take_length] at h1;omega
section
variable {G:Nat->DVal}
set_option maxHeartbeats 8000000 in
theorem Dk4 (hG:GX G) (d:Dis) (hm:Ib d=true) (hs:Bz0 1048576 d):SrC Tryz.prog G 96 [.agg (Dz d)] (Ax2 d):=by
 intro B0 r ts H hB h hw;obtain⟨Z,J⟩:=Ds8 hm;obtain⟨f0,f1,f2⟩:=hs;refine Ab Tryz.func96 Tryz.call96 rfl (by kernel_rfl) ?_;simp(disch:=omega)only[go_sem,DVal.cells];intro y D;dsimp only at D;have L:=hw.frame D (.cells (Dz d) 58);have ac:B0 y=none:=(hw.lo D).1;have M:y≠r:=(hw.lo D).2;obtain⟨B1,C⟩: ∃X,X=upd B0 y (some (.cells (Dz d) 58)):=⟨_,rfl⟩;have aa:B1 y=some (.cells (Dz d) 58):=by rw[C];exact Aa _ _ _
 have O:Sub B0 B1:=by rw[C];exact(Sub.refl _).up ac _
 have E:B1 r=none:=by rw[C,Ak _ _ _ _ M.symm];exact hB
 obtain⟨K1,I⟩: ∃X,X=upd H y (some (.cells (Dz d) 58)):=⟨_,rfl⟩;rw[<-C,<-I] at L;rw[<-I];have S:K1 y=some (.cells (Dz d) 58):=by rw[I];exact Aa _ _ _
 clear C I;simp(disch:=omega)only[go_sem,S,Aw,Jb,Jc,Jd,Ai (Ad _)];intro p1 hp1;dsimp only at hp1;simp(disch:=omega)only[go_sem];refine Af.monoR (Ba9 G K1 [d.name] p1 _ _ (by simp) hp1 (by simp) (by intro x hx;simp at hx;subst hx;assumption) rfl) ?_;rw[show [d.name].all noE=noE d.name by simp];cases h0:noE d.name
 ·have mn:Cg d.name=true:=by
   cases h1:noE d.lo
   ·exact(J h1).2.2 h0
   ·exact Z h1
  have ad:ts.length+(Am d.name).length<=1000000000:=by
   rw[Ax2] at h;cases h1:noE d.lo
   ·rw[h1,h0] at h;simp at h;omega
   ·rw[h1] at h;simp at h;omega
  simp(disch:=omega)only[go_sem,S,Aw,Jb,Jc,Jd];refine(Du hG d.name mn f0.fitx B1 r _ _ E ad L).mono ?_;rintro _ K2 ⟨rfl,U⟩;have g2:=U.keep aa M;simp(disch:=omega)only[go_sem,g2,Aw,Jb,Jc,Jd,Ai (Ad _)];intro p2 hp2;dsimp only at hp2;simp(disch:=omega)only[go_sem];refine Af.monoR (Ba9 G K2 [d.lo] p2 _ _ (by simp) hp2 (by simp) (by intro x hx;simp at hx;subst hx;assumption) rfl) ?_;rw[show [d.lo].all noE=noE d.lo by simp];cases h1:noE d.lo
  ·obtain⟨V,W,-⟩:=J h1;have ht:Ax2 d=Am d.name++(Ah Ht::Gi d.lo d.hi):=by rw[Ax2,h1,h0];rfl
   rw[ht] at h⊢
   simp(disch:=omega)only[go_sem];intro q hq;dsimp only at hq;simp(disch:=omega)only[go_sem];refine(Ab1 hG Ht hq E (by(try simp only[jC,jA,jB,jK,jN,jP,List.length_flatMap] at h⊢)<;>omega) U).mono ?_;rintro _ K3 ⟨rfl,ab⟩;have g3:=ab.keep aa M;simp(disch:=omega)only[go_sem,g3,Aw,Jb,Jc,Jd];refine(Sg hG d.lo d.hi V W f1 f2 B1 r _ _ E (by(try simp only[jC,jA,jB,jK,jN,jP,List.length_flatMap] at h⊢)<;>omega) ab).mono ?_;rintro _ K4 ⟨rfl,Y⟩;simp(disch:=omega)only[go_sem];exact Es.refl ⟨rfl,by simpa using Y.less O⟩
  ·have ht:Ax2 d=Am d.name:=by rw[Ax2,h1];rfl
   rw[ht];simp(disch:=omega)only[go_sem];exact Es.refl ⟨rfl,by simpa using U.less O⟩
 ·cases h1:noE d.lo
  ·obtain⟨V,W,-⟩:=J h1;have ht:Ax2 d=Gi d.lo d.hi:=by rw[Ax2,h1,h0];rfl
   rw[ht] at h⊢
   simp(disch:=omega)only[go_sem,S,Aw,Jb,Jc,Jd];refine(Sg hG d.lo d.hi V W f1 f2 B1 r _ _ E (by(try simp only[jC,jA,jB,jK,jN,jP,List.length_flatMap] at h⊢)<;>omega) L).mono ?_;rintro _ K4 ⟨rfl,Y⟩;simp(disch:=omega)only[go_sem];exact Es.refl ⟨rfl,by simpa using Y.less O⟩
  ·exfalso;rw[Ds6 (Z h1)] at h0;cases h0
end
def PAt (B:Ac) (r:Nat) (ls:List Lin) (H:Ac):Prop:= ∃v,Jf (upd B r (some (.cells [v] 143))) 154 2 ls.length (ls.flatMap Ae2) v H
def PrC (P:Program) (G:Nat->DVal) (f:FuncId) (args:List DVal) (t:List Lin):Prop:=
 ∀B r ls H,B r=none->ls.length+t.length<=1000000->PAt B r ls H->Af P G f (.optr r 0::args) H (fun e H'=>e= .ret (.tuple [])/\PAt B r (ls++t) H')
section
variable {B B1 H H':Ac} {r x:Nat} {ls:List Lin}
theorem PAt.new (h:PAt B r ls H) (hx:H x=none) (o:Option DObj):PAt B r ls (upd H x o):=by
 obtain⟨v,h⟩:=h;exact⟨v,h.new hx o⟩
theorem PAt.more (h:PAt B r ls H) (s:Sub H H'):PAt B r ls H':=by
 obtain⟨v,h⟩:=h;exact⟨v,h.more s⟩
theorem PAt.less (h:PAt B r ls H) (s:Sub B1 B):PAt B1 r ls H:=by
 obtain⟨v,h⟩:=h;exact⟨v,h.less (s.both r _)⟩
theorem PAt.keep (h:PAt B r ls H) {o:DObj} (hx:B x=some o) (n:x≠r):H x=some o:=by
 obtain⟨v,h⟩:=h;exact h.keep (by rw[Ak _ _ _ _ n];exact hx)
theorem PAt.lo (h:PAt B r ls H) (hx:H x=none):B x=none/\x≠r:=by
 obtain⟨v,h⟩:=h;have:=h.sub.lo hx;simp only[upd] at this;split at this
 ·cases this
 ·exact⟨this,‹_›⟩
theorem PAt.frame (h:PAt B r ls H) (hx:H x=none) (o:DObj):PAt (upd B x (some o)) r ls (upd H x (some o)):=by
 have n:=(h.lo hx).2;obtain⟨v,h⟩:=h;refine⟨v, ?_⟩;rw[Zi n.symm];exact h.frame hx o
theorem PAt.start {B:Ac} {r:Nat} (hr:B r=none):PAt B r [] (upd B r (some (.cells [.nilSlice] 143))):=⟨_, .inl ⟨rfl,rfl,rfl,Sub.refl _⟩⟩
theorem PAt.cell (h:PAt B r ls H) (hr:B r=none): ∃v,H r=some (.cells [v] 143)/\Lt H v B (.vslice (ls.flatMap Ae2) ls.length):=by
 obtain⟨v,h⟩:=h;exact⟨v,h.keep (Aa _ _ _),Lt.own (h.less ((Sub.refl B).up hr _))⟩
theorem PAt.sub (h:PAt B r ls H) (hr:B r=none):Sub B H:=by
 obtain⟨v,h⟩:=h;exact((Sub.refl B).up hr _).trans h.sub
theorem Ln.cellF {K B:Ac} {q:Nat} {cs cs':List DVal} {e:TypeId} (C:K q=some (.cells cs e)) (D:Sub B K) (hs:Kq K cs (upd B q (some (.cells cs' e))) cs') (v:DVal):Ln K v (upd B q (some (.cells cs' e))) v:=fun w y=>by
 have hd: ∀b,K b=none->(upd B q (some (.cells cs' e))) b=none:=fun b hb=>by
  simp only[upd];split
  ·rename_i e1;rw[e1,C] at hb;cases hb
  ·exact D.lo hb
 refine⟨fun b o hb=> ?_,fun b hb h=>hb (hd b h),fun x hx=>Rel.lasts (Vf hd w) _ _ hx⟩;simp only[upd] at hb;split at hb
 ·rename_i e1
  subst e1;cases hb;obtain⟨xs,c,fz,E,I,J,L⟩:=y _ _ C;exact⟨xs,c,fz,E,I,hs w y xs J,L⟩
 ·exact(y b o (D b o hb)).lasts (Vf hd w)
end
theorem Dk5 (ls:List Lin) (x:Lin):(ls++ [x]).flatMap Ae2=ls.flatMap Ae2++Ae2 x:=by simp
section
variable {G:Nat->DVal}
set_option maxHeartbeats 8000000 in
theorem Gg (G:Nat->DVal) {B h C:Ac} {r rw:Nat} {ls:List Lin} {ts:List Tok} (d:Int) (hp:PAt B r ls h) (hr:h rw=none) (hw:SAt h rw ts C) (hl:ls.length<=1000000):
  Af Tryz.prog G 98 [.optr r 0,dI d, .optr rw 0] C (fun e H'=>e= .ret (.tuple [])/\PAt B r (ls++ [⟨d,ts⟩]) H'):=by
 obtain⟨u,hu⟩:=hw;have V:=hu.keep (Aa _ _ _);have hs:Sub h C:=((Sub.refl h).up hr _).trans hu.sub;refine Af.pre (Ln.cellF (B:=h) (cs':= [Bh ts]) V hs (.cons (Lt.ownD (fun b hb=> ?_) (fun b hb=> ?_) hu) .nil) _) ?_
 ·have h1:=hu.sub.lo hb;simp only[upd] at h1⊢
  split at h1
  ·cases h1
  ·rw[if_neg ‹_›];exact h1
 ·simp only[upd] at hb⊢
  split at hb
  ·cases hb
  ·rw[if_neg ‹_›];exact hb
 obtain⟨v,hv⟩:=hp;have J:=hv.keep (Aa _ _ _);have n:r≠rw:=Ae hr J;have L:=hv.new hr (some (.cells [Bh ts] 146));obtain⟨M,y⟩: ∃X,X=upd h rw (some (.cells [Bh ts] 146)):=⟨_,rfl⟩;rw[<-y] at L⊢
 have D:M rw=some (.cells [Bh ts] 146):=by rw[y];exact Aa _ _ _
 have E:M r=some (.cells [v] 143):=by rw[y];exact An J n
 clear y;refine Ab Tryz.func98 Tryz.call98 rfl (by kernel_rfl) ?_;simp(disch:=omega)only[go_sem];refine Aj (by kernel_rfl) (.take 0 (.take 1 (.take 2 (.take 3 (.take 4 (.take 5 (.take 6 (.take 7 (.take 8 (.take 9 (.take 10 (.go 11 [4] (.go 12 [] (.take 13 (.take 14 (.go 15 [] .done)))))))))))))))) (by kernel_rfl) ?_;simp(disch:=omega)only[go_sem,D,E,Bh];intro q hq;dsimp only at hq;have O:r≠q:=Ae hq E;have W:rw≠q:=Ae hq D;have Y:=O.symm;have Z:=L.new hq (some (.cells (Ae2 ⟨d,ts⟩) 154));simp(disch:=omega)only[go_sem,D,E,O,W,Y];refine Jf.append (m:=1) Z rfl (by omega) fun S H6 I=> ?_;have g6:=I.keep (Aa _ _ _);obtain⟨j1,j2⟩:=I.cell1;simp(disch:=omega)only[go_sem,g6,j1,j2];refine Es.refl ⟨rfl,S, ?_⟩;have U:=I.at (Aa _ _ _) (some (.cells [S] 143));rw[Fy] at U;rw[Dk5,jC,jQ];exact U
theorem Dk6 (hG:GX G) (d:Int) (ws:List (List UInt8)) (E:ws.length<=1000000):PrC Tryz.prog G 205 [dI d,dW ws] [⟨d,ws.map Ah⟩]:=by
 intro B r ls H I C hp;rw[jQ] at C;refine Ab Tryz.func205 Tryz.call205 rfl (by kernel_rfl) ?_;simp(disch:=omega)only[go_sem];intro rw h;dsimp only at h;simp(disch:=omega)only[go_sem];refine(Ae0 hG ws H rw [] _ h (by simp;omega) (SAt.start h)).mono ?_;rintro _ J ⟨rfl,y⟩;rw[jG] at y;simp(disch:=omega)only[go_sem];refine(Gg G d hp h y (by omega)).mono ?_;rintro _ L ⟨rfl,D⟩;simp(disch:=omega)only[go_sem];exact Es.refl ⟨rfl,D⟩
theorem Ab3 (hG:GX G) (d:Int) (ws:List (List UInt8)) {B H:Ac} {r q:Nat} {ls:List Lin} (cs:List DVal) (y:ws.map .str=cs) (h:H q=none) (C:ws.length<=1000000) (D:B r=none) (E:ls.length+1<=1000000) (hp:PAt B r ls H):
  Af Tryz.prog G 205 [.optr r 0,dI d, .oslice 1 q 0 ws.length ws.length] (upd H q (some (.cells cs 9))) (fun e H'=>e= .ret (.tuple [])/\PAt B r (ls++ [⟨d,ws.map Ah⟩]) H'):=by
 subst y;refine Af.fzA q h ?_;have n:r≠q:=fun e=>(hp.lo h).2 e.symm;simp only[fzs,fz,if_neg n,if_pos,jJ,Nat.mul_one];rw[List.take_of_length_le (by simp)];exact Dk6 hG d ws C B r ls H D E hp
def Pf (d:Int) (c:Cmp):Lin:=⟨d,Pj c⟩
set_option maxHeartbeats 40000000 in
theorem Ab4 (hG:GX G) (l:List Cmp) (d:Int) (hm: ∀c∈l,Hd c=true) (hl:Mr Aa4 1048576 l) (a1:l.length<=900000):PrC Tryz.prog G 148 [Ct l,dI d] (We l d):=by
 intro B r ls H hB Z hp;have a2:l.length<=(We l d).length/\(l.length=0->(We l d).length=1):=by
  rw[We];cases l<;>simp
 refine Ab Tryz.func148 Tryz.call148 rfl (by kernel_rfl) ?_;by_cases h0:l.length=0
 ·have af:(l.length:Int)=0:=by omega
  have am:l= []:=List.length_eq_zero_iff.1 h0;simp(disch:=omega)only[go_sem,Ct,af];intro q hq;dsimp only at hq;simp(disch:=omega)only[go_sem];refine(Ab3 hG d [Ez,Dg] _ rfl hq (by simp) hB (by omega) hp).mono ?_;rintro _ K0 ⟨rfl,ao⟩;have ap:ls++We l d=ls++ [⟨d,[Ez,Dg].map Ah⟩]:=by rw[am];rfl
  obtain⟨O,ab⟩: ∃O,O=ls++ [⟨d,[Ez,Dg].map Ah⟩]:=⟨_,rfl⟩;rw[<-ab] at ao ap;have aq:ls++We l d=O++l.map (Pf d):=by rw[ap,am];simp
  have aw:O.length+l.length<=1000000:=by rw[ab,jC,jQ];omega
  clear ab ap;simp(disch:=omega)only[go_sem,Ct];obtain⟨I,hI⟩: ∃I:Nat->(Nat->DVal)->Ac->Prop,∀k env heap,I k env heap↔(env 0= .optr r 0/\env 2=dI d/\env 15=Ct l/\env 16=dI l.length/\env 17=dI k/\k<=l.length/\PAt B r (O++(l.take k).map (Pf d)) heap):=⟨_,fun _ _ _=>Iff.rfl⟩;refine Dn5.run I (fun k=>l.length-k) 0 ((hI _ _ _).2 ?_) ?_
  ·simp(disch:=omega)only[go_sem,Ct];(repeat' apply And.intro)<;>(try first | rfl | assumption | omega);simpa using ao
  ·try clear af
   try clear h0
   intro k env heap hi;obtain⟨D,E,J,L,M,hk,ac⟩:=(hI _ _ _).1 hi;by_cases ad:k<l.length
   ·have ae:(k:Int)<(l.length:Int):=by omega
    have ar:IntKind.i64.wrap ((k:Int)+1)=((k+1:Nat):Int):=by rw[IntKind.wrap_i64];omega
    have ag:=Cu Bp l k ad;have hfl:=Ax Bp l;have mx:=List.getElem_mem ad;have ah:(l.take (k+1)).map (Pf d)=(l.take k).map (Pf d)++ [Pf d l[k]]:=by rw[Qa ad,List.map_append,List.map_singleton]
    obtain⟨x,hx⟩: ∃x,x=l[k]:=⟨_,rfl⟩;rw[<-hx] at ag mx ah;have hok:=hm x mx;rw[Hd,jF,jF] at hok;obtain⟨⟨o1,o2⟩,o3⟩:=hok;obtain⟨f0,f1,f2⟩:=hl.2 x mx;have ax:=Wj o1;have ay:=Aq8 o2;have a0:=Be9 o3;have au:(O++(l.take k).map (Pf d)).length<=1000000:=by rw[jC,jK,List.length_take];omega
    simp(disch:=omega)only[go_sem,D,E,J,L,M,Ct,ae,ag,hfl,jD];intro r7 ai;dsimp only at ai;have aj:=ac.new ai (some (.cells (Lk x) 202));obtain⟨B0,aa⟩: ∃X,X=upd heap r7 (some (.cells (Lk x) 202)):=⟨_,rfl⟩;rw[<-aa] at aj;simp(disch:=omega)only[go_sem,D,E,J,L,M];rw[<-aa];have ak:B0 r7=some (.cells (Lk x) 202):=by rw[aa];exact Aa _ _ _
    clear aa;refine Aj (by kernel_rfl) pL2 (by kernel_rfl) ?_;simp(disch:=omega)only[go_sem,ak,D,E,J,L,M,Bp,Gn,Gp,Ee];have V:=Sub.refl B0;have y:=ak
    repeat'
     first
     | with_reducible apply And.intro
     |with_reducible show Af _ _ 93 _ _ _
      have C:=h.g y;refine(h.call (Iw hG x.names (by omega)) (by(try simp only[jC,jA,jB,jK,jN,jP,List.length_flatMap] at Z⊢)<;>omega)).mono ?_;rintro _ K ⟨rfl,h⟩;try simp(disch:=omega)only[go_sem,C,h.g y,D,E,J,L,M,Bp,Gn,Gp,Ee]
     |with_reducible show Af _ _ 95 _ _ _
      have C:=h.g y;refine(h.call (Rc hG x.sub o2 f1) (by(try simp only[jC,jA,jB,jK,jN,jP,List.length_flatMap] at Z⊢)<;>omega)).mono ?_;rintro _ K ⟨rfl,h⟩;try simp(disch:=omega)only[go_sem,C,h.g y,D,E,J,L,M,Bp,Gn,Gp,Ee]
     |with_reducible show Af _ _ 123 _ _ _
      have C:=h.g y;refine(h.call (Kf hG x.e o3 f2) (by(try simp only[jC,jA,jB,jK,jN,jP,List.length_flatMap] at Z⊢)<;>omega)).mono ?_;rintro _ K ⟨rfl,h⟩;try simp(disch:=omega)only[go_sem,C,h.g y,D,E,J,L,M,Bp,Gn,Gp,Ee]
     |with_reducible show Af _ _ 92 _ _ _
      have C:=h.g y;refine(h.put hG [Fk] S (by(try simp only[jC,jA,jB,jK,jN,jP,List.length_flatMap] at Z⊢)<;>omega)).mono ?_;rintro _ K ⟨rfl,h⟩;try simp(disch:=omega)only[go_sem,C,h.g y,D,E,J,L,M,Bp,Gn,Gp,Ee]
     |with_reducible show Af _ _ 92 _ _ _
      have C:=h.g y;refine(h.put hG [Dg] U (by(try simp only[jC,jA,jB,jK,jN,jP,List.length_flatMap] at Z⊢)<;>omega)).mono ?_;rintro _ K ⟨rfl,h⟩;try simp(disch:=omega)only[go_sem,C,h.g y,D,E,J,L,M,Bp,Gn,Gp,Ee]
     |with_reducible show Af _ _ 98 _ _ _
      refine(Gg G d (aj.more h.hs) h.hr h.hw au).mono ?_;rintro _ KZ ⟨rfl,av⟩;simp(disch:=omega)only[go_sem,D,E,J,L,M,Bp,Gn,Gp,Ee];refine⟨k+1,_,Ri.refl _,(hI _ _ _).2 ?_,by omega⟩;simp(disch:=omega)only[go_sem,D,E,J,L,M,ar];(repeat' apply And.intro)<;>(try first | rfl | assumption | omega);rw[ah,<-jO];simpa [Pf,Pj] using av
     |intro qa W;dsimp only at W
      have C:=h.g y;obtain⟨B,K,e,h,s,S⟩:=h.new W (.cells [.str [58]] 9);rw[e];replace y:=s _ _ y;try replace U:=s _ _ U
      try simp(disch:=omega)only[go_sem,C,h.g y,D,E,J,L,M,Bp,Gn,Gp,Ee]
     |intro qa W;dsimp only at W
      have C:=y;obtain⟨K,e,V,s,S⟩:=V.newK W (.cells [.str [58]] 9);rw[e];replace y:=s _ _ y;try replace U:=s _ _ U
      try simp(disch:=omega)only[go_sem,C,y,D,E,J,L,M,Bp,Gn,Gp,Ee]
     |intro qb Y;dsimp only at Y
      have C:=h.g y;obtain⟨B,K,e,h,s,U⟩:=h.new Y (.cells [.str [59]] 9);rw[e];replace y:=s _ _ y;try replace S:=s _ _ S
      try simp(disch:=omega)only[go_sem,C,h.g y,D,E,J,L,M,Bp,Gn,Gp,Ee]
     |intro qb Y;dsimp only at Y
      have C:=y;obtain⟨K,e,V,s,U⟩:=V.newK Y (.cells [.str [59]] 9);rw[e];replace y:=s _ _ y;try replace S:=s _ _ S
      try simp(disch:=omega)only[go_sem,C,y,D,E,J,L,M,Bp,Gn,Gp,Ee]
     |intro rw al;dsimp only at al
      have C:=y;obtain⟨K,e,h⟩:=St.start V al;rw[e];try simp(disch:=omega)only[go_sem,C,h.g y,D,E,J,L,M,Bp,Gn,Gp,Ee]
   ·have:k=l.length:=by omega
    subst this;have ae: ¬(l.length:Int)<(l.length:Int):=by omega
    rw[List.take_length] at ac;simp(disch:=omega)only[go_sem,D,E,J,L,M,Ct,ae];exact Es.refl ⟨rfl,by rw[aq];exact ac⟩
 ·have af: ¬(l.length:Int)=0:=by omega
  have am:l≠ []:=fun e=>h0 (by rw[e];rfl);simp(disch:=omega)only[go_sem,Ct,af];obtain⟨O,ab⟩: ∃O,O=ls:=⟨_,rfl⟩;have aq:ls++We l d=O++l.map (Pf d):=by
   rw[We,if_neg (by simpa using am),ab];rfl
  have aw:O.length+l.length<=1000000:=by rw[ab];omega
  have ao:PAt B r O H:=by rw[ab];exact hp
  clear ab;obtain⟨I,hI⟩: ∃I:Nat->(Nat->DVal)->Ac->Prop,∀k env heap,I k env heap↔(env 0= .optr r 0/\env 2=dI d/\env 15=Ct l/\env 16=dI l.length/\env 17=dI k/\k<=l.length/\PAt B r (O++(l.take k).map (Pf d)) heap):=⟨_,fun _ _ _=>Iff.rfl⟩;refine Dn5.run I (fun k=>l.length-k) 0 ((hI _ _ _).2 ?_) ?_
  ·simp(disch:=omega)only[go_sem,Ct];(repeat' apply And.intro)<;>(try first | rfl | assumption | omega);simpa using ao
  ·try clear af
   try clear h0
   intro k env heap hi;obtain⟨D,E,J,L,M,hk,ac⟩:=(hI _ _ _).1 hi;by_cases ad:k<l.length
   ·have ae:(k:Int)<(l.length:Int):=by omega
    have ar:IntKind.i64.wrap ((k:Int)+1)=((k+1:Nat):Int):=by rw[IntKind.wrap_i64];omega
    have ag:=Cu Bp l k ad;have hfl:=Ax Bp l;have mx:=List.getElem_mem ad;have ah:(l.take (k+1)).map (Pf d)=(l.take k).map (Pf d)++ [Pf d l[k]]:=by rw[Qa ad,List.map_append,List.map_singleton]
    obtain⟨x,hx⟩: ∃x,x=l[k]:=⟨_,rfl⟩;rw[<-hx] at ag mx ah;have hok:=hm x mx;rw[Hd,jF,jF] at hok;obtain⟨⟨o1,o2⟩,o3⟩:=hok;obtain⟨f0,f1,f2⟩:=hl.2 x mx;have ax:=Wj o1;have ay:=Aq8 o2;have a0:=Be9 o3;have au:(O++(l.take k).map (Pf d)).length<=1000000:=by rw[jC,jK,List.length_take];omega
    simp(disch:=omega)only[go_sem,D,E,J,L,M,Ct,ae,ag,hfl,jD];intro r7 ai;dsimp only at ai;have aj:=ac.new ai (some (.cells (Lk x) 202));obtain⟨B0,aa⟩: ∃X,X=upd heap r7 (some (.cells (Lk x) 202)):=⟨_,rfl⟩;rw[<-aa] at aj;simp(disch:=omega)only[go_sem,D,E,J,L,M];rw[<-aa];have ak:B0 r7=some (.cells (Lk x) 202):=by rw[aa];exact Aa _ _ _
    clear aa;refine Aj (by kernel_rfl) pL2 (by kernel_rfl) ?_;simp(disch:=omega)only[go_sem,ak,D,E,J,L,M,Bp,Gn,Gp,Ee];have V:=Sub.refl B0;have y:=ak
    repeat'
     first
     | with_reducible apply And.intro
     |with_reducible show Af _ _ 93 _ _ _
      have C:=h.g y;refine(h.call (Iw hG x.names (by omega)) (by(try simp only[jC,jA,jB,jK,jN,jP,List.length_flatMap] at Z⊢)<;>omega)).mono ?_;rintro _ K ⟨rfl,h⟩;try simp(disch:=omega)only[go_sem,C,h.g y,D,E,J,L,M,Bp,Gn,Gp,Ee]
     |with_reducible show Af _ _ 95 _ _ _
      have C:=h.g y;refine(h.call (Rc hG x.sub o2 f1) (by(try simp only[jC,jA,jB,jK,jN,jP,List.length_flatMap] at Z⊢)<;>omega)).mono ?_;rintro _ K ⟨rfl,h⟩;try simp(disch:=omega)only[go_sem,C,h.g y,D,E,J,L,M,Bp,Gn,Gp,Ee]
     |with_reducible show Af _ _ 123 _ _ _
      have C:=h.g y;refine(h.call (Kf hG x.e o3 f2) (by(try simp only[jC,jA,jB,jK,jN,jP,List.length_flatMap] at Z⊢)<;>omega)).mono ?_;rintro _ K ⟨rfl,h⟩;try simp(disch:=omega)only[go_sem,C,h.g y,D,E,J,L,M,Bp,Gn,Gp,Ee]
     |with_reducible show Af _ _ 92 _ _ _
      have C:=h.g y;refine(h.put hG [Fk] S (by(try simp only[jC,jA,jB,jK,jN,jP,List.length_flatMap] at Z⊢)<;>omega)).mono ?_;rintro _ K ⟨rfl,h⟩;try simp(disch:=omega)only[go_sem,C,h.g y,D,E,J,L,M,Bp,Gn,Gp,Ee]
     |with_reducible show Af _ _ 92 _ _ _
      have C:=h.g y;refine(h.put hG [Dg] U (by(try simp only[jC,jA,jB,jK,jN,jP,List.length_flatMap] at Z⊢)<;>omega)).mono ?_;rintro _ K ⟨rfl,h⟩;try simp(disch:=omega)only[go_sem,C,h.g y,D,E,J,L,M,Bp,Gn,Gp,Ee]
     |with_reducible show Af _ _ 98 _ _ _
      refine(Gg G d (aj.more h.hs) h.hr h.hw au).mono ?_;rintro _ KZ ⟨rfl,av⟩;simp(disch:=omega)only[go_sem,D,E,J,L,M,Bp,Gn,Gp,Ee];refine⟨k+1,_,Ri.refl _,(hI _ _ _).2 ?_,by omega⟩;simp(disch:=omega)only[go_sem,D,E,J,L,M,ar];(repeat' apply And.intro)<;>(try first | rfl | assumption | omega);rw[ah,<-jO];simpa [Pf,Pj] using av
     |intro qa W;dsimp only at W
      have C:=h.g y;obtain⟨B,K,e,h,s,S⟩:=h.new W (.cells [.str [58]] 9);rw[e];replace y:=s _ _ y;try replace U:=s _ _ U
      try simp(disch:=omega)only[go_sem,C,h.g y,D,E,J,L,M,Bp,Gn,Gp,Ee]
     |intro qa W;dsimp only at W
      have C:=y;obtain⟨K,e,V,s,S⟩:=V.newK W (.cells [.str [58]] 9);rw[e];replace y:=s _ _ y;try replace U:=s _ _ U
      try simp(disch:=omega)only[go_sem,C,y,D,E,J,L,M,Bp,Gn,Gp,Ee]
     |intro qb Y;dsimp only at Y
      have C:=h.g y;obtain⟨B,K,e,h,s,U⟩:=h.new Y (.cells [.str [59]] 9);rw[e];replace y:=s _ _ y;try replace S:=s _ _ S
      try simp(disch:=omega)only[go_sem,C,h.g y,D,E,J,L,M,Bp,Gn,Gp,Ee]
     |intro qb Y;dsimp only at Y
      have C:=y;obtain⟨K,e,V,s,U⟩:=V.newK Y (.cells [.str [59]] 9);rw[e];replace y:=s _ _ y;try replace S:=s _ _ S
      try simp(disch:=omega)only[go_sem,C,y,D,E,J,L,M,Bp,Gn,Gp,Ee]
     |intro rw al;dsimp only at al
      have C:=y;obtain⟨K,e,h⟩:=St.start V al;rw[e];try simp(disch:=omega)only[go_sem,C,h.g y,D,E,J,L,M,Bp,Gn,Gp,Ee]
   ·have:k=l.length:=by omega
    subst this;have ae: ¬(l.length:Int)<(l.length:Int):=by omega
    rw[List.take_length] at ac;simp(disch:=omega)only[go_sem,D,E,J,L,M,Ct,ae];exact Es.refl ⟨rfl,by rw[aq];exact ac⟩
end
section
variable {G:Nat->DVal}
theorem Bb8 (l:List Ch):(Kt l).1.length<=1000000:=by
 rw[Kt];split
 ·have:=By8 ‹_›;dsimp only;omega
 ·exact Nat.zero_le _
end
section
variable {P:Program} {G:Nat->DVal} {N:Nat} {Q:DExit->DS->Prop}
theorem Ds9 {id:Nat} {y:Array Oper} {s:DS} (C:DExit->DS->Prop) (h:dwp P G N (.region id y true) C s) (k: ∀e s',C e s'->Q e s'):dwp P G N (.region id y true) Q s:=by
 simp only[dwp] at h⊢
 intro F n B D a w hS;exact wpIn_mono (h F n B D a w hS) fun e a w ⟨e',s',q,r⟩=>⟨e',s',k _ _ q,r⟩
end
section
end
def Qk (d:Int) (v:List UInt8):Lin:=⟨Pe (d+1),[Ah It,Ci v,Ah wIs]⟩
theorem Ab5 (l:List Cmp) (d:Int):(We l d).length<=l.length+1:=by
 rw[We];split<;>simp
theorem Aq9 (d:Int) (l:List Arm) (h: ∀a∈l,a.comps.length<=40):(l.flatMap (Wf d)).length<=l.length*42:=by
 induction l with
 | nil=>simp
 | cons a l ih=>
  have h1:=ih fun x hx=>h x (List.mem_cons_of_mem _ hx);have h2:=h a (List.mem_cons_self ..);have h3:=Ab5 a.comps (Pe (d+3));rw[List.flatMap_cons,jC,jA,Wf,jA];omega
section
variable {G:Nat->DVal}
def Xu (t:Typ) (d:Int):List Lin:=(if t.var= [] then [] else Qk d t.var::(t.arms.flatMap (Wf d)++ [⟨Pe (d+1),[Ah Ml,Ah It,Ah Dg]⟩]))++ [⟨d,[Ah Ml,Ah Cw]⟩]
def Xv (t:Typ) (d:Int):List Lin:=⟨d,[Ah Cw]⟩::(if t.comps.isEmpty then [] else We t.comps (Pe (d+1)))
theorem Ft4 (t:Typ) (d:Int):Ch0 t d=Xv t d++Xu t d:=by rw[Ch0,Xv,Xu];simp [Qk]
set_option maxHeartbeats 40000000 in
theorem Ar0 (hG:GX G) (t:Typ) (d:Int) (hm:Pd t=true) (ht:Wg 1048576 t) (b2:t.comps.length<=40) (au: ∀a∈t.arms,a.comps.length<=40) (B:Ac) (r:Nat) (ls:List Lin) (H:Ac) (hB:B r=none) (av:ls.length<=100) (hp:PAt B r ls H):
  Af Tryz.prog G 97 [.optr r 0, .agg (Cs t),dI d] H (fun e H'=>e= .ret (.tuple [])/\PAt B r (ls++Ch0 t d) H'):=by
 obtain⟨f0,f1,f2,f3,f4,f5,f6,f7⟩:=ht;simp only[Pd,jF,decide_eq_true_eq,List.all_eq_true] at hm;obtain⟨⟨⟨⟨⟨bu,-⟩,b3⟩,-⟩,bv⟩,-⟩:=hm;have bq: ∀a∈t.arms,(∀c∈a.comps,Hd c=true)/\Kp a.c=true:=fun a ha=>by
  have:=bv a ha;rw[Kd,jF,List.all_eq_true] at this;exact this
 have b4:=Ab5 t.comps (Pe (d+1));have b5:(Cp [t.var]).length=1:=rfl;refine Ab Tryz.func97 Tryz.call97 rfl (by kernel_rfl) ?_;simp(disch:=omega)only[go_sem,DVal.cells];intro rT bb;dsimp only at bb;have br:=hp.frame bb (.cells (Cs t) 62);have bw:B rT=none:=(hp.lo bb).1;have ax:rT≠r:=(hp.lo bb).2;obtain⟨B1,ay⟩: ∃X,X=upd B rT (some (.cells (Cs t) 62)):=⟨_,rfl⟩;have bc:B1 rT=some (.cells (Cs t) 62):=by rw[ay];exact Aa _ _ _
 have bd:Sub B B1:=by rw[ay];exact(Sub.refl _).up bw _
 have ai:B1 r=none:=by rw[ay,Ak _ _ _ _ ax.symm];exact hB
 obtain⟨K1,be⟩: ∃X,X=upd H rT (some (.cells (Cs t) 62)):=⟨_,rfl⟩;rw[<-ay,<-be] at br;rw[<-be];have b6:K1 rT=some (.cells (Cs t) 62):=by rw[be];exact Aa _ _ _
 clear ay be;simp(disch:=omega)only[go_sem];intro q1 bs;dsimp only at bs;simp(disch:=omega)only[go_sem];refine(Ab3 hG _ [Cw] _ rfl bs (by simp) ai (by omega) br).mono ?_;rintro _ K2 ⟨rfl,hp2⟩;have bf:=hp2.keep bc ax;obtain⟨ab,al⟩: ∃l,l=ls++Xv t d:=⟨_,rfl⟩;have W:ls++Ch0 t d=ab++Xu t d:=by rw[Ft4,al,jO]
 by_cases c0:t.comps.length=0
 ·have bg: ¬(0:Int)<(t.comps.length:Int):=by omega
  have a0:t.comps= []:=List.length_eq_zero_iff.1 c0;have bx:ab.length<=300:=by rw[al,Xv,a0];simp;omega
  have aw:PAt B1 r ab K2:=by rw[al,Xv,a0];exact hp2
  have gT:=bf;clear al;obtain⟨B0,bt⟩: ∃X,X=K2:=⟨_,rfl⟩;simp(disch:=omega)only[go_sem,bf,Ct,bg];rw[<-bt] at aw gT⊢
  clear bt hp2 bf;by_cases v0:t.var= []
  ·simp(disch:=omega)only[go_sem,gT,v0];intro q9 ac;dsimp only at ac;simp(disch:=omega)only[go_sem];refine(Ab3 hG _ [Ml,Cw] _ rfl ac (by simp) ai (by omega) aw).mono ?_;rintro _ K9 ⟨rfl,Z⟩;simp(disch:=omega)only[go_sem];refine Es.refl ⟨rfl, ?_⟩;rw[W,Xu,if_pos v0];exact Z.less bd
  ·simp(disch:=omega)only[go_sem,gT,v0];refine Ds9 (fun e s'=>e= .normal/\s'.env 0= .optr r 0/\s'.env 2=dI d/\s'.env 4= .optr rT 0/\PAt B1 r (ab++ [Qk d t.var]) s'.heap) ?_ ?_
   ·refine Aj (by kernel_rfl) pL0 (by kernel_rfl) ?_;simp(disch:=omega)only[go_sem,gT];have Y:=Sub.refl B0;have y:=gT
    repeat'
     first
     | with_reducible apply And.intro
     |with_reducible show Af _ _ 92 _ _ _
      have C:=h.g y;refine(h.put hG [It] O (by(try simp only[jC,jA,jB,jK,jN,jP,List.length_flatMap] at av⊢)<;>omega)).mono ?_;rintro _ K ⟨rfl,h⟩;try simp(disch:=omega)only[go_sem,C,h.g y]
     |with_reducible show Af _ _ 92 _ _ _
      have C:=h.g y;refine(h.put hG [wIs] S (by(try simp only[jC,jA,jB,jK,jN,jP,List.length_flatMap] at av⊢)<;>omega)).mono ?_;rintro _ K ⟨rfl,h⟩;try simp(disch:=omega)only[go_sem,C,h.g y]
     |with_reducible show Af _ _ 93 _ _ _
      have C:=h.g y;refine(h.nms hG [t.var] (by simp) U (by(try simp only[jC,jA,jB,jK,jN,jP,List.length_flatMap] at av⊢)<;>omega)).mono ?_;rintro _ K ⟨rfl,h⟩;try simp(disch:=omega)only[go_sem,C,h.g y]
     |with_reducible show Af _ _ 98 _ _ _
      refine(Gg G _ (aw.more h.hs) h.hr h.hw (by omega)).mono ?_;rintro _ KZ ⟨rfl,am⟩;simp(disch:=omega)only[go_sem];have aa:PAt B1 r (ab++ [Qk d t.var]) KZ:=by simpa [Qk,Pe,Cp,Ef] using am
      exact aa
     |intro qa ad;dsimp only at ad
      have C:=h.g y;obtain⟨B,K,e,h,s,O⟩:=h.new ad (.cells [.str [99,97,115,101]] 9);rw[e];replace y:=s _ _ y;try replace U:=s _ _ U
      try replace S:=s _ _ S
      try simp(disch:=omega)only[go_sem,C,h.g y]
     |intro qa ad;dsimp only at ad
      have C:=y;obtain⟨K,e,Y,s,O⟩:=Y.newK ad (.cells [.str [99,97,115,101]] 9);rw[e];replace y:=s _ _ y;try replace U:=s _ _ U
      try replace S:=s _ _ S
      try simp(disch:=omega)only[go_sem,C,y]
     |intro qn ae;dsimp only at ae
      have C:=h.g y;obtain⟨B,K,e,h,s,U⟩:=h.new ae (.cells [.str t.var] 9);rw[e];replace y:=s _ _ y;try replace O:=s _ _ O
      try replace S:=s _ _ S
      try simp(disch:=omega)only[go_sem,C,h.g y]
     |intro qn ae;dsimp only at ae
      have C:=y;obtain⟨K,e,Y,s,U⟩:=Y.newK ae (.cells [.str t.var] 9);rw[e];replace y:=s _ _ y;try replace O:=s _ _ O
      try replace S:=s _ _ S
      try simp(disch:=omega)only[go_sem,C,y]
     |intro qb af;dsimp only at af
      have C:=h.g y;obtain⟨B,K,e,h,s,S⟩:=h.new af (.cells [.str [105,115]] 9);rw[e];replace y:=s _ _ y;try replace O:=s _ _ O
      try replace U:=s _ _ U
      try simp(disch:=omega)only[go_sem,C,h.g y]
     |intro qb af;dsimp only at af
      have C:=y;obtain⟨K,e,Y,s,S⟩:=Y.newK af (.cells [.str [105,115]] 9);rw[e];replace y:=s _ _ y;try replace O:=s _ _ O
      try replace U:=s _ _ U
      try simp(disch:=omega)only[go_sem,C,y]
     |intro rw V;dsimp only at V
      have C:=y;obtain⟨K,e,h⟩:=St.start Y V;rw[e];try simp(disch:=omega)only[go_sem,C,h.g y]
   ·rintro _ ⟨env,K5⟩ ⟨rfl,x0,x2,x4,aa⟩;dsimp only at x0 x2 x4 aa;have a1:=aa.keep bc ax;obtain⟨ag,aj⟩: ∃l,l=ab++ [Qk d t.var]:=⟨_,rfl⟩;have bz:ag.length<=301:=by rw[aj,jC,jQ];omega
    have hR:ls++Ch0 t d=ag++t.arms.flatMap (Wf d)++ [⟨Pe (d+1),[Ah Ml,Ah It,Ah Dg]⟩]++ [⟨d,[Ah Ml,Ah Cw]⟩]:=by rw[W,Xu,if_neg v0,aj];simp
    rw[<-aj] at aa;clear aj;simp(disch:=omega)only[go_sem,x0,x2,x4,a1,Eg];obtain⟨I,hI⟩: ∃I:Nat->(Nat->DVal)->Ac->Prop,∀k env heap,I k env heap↔(env 0= .optr r 0/\env 2=dI d/\env 42=Eg t.arms/\env 43=dI t.arms.length/\env 44=dI k/\k<=t.arms.length/\PAt B1 r (ag++(t.arms.take k).flatMap (Wf d)) heap):=⟨_,fun _ _ _=>Iff.rfl⟩;refine Dn5.run I (fun k=>t.arms.length-k) 0 ((hI _ _ _).2 ?_) ?_
    ·simp(disch:=omega)only[go_sem,x0,x2,x4,a1,Eg];(repeat' apply And.intro)<;>(try first | rfl | assumption | omega);simpa using aa
    ·clear x0 x2 x4;intro k env heap hi;obtain⟨D,E,J,L,M,hk,ah⟩:=(hI _ _ _).1 hi;by_cases ao:k<t.arms.length
     ·have ap:(k:Int)<(t.arms.length:Int):=by omega
      have bh:IntKind.i64.wrap ((k:Int)+1)=((k+1:Nat):Int):=by rw[IntKind.wrap_i64];omega
      have a2:=Cu De t.arms k ao;have hfl:=Ax De t.arms;have mx:=List.getElem_mem ao;have a3:(t.arms.take (k+1)).flatMap (Wf d)=(t.arms.take k).flatMap (Wf d)++Wf d t.arms[k]:=by rw[Qa ao,List.flatMap_append];simp
      have a4:=Aq9 d (t.arms.take k) fun a ha=>au a (List.mem_of_mem_take ha);rw[List.length_take] at a4;obtain⟨x,hx⟩: ∃x,x=t.arms[k]:=⟨_,rfl⟩;rw[<-hx] at a2 mx a3;obtain⟨x1,x2⟩:=bq x mx;have x3:=au x mx;have b0:=Bb8 x.c;have fx:=f7.2 x mx;have fc:=fx.1.1;have bi:(ag++(t.arms.take k).flatMap (Wf d)).length<=10000:=by rw[jC];omega
      simp(disch:=omega)only[go_sem,D,E,J,L,M,Eg,ap,a2,hfl,jD];intro r7 ak;dsimp only at ak;have aq:=ah.frame ak (.cells (Qc x) 164);have z7:B1 r7=none:=(ah.lo ak).1;have n7:r7≠r:=(ah.lo ak).2;obtain⟨B7,W⟩: ∃X,X=upd B1 r7 (some (.cells (Qc x) 164)):=⟨_,rfl⟩;have b7:B7 r7=some (.cells (Qc x) 164):=by rw[W];exact Aa _ _ _
      have s7:Sub B1 B7:=by rw[W];exact(Sub.refl _).up z7 _
      have bj:B7 r=none:=by rw[W,Ak _ _ _ _ n7.symm];exact ai
      obtain⟨K7,a5⟩: ∃X,X=upd heap r7 (some (.cells (Qc x) 164)):=⟨_,rfl⟩;rw[<-W,<-a5] at aq;clear W;have g7:=aq.keep b7 n7;simp(disch:=omega)only[go_sem,D,E,J,L,M];rw[<-a5];simp(disch:=omega)only[go_sem,D,E,J,L,M,g7,De,Ru,Rv];refine Af.monoR (Uv hG _ x.c (by omega) fx.1.2) ?_;simp(disch:=omega)only[go_sem,D,E,J,L,M,g7,De,Ru,Rv];intro rw V;dsimp only at V;simp(disch:=omega)only[go_sem];intro q hq;dsimp only at hq;simp(disch:=omega)only[go_sem];refine(Ab1 hG Ku hq V (by simp) (SAt.start V)).mono ?_;rintro _ K2 ⟨rfl,a6⟩;rw[jG] at a6;simp(disch:=omega)only[go_sem,D,E,J,L,M];obtain⟨v,hv⟩:=a6;have gr:=hv.keep (Aa _ _ _);have a7:=Ax Aq (Kt x.c).1;simp(disch:=omega)only[go_sem,D,E,J,L,M,gr,Bh,Xt,Vk,a7,jD];refine Jf.append (m:=(Kt x.c).1.length) hv a7 (by simp;omega) fun v2 H6 ar=> ?_;have g6:=ar.keep (Aa _ _ _);obtain⟨j1,j2⟩:=ar.cell1;simp(disch:=omega)only[go_sem,D,E,J,L,M,g6,j1,j2];have a8:=ar.at (Aa _ _ _) (some (.cells [v2] 146));rw[Fy] at a8;have bk:SAt K7 rw (([Ah Ku]:List Tok)++(Kt x.c).1) (upd H6 rw (some (.cells [v2] 146))):=⟨v2,by rw[jC,List.flatMap_append];exact a8⟩;intro q2 a9;dsimp only at a9;simp(disch:=omega)only[go_sem,D,E,J,L,M];refine(Ab1 hG Bn a9 V (by simp;omega) bk).mono ?_;rintro _ K8 ⟨rfl,bl⟩;simp(disch:=omega)only[go_sem,D,E,J,L,M];refine(Gg G _ aq V bl (by omega)).mono ?_;rintro _ K9 ⟨rfl,Z⟩;have g9:=Z.keep b7 n7;have b1:=Ab5 x.comps (IntKind.i64.wrap (d+3));simp(disch:=omega)only[go_sem,D,E,J,L,M,g9,De,Ru,Rv];refine(Ab4 hG x.comps _ x1 fx.2 (by omega) B7 r _ _ bj (by rw[jC,jQ];omega) Z).mono ?_;rintro _ KA ⟨rfl,bm⟩;simp(disch:=omega)only[go_sem,D,E,J,L,M];refine⟨k+1,_,Ri.refl _,(hI _ _ _).2 ?_,by omega⟩;simp(disch:=omega)only[go_sem,D,E,J,L,M,bh];(repeat' apply And.intro)<;>(try first | rfl | assumption | omega);rw[a3,<-jO];have bn:=bm.less s7;simpa [Wf,Pe] using bn
     ·have:k=t.arms.length:=by omega
      subst this;have ap: ¬(t.arms.length:Int)<(t.arms.length:Int):=by omega
      rw[List.take_length] at ah;have a4:=Aq9 d t.arms au;have bi:(ag++t.arms.flatMap (Wf d)).length<=10000:=by rw[jC];omega
      simp(disch:=omega)only[go_sem,D,E,J,L,M,Eg,ap];intro q8 ba;dsimp only at ba;simp(disch:=omega)only[go_sem,D,E,J,L,M];refine(Ab3 hG _ [Ml,It,Dg] _ rfl ba (by simp) ai (by omega) ah).mono ?_;rintro _ K8 ⟨rfl,bo⟩;simp(disch:=omega)only[go_sem,D,E,J,L,M];intro q9 ac;dsimp only at ac;simp(disch:=omega)only[go_sem,D,E,J,L,M];refine(Ab3 hG _ [Ml,Cw] _ rfl ac (by simp) ai (by rw[jC,jQ];omega) bo).mono ?_;rintro _ K9 ⟨rfl,Z⟩;simp(disch:=omega)only[go_sem];refine Es.refl ⟨rfl, ?_⟩;have am:=Z.less bd;rw[hR];simpa [Pe] using am
 ·have bg:(0:Int)<(t.comps.length:Int):=by omega
  have a0: ¬t.comps.isEmpty=true:=by intro e;exact c0 (by rw[List.isEmpty_iff.1 e];rfl)
  have bx:ab.length<=300:=by rw[al,Xv,if_neg a0,jC,jA];omega
  simp(disch:=omega)only[go_sem,bf,Ct,bg];refine(Ab4 hG t.comps _ bu f5 (by omega) B1 r _ _ ai (by rw[jC,jQ];have:=Ab5 t.comps (IntKind.i64.wrap (d+1));omega) hp2).mono ?_;rintro _ B0 ⟨rfl,bp⟩;have gT:=bp.keep bc ax;have aw:PAt B1 r ab B0:=by rw[al,Xv,if_neg a0];simpa [Pe] using bp
  clear al bp;simp(disch:=omega)only[go_sem,gT,Ct];by_cases v0:t.var= []
  ·simp(disch:=omega)only[go_sem,gT,v0];intro q9 ac;dsimp only at ac;simp(disch:=omega)only[go_sem];refine(Ab3 hG _ [Ml,Cw] _ rfl ac (by simp) ai (by omega) aw).mono ?_;rintro _ K9 ⟨rfl,Z⟩;simp(disch:=omega)only[go_sem];refine Es.refl ⟨rfl, ?_⟩;rw[W,Xu,if_pos v0];exact Z.less bd
  ·simp(disch:=omega)only[go_sem,gT,v0];refine Ds9 (fun e s'=>e= .normal/\s'.env 0= .optr r 0/\s'.env 2=dI d/\s'.env 4= .optr rT 0/\PAt B1 r (ab++ [Qk d t.var]) s'.heap) ?_ ?_
   ·refine Aj (by kernel_rfl) pL0 (by kernel_rfl) ?_;simp(disch:=omega)only[go_sem,gT];have Y:=Sub.refl B0;have y:=gT
    repeat'
     first
     | with_reducible apply And.intro
     |with_reducible show Af _ _ 92 _ _ _
      have C:=h.g y;refine(h.put hG [It] O (by(try simp only[jC,jA,jB,jK,jN,jP,List.length_flatMap] at av⊢)<;>omega)).mono ?_;rintro _ K ⟨rfl,h⟩;try simp(disch:=omega)only[go_sem,C,h.g y]
     |with_reducible show Af _ _ 92 _ _ _
      have C:=h.g y;refine(h.put hG [wIs] S (by(try simp only[jC,jA,jB,jK,jN,jP,List.length_flatMap] at av⊢)<;>omega)).mono ?_;rintro _ K ⟨rfl,h⟩;try simp(disch:=omega)only[go_sem,C,h.g y]
     |with_reducible show Af _ _ 93 _ _ _
      have C:=h.g y;refine(h.nms hG [t.var] (by simp) U (by(try simp only[jC,jA,jB,jK,jN,jP,List.length_flatMap] at av⊢)<;>omega)).mono ?_;rintro _ K ⟨rfl,h⟩;try simp(disch:=omega)only[go_sem,C,h.g y]
     |with_reducible show Af _ _ 98 _ _ _
      refine(Gg G _ (aw.more h.hs) h.hr h.hw (by omega)).mono ?_;rintro _ KZ ⟨rfl,am⟩;simp(disch:=omega)only[go_sem];have aa:PAt B1 r (ab++ [Qk d t.var]) KZ:=by simpa [Qk,Pe,Cp,Ef] using am
      exact aa
     |intro qa ad;dsimp only at ad
      have C:=h.g y;obtain⟨B,K,e,h,s,O⟩:=h.new ad (.cells [.str [99,97,115,101]] 9);rw[e];replace y:=s _ _ y;try replace U:=s _ _ U
      try replace S:=s _ _ S
      try simp(disch:=omega)only[go_sem,C,h.g y]
     |intro qa ad;dsimp only at ad
      have C:=y;obtain⟨K,e,Y,s,O⟩:=Y.newK ad (.cells [.str [99,97,115,101]] 9);rw[e];replace y:=s _ _ y;try replace U:=s _ _ U
      try replace S:=s _ _ S
      try simp(disch:=omega)only[go_sem,C,y]
     |intro qn ae;dsimp only at ae
      have C:=h.g y;obtain⟨B,K,e,h,s,U⟩:=h.new ae (.cells [.str t.var] 9);rw[e];replace y:=s _ _ y;try replace O:=s _ _ O
      try replace S:=s _ _ S
      try simp(disch:=omega)only[go_sem,C,h.g y]
     |intro qn ae;dsimp only at ae
      have C:=y;obtain⟨K,e,Y,s,U⟩:=Y.newK ae (.cells [.str t.var] 9);rw[e];replace y:=s _ _ y;try replace O:=s _ _ O
      try replace S:=s _ _ S
      try simp(disch:=omega)only[go_sem,C,y]
     |intro qb af;dsimp only at af
      have C:=h.g y;obtain⟨B,K,e,h,s,S⟩:=h.new af (.cells [.str [105,115]] 9);rw[e];replace y:=s _ _ y;try replace O:=s _ _ O
      try replace U:=s _ _ U
      try simp(disch:=omega)only[go_sem,C,h.g y]
     |intro qb af;dsimp only at af
      have C:=y;obtain⟨K,e,Y,s,S⟩:=Y.newK af (.cells [.str [105,115]] 9);rw[e];replace y:=s _ _ y;try replace O:=s _ _ O
      try replace U:=s _ _ U
      try simp(disch:=omega)only[go_sem,C,y]
     |intro rw V;dsimp only at V
      have C:=y;obtain⟨K,e,h⟩:=St.start Y V;rw[e];try simp(disch:=omega)only[go_sem,C,h.g y]
   ·rintro _ ⟨env,K5⟩ ⟨rfl,x0,x2,x4,aa⟩;dsimp only at x0 x2 x4 aa;have a1:=aa.keep bc ax;obtain⟨ag,aj⟩: ∃l,l=ab++ [Qk d t.var]:=⟨_,rfl⟩;have bz:ag.length<=301:=by rw[aj,jC,jQ];omega
    have hR:ls++Ch0 t d=ag++t.arms.flatMap (Wf d)++ [⟨Pe (d+1),[Ah Ml,Ah It,Ah Dg]⟩]++ [⟨d,[Ah Ml,Ah Cw]⟩]:=by rw[W,Xu,if_neg v0,aj];simp
    rw[<-aj] at aa;clear aj;simp(disch:=omega)only[go_sem,x0,x2,x4,a1,Eg];obtain⟨I,hI⟩: ∃I:Nat->(Nat->DVal)->Ac->Prop,∀k env heap,I k env heap↔(env 0= .optr r 0/\env 2=dI d/\env 42=Eg t.arms/\env 43=dI t.arms.length/\env 44=dI k/\k<=t.arms.length/\PAt B1 r (ag++(t.arms.take k).flatMap (Wf d)) heap):=⟨_,fun _ _ _=>Iff.rfl⟩;refine Dn5.run I (fun k=>t.arms.length-k) 0 ((hI _ _ _).2 ?_) ?_
    ·simp(disch:=omega)only[go_sem,x0,x2,x4,a1,Eg];(repeat' apply And.intro)<;>(try first | rfl | assumption | omega);simpa using aa
    ·clear x0 x2 x4;intro k env heap hi;obtain⟨D,E,J,L,M,hk,ah⟩:=(hI _ _ _).1 hi;by_cases ao:k<t.arms.length
     ·have ap:(k:Int)<(t.arms.length:Int):=by omega
      have bh:IntKind.i64.wrap ((k:Int)+1)=((k+1:Nat):Int):=by rw[IntKind.wrap_i64];omega
      have a2:=Cu De t.arms k ao;have hfl:=Ax De t.arms;have mx:=List.getElem_mem ao;have a3:(t.arms.take (k+1)).flatMap (Wf d)=(t.arms.take k).flatMap (Wf d)++Wf d t.arms[k]:=by rw[Qa ao,List.flatMap_append];simp
      have a4:=Aq9 d (t.arms.take k) fun a ha=>au a (List.mem_of_mem_take ha);rw[List.length_take] at a4;obtain⟨x,hx⟩: ∃x,x=t.arms[k]:=⟨_,rfl⟩;rw[<-hx] at a2 mx a3;obtain⟨x1,x2⟩:=bq x mx;have x3:=au x mx;have b0:=Bb8 x.c;have fx:=f7.2 x mx;have fc:=fx.1.1;have bi:(ag++(t.arms.take k).flatMap (Wf d)).length<=10000:=by rw[jC];omega
      simp(disch:=omega)only[go_sem,D,E,J,L,M,Eg,ap,a2,hfl,jD];intro r7 ak;dsimp only at ak;have aq:=ah.frame ak (.cells (Qc x) 164);have z7:B1 r7=none:=(ah.lo ak).1;have n7:r7≠r:=(ah.lo ak).2;obtain⟨B7,W⟩: ∃X,X=upd B1 r7 (some (.cells (Qc x) 164)):=⟨_,rfl⟩;have b7:B7 r7=some (.cells (Qc x) 164):=by rw[W];exact Aa _ _ _
      have s7:Sub B1 B7:=by rw[W];exact(Sub.refl _).up z7 _
      have bj:B7 r=none:=by rw[W,Ak _ _ _ _ n7.symm];exact ai
      obtain⟨K7,a5⟩: ∃X,X=upd heap r7 (some (.cells (Qc x) 164)):=⟨_,rfl⟩;rw[<-W,<-a5] at aq;clear W;have g7:=aq.keep b7 n7;simp(disch:=omega)only[go_sem,D,E,J,L,M];rw[<-a5];simp(disch:=omega)only[go_sem,D,E,J,L,M,g7,De,Ru,Rv];refine Af.monoR (Uv hG _ x.c (by omega) fx.1.2) ?_;simp(disch:=omega)only[go_sem,D,E,J,L,M,g7,De,Ru,Rv];intro rw V;dsimp only at V;simp(disch:=omega)only[go_sem];intro q hq;dsimp only at hq;simp(disch:=omega)only[go_sem];refine(Ab1 hG Ku hq V (by simp) (SAt.start V)).mono ?_;rintro _ K2 ⟨rfl,a6⟩;rw[jG] at a6;simp(disch:=omega)only[go_sem,D,E,J,L,M];obtain⟨v,hv⟩:=a6;have gr:=hv.keep (Aa _ _ _);have a7:=Ax Aq (Kt x.c).1;simp(disch:=omega)only[go_sem,D,E,J,L,M,gr,Bh,Xt,Vk,a7,jD];refine Jf.append (m:=(Kt x.c).1.length) hv a7 (by simp;omega) fun v2 H6 ar=> ?_;have g6:=ar.keep (Aa _ _ _);obtain⟨j1,j2⟩:=ar.cell1;simp(disch:=omega)only[go_sem,D,E,J,L,M,g6,j1,j2];have a8:=ar.at (Aa _ _ _) (some (.cells [v2] 146));rw[Fy] at a8;have bk:SAt K7 rw (([Ah Ku]:List Tok)++(Kt x.c).1) (upd H6 rw (some (.cells [v2] 146))):=⟨v2,by rw[jC,List.flatMap_append];exact a8⟩;intro q2 a9;dsimp only at a9;simp(disch:=omega)only[go_sem,D,E,J,L,M];refine(Ab1 hG Bn a9 V (by simp;omega) bk).mono ?_;rintro _ K8 ⟨rfl,bl⟩;simp(disch:=omega)only[go_sem,D,E,J,L,M];refine(Gg G _ aq V bl (by omega)).mono ?_;rintro _ K9 ⟨rfl,Z⟩;have g9:=Z.keep b7 n7;have b1:=Ab5 x.comps (IntKind.i64.wrap (d+3));simp(disch:=omega)only[go_sem,D,E,J,L,M,g9,De,Ru,Rv];refine(Ab4 hG x.comps _ x1 fx.2 (by omega) B7 r _ _ bj (by rw[jC,jQ];omega) Z).mono ?_;rintro _ KA ⟨rfl,bm⟩;simp(disch:=omega)only[go_sem,D,E,J,L,M];refine⟨k+1,_,Ri.refl _,(hI _ _ _).2 ?_,by omega⟩;simp(disch:=omega)only[go_sem,D,E,J,L,M,bh];(repeat' apply And.intro)<;>(try first | rfl | assumption | omega);rw[a3,<-jO];have bn:=bm.less s7;simpa [Wf,Pe] using bn
     ·have:k=t.arms.length:=by omega
      subst this;have ap: ¬(t.arms.length:Int)<(t.arms.length:Int):=by omega
      rw[List.take_length] at ah;have a4:=Aq9 d t.arms au;have bi:(ag++t.arms.flatMap (Wf d)).length<=10000:=by rw[jC];omega
      simp(disch:=omega)only[go_sem,D,E,J,L,M,Eg,ap];intro q8 ba;dsimp only at ba;simp(disch:=omega)only[go_sem,D,E,J,L,M];refine(Ab3 hG _ [Ml,It,Dg] _ rfl ba (by simp) ai (by omega) ah).mono ?_;rintro _ K8 ⟨rfl,bo⟩;simp(disch:=omega)only[go_sem,D,E,J,L,M];intro q9 ac;dsimp only at ac;simp(disch:=omega)only[go_sem,D,E,J,L,M];refine(Ab3 hG _ [Ml,Cw] _ rfl ac (by simp) ai (by rw[jC,jQ];omega) bo).mono ?_;rintro _ K9 ⟨rfl,Z⟩;simp(disch:=omega)only[go_sem];refine Es.refl ⟨rfl, ?_⟩;have am:=Z.less bd;rw[hR];simpa [Pe] using am
end
theorem Dk7 (ts:List Tok):(Bh ts).cells= [Bh ts]:=rfl
theorem Fd6 (ts:List Tok):(Bh ts).one=true:=rfl
attribute [go_sem] Dk7 Fd6
section
variable (G:Nat->DVal) (H:Ac)
theorem Bz9 {l:List Par} (h:0<l.length):Oh (l.take 1)=Jp l[0]:=by
 cases l with
 | nil=>simp at h
 | cons s l=>rfl
theorem Br2 {l:List Par} {k:Nat} (h:k<l.length) (hk:0<k):Oh (l.take (k+1))=Oh (l.take k)++Ah Dg::Jp l[k]:=by
 unfold Oh;rw[Qa h,List.map_append,List.map_singleton,Ad0 _ _ _ (by
  intro e;have:=congrArg List.length e;rw[jK,List.length_take,jB] at this;omega)]
theorem Ab6 {p:Par} (h:Ja p=true):Ih p.names 8=true/\Cg p.type=true/\Ge p.e=true:=by
 simp only[Ja,jF] at h;obtain⟨⟨⟨⟨⟨h1,h2⟩,h3⟩,-⟩,-⟩,-⟩:=h;rw[Hu,jF] at h2;exact⟨h1,h2.1,h3⟩
theorem Fd7 (m:Int):(Iu m).length<=2:=by
 rw[Iu];split
 ·simp
 ·split<;>simp
theorem Dt0 {p:Par} (h:Ja p=true):(Jp p).length<=10100:=by
 obtain⟨h1,h2,h3⟩:=Ab6 h;have:=(Wj h1).2;have:=Qi h2;have:=Be9 h3;have:=Fd7 p.mode;rw[Jp];simp;omega
theorem Cx1 {l:List Par} (h: ∀a∈l,Ja a=true): ∀k,k<=l.length->(Oh (l.take k)).length<=k*10101
 | 0,_=>by simp [Oh,Ef]
 | 1,hk=>by
  rw[Bz9 (by omega)];have:=Dt0 (h _ (List.getElem_mem (show 0<l.length by omega)));omega
 | k+2,hk=>by
  rw[Br2 (by omega) (by omega),jC,jA];have:=Cx1 h (k+1) (by omega);have:=Dt0 (h _ (List.getElem_mem (show k+1<l.length by omega)));omega
end
def Gr6 (ls:List Lin):DVal:= .vslice (ls.flatMap Ae2) ls.length
theorem Ft5 {t:Typ} (hm:Eo t=true):(t.kind=1->Ih t.names 64=true)/\(t.kind=2->Cg t.lo=true/\Cg t.hi=true)/\(t.kind=3->Cr t.sub=true)/\(t.kind=6->Cr t.sub=true)/\(t.kind=4->Cr t.sub=true/\Ib t.disc=true)/\(t.kind=5->Pd t=true)/\(t.kind=1\/t.kind=2\/t.kind=3\/t.kind=4\/t.kind=5\/t.kind=6\/t.kind=7):=by
 refine⟨fun h=> ?_,fun h=> ?_,fun h=> ?_,fun h=> ?_,fun h=> ?_,fun h=> ?_, ?_⟩
 ·simp [Eo,h] at hm;exact hm.1.1.1.1.1
 ·simp [Eo,h] at hm;exact hm.1.1.1.1.2
 ·simp [Eo,h] at hm;exact hm.1.1.1.2
 ·simp [Eo,h] at hm;exact hm.1.1.1.2
 ·simp [Eo,h] at hm;exact⟨hm.1.1.1.2,hm.1.1.2⟩
 ·simp [Eo,h] at hm;exact hm.1.2
 ·by_cases h1:t.kind=1
  ·omega
  by_cases h2:t.kind=2
  ·omega
  by_cases h3:t.kind=3
  ·omega
  by_cases h4:t.kind=4
  ·omega
  by_cases h5:t.kind=5
  ·omega
  by_cases h6:t.kind=6
  ·omega
  simp [Eo,h1,h2,h3,h4,h5,h6] at hm;omega
section
variable (G:Nat->DVal) (H:Ac)
def Br3 (l:List Par):List Tok×Int:=if Ii l then(Oh l,0) else([],2)
def Dt1 (t:Typ) (d:Int):List Lin×Int:=if Eo t then(Lj t d,0) else([],2)
theorem Fd8 {l:List Cmp} (h:l.all Hd=true) {n:Nat} (C:He l<=n):l.length<=n:=by
 have key: ∀l:List Cmp,(∀x∈l,Hd x=true)->l.length<=He l:=by
  intro l
  induction l with
  | nil=>intro _;exact Nat.le_refl _
  | cons x l ih=>
   intro h;have h1:=ih fun y D=>h y (List.mem_cons_of_mem _ D);have h2:=h x (List.mem_cons_self ..);rw[Hd,jF,jF,Ih,jF,jF,decide_eq_true_eq] at h2;have h3:=h2.1.1.1.2;have e:He (x::l)=x.names.length+He l:=by simp [He]
   rw[e,jA];omega
 exact Nat.le_trans (key l (List.all_eq_true.1 h)) C
theorem Go7 {t:Typ} (h:Pd t=true):t.comps.length<=40/\ ∀a∈t.arms,a.comps.length<=40:=by
 simp only[Pd,jF,decide_eq_true_eq] at h;obtain⟨⟨⟨⟨⟨y,-⟩,-⟩,-⟩,C⟩,hn⟩:=h;have h1:=Fd8 y (Nat.le_refl _);refine⟨by omega,fun a ha=> ?_⟩;have h2:=List.all_eq_true.1 C a ha;rw[Kd,jF] at h2;have h3:=Fd8 h2.1 (Nat.le_refl _);have h4:He a.comps<=Tk t.arms:=by
  unfold Tk;have: ∀l:List Arm,a∈l->He a.comps<=(l.map fun a=>He a.comps).sum:=by
   intro l
   induction l with
   | nil=>intro h;cases h
   | cons b l ih=>
    intro h;rw[jN,List.sum_cons];rcases List.mem_cons.1 h with rfl | h
    ·omega
    ·have:=ih h;omega
  exact this _ ha
 omega
end
section
variable {G:Nat->DVal}
set_option maxHeartbeats 40000000 in
theorem Bc9 (hG:GX G) (H:Ac) (t:Typ) (d:Int) (ht:Wg 1048576 t):Af Tryz.prog G 21 [.agg (Cs t),dI d] H (Au (.tuple [Gr6 (Dt1 t d).1,dI (Dt1 t d).2]) H):=by
 rw[Dt1];refine Ab Tryz.func21 Tryz.call21 rfl (by kernel_rfl) ?_;simp(disch:=omega)only[go_sem,DVal.cells];intro r2 al;dsimp only at al;obtain⟨K,hK⟩: ∃K',K'=upd H r2 (some (.cells (Cs t) 62)):=⟨_,rfl⟩;rw[<-hK];have g2:K r2=some (.cells (Cs t) 62):=by rw[hK];exact Aa _ _ _
 have hs:Sub H K:=by rw[hK];exact(Sub.refl H).new al _
 clear hK;simp(disch:=omega)only[go_sem,g2];refine Af.monoR (Bb0 hG K t ht) ?_;try simp(disch:=omega)only[go_sem,g2]
 cases hm:Eo t
 ·simp(disch:=omega)only[go_sem];exact Lt.fin hs (Lt.tuple (.cons (Lt.nil hs) (Kq.keep hs _))) ⟨rfl,rfl⟩
 have am:=ht;obtain⟨f0,f1,f2,f3,f4,f5,f6,f7⟩:=ht;obtain⟨k1,k2,k3,k6,k4,k5,aw⟩:=Ft5 hm;simp(disch:=omega)only[go_sem,g2];intro Y I;dsimp only at I;have hp:=PAt.start I;have ao:r2≠Y:=Ae I g2;obtain⟨B0,af⟩: ∃X,X=upd K Y (some (.cells [.nilSlice] 143)):=⟨_,rfl⟩;rw[<-af] at hp;have y:B0 r2=some (.cells (Cs t) 62):=by rw[af];exact An g2 ao
 simp(disch:=omega)only[go_sem,g2,ao];try rw [<-af]
 intro rw aa;dsimp only at aa;try rw [<-af] at aa
 clear af;have n2:r2≠rw:=Ae aa y;have ad:=SAt.start aa;obtain⟨K0,aj⟩: ∃X,X=upd B0 rw (some (.cells [.nilSlice] 146)):=⟨_,rfl⟩;rw[<-aj] at ad;have W:=ad.keep y n2;have ab:(0:Nat)<=1:=by omega
 have ap:=ad.sub aa;simp(disch:=omega)only[go_sem,y,n2];rw[<-aj];clear aj;have h0:St B0 B0 rw [] K0:=⟨ad,aa,Sub.refl B0⟩;rcases aw with hk | hk | hk | hk | hk | hk | hk
 ·have ay:=Wj (k1 hk);have J:Lj t d= [⟨d,Ah Bi::(Cp t.names++ [Ah Bt])⟩]:=by rw[Lj,if_pos hk]
  simp(disch:=omega)only[go_sem,W,hk];refine Aj (by kernel_rfl) pL9 (by kernel_rfl) ?_;simp(disch:=omega)only[go_sem,W];have h:=h0
  repeat'
   first
   | with_reducible apply And.intro
   |with_reducible show Af _ _ 93 _ _ _
    have C:=h.g y;refine(h.call (Iw hG t.names (by omega)) (by(try simp only[jC,jA,jB,jK,jN,jP,List.length_flatMap] at ab⊢)<;>omega)).mono ?_;rintro _ L ⟨rfl,h⟩;try simp(disch:=omega)only[go_sem,C,h.g y]
   |with_reducible show Af _ _ 92 _ _ _
    have C:=h.g y;refine(h.put hG [Bi] ac (by(try simp only[jC,jA,jB,jK,jN,jP,List.length_flatMap] at ab⊢)<;>omega)).mono ?_;rintro _ L ⟨rfl,h⟩;try simp(disch:=omega)only[go_sem,C,h.g y]
   |with_reducible show Af _ _ 92 _ _ _
    have C:=h.g y;refine(h.put hG [Bt] ae (by(try simp only[jC,jA,jB,jK,jN,jP,List.length_flatMap] at ab⊢)<;>omega)).mono ?_;rintro _ L ⟨rfl,h⟩;try simp(disch:=omega)only[go_sem,C,h.g y]
   |with_reducible show Af _ _ 98 _ _ _
    refine(Gg G d (hp.more h.hs) h.hr h.hw (by simp)).mono ?_;rintro _ M ⟨rfl,O⟩;have D:PAt K Y (Lj t d) M:=by rw[J];simpa using O
    obtain⟨v,S,U⟩:=D.cell I;have E:=D.sub I;simp(disch:=omega)only[go_sem,S];exact Lt.fin (hs.trans E) (Lt.tuple (.cons (fun w hw x hx=>Rel.lasts (Er hs w) _ _ (U w hw x hx)) (Kq.keep (hs.trans E) _))) ⟨rfl,rfl⟩
   |intro qa Z;dsimp only at Z
    have C:=h.g y;obtain⟨Bw,L,ew,h,V,ac⟩:=h.new Z (.cells [.str [40]] 9);rw[ew];replace y:=V _ _ y;try replace ae:=V _ _ ae
    try simp(disch:=omega)only[go_sem,C,h.g y]
   |intro qb ag;dsimp only at ag
    have C:=h.g y;obtain⟨Bw,L,ew,h,V,ae⟩:=h.new ag (.cells [.str [41]] 9);rw[ew];replace y:=V _ _ y;try replace ac:=V _ _ ac
    try simp(disch:=omega)only[go_sem,C,h.g y]
 ·obtain⟨ml,mh⟩:=k2 hk;have a0:=Aj4 ml mh;have J:Lj t d= [⟨d,Ah Ht::Gi t.lo t.hi⟩]:=by rw[Lj,if_neg (by omega),if_pos hk]
  simp(disch:=omega)only[go_sem,W,hk];refine Aj (by kernel_rfl) pL16 (by kernel_rfl) ?_;simp(disch:=omega)only[go_sem,W];have h:=h0
  repeat'
   first
   | with_reducible apply And.intro
   |with_reducible show Af _ _ 94 _ _ _
    have C:=h.g y;refine(h.call (Sg hG t.lo t.hi ml mh f1 f2) (by(try simp only[jC,jA,jB,jK,jN,jP,List.length_flatMap] at ab⊢)<;>omega)).mono ?_;rintro _ L ⟨rfl,h⟩;try simp(disch:=omega)only[go_sem,C,h.g y]
   |with_reducible show Af _ _ 92 _ _ _
    have C:=h.g y;refine(h.put hG [Ht] ac (by(try simp only[jC,jA,jB,jK,jN,jP,List.length_flatMap] at ab⊢)<;>omega)).mono ?_;rintro _ L ⟨rfl,h⟩;try simp(disch:=omega)only[go_sem,C,h.g y]
   |with_reducible show Af _ _ 98 _ _ _
    refine(Gg G d (hp.more h.hs) h.hr h.hw (by simp)).mono ?_;rintro _ M ⟨rfl,O⟩;have D:PAt K Y (Lj t d) M:=by rw[J];simpa using O
    obtain⟨v,S,U⟩:=D.cell I;have E:=D.sub I;simp(disch:=omega)only[go_sem,S];exact Lt.fin (hs.trans E) (Lt.tuple (.cons (fun w hw x hx=>Rel.lasts (Er hs w) _ _ (U w hw x hx)) (Kq.keep (hs.trans E) _))) ⟨rfl,rfl⟩
   |intro qa Z;dsimp only at Z
    have C:=h.g y;obtain⟨Bw,L,ew,h,V,ac⟩:=h.new Z (.cells [.str [114,97,110,103,101]] 9);rw[ew];replace y:=V _ _ y;try simp(disch:=omega)only[go_sem,C,h.g y]
 ·have mi:=k3 hk;have aq:=Aq8 mi;have J:Lj t d= [⟨d,Ah Bu0::Mm t.sub⟩]:=by rw[Lj,if_neg (by omega),if_neg (by omega),if_pos hk]
  simp(disch:=omega)only[go_sem,W,hk];refine Aj (by kernel_rfl) pL18 (by kernel_rfl) ?_;simp(disch:=omega)only[go_sem,W];have h:=h0
  repeat'
   first
   | with_reducible apply And.intro
   |with_reducible show Af _ _ 95 _ _ _
    have C:=h.g y;refine(h.call (Rc hG t.sub mi f3) (by(try simp only[jC,jA,jB,jK,jN,jP,List.length_flatMap] at ab⊢)<;>omega)).mono ?_;rintro _ L ⟨rfl,h⟩;try simp(disch:=omega)only[go_sem,C,h.g y]
   |with_reducible show Af _ _ 92 _ _ _
    have C:=h.g y;refine(h.put hG [Bu0] ac (by(try simp only[jC,jA,jB,jK,jN,jP,List.length_flatMap] at ab⊢)<;>omega)).mono ?_;rintro _ L ⟨rfl,h⟩;try simp(disch:=omega)only[go_sem,C,h.g y]
   |with_reducible show Af _ _ 98 _ _ _
    refine(Gg G d (hp.more h.hs) h.hr h.hw (by simp)).mono ?_;rintro _ M ⟨rfl,O⟩;have D:PAt K Y (Lj t d) M:=by rw[J];simpa using O
    obtain⟨v,S,U⟩:=D.cell I;have E:=D.sub I;simp(disch:=omega)only[go_sem,S];exact Lt.fin (hs.trans E) (Lt.tuple (.cons (fun w hw x hx=>Rel.lasts (Er hs w) _ _ (U w hw x hx)) (Kq.keep (hs.trans E) _))) ⟨rfl,rfl⟩
   |intro qa Z;dsimp only at Z
    have C:=h.g y;obtain⟨Bw,L,ew,h,V,ac⟩:=h.new Z (.cells [.str [110,101,119]] 9);rw[ew];replace y:=V _ _ y;try simp(disch:=omega)only[go_sem,C,h.g y]
 ·obtain⟨mi,md⟩:=k4 hk;have aq:=Aq8 mi;have a1:=Ft3 md;have J:Lj t d= [⟨d,Ah Tm::Ah Bi::(Ax2 t.disc++(Ah Bt::Ah wOf::Mm t.sub))⟩]:=by rw[Lj,if_neg (by omega),if_neg (by omega),if_neg (by omega),if_pos hk]
  simp(disch:=omega)only[go_sem,W,hk];refine Aj (by kernel_rfl) (.take 0 (.take 3 (.take 4 (.take 8 (.take 9 (.alt (.go 6 [9,4] (.go 1 [9,4] (.go 2 [9,4] (.go 5 [9] (.go 7 [9] (.go 10 [] .done)))))) (.go 1 [9,4] (.alt (.go 6 [9,4] (.go 2 [9,4] (.go 5 [9] (.go 7 [9] (.go 10 [] .done))))) (.go 2 [9,4] (.alt (.go 6 [9,4] (.go 5 [9] (.go 7 [9] (.go 10 [] .done)))) (.go 5 [9] (.go 6 [9,4] (.go 7 [9] (.go 10 [] .done)))))))))))))) (by kernel_rfl) ?_;simp(disch:=omega)only[go_sem,W];have h:=h0
  repeat'
   first
   | with_reducible apply And.intro
   |with_reducible show Af _ _ 96 _ _ _
    have C:=h.g y;refine(h.call (Dk4 hG t.disc md f4) (by(try simp only[jC,jA,jB,jK,jN,jP,List.length_flatMap] at ab⊢)<;>omega)).mono ?_;rintro _ L ⟨rfl,h⟩;try simp(disch:=omega)only[go_sem,C,h.g y]
   |with_reducible show Af _ _ 95 _ _ _
    have C:=h.g y;refine(h.call (Rc hG t.sub mi f3) (by(try simp only[jC,jA,jB,jK,jN,jP,List.length_flatMap] at ab⊢)<;>omega)).mono ?_;rintro _ L ⟨rfl,h⟩;try simp(disch:=omega)only[go_sem,C,h.g y]
   |with_reducible show Af _ _ 92 _ _ _
    have C:=h.g y;refine(h.put hG [Tm,Bi] ac (by(try simp only[jC,jA,jB,jK,jN,jP,List.length_flatMap] at ab⊢)<;>omega)).mono ?_;rintro _ L ⟨rfl,h⟩;try simp(disch:=omega)only[go_sem,C,h.g y]
   |with_reducible show Af _ _ 92 _ _ _
    have C:=h.g y;refine(h.put hG [Bt,wOf] ae (by(try simp only[jC,jA,jB,jK,jN,jP,List.length_flatMap] at ab⊢)<;>omega)).mono ?_;rintro _ L ⟨rfl,h⟩;try simp(disch:=omega)only[go_sem,C,h.g y]
   |with_reducible show Af _ _ 98 _ _ _
    refine(Gg G d (hp.more h.hs) h.hr h.hw (by simp)).mono ?_;rintro _ M ⟨rfl,O⟩;have D:PAt K Y (Lj t d) M:=by rw[J];simpa using O
    obtain⟨v,S,U⟩:=D.cell I;have E:=D.sub I;simp(disch:=omega)only[go_sem,S];exact Lt.fin (hs.trans E) (Lt.tuple (.cons (fun w hw x hx=>Rel.lasts (Er hs w) _ _ (U w hw x hx)) (Kq.keep (hs.trans E) _))) ⟨rfl,rfl⟩
   |intro qa Z;dsimp only at Z
    have C:=h.g y;obtain⟨Bw,L,ew,h,V,ac⟩:=h.new Z (.cells [.str [97,114,114,97,121], .str [40]] 9);rw[ew];replace y:=V _ _ y;try replace ae:=V _ _ ae
    try simp(disch:=omega)only[go_sem,C,h.g y]
   |intro qb ag;dsimp only at ag
    have C:=h.g y;obtain⟨Bw,L,ew,h,V,ae⟩:=h.new ag (.cells [.str [41], .str [111,102]] 9);rw[ew];replace y:=V _ _ y;try replace ac:=V _ _ ac
    try simp(disch:=omega)only[go_sem,C,h.g y]
 ·have hr:=k5 hk;obtain⟨ar,au⟩:=Go7 hr;by_cases c0:t.comps.length=0
  ·have ai: ¬(0:Int)<(t.comps.length:Int):=by omega
   have ak:t.comps= []:=List.length_eq_zero_iff.1 c0;by_cases v0:t.var= []
   ·have J:Lj t d= [⟨d,[Ah Ez,Ah Cw]⟩]:=by rw[Lj,if_neg (by omega),if_neg (by omega),if_neg (by omega),if_neg (by omega),if_neg (by omega),if_neg (by omega),if_pos (by simp [ak,v0])]
    simp(disch:=omega)only[go_sem,W,hk,Ct,ai,v0];intro q0 hq0;dsimp only at hq0;simp(disch:=omega)only[go_sem];refine(Go5 hG Ez Cw hq0 aa (by simp) ad).mono ?_;rintro _ K9 ⟨rfl,ah⟩;simp(disch:=omega)only[go_sem];refine(Gg G d (hp.more (Sub.refl B0)) aa ah (by simp)).mono ?_;rintro _ M ⟨rfl,O⟩;have D:PAt K Y (Lj t d) M:=by rw[J];simpa using O
    obtain⟨v,S,U⟩:=D.cell I;have E:=D.sub I;simp(disch:=omega)only[go_sem,S];exact Lt.fin (hs.trans E) (Lt.tuple (.cons (fun w hw x hx=>Rel.lasts (Er hs w) _ _ (U w hw x hx)) (Kq.keep (hs.trans E) _))) ⟨rfl,rfl⟩
   ·have J:Lj t d=Ch0 t d:=by rw[Lj,if_neg (by omega),if_neg (by omega),if_neg (by omega),if_neg (by omega),if_neg (by omega),if_neg (by omega),if_neg (by simp [v0])]
    simp(disch:=omega)only[go_sem,W,hk,Ct,ai,v0];refine(Ar0 hG t d hr am ar au K Y [] K0 I (by simp) (hp.more ap)).mono ?_;rintro _ M ⟨rfl,O⟩;have D:PAt K Y (Lj t d) M:=by rw[J];simpa using O
    obtain⟨v,S,U⟩:=D.cell I;have E:=D.sub I;simp(disch:=omega)only[go_sem,S];exact Lt.fin (hs.trans E) (Lt.tuple (.cons (fun w hw x hx=>Rel.lasts (Er hs w) _ _ (U w hw x hx)) (Kq.keep (hs.trans E) _))) ⟨rfl,rfl⟩
  ·have ai:(0:Int)<(t.comps.length:Int):=by omega
   have ak: ¬t.comps.isEmpty=true:=by intro e;exact c0 (by rw[List.isEmpty_iff.1 e];rfl)
   have J:Lj t d=Ch0 t d:=by rw[Lj,if_neg (by omega),if_neg (by omega),if_neg (by omega),if_neg (by omega),if_neg (by omega),if_neg (by omega),if_neg (by simp [ak])]
   simp(disch:=omega)only[go_sem,W,hk,Ct,ai];refine(Ar0 hG t d hr am ar au K Y [] K0 I (by simp) (hp.more ap)).mono ?_;rintro _ M ⟨rfl,O⟩;have D:PAt K Y (Lj t d) M:=by rw[J];simpa using O
   obtain⟨v,S,U⟩:=D.cell I;have E:=D.sub I;simp(disch:=omega)only[go_sem,S];exact Lt.fin (hs.trans E) (Lt.tuple (.cons (fun w hw x hx=>Rel.lasts (Er hs w) _ _ (U w hw x hx)) (Kq.keep (hs.trans E) _))) ⟨rfl,rfl⟩
 ·have mi:=k6 hk;have aq:=Aq8 mi;have J:Lj t d= [⟨d,Ah Qj::Mm t.sub⟩]:=by rw[Lj,if_neg (by omega),if_neg (by omega),if_neg (by omega),if_neg (by omega),if_pos hk]
  simp(disch:=omega)only[go_sem,W,hk];refine Aj (by kernel_rfl) pL18 (by kernel_rfl) ?_;simp(disch:=omega)only[go_sem,W];have h:=h0
  repeat'
   first
   | with_reducible apply And.intro
   |with_reducible show Af _ _ 95 _ _ _
    have C:=h.g y;refine(h.call (Rc hG t.sub mi f3) (by(try simp only[jC,jA,jB,jK,jN,jP,List.length_flatMap] at ab⊢)<;>omega)).mono ?_;rintro _ L ⟨rfl,h⟩;try simp(disch:=omega)only[go_sem,C,h.g y]
   |with_reducible show Af _ _ 92 _ _ _
    have C:=h.g y;refine(h.put hG [Qj] ac (by(try simp only[jC,jA,jB,jK,jN,jP,List.length_flatMap] at ab⊢)<;>omega)).mono ?_;rintro _ L ⟨rfl,h⟩;try simp(disch:=omega)only[go_sem,C,h.g y]
   |with_reducible show Af _ _ 98 _ _ _
    refine(Gg G d (hp.more h.hs) h.hr h.hw (by simp)).mono ?_;rintro _ M ⟨rfl,O⟩;have D:PAt K Y (Lj t d) M:=by rw[J];simpa using O
    obtain⟨v,S,U⟩:=D.cell I;have E:=D.sub I;simp(disch:=omega)only[go_sem,S];exact Lt.fin (hs.trans E) (Lt.tuple (.cons (fun w hw x hx=>Rel.lasts (Er hs w) _ _ (U w hw x hx)) (Kq.keep (hs.trans E) _))) ⟨rfl,rfl⟩
   |intro qa Z;dsimp only at Z
    have C:=h.g y;obtain⟨Bw,L,ew,h,V,ac⟩:=h.new Z (.cells [.str [97,99,99,101,115,115]] 9);rw[ew];replace y:=V _ _ y;try simp(disch:=omega)only[go_sem,C,h.g y]
 ·cases hl:t.limited
  ·have J:Lj t d= [⟨d,[Ah Ic]⟩]:=by rw[Lj,if_neg (by omega),if_neg (by omega),if_neg (by omega),if_neg (by omega),if_neg (by omega),if_pos hk,hl];rfl
   simp(disch:=omega)only[go_sem,W,hk,hl];intro q0 hq0;dsimp only at hq0;simp(disch:=omega)only[go_sem];refine(Ab1 hG Ic hq0 aa (by simp) ad).mono ?_;rintro _ K9 ⟨rfl,ah⟩;simp(disch:=omega)only[go_sem];refine(Gg G d (hp.more (Sub.refl B0)) aa ah (by simp)).mono ?_;rintro _ M ⟨rfl,O⟩;have D:PAt K Y (Lj t d) M:=by rw[J];simpa using O
   obtain⟨v,S,U⟩:=D.cell I;have E:=D.sub I;simp(disch:=omega)only[go_sem,S];exact Lt.fin (hs.trans E) (Lt.tuple (.cons (fun w hw x hx=>Rel.lasts (Er hs w) _ _ (U w hw x hx)) (Kq.keep (hs.trans E) _))) ⟨rfl,rfl⟩
  ·have J:Lj t d= [⟨d,[Ah Nh,Ah Ic]⟩]:=by rw[Lj,if_neg (by omega),if_neg (by omega),if_neg (by omega),if_neg (by omega),if_neg (by omega),if_pos hk,hl];rfl
   simp(disch:=omega)only[go_sem,W,hk,hl];intro q1 av;dsimp only at av;simp(disch:=omega)only[go_sem];refine(Ab1 hG Nh av aa (by simp) ad).mono ?_;rintro _ K8 ⟨rfl,ax⟩;simp(disch:=omega)only[go_sem];intro q0 hq0;dsimp only at hq0;simp(disch:=omega)only[go_sem];refine(Ab1 hG Ic hq0 aa (by simp) ax).mono ?_;rintro _ K9 ⟨rfl,ah⟩;simp(disch:=omega)only[go_sem];refine(Gg G d (hp.more (Sub.refl B0)) aa ah (by simp)).mono ?_;rintro _ M ⟨rfl,O⟩;have D:PAt K Y (Lj t d) M:=by rw[J];simpa using O
   obtain⟨v,S,U⟩:=D.cell I;have E:=D.sub I;simp(disch:=omega)only[go_sem,S];exact Lt.fin (hs.trans E) (Lt.tuple (.cons (fun w hw x hx=>Rel.lasts (Er hs w) _ _ (U w hw x hx)) (Kq.keep (hs.trans E) _))) ⟨rfl,rfl⟩
end
end Go.Dl
