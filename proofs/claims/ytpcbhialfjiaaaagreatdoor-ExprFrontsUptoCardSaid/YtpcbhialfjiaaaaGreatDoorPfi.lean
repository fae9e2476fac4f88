/- The data level and the contracts of the functions that are reached (part 9). -/
import Derived.Test.YtpcbhialfjiaaaaGreatDoorPfh
set_option linter.unusedSimpArgs false
set_option linter.unusedVariables false
set_option linter.unusedSectionVars false
-- Chapter 3: the package's writer: bounds, operators, membership, choices.
namespace Go.Dl
open Go Go.Proofs
set_option maxRecDepth 100000
theorem lx0 {e:List Ex} {x:Ex} {r:List Ex} (h:e=x::r):(e.flatMap dEx).take 9=dEx x:=by
 rw[h,List.flatMap_cons,List.take_append_of_le_length (by rw[Ah];omega),List.take_of_length_le (by rw[Ah];omega)]
theorem lx1 {e:List Ex} {x y:Ex} {r:List Ex} (h:e=x::y::r):((e.flatMap dEx).drop 9).take 9=dEx y:=by
 rw[h,List.flatMap_cons,List.drop_left' (Ah x)];exact lx0 rfl
theorem lx2 {e:List Ex} {x y z:Ex} {r:List Ex} (h:e=x::y::z::r):((e.flatMap dEx).drop 18).take 9=dEx z:=by
 rw[h,List.flatMap_cons,show 18=9+9 from rfl,<-List.drop_drop,List.drop_left' (Ah x)];exact lx1 rfl
section
variable {G:Nat->DVal}
set_option maxHeartbeats 4000000 in
theorem Vl (hG:GX G) (a b:Ex) (ha:WrC Tryz.prog G 99 [.agg (dEx a)] (Ar a)) (hb:WrC Tryz.prog G 99 [.agg (dEx b)] (Ar b)):WrC Tryz.prog G 165 [.agg (dEx a), .agg (dEx b)] (Dm a 2++Bo Dz::Dm b 2):=by
 intro B r ts H hB hlen hw;rw[List.length_append,List.length_cons] at hlen;refine Ad Tryz.func165 Tryz.call165 rfl (by kernel_rfl) ?_;simp(disch:=omega) only[go_sem,↓reduceIte,DVal.cells];intro r4 hr4;dsimp only at hr4;obtain⟨K,hK⟩: ∃K',K'=upd H r4 (some (.cells (dEx a) 27)):=⟨_,rfl⟩;rw[<-hK];have gr4:K r4=some (.cells (dEx a) 27):=by rw[hK];exact Aa _ _ _
 have hwK:WAt (upd B r4 (some (.cells (dEx a) 27))) r ts K:=by rw[hK];exact hw.frame hr4 _
 have n4:r≠r4:=hw.ne hr4;have hB4:B r4=none:=(hw.lo hr4).1;simp(disch:=omega) only[go_sem,↓reduceIte,DVal.cells];intro r5 hr5;dsimp only at hr5;obtain⟨L,hL⟩: ∃K',K'=upd K r5 (some (.cells (dEx b) 27)):=⟨_,rfl⟩;rw[<-hL];have gr5:L r5=some (.cells (dEx b) 27):=by rw[hL];exact Aa _ _ _
 have hwL:WAt (upd (upd B r4 (some (.cells (dEx a) 27))) r5 (some (.cells (dEx b) 27))) r ts L:=by rw[hL];exact hwK.frame hr5 _
 have n5:r≠r5:=hwK.ne hr5;have hB5:=(hwK.lo hr5).1;have n45:r4≠r5:=Ae hr5 gr4;have gr4':L r4=some (.cells (dEx a) 27):=by rw[hL];exact Ag gr4 n45
 obtain⟨C,hC⟩: ∃C,C=upd (upd B r4 (some (.cells (dEx a) 27))) r5 (some (.cells (dEx b) 27)):=⟨_,rfl⟩;rw[<-hC] at hwL;have hCr:C r=none:=by rw[hC,Ao _ _ _ _ n5,Ao _ _ _ _ n4];exact hB
 have c4:C r4=some (.cells (dEx a) 27):=by rw[hC];exact Ag (Aa _ _ _) n45
 have c5:C r5=some (.cells (dEx b) 27):=by rw[hC];exact Aa _ _ _
 simp(disch:=omega) only[go_sem,↓reduceIte,gr4'];refine(Co hG a 2 ha C r _ _ hCr (by omega) hwL).mono ?_;rintro _ H1 ⟨rfl,h1⟩;simp(disch:=omega) only[go_sem,↓reduceIte];intro q1 hq1;dsimp only at hq1;simp(disch:=omega) only[go_sem,↓reduceIte];refine(Mm hG Dz hq1 hCr (by simp;omega) h1).mono ?_;rintro _ H2 ⟨rfl,h2⟩;have g5:=h2.keep c5 n5.symm;simp(disch:=omega) only[go_sem,↓reduceIte,g5];refine(Co hG b 2 hb C r _ _ hCr (by simp;omega) h2).mono ?_;rintro _ H3 ⟨rfl,h3⟩;simp(disch:=omega) only[go_sem,↓reduceIte];refine Nu.refl ⟨rfl,?_⟩;rw[hC] at h3;have:=(h3.drop hB5).drop hB4;simpa using this
set_option maxHeartbeats 4000000 in
theorem Bq5 (hG:GX G) (e x:Ex) (o:Nat) (hl:e.l= [x]) (ho:e.oper=o) (ho2:o<22) (hx:WrC Tryz.prog G 99 [.agg (dEx x)] (Ar x)):WrC Tryz.prog G 146 [.agg (dEx e)] ((Bp o).map Bo++Dm x (Mc e)):=by
 intro B r ts H hB hlen hw;rw[List.length_append,List.length_map] at hlen;have hl0:=lx0 hl;have hfl:=An Ah e.l;have hll:e.l.length=1:=by rw[hl];rfl
 have hwo:=Tc ho2;have hwl:(Cp4.map dW).length=22:=rfl;refine Ad Tryz.func146 Tryz.call146 rfl (by kernel_rfl) ?_;simp(disch:=omega) only[go_sem,↓reduceIte,DVal.cells];intro r3 hr3;dsimp only at hr3;obtain⟨K,hK⟩: ∃K',K'=upd H r3 (some (.cells (dEx e) 27)):=⟨_,rfl⟩;rw[<-hK];have gr3:K r3=some (.cells (dEx e) 27):=by rw[hK];exact Aa _ _ _
 have hwK:WAt (upd B r3 (some (.cells (dEx e) 27))) r ts K:=by rw[hK];exact hw.frame hr3 _
 have n3:r≠r3:=hw.ne hr3;have hB3:B r3=none:=(hw.lo hr3).1;have hBK:upd B r3 (some (.cells (dEx e) 27)) r=none:=by rw[Ao _ _ _ _ n3];exact hB
 simp(disch:=omega) only[go_sem,↓reduceIte,gr3];refine(Jx G K e).mono ?_;rintro _ K1 ⟨rfl,rfl⟩;by_cases c:Cb e=2
 ·have hM:Mc e=3:=by rw[Mc,if_pos c]
  rw[hM] at hlen⊢
  simp(disch:=omega) only[go_sem,↓reduceIte,c];refine Aj (by kernel_rfl) (.take 0 (.take 2 (.take 3 (.go 1 [3] (.take 4 (.take 5 (.go 6 [] .done))))))) (by kernel_rfl) ?_;simp(disch:=omega) only[go_sem,↓reduceIte,gr3];refine(Hd G K1).mono ?_;rintro _ K2 ⟨rfl,rfl⟩;simp(disch:=omega) only[go_sem,↓reduceIte,gr3,ho,Jb,hwo,hwl,Int.toNat_natCast];refine(Hg hG (Bp o) _ r _ _ hBK (by rw[List.length_map];omega) hwK).mono ?_;rintro _ H1 ⟨rfl,h1⟩;have g3:=h1.keep (Aa _ _ _) n3.symm;simp(disch:=omega) only[go_sem,↓reduceIte,g3,hll,hl0,hfl];refine(Co hG x _ hx _ r _ _ hBK (by rw[List.length_append,List.length_map];omega) h1).mono ?_;rintro _ H2 ⟨rfl,h2⟩;simp(disch:=omega) only[go_sem,↓reduceIte];refine Nu.refl ⟨rfl,?_⟩;have:=h2.drop hB3;rw[List.append_assoc] at this;exact this
 ·have hM:Mc e=5:=by rw[Mc,if_neg c]
  rw[hM] at hlen⊢
  simp(disch:=omega) only[go_sem,↓reduceIte,c];refine Aj (by kernel_rfl) (.take 0 (.take 2 (.take 3 (.go 1 [3] (.take 4 (.take 5 (.go 6 [] .done))))))) (by kernel_rfl) ?_;simp(disch:=omega) only[go_sem,↓reduceIte,gr3];refine(Hd G K1).mono ?_;rintro _ K2 ⟨rfl,rfl⟩;simp(disch:=omega) only[go_sem,↓reduceIte,gr3,ho,Jb,hwo,hwl,Int.toNat_natCast];refine(Hg hG (Bp o) _ r _ _ hBK (by rw[List.length_map];omega) hwK).mono ?_;rintro _ H1 ⟨rfl,h1⟩;have g3:=h1.keep (Aa _ _ _) n3.symm;simp(disch:=omega) only[go_sem,↓reduceIte,g3,hll,hl0,hfl];refine(Co hG x _ hx _ r _ _ hBK (by rw[List.length_append,List.length_map];omega) h1).mono ?_;rintro _ H2 ⟨rfl,h2⟩;simp(disch:=omega) only[go_sem,↓reduceIte];refine Nu.refl ⟨rfl,?_⟩;have:=h2.drop hB3;rw[List.append_assoc] at this;exact this
set_option maxHeartbeats 4000000 in
theorem Bq6 (hG:GX G) (e x y:Ex) (o:Nat) (hl:e.l= [x,y]) (ho:e.oper=o) (ho2:o<22) (hx:WrC Tryz.prog G 99 [.agg (dEx x)] (Ar x)) (hy:WrC Tryz.prog G 99 [.agg (dEx y)] (Ar y)):
  WrC Tryz.prog G 147 [.agg (dEx e)] (Dm x (Hf e)++((Bp o).map Bo++Dm y (Jz e))):=by
 intro B r ts H hB hlen hw;rw[List.length_append,List.length_append,List.length_map] at hlen;have hl0:=lx0 hl;have hl1:=lx1 hl;have hfl:=An Ah e.l;have hll:e.l.length=2:=by rw[hl];rfl
 have hwo:=Tc ho2;have hwl:(Cp4.map dW).length=22:=rfl;have hlv:=Bf8 e;have g0:e.l.getD 0 ex0=x:=by rw[hl];rfl
 have hx0:(e.l.flatMap dEx)[0]? =some (.int .u8 x.kind):=by rw[hl,List.flatMap_cons,Iz];rfl
 have hx1:(e.l.flatMap dEx)[1]? =some (.int .u8 x.oper):=by rw[hl,List.flatMap_cons,Iz];rfl
 refine Ad Tryz.func147 Tryz.call147 rfl (by kernel_rfl) ?_;simp(disch:=omega) only[go_sem,↓reduceIte,DVal.cells];intro r3 hr3;dsimp only at hr3;obtain⟨K,hK⟩: ∃K',K'=upd H r3 (some (.cells (dEx e) 27)):=⟨_,rfl⟩;rw[<-hK];have gr3:K r3=some (.cells (dEx e) 27):=by rw[hK];exact Aa _ _ _
 have hwK:WAt (upd B r3 (some (.cells (dEx e) 27))) r ts K:=by rw[hK];exact hw.frame hr3 _
 have n3:r≠r3:=hw.ne hr3;have hB3:B r3=none:=(hw.lo hr3).1;have hBK:upd B r3 (some (.cells (dEx e) 27)) r=none:=by rw[Ao _ _ _ _ n3];exact hB
 simp(disch:=omega) only[go_sem,↓reduceIte,gr3];refine(Jx G K e).mono ?_;rintro _ K1 ⟨rfl,rfl⟩;have hwl1:IntKind.i64.wrap (Cb e+1)=Cb e+1:=by rw[IntKind.wrap_i64];omega
 by_cases c1:Cb e=1
 ·have hL:Hf e=2:=by rw[Hf,if_pos c1]
  have hR:Jz e=2:=by rw[Jz,if_pos c1]
  rw[hL,hR] at hlen⊢
  simp(disch:=omega) only[go_sem,↓reduceIte,c1,hwl1];simp(disch:=omega) only[go_sem,↓reduceIte,gr3,hll,hl0,hfl];refine(Co hG x _ hx _ r _ _ hBK (by omega) hwK).mono ?_;rintro _ H1 ⟨rfl,h1⟩;have g3:=h1.keep (Aa _ _ _) n3.symm;simp(disch:=omega) only[go_sem,↓reduceIte];refine Aj (by kernel_rfl) (.take 0 (.take 2 (.take 3 (.go 1 [3] (.take 4 (.take 5 (.go 6 [] .done))))))) (by kernel_rfl) ?_;simp(disch:=omega) only[go_sem,↓reduceIte,g3];refine(Hd G H1).mono ?_;rintro _ K2 ⟨rfl,rfl⟩;simp(disch:=omega) only[go_sem,↓reduceIte,g3,ho,Jb,hwo,hwl,Int.toNat_natCast];refine(Hg hG (Bp o) _ r _ _ hBK (by rw[List.length_append,List.length_map];omega) h1).mono ?_;rintro _ H3 ⟨rfl,h3⟩;have g3':=h3.keep (Aa _ _ _) n3.symm;simp(disch:=omega) only[go_sem,↓reduceIte,g3',hll,hl1,hfl];refine(Co hG y _ hy _ r _ _ hBK (by rw[List.length_append,List.length_append,List.length_map];omega) h3).mono ?_;rintro _ H4 ⟨rfl,h4⟩;simp(disch:=omega) only[go_sem,↓reduceIte];refine Nu.refl ⟨rfl,?_⟩;have:=h4.drop hB3;rw[List.append_assoc,List.append_assoc] at this;exact this
 ·have hR:Jz e=Cb e+1:=by rw[Jz,if_neg c1]
  by_cases c0:Cb e=0
  ·have hR:Jz e=1:=by rw[Jz,if_neg c1,c0];rfl
   by_cases ck:x.kind=12
   ·by_cases co:x.oper=(o:Int)
    ·have hL:Hf e=0:=by rw[Hf,if_neg c1,g0,ho,if_neg (by rintro⟨_,a | a⟩;exact a ck;exact a co),c0]
     rw[hL,hR] at hlen⊢
     have c01: ¬(0:Int)=1:=by decide
     simp(disch:=omega) only[go_sem,↓reduceIte,c0,hwl1,c01];refine Aj (by kernel_rfl) (.take 0 (.take 1 (.take 2 (.take 3 (.take 4 (.take 5 (.take 6 (.take 7 (.take 8 (.take 9 (.take 10 (.take 11 (.take 12 (.take 13 (.take 14 (.take 15 (.take 16 (.take 17 (.take 18 (.take 19 (.take 20 .done))))))))))))))))))))) (by kernel_rfl) ?_;simp(disch:=omega) only[go_sem,↓reduceIte,gr3,hll,hfl,hx0,hx1,ck,co,ho];simp(disch:=omega) only[go_sem,↓reduceIte,gr3,hll,hl0,hfl];refine(Co hG x _ hx _ r _ _ hBK (by omega) hwK).mono ?_;rintro _ H1 ⟨rfl,h1⟩;have g3:=h1.keep (Aa _ _ _) n3.symm;simp(disch:=omega) only[go_sem,↓reduceIte];refine Aj (by kernel_rfl) (.take 0 (.take 2 (.take 3 (.go 1 [3] (.take 4 (.take 5 (.go 6 [] .done))))))) (by kernel_rfl) ?_;simp(disch:=omega) only[go_sem,↓reduceIte,g3];refine(Hd G H1).mono ?_;rintro _ K2 ⟨rfl,rfl⟩;simp(disch:=omega) only[go_sem,↓reduceIte,g3,ho,Jb,hwo,hwl,Int.toNat_natCast];refine(Hg hG (Bp o) _ r _ _ hBK (by rw[List.length_append,List.length_map];omega) h1).mono ?_;rintro _ H3 ⟨rfl,h3⟩;have g3':=h3.keep (Aa _ _ _) n3.symm;simp(disch:=omega) only[go_sem,↓reduceIte,g3',hll,hl1,hfl];refine(Co hG y _ hy _ r _ _ hBK (by rw[List.length_append,List.length_append,List.length_map];omega) h3).mono ?_;rintro _ H4 ⟨rfl,h4⟩;simp(disch:=omega) only[go_sem,↓reduceIte];refine Nu.refl ⟨rfl,?_⟩;have:=h4.drop hB3;rw[List.append_assoc,List.append_assoc] at this;exact this
    ·have hL:Hf e=1:=by rw[Hf,if_neg c1,g0,ho,if_pos ⟨c0, .inr co⟩]
     rw[hL,hR] at hlen⊢
     simp(disch:=omega) only[go_sem,↓reduceIte,c0,hwl1];refine Aj (by kernel_rfl) (.take 0 (.take 1 (.take 2 (.take 3 (.take 4 (.take 5 (.take 6 (.take 7 (.take 8 (.take 9 (.take 10 (.take 11 (.take 12 (.take 13 (.take 14 (.take 15 (.take 16 (.take 17 (.take 18 (.take 19 (.take 20 .done))))))))))))))))))))) (by kernel_rfl) ?_;simp(disch:=omega) only[go_sem,↓reduceIte,gr3,hll,hfl,hx0,hx1,ck,co,ho];simp(disch:=omega) only[go_sem,↓reduceIte,gr3,hll,hl0,hfl];refine(Co hG x _ hx _ r _ _ hBK (by omega) hwK).mono ?_;rintro _ H1 ⟨rfl,h1⟩;have g3:=h1.keep (Aa _ _ _) n3.symm;simp(disch:=omega) only[go_sem,↓reduceIte];refine Aj (by kernel_rfl) (.take 0 (.take 2 (.take 3 (.go 1 [3] (.take 4 (.take 5 (.go 6 [] .done))))))) (by kernel_rfl) ?_;simp(disch:=omega) only[go_sem,↓reduceIte,g3];refine(Hd G H1).mono ?_;rintro _ K2 ⟨rfl,rfl⟩;simp(disch:=omega) only[go_sem,↓reduceIte,g3,ho,Jb,hwo,hwl,Int.toNat_natCast];refine(Hg hG (Bp o) _ r _ _ hBK (by rw[List.length_append,List.length_map];omega) h1).mono ?_;rintro _ H3 ⟨rfl,h3⟩;have g3':=h3.keep (Aa _ _ _) n3.symm;simp(disch:=omega) only[go_sem,↓reduceIte,g3',hll,hl1,hfl];refine(Co hG y _ hy _ r _ _ hBK (by rw[List.length_append,List.length_append,List.length_map];omega) h3).mono ?_;rintro _ H4 ⟨rfl,h4⟩;simp(disch:=omega) only[go_sem,↓reduceIte];refine Nu.refl ⟨rfl,?_⟩;have:=h4.drop hB3;rw[List.append_assoc,List.append_assoc] at this;exact this
   ·have hL:Hf e=1:=by rw[Hf,if_neg c1,g0,ho,if_pos ⟨c0, .inl ck⟩]
    rw[hL,hR] at hlen⊢
    simp(disch:=omega) only[go_sem,↓reduceIte,c0,hwl1];refine Aj (by kernel_rfl) (.take 0 (.take 1 (.take 2 (.take 3 (.take 4 (.take 5 (.take 6 (.take 7 (.take 8 (.take 9 (.take 10 (.take 11 (.take 12 (.take 13 (.take 14 (.take 15 (.take 16 (.take 17 (.take 18 (.take 19 (.take 20 .done))))))))))))))))))))) (by kernel_rfl) ?_;simp(disch:=omega) only[go_sem,↓reduceIte,gr3,hll,hfl,hx0,hx1,ck,ho];simp(disch:=omega) only[go_sem,↓reduceIte,gr3,hll,hl0,hfl];refine(Co hG x _ hx _ r _ _ hBK (by omega) hwK).mono ?_;rintro _ H1 ⟨rfl,h1⟩;have g3:=h1.keep (Aa _ _ _) n3.symm;simp(disch:=omega) only[go_sem,↓reduceIte];refine Aj (by kernel_rfl) (.take 0 (.take 2 (.take 3 (.go 1 [3] (.take 4 (.take 5 (.go 6 [] .done))))))) (by kernel_rfl) ?_;simp(disch:=omega) only[go_sem,↓reduceIte,g3];refine(Hd G H1).mono ?_;rintro _ K2 ⟨rfl,rfl⟩;simp(disch:=omega) only[go_sem,↓reduceIte,g3,ho,Jb,hwo,hwl,Int.toNat_natCast];refine(Hg hG (Bp o) _ r _ _ hBK (by rw[List.length_append,List.length_map];omega) h1).mono ?_;rintro _ H3 ⟨rfl,h3⟩;have g3':=h3.keep (Aa _ _ _) n3.symm;simp(disch:=omega) only[go_sem,↓reduceIte,g3',hll,hl1,hfl];refine(Co hG y _ hy _ r _ _ hBK (by rw[List.length_append,List.length_append,List.length_map];omega) h3).mono ?_;rintro _ H4 ⟨rfl,h4⟩;simp(disch:=omega) only[go_sem,↓reduceIte];refine Nu.refl ⟨rfl,?_⟩;have:=h4.drop hB3;rw[List.append_assoc,List.append_assoc] at this;exact this
  ·have hL:Hf e=Cb e:=by rw[Hf,if_neg c1,if_neg (by rintro⟨a,_⟩;exact c0 a)]
   rw[hL,hR] at hlen⊢
   simp(disch:=omega) only[go_sem,↓reduceIte,c0,c1,hwl1];refine Aj (by kernel_rfl) (.take 0 (.take 1 (.take 2 (.take 3 (.take 4 (.take 5 (.take 6 (.take 7 (.take 8 (.take 9 (.take 10 (.take 11 (.take 12 (.take 13 (.take 14 (.take 15 (.take 16 (.take 17 (.take 18 (.take 19 (.take 20 .done))))))))))))))))))))) (by kernel_rfl) ?_;simp(disch:=omega) only[go_sem,↓reduceIte,gr3,hll,hfl,hx0,hx1,ho,c0];simp(disch:=omega) only[go_sem,↓reduceIte,gr3,hll,hl0,hfl];refine(Co hG x _ hx _ r _ _ hBK (by omega) hwK).mono ?_;rintro _ H1 ⟨rfl,h1⟩;have g3:=h1.keep (Aa _ _ _) n3.symm;simp(disch:=omega) only[go_sem,↓reduceIte];refine Aj (by kernel_rfl) (.take 0 (.take 2 (.take 3 (.go 1 [3] (.take 4 (.take 5 (.go 6 [] .done))))))) (by kernel_rfl) ?_;simp(disch:=omega) only[go_sem,↓reduceIte,g3];refine(Hd G H1).mono ?_;rintro _ K2 ⟨rfl,rfl⟩;simp(disch:=omega) only[go_sem,↓reduceIte,g3,ho,Jb,hwo,hwl,Int.toNat_natCast];refine(Hg hG (Bp o) _ r _ _ hBK (by rw[List.length_append,List.length_map];omega) h1).mono ?_;rintro _ H3 ⟨rfl,h3⟩;have g3':=h3.keep (Aa _ _ _) n3.symm;simp(disch:=omega) only[go_sem,↓reduceIte,g3',hll,hl1,hfl];refine(Co hG y _ hy _ r _ _ hBK (by rw[List.length_append,List.length_append,List.length_map];omega) h3).mono ?_;rintro _ H4 ⟨rfl,h4⟩;simp(disch:=omega) only[go_sem,↓reduceIte];refine Nu.refl ⟨rfl,?_⟩;have:=h4.drop hB3;rw[List.append_assoc,List.append_assoc] at this;exact this
set_option maxHeartbeats 4000000 in
theorem Vm (hG:GX G) (e x:Ex) (ws:List (List UInt8)) (hl:(∃y z,e.l= [x,y,z])\/ ∃y,e.l= [x,y]) (hp: ∀y∈e.l,WrC Tryz.prog G 99 [.agg (dEx y)] (Ar y)):
  WrC Tryz.prog G 148 [.agg (dEx e),dW ws] (Dm x 2++(ws.map Bo++Nf e)):=by
 intro B r ts H hB hlen hw;rw[List.length_append,List.length_append,List.length_map] at hlen;have hx:WrC Tryz.prog G 99 [.agg (dEx x)] (Ar x):=hp x (by rcases hl with⟨y,z,hl⟩ | ⟨y,hl⟩<;>(rw[hl];simp));have hl0:(e.l.flatMap dEx).take 9=dEx x:=by rcases hl with⟨y,z,hl⟩ | ⟨y,hl⟩<;>exact lx0 hl
 have hfl:=An Ah e.l;have hlp:0<e.l.length:=by rcases hl with⟨y,z,hl⟩ | ⟨y,hl⟩<;>(rw[hl];simp)
 refine Ad Tryz.func148 Tryz.call148 rfl (by kernel_rfl) ?_;simp(disch:=omega) only[go_sem,↓reduceIte,DVal.cells];intro r4 hr4;dsimp only at hr4;obtain⟨K,hK⟩: ∃K',K'=upd H r4 (some (.cells (dEx e) 27)):=⟨_,rfl⟩;rw[<-hK];have gr4:K r4=some (.cells (dEx e) 27):=by rw[hK];exact Aa _ _ _
 have hwK:WAt (upd B r4 (some (.cells (dEx e) 27))) r ts K:=by rw[hK];exact hw.frame hr4 _
 have n4:r≠r4:=hw.ne hr4;have hB4:B r4=none:=(hw.lo hr4).1;have hBK:upd B r4 (some (.cells (dEx e) 27)) r=none:=by rw[Ao _ _ _ _ n4];exact hB
 rcases hl with⟨y,z,hl⟩ | ⟨y,hl⟩
 ·have hll:e.l.length=3:=by rw[hl];rfl
  have hl1:=lx1 hl;have hl2:=lx2 hl;have ht:Nf e=Dm y 2++Bo Dz::Dm z 2:=by unfold Nf pE tE;rw[hl];rfl
  rw[ht] at hlen⊢
  simp(disch:=omega) only[go_sem,↓reduceIte,gr4,hl0,hfl,hlp];refine(Co hG x _ hx _ r _ _ hBK (by omega) hwK).mono ?_;rintro _ H1 ⟨rfl,h1⟩;simp(disch:=omega) only[go_sem,↓reduceIte];refine(Hg hG ws _ r _ _ hBK (by rw[List.length_append,List.length_map];omega) h1).mono ?_;rintro _ H2 ⟨rfl,h2⟩;have g2:=h2.keep (Aa _ _ _) n4.symm;simp(disch:=omega) only[go_sem,↓reduceIte,g2,hll];refine Aj (by kernel_rfl) (.take 0 (.take 1 (.take 2 (.take 3 (.take 4 (.take 5 (.take 6 (.take 7 (.take 8 (.go 9 [] .done)))))))))) (by kernel_rfl) ?_;simp(disch:=omega) only[go_sem,↓reduceIte,g2,hll,hl1,hl2,hfl];refine(Vl hG y z (hp y (by rw[hl];simp)) (hp z (by rw[hl];simp)) _ r _ _ hBK (by rw[List.length_append,List.length_append,List.length_map];omega) h2).mono ?_;rintro _ H4 ⟨rfl,h4⟩;simp(disch:=omega) only[go_sem,↓reduceIte];refine Nu.refl ⟨rfl,?_⟩;have:=h4.drop hB4;rw[List.append_assoc,List.append_assoc] at this;exact this
 ·have hll:e.l.length=2:=by rw[hl];rfl
  have hl1:=lx1 hl;have ht:Nf e=Ar y:=by unfold Nf pE tE;rw[hl];rfl
  rw[ht] at hlen⊢
  simp(disch:=omega) only[go_sem,↓reduceIte,gr4,hl0,hfl,hlp];refine(Co hG x _ hx _ r _ _ hBK (by omega) hwK).mono ?_;rintro _ H1 ⟨rfl,h1⟩;simp(disch:=omega) only[go_sem,↓reduceIte];refine(Hg hG ws _ r _ _ hBK (by rw[List.length_append,List.length_map];omega) h1).mono ?_;rintro _ H2 ⟨rfl,h2⟩;have g2:=h2.keep (Aa _ _ _) n4.symm;simp(disch:=omega) only[go_sem,↓reduceIte,g2,hll,hl1,hfl];refine(hp y (by rw[hl];simp) _ r _ _ hBK (by rw[List.length_append,List.length_append,List.length_map];omega) h2).mono ?_;rintro _ H4 ⟨rfl,h4⟩;simp(disch:=omega) only[go_sem,↓reduceIte];refine Nu.refl ⟨rfl,?_⟩;have:=h4.drop hB4;rw[List.append_assoc,List.append_assoc] at this;exact this
set_option maxHeartbeats 4000000 in
theorem Aw0 (hG:GX G) (c:Ch) {n:Nat} (hc:Cr n c=true) (hp: ∀y∈c.l,WrC Tryz.prog G 99 [.agg (dEx y)] (Ar y)):WrC Tryz.prog G 164 [.agg (dCh c)] (Ij c):=by
 intro B r ts H hB hlen hw;have hfl:=An Ah c.l;unfold Cr at hc;refine Ad Tryz.func164 Tryz.call164 rfl (by kernel_rfl) ?_;simp(disch:=omega) only[go_sem,↓reduceIte,DVal.cells];intro r3 hr3;dsimp only at hr3;obtain⟨K,hK⟩: ∃K',K'=upd H r3 (some (.cells (dCh c) 47)):=⟨_,rfl⟩;rw[<-hK];have gr3:K r3=some (.cells (dCh c) 47):=by rw[hK];exact Aa _ _ _
 have hwK:WAt (upd B r3 (some (.cells (dCh c) 47))) r ts K:=by rw[hK];exact hw.frame hr3 _
 have n3:r≠r3:=hw.ne hr3;have hB3:B r3=none:=(hw.lo hr3).1;have hBK:upd B r3 (some (.cells (dCh c) 47)) r=none:=by rw[Ao _ _ _ _ n3];exact hB
 by_cases c1:c.kind=1
 ·rw[if_pos c1,decide_eq_true_eq] at hc;obtain⟨x,hx⟩:=Dc5 hc;have hl0:=lx0 hx;have ht:Ij c=Ar x:=by rw[Oe,if_pos c1,hx];rfl
  rw[ht] at hlen⊢
  simp(disch:=omega) only[go_sem,↓reduceIte,gr3,c1,hc,hl0,hfl];refine(hp x (by rw[hx];simp) _ r _ _ hBK hlen hwK).mono ?_;rintro _ H4 ⟨rfl,h4⟩;simp(disch:=omega) only[go_sem,↓reduceIte];exact Nu.refl ⟨rfl,h4.drop hB3⟩
 ·rw[if_neg c1] at hc;by_cases c2:c.kind=2
  ·rw[if_pos c2,decide_eq_true_eq] at hc;obtain⟨x,y,hx⟩:=Cs2 hc;have hl0:=lx0 hx;have hl1:=lx1 hx;have ht:Ij c=Dm x 2++Bo Dz::Dm y 2:=by rw[Oe,if_neg c1,if_pos c2,hx];rfl
   rw[ht] at hlen⊢
   simp(disch:=omega) only[go_sem,↓reduceIte,gr3,c2];refine Aj (by kernel_rfl) (.take 0 (.take 1 (.take 2 (.take 3 (.take 4 (.take 5 (.take 6 (.take 7 (.take 8 (.go 9 [] .done)))))))))) (by kernel_rfl) ?_;simp(disch:=omega) only[go_sem,↓reduceIte,gr3,hc,hl0,hl1,hfl];refine(Vl hG x y (hp x (by rw[hx];simp)) (hp y (by rw[hx];simp)) _ r _ _ hBK hlen hwK).mono ?_;rintro _ H4 ⟨rfl,h4⟩;simp(disch:=omega) only[go_sem,↓reduceIte];exact Nu.refl ⟨rfl,h4.drop hB3⟩
  ·have ht:Ij c= [Bo Ff]:=by rw[Oe,if_neg c1,if_neg c2]
   rw[ht] at hlen⊢
   simp(disch:=omega) only[go_sem,↓reduceIte,gr3,c1,c2];intro q1 hq1;dsimp only at hq1;simp(disch:=omega) only[go_sem,↓reduceIte];refine(Mm hG Ff hq1 hBK hlen hwK).mono ?_;rintro _ H1 ⟨rfl,h1⟩;simp(disch:=omega) only[go_sem,↓reduceIte];exact Nu.refl ⟨rfl,h1.drop hB3⟩
end
end Go.Dl

-- Chapter 3: the package's writer: lists, associations.
namespace Go.Dl
open Go Go.Proofs
set_option maxRecDepth 100000
theorem Cg0 {α:Type} {l:List α} {j:Nat} (h:j<l.length):l.take (j+1)=l.take j++ [l[j]]:=by rw[List.take_add_one,List.getElem?_eq_getElem h];rfl
theorem Xj {α:Type} (g:α->List Tok) (s:List UInt8) (l:List α) (j:Nat) (h:j<l.length):Ib s ((l.take (j+1)).map g)=Ib s ((l.take j).map g)++((if j=0 then [] else [Bo s])++g l[j]):=by
 rw[Cg0 h,List.map_append,List.map_singleton];by_cases c:j=0
 ·subst c;simp [Ib]
 ·rw[Ap1 s _ _ (by cases l with
   | nil=>simp at h
   | cons x l=>cases j with
    | zero=>exact absurd rfl c
    | succ j=>simp),if_neg c];rfl
theorem Ap4 {α:Type} (g:α->List Tok) (s:List UInt8) (l:List α): ∀(n j:Nat),j+n<=l.length->(Ib s ((l.take j).map g)).length<=(Ib s ((l.take (j+n)).map g)).length
 | 0,j,_=>Nat.le_refl _
 | n+1,j,h=>by
  rw[<-Nat.add_assoc,Xj g s l (j+n) (by omega),List.length_append];have:=Ap4 g s l n j (by omega);omega
theorem Bw5 {α:Type} (g:α->List Tok) (s:List UInt8) (l:List α) (j:Nat) (h:j<=l.length):(Ib s ((l.take j).map g)).length<=(Ib s (l.map g)).length:=by
 have:=Ap4 g s l (l.length-j) j (by omega);rw[Nat.add_sub_cancel' h,List.take_length] at this;exact this
section
variable {G:Nat->DVal}
set_option maxHeartbeats 4000000 in
theorem Bg1 (hG:GX G) (l:List Ch) (s:List UInt8) (hll:l.length<=1000000000) (hp: ∀c∈l,WrC Tryz.prog G 164 [.agg (dCh c)] (Ij c)) (B:Ac) (r:Nat) (ts:List Tok) (H:Ac) (hB:B r=none) (hlen:ts.length+(Ib s (l.map Ij)).length<=1000000000) (hw:WAt B r ts H):
  Ai Tryz.prog G 163 [.optr r 0,dCl l, .str s, .func (.func 164) [.optr r 0] []] H (WQ B r (ts++Ib s (l.map Ij))):=by
 refine Ad Tryz.func163 Tryz.call163 rfl (by kernel_rfl) ?_;simp(disch:=omega) only[go_sem,↓reduceIte,dCl];obtain⟨I,hI⟩: ∃I:Nat->(Nat->DVal)->Ac->Prop,∀j env heap,I j env heap↔(env 0= .optr r 0/\env 2= .str s/\env 3= .func (.func 164) [.optr r 0] []/\env 10=dCl l/\env 11=dI l.length/\env 12=dI j/\j<=l.length/\WAt B r (ts++Ib s ((l.take j).map Ij)) heap):=⟨_,fun _ _ _=>Iff.rfl⟩;refine Bt4.run I (fun j=>l.length-j) 0 ((hI _ _ _).2 ?_) ?_
 ·simp(disch:=omega) only[go_sem,↓reduceIte];(repeat' apply And.intro)<;>(try first | rfl | assumption | omega);simpa [Ib] using hw
 ·intro j env heap hi;obtain⟨e0,e2,e3,e10,e11,e12,hj,hwj⟩:=(hI _ _ _).1 hi;by_cases hlt:j<l.length
  ·have hlt':(j:Int)<(l.length:Int):=by omega
   have hw1:IntKind.i64.wrap ((j:Int)+1)=((j+1:Nat):Int):=by rw[IntKind.wrap_i64];omega
   have hget:=Bt Bd l j hlt;have hfl:=An Bd l;have htk:=Xj Ij s l j hlt;have hle:=Bw5 Ij s l (j+1) hlt;have hpc:=hp l[j] (List.getElem_mem hlt);obtain⟨c,hce⟩: ∃c,c=l[j]:=⟨_,rfl⟩;rw[<-hce] at hget htk hpc;rw[htk,List.length_append,List.length_append] at hle;simp(disch:=omega) only[go_sem,↓reduceIte,e0,e2,e3,e10,e11,e12,hlt',dCl,hget,hfl,Int.toNat_natCast];intro r9 hr9;dsimp only at hr9;simp(disch:=omega) only[go_sem,↓reduceIte,e0,e2,e3,e10,e11,e12];obtain⟨K,hK⟩: ∃K',K'=upd heap r9 (some (.cells (dCh c) 47)):=⟨_,rfl⟩;rw[<-hK];have gr9:K r9=some (.cells (dCh c) 47):=by rw[hK];exact Aa _ _ _
   have hwK:WAt (upd B r9 (some (.cells (dCh c) 47))) r (ts++Ib s ((l.take j).map Ij)) K:=by rw[hK];exact hwj.frame hr9 _
   have n9:r≠r9:=hwj.ne hr9;have hB9:B r9=none:=(hwj.lo hr9).1;have hBK:upd B r9 (some (.cells (dCh c) 47)) r=none:=by rw[Ao _ _ _ _ n9];exact hB
   by_cases c0:j=0
   ·have c0': ¬(j:Int)>0:=by omega
    have c0'': ¬(0:Int)<(j:Int):=by omega
    rw[if_pos c0] at htk hle;simp(disch:=omega) only[go_sem,↓reduceIte,e0,e2,e3,e10,e11,e12,gr9,c0',c0''];refine(hpc _ r _ _ hBK (by rw[List.length_append];simp only[List.length_nil] at hle;omega) hwK).mono ?_;rintro _ H2 ⟨rfl,h2⟩;simp(disch:=omega) only[go_sem,↓reduceIte,e0,e2,e3,e10,e11,e12];refine⟨j+1,_,Ni.refl _,(hI _ _ _).2 ?_,by omega⟩;simp(disch:=omega) only[go_sem,↓reduceIte,e0,e2,e3,e10,e11,e12,hw1];(repeat' apply And.intro)<;>(try first | rfl | assumption | omega);have:=h2.drop hB9;rw[htk,List.nil_append,<-List.append_assoc];exact this
   ·have c0'':(0:Int)<(j:Int):=by omega
    rw[if_neg c0] at htk hle;simp only[List.length_singleton] at hle;simp(disch:=omega) only[go_sem,↓reduceIte,e0,e2,e3,e10,e11,e12,gr9,c0''];intro q1 hq1;dsimp only at hq1;simp(disch:=omega) only[go_sem,↓reduceIte,e0,e2,e3,e10,e11,e12];refine(Mm hG s hq1 hBK (by rw[List.length_append];omega) hwK).mono ?_;rintro _ H1 ⟨rfl,h1⟩;have g1:=h1.keep (Aa _ _ _) n9.symm;simp(disch:=omega) only[go_sem,↓reduceIte,e0,e2,e3,e10,e11,e12,g1];refine(hpc _ r _ _ hBK (by rw[List.length_append,List.length_append,List.length_singleton];omega) h1).mono ?_;rintro _ H2 ⟨rfl,h2⟩;simp(disch:=omega) only[go_sem,↓reduceIte,e0,e2,e3,e10,e11,e12];refine⟨j+1,_,Ni.refl _,(hI _ _ _).2 ?_,by omega⟩;simp(disch:=omega) only[go_sem,↓reduceIte,e0,e2,e3,e10,e11,e12,hw1];(repeat' apply And.intro)<;>(try first | rfl | assumption | omega);have:=h2.drop hB9;rw[htk,<-List.append_assoc,<-List.append_assoc];exact this
  ·have:j=l.length:=by omega
   subst this;have hlt': ¬(l.length:Int)<(l.length:Int):=by omega
   rw[List.take_length] at hwj;simp(disch:=omega) only[go_sem,↓reduceIte,e0,e2,e3,e10,e11,e12,hlt'];exact Nu.refl ⟨rfl,hwj⟩
set_option maxHeartbeats 4000000 in
theorem Yq (hG:GX G) (l:List As) (s:List UInt8) (hll:l.length<=1000000000) (hp: ∀c∈l,WrC Tryz.prog G 145 [.agg (dAs c)] (Jc c)) (B:Ac) (r:Nat) (ts:List Tok) (H:Ac) (hB:B r=none) (hlen:ts.length+(Ib s (l.map Jc)).length<=1000000000) (hw:WAt B r ts H):
  Ai Tryz.prog G 144 [.optr r 0,dAl l, .str s, .func (.func 145) [.optr r 0] []] H (WQ B r (ts++Ib s (l.map Jc))):=by
 refine Ad Tryz.func144 Tryz.call144 rfl (by kernel_rfl) ?_;simp(disch:=omega) only[go_sem,↓reduceIte,dAl];obtain⟨I,hI⟩: ∃I:Nat->(Nat->DVal)->Ac->Prop,∀j env heap,I j env heap↔(env 0= .optr r 0/\env 2= .str s/\env 3= .func (.func 145) [.optr r 0] []/\env 10=dAl l/\env 11=dI l.length/\env 12=dI j/\j<=l.length/\WAt B r (ts++Ib s ((l.take j).map Jc)) heap):=⟨_,fun _ _ _=>Iff.rfl⟩;refine Bt4.run I (fun j=>l.length-j) 0 ((hI _ _ _).2 ?_) ?_
 ·simp(disch:=omega) only[go_sem,↓reduceIte];(repeat' apply And.intro)<;>(try first | rfl | assumption | omega);simpa [Ib] using hw
 ·intro j env heap hi;obtain⟨e0,e2,e3,e10,e11,e12,hj,hwj⟩:=(hI _ _ _).1 hi;by_cases hlt:j<l.length
  ·have hlt':(j:Int)<(l.length:Int):=by omega
   have hw1:IntKind.i64.wrap ((j:Int)+1)=((j+1:Nat):Int):=by rw[IntKind.wrap_i64];omega
   have hget:=Bt Bi l j hlt;have hfl:=An Bi l;have htk:=Xj Jc s l j hlt;have hle:=Bw5 Jc s l (j+1) hlt;have hpc:=hp l[j] (List.getElem_mem hlt);obtain⟨c,hce⟩: ∃c,c=l[j]:=⟨_,rfl⟩;rw[<-hce] at hget htk hpc;rw[htk,List.length_append,List.length_append] at hle;simp(disch:=omega) only[go_sem,↓reduceIte,e0,e2,e3,e10,e11,e12,hlt',dAl,hget,hfl,Int.toNat_natCast];intro r9 hr9;dsimp only at hr9;simp(disch:=omega) only[go_sem,↓reduceIte,e0,e2,e3,e10,e11,e12];obtain⟨K,hK⟩: ∃K',K'=upd heap r9 (some (.cells (dAs c) 44)):=⟨_,rfl⟩;rw[<-hK];have gr9:K r9=some (.cells (dAs c) 44):=by rw[hK];exact Aa _ _ _
   have hwK:WAt (upd B r9 (some (.cells (dAs c) 44))) r (ts++Ib s ((l.take j).map Jc)) K:=by rw[hK];exact hwj.frame hr9 _
   have n9:r≠r9:=hwj.ne hr9;have hB9:B r9=none:=(hwj.lo hr9).1;have hBK:upd B r9 (some (.cells (dAs c) 44)) r=none:=by rw[Ao _ _ _ _ n9];exact hB
   by_cases c0:j=0
   ·have c0': ¬(j:Int)>0:=by omega
    have c0'': ¬(0:Int)<(j:Int):=by omega
    rw[if_pos c0] at htk hle;simp(disch:=omega) only[go_sem,↓reduceIte,e0,e2,e3,e10,e11,e12,gr9,c0',c0''];refine(hpc _ r _ _ hBK (by rw[List.length_append];simp only[List.length_nil] at hle;omega) hwK).mono ?_;rintro _ H2 ⟨rfl,h2⟩;simp(disch:=omega) only[go_sem,↓reduceIte,e0,e2,e3,e10,e11,e12];refine⟨j+1,_,Ni.refl _,(hI _ _ _).2 ?_,by omega⟩;simp(disch:=omega) only[go_sem,↓reduceIte,e0,e2,e3,e10,e11,e12,hw1];(repeat' apply And.intro)<;>(try first | rfl | assumption | omega);have:=h2.drop hB9;rw[htk,List.nil_append,<-List.append_assoc];exact this
   ·have c0'':(0:Int)<(j:Int):=by omega
    rw[if_neg c0] at htk hle;simp only[List.length_singleton] at hle;simp(disch:=omega) only[go_sem,↓reduceIte,e0,e2,e3,e10,e11,e12,gr9,c0''];intro q1 hq1;dsimp only at hq1;simp(disch:=omega) only[go_sem,↓reduceIte,e0,e2,e3,e10,e11,e12];refine(Mm hG s hq1 hBK (by rw[List.length_append];omega) hwK).mono ?_;rintro _ H1 ⟨rfl,h1⟩;have g1:=h1.keep (Aa _ _ _) n9.symm;simp(disch:=omega) only[go_sem,↓reduceIte,e0,e2,e3,e10,e11,e12,g1];refine(hpc _ r _ _ hBK (by rw[List.length_append,List.length_append,List.length_singleton];omega) h1).mono ?_;rintro _ H2 ⟨rfl,h2⟩;simp(disch:=omega) only[go_sem,↓reduceIte,e0,e2,e3,e10,e11,e12];refine⟨j+1,_,Ni.refl _,(hI _ _ _).2 ?_,by omega⟩;simp(disch:=omega) only[go_sem,↓reduceIte,e0,e2,e3,e10,e11,e12,hw1];(repeat' apply And.intro)<;>(try first | rfl | assumption | omega);have:=h2.drop hB9;rw[htk,<-List.append_assoc,<-List.append_assoc];exact this
  ·have:j=l.length:=by omega
   subst this;have hlt': ¬(l.length:Int)<(l.length:Int):=by omega
   rw[List.take_length] at hwj;simp(disch:=omega) only[go_sem,↓reduceIte,e0,e2,e3,e10,e11,e12,hlt'];exact Nu.refl ⟨rfl,hwj⟩
end
end Go.Dl

-- Chapter 3: the package's writer: associations; all expressions.
namespace Go.Dl
open Go Go.Proofs
set_option maxRecDepth 100000
section
variable {G:Nat->DVal}
set_option maxHeartbeats 4000000 in
theorem Yr (hG:GX G) (a:As) (hc:a.c= []\/(a.c.length<=1000000000/\ ∃n,∀c∈a.c,Cr n c=true)) (hp: ∀y∈Bw a,WrC Tryz.prog G 99 [.agg (dEx y)] (Ar y)):WrC Tryz.prog G 145 [.agg (dAs a)] (Jc a):=by
 intro B r ts H hB hlen hw;have he:=hp a.e (La a);have hae:((dAs a).drop 1).take 9=dEx a.e:=by rw[Sy,List.drop_succ_cons,List.drop_zero,List.take_of_length_le (by rw[Ah];omega)]
 refine Ad Tryz.func145 Tryz.call145 rfl (by kernel_rfl) ?_;simp(disch:=omega) only[go_sem,↓reduceIte,DVal.cells];intro r3 hr3;dsimp only at hr3;obtain⟨K,hK⟩: ∃K',K'=upd H r3 (some (.cells (dAs a) 44)):=⟨_,rfl⟩;rw[<-hK];have gr3:K r3=some (.cells (dAs a) 44):=by rw[hK];exact Aa _ _ _
 have hwK:WAt (upd B r3 (some (.cells (dAs a) 44))) r ts K:=by rw[hK];exact hw.frame hr3 _
 have n3:r≠r3:=hw.ne hr3;have hB3:B r3=none:=(hw.lo hr3).1;have hBK:upd B r3 (some (.cells (dAs a) 44)) r=none:=by rw[Ao _ _ _ _ n3];exact hB
 by_cases c0:a.c= []
 ·have ht:Jc a=Ar a.e:=by rw[Vf,c0];rfl
  have hll:a.c.length=0:=by rw[c0];rfl
  have c0': ¬(0:Int)<((0:Nat):Int):=by omega
  rw[ht] at hlen⊢
  simp(disch:=omega) only[go_sem,↓reduceIte,gr3,hll,c0',hae];refine(he _ r _ _ hBK hlen hwK).mono ?_;rintro _ H1 ⟨rfl,h1⟩;simp(disch:=omega) only[go_sem,↓reduceIte];exact Nu.refl ⟨rfl,h1.drop hB3⟩
 ·obtain⟨hcl,n,hcr⟩:=hc.resolve_left c0;have hlp:0<a.c.length:=List.length_pos_iff.2 c0;have hlp':(0:Int)<(a.c.length:Int):=by omega
  have ht:Jc a=Ib Dk (a.c.map Ij)++Bo Ap::Ar a.e:=by
   rw[Vf,if_neg];simpa using c0
  rw[ht] at hlen⊢
  rw[List.length_append,List.length_cons] at hlen;simp(disch:=omega) only[go_sem,↓reduceIte,gr3,hlp'];refine(Bg1 hG a.c Dk hcl (fun c hc=>Aw0 hG c (hcr c hc) fun y hy=>hp y (Up hc hy)) _ r _ _ hBK (by omega) hwK).mono ?_;rintro _ H1 ⟨rfl,h1⟩;simp(disch:=omega) only[go_sem,↓reduceIte];intro q1 hq1;dsimp only at hq1;simp(disch:=omega) only[go_sem,↓reduceIte];refine(Mm hG Ap hq1 hBK (by rw[List.length_append];omega) h1).mono ?_;rintro _ H2 ⟨rfl,h2⟩;have g2:=h2.keep (Aa _ _ _) n3.symm;simp(disch:=omega) only[go_sem,↓reduceIte,g2,hae];refine(he _ r _ _ hBK (by rw[List.length_append,List.length_append,List.length_singleton];omega) h2).mono ?_;rintro _ H3 ⟨rfl,h3⟩;simp(disch:=omega) only[go_sem,↓reduceIte];refine Nu.refl ⟨rfl,?_⟩;have:=h3.drop hB3;rw[List.append_assoc,List.append_assoc] at this;exact this
theorem Aw1 {a:As} (h:(a.c.isEmpty || Bu a.c)=true):a.c= []\/(a.c.length<=1000000000/\ ∃n,∀c∈a.c,Cr n c=true):=by
 cases hc:a.c with
 | nil=>exact .inl rfl
 | cons c r=>
  rw[hc] at h
  cases r with
  | nil=>
   simp only[Bu,List.isEmpty_cons,Bool.false_or,Bool.and_eq_true,decide_eq_true_eq] at h
   refine .inr ⟨by simp,1,fun d hd=> ?_⟩
   rw[List.mem_singleton] at hd
   subst hd
   rw[Cr,if_pos h.1,decide_eq_true_eq]
   match hl:d.l with
   | [x]=>rfl
   | []=>rw[hl] at h;cases h.2
   | _::_::_=>rw[hl] at h;cases h.2
  | cons d r=>simp [Bu] at h
theorem Bg2 {a:As} (h:(a.c.isEmpty || Cq a.c)=true):a.c= []\/(a.c.length<=1000000000/\ ∃n,∀c∈a.c,Cr n c=true):=by
 cases hc:a.c with
 | nil=>exact .inl rfl
 | cons c r=>
  rw[hc] at h;simp only[List.isEmpty_cons,Bool.false_or,Cq,Bool.and_eq_true,decide_eq_true_eq,List.all_eq_true] at h;exact .inr ⟨by omega,_,h.2⟩
def ifT (x y z:Ex):Nat->List Tok
 | 0=> []
 | 1=>Bo Ce::Bo wIf::Ar x
 | 2=>Bo Ce::Bo wIf::(Ar x++Bo Ji::Ar y)
 | _=>Bo Ce::Bo wIf::(Ar x++Bo Ji::(Ar y++Bo Kj::Ar z))
set_option maxHeartbeats 8000000 in
theorem Bq7 (hG:GX G) (e:Ex) (hf:Af e=true) (ih: ∀x∈parts e,WrC Tryz.prog G 99 [.agg (dEx x)] (Ar x)):WrC Tryz.prog G 99 [.agg (dEx e)] (Ar e):=by
 intro B r ts H hB hlen hw;have hfl:=An Ah e.l;refine Ad Tryz.func99 Tryz.call99 rfl (by kernel_rfl) ?_;simp(disch:=omega) only[go_sem,↓reduceIte,DVal.cells];intro r3 hr3;dsimp only at hr3;obtain⟨K,hK⟩: ∃K',K'=upd H r3 (some (.cells (dEx e) 27)):=⟨_,rfl⟩;rw[<-hK];have gr3:K r3=some (.cells (dEx e) 27):=by rw[hK];exact Aa _ _ _
 have hwK:WAt (upd B r3 (some (.cells (dEx e) 27))) r ts K:=by rw[hK];exact hw.frame hr3 _
 have n3:r≠r3:=hw.ne hr3;have hB3:B r3=none:=(hw.lo hr3).1;have hBK:upd B r3 (some (.cells (dEx e) 27)) r=none:=by rw[Ao _ _ _ _ n3];exact hB
 simp(disch:=omega) only[go_sem,↓reduceIte,gr3];refine(Du G _ e).mono ?_;rintro _ K1 ⟨rfl,rfl⟩;by_cases hk:e.kind=1
 ·have hnm:Bc e=false:=by cases h:Bc e with | false=>rfl | true=>exact(Ti (by omega) h).elim
  rw[Df5 hk] at hlen⊢
  rw[hnm];simp(disch:=omega) only[go_sem,↓reduceIte,gr3,hk];refine Aj (by kernel_rfl) (.take 0 (.take 1 (.take 2 (.take 3 (.take 4 (.take 5 (.take 6 (.take 7 (.go 8 [4] (.go 9 [] (.take 10 (.take 11 (.go 12 [] .done))))))))))))) (by kernel_rfl) ?_;obtain⟨v,hv⟩:=hwK;have gr:=hv.keep (Aa _ _ _);simp(disch:=omega) only[go_sem,↓reduceIte,gr3,gr];intro r6 hr6;dsimp only at hr6;have n6:r≠r6:=Ae hr6 gr;have m6:=n6.symm;have hv6:=hv.new hr6 (some (.cells (Ec (Bw2 e.n)) 31));simp(disch:=omega) only[go_sem,↓reduceIte,gr,n6,m6];refine Dj.append (m:=1) hv6 rfl (by rw[List.length_singleton] at hlen;omega) fun v2 H6 hv2=> ?_;have g6:=hv2.keep (Aa _ _ _);obtain⟨j1,j2⟩:=hv2.cell1;simp(disch:=omega) only[go_sem,↓reduceIte,g6,j1,j2];have h7:WAt (upd B r3 (some (.cells (dEx e) 27))) r (ts++ [Bw2 e.n]) (upd H6 r (some (.cells [v2] 122))):=by
   refine⟨v2,?_⟩;have hv3:=hv2.at (Aa _ _ _) (some (.cells [v2] 122));rw[Da] at hv3;rw[Pq,List.length_append,List.length_singleton];exact hv3
  exact Nu.refl ⟨rfl,h7.drop hB3⟩
 have z1:=hk;clear hk;by_cases hk:e.kind=2
 ·have hnm:Bc e=false:=by cases h:Bc e with | false=>rfl | true=>exact(Ti (by omega) h).elim
  rw[Df6 hk] at hlen⊢
  rw[hnm];simp(disch:=omega) only[go_sem,↓reduceIte,gr3,hk];intro q1 hq1;dsimp only at hq1;simp(disch:=omega) only[go_sem,↓reduceIte,hk];refine(Mm hG Sb hq1 hBK (by(try simp only[List.length_append,List.length_cons,List.length_nil,List.length_map]);omega) hwK).mono ?_;rintro _ H1 ⟨rfl,h1⟩;have g1:=h1.keep (Aa _ _ _) n3.symm;simp(disch:=omega) only[go_sem,↓reduceIte];refine Nu.refl ⟨rfl,?_⟩;have:=h1.drop hB3
  (try simp only[List.append_assoc,List.cons_append,List.nil_append] at this⊢)
  exact this
 have z2:=hk;clear hk;by_cases hk:e.kind=3
 ·have hnm:Bc e=true:=Ap3 (by omega);rw[Df7 hk] at hlen⊢
  rw[hnm];simp(disch:=omega) only[go_sem,↓reduceIte,gr3,hk];refine(Th G e.s _ r _ _ hBK hlen hwK).mono ?_;rintro _ H1 ⟨rfl,h1⟩;simp(disch:=omega) only[go_sem,↓reduceIte];refine Nu.refl ⟨rfl,?_⟩;have:=h1.drop hB3
  (try simp only[List.append_assoc,List.cons_append,List.nil_append] at this⊢)
  exact this
 have z3:=hk;clear hk;by_cases hk:e.kind=4
 ·obtain⟨⟨x,hx,_⟩,_⟩:=Dc7 (.inl hk) hf;have ht:Ar e=Ar x++ [Bo Lb,Sd e.s]:=by rw[Df8 hk];unfold tE;rw[hx];rfl
  rw[ht,List.length_append] at hlen;rw[ht];simp only[List.length_cons,List.length_nil] at hlen;have hll:e.l.length=1:=by rw[hx];rfl
  have hfx:=lx0 hx;have hnm:Bc e=true:=Ap3 (by omega);rw[hnm];simp(disch:=omega) only[go_sem,↓reduceIte,gr3,hk,hll,hfl,hfx];refine(ih x (Cd (by rw[hx];simp)) _ r _ _ hBK (by omega) hwK).mono ?_;rintro _ H1 ⟨rfl,h1⟩;have g1:=h1.keep (Aa _ _ _) n3.symm;simp(disch:=omega) only[go_sem,↓reduceIte,g1,hk];intro q1 hq1;dsimp only at hq1;simp(disch:=omega) only[go_sem,↓reduceIte,hk];refine(Mm hG Lb hq1 hBK (by(try simp only[List.length_append,List.length_cons,List.length_nil,List.length_map]);omega) h1).mono ?_;rintro _ H2 ⟨rfl,h2⟩;have g2:=h2.keep (Aa _ _ _) n3.symm;simp(disch:=omega) only[go_sem,↓reduceIte,g2];refine(Th G e.s _ r _ _ hBK (by(try simp only[List.length_append,List.length_cons,List.length_nil,List.length_map]);omega) h2).mono ?_;rintro _ H3 ⟨rfl,h3⟩;simp(disch:=omega) only[go_sem,↓reduceIte];refine Nu.refl ⟨rfl,?_⟩;have:=h3.drop hB3
  (try simp only[List.append_assoc,List.cons_append,List.nil_append] at this⊢)
  exact this
 have z4:=hk;clear hk;by_cases hk:e.kind=5
 ·obtain⟨⟨x,hx,_⟩,_⟩:=ff5 hk hf;have ht:Ar e=Ar x++ [Bo Lb,Bo Wm]:=by rw[Df9 hk];unfold tE;rw[hx];rfl
  rw[ht,List.length_append] at hlen;rw[ht];simp only[List.length_cons,List.length_nil] at hlen;have hll:e.l.length=1:=by rw[hx];rfl
  have hfx:=lx0 hx;have hnm:Bc e=true:=Ap3 (by omega);rw[hnm];simp(disch:=omega) only[go_sem,↓reduceIte,gr3,hk,hll,hfl,hfx];refine(ih x (Cd (by rw[hx];simp)) _ r _ _ hBK (by omega) hwK).mono ?_;rintro _ H1 ⟨rfl,h1⟩;have g1:=h1.keep (Aa _ _ _) n3.symm;simp(disch:=omega) only[go_sem,↓reduceIte,g1,hk];intro q1 hq1;dsimp only at hq1;simp(disch:=omega) only[go_sem,↓reduceIte];refine(Dr6 hG Lb Wm hq1 hBK (by(try simp only[List.length_append,List.length_cons,List.length_nil,List.length_map]);omega) h1).mono ?_;rintro _ H2 ⟨rfl,h2⟩;simp(disch:=omega) only[go_sem,↓reduceIte];refine Nu.refl ⟨rfl,?_⟩;have:=h2.drop hB3
  (try simp only[List.append_assoc,List.cons_append,List.nil_append] at this⊢)
  exact this
 have z5:=hk;clear hk;by_cases hk:e.kind=6
 ·obtain⟨⟨x,hx,_⟩,_⟩:=Dc7 (.inr hk) hf;have ht:Ar e=Ar x++ [Bo Ga,Sd e.s]:=by rw[Dg0 hk];unfold tE;rw[hx];rfl
  rw[ht,List.length_append] at hlen;rw[ht];simp only[List.length_cons,List.length_nil] at hlen;have hll:e.l.length=1:=by rw[hx];rfl
  have hfx:=lx0 hx;have hnm:Bc e=true:=Ap3 (by omega);rw[hnm];simp(disch:=omega) only[go_sem,↓reduceIte,gr3,hk,hll,hfl,hfx];refine(ih x (Cd (by rw[hx];simp)) _ r _ _ hBK (by omega) hwK).mono ?_;rintro _ H1 ⟨rfl,h1⟩;have g1:=h1.keep (Aa _ _ _) n3.symm;simp(disch:=omega) only[go_sem,↓reduceIte,g1,hk];intro q1 hq1;dsimp only at hq1;simp(disch:=omega) only[go_sem,↓reduceIte,hk];refine(Mm hG Ga hq1 hBK (by(try simp only[List.length_append,List.length_cons,List.length_nil,List.length_map]);omega) h1).mono ?_;rintro _ H2 ⟨rfl,h2⟩;have g2:=h2.keep (Aa _ _ _) n3.symm;simp(disch:=omega) only[go_sem,↓reduceIte,g2];refine(Th G e.s _ r _ _ hBK (by(try simp only[List.length_append,List.length_cons,List.length_nil,List.length_map]);omega) h2).mono ?_;rintro _ H3 ⟨rfl,h3⟩;simp(disch:=omega) only[go_sem,↓reduceIte];refine Nu.refl ⟨rfl,?_⟩;have:=h3.drop hB3
  (try simp only[List.append_assoc,List.cons_append,List.nil_append] at this⊢)
  exact this
 have z6:=hk;clear hk;by_cases hk:e.kind=7
 ·obtain⟨⟨x,hx,_⟩,ha,_⟩:=ff7 hk hf;have ht:Ar e=Ar x++Bo Ce::(taE e++ [Bo Cp]):=by rw[Dg1 hk];unfold tE;rw[hx];rfl
  rw[ht,List.length_append,List.length_cons,List.length_append] at hlen;rw[ht];simp only[List.length_cons,List.length_nil,taE] at hlen;unfold taE;have hll:e.l.length=1:=by rw[hx];rfl
  rw[Gl,Bool.and_eq_true,Bool.and_eq_true,Bool.and_eq_true,decide_eq_true_eq,decide_eq_true_eq,List.all_eq_true] at ha;have hfx:=lx0 hx;have hnm:Bc e=true:=Ap3 (by omega);rw[hnm];simp(disch:=omega) only[go_sem,↓reduceIte,gr3,hk,hll,hfl,hfx];refine(ih x (Cd (by rw[hx];simp)) _ r _ _ hBK (by omega) hwK).mono ?_;rintro _ H1 ⟨rfl,h1⟩;have g1:=h1.keep (Aa _ _ _) n3.symm;simp(disch:=omega) only[go_sem,↓reduceIte,g1,hk];intro q1 hq1;dsimp only at hq1;simp(disch:=omega) only[go_sem,↓reduceIte,hk];refine(Mm hG Ce hq1 hBK (by(try simp only[List.length_append,List.length_cons,List.length_nil,List.length_map]);omega) h1).mono ?_;rintro _ H2 ⟨rfl,h2⟩;have g2:=h2.keep (Aa _ _ _) n3.symm;simp(disch:=omega) only[go_sem,↓reduceIte,g2];refine(Yq hG e.a Gn (by omega) (fun a hma=>Yr hG a (Aw1 (ha.2 a hma)) fun y hy=>ih y (Mz hma hy)) _ r _ _ hBK (by(try simp only[List.length_append,List.length_cons,List.length_nil,List.length_map]);omega) h2).mono ?_;rintro _ H3 ⟨rfl,h3⟩;simp(disch:=omega) only[go_sem,↓reduceIte];intro q2 hq2;dsimp only at hq2;simp(disch:=omega) only[go_sem,↓reduceIte,hk];refine(Mm hG Cp hq2 hBK (by(try simp only[List.length_append,List.length_cons,List.length_nil,List.length_map]);omega) h3).mono ?_;rintro _ H4 ⟨rfl,h4⟩;have g4:=h4.keep (Aa _ _ _) n3.symm;simp(disch:=omega) only[go_sem,↓reduceIte];refine Nu.refl ⟨rfl,?_⟩;have:=h4.drop hB3
  (try simp only[List.append_assoc,List.cons_append,List.nil_append] at this⊢)
  exact this
 have z7:=hk;clear hk;by_cases hk:e.kind=8
 ·obtain⟨⟨x,y,hx,_⟩,_⟩:=ff8 hk hf;have ht:Ar e=Ar x++Bo Ga::Ve (!Ah9 y.kind) (Ar y):=by rw[Dg2 hk];unfold tE;rw[hx];rfl
  rw[ht,List.length_append,List.length_cons] at hlen;rw[ht];have hll:e.l.length=2:=by rw[hx];rfl
  have hl1:=lx1 hx;have hy0:(e.l.flatMap dEx)[9]? =some (.int .u8 y.kind):=by
   rw[hx,List.flatMap_cons,List.flatMap_cons,Iz x,Iz y];rfl
  have hyl:=Bf8 y;have hfx:=lx0 hx;have hnm:Bc e=true:=Ap3 (by omega);rw[hnm];simp(disch:=omega) only[go_sem,↓reduceIte,gr3,hk,hll,hfl,hfx];refine(ih x (Cd (by rw[hx];simp)) _ r _ _ hBK (by omega) hwK).mono ?_;rintro _ H1 ⟨rfl,h1⟩;have g1:=h1.keep (Aa _ _ _) n3.symm;simp(disch:=omega) only[go_sem,↓reduceIte,g1,hk];by_cases b9:y.kind=9
  ·have hb:Ve (!Ah9 y.kind) (Ar y)=Dm y 0:=by rw[b9,Dm,decide_eq_false (by omega)];rfl
   rw[hb] at hlen⊢
   simp(disch:=omega) only[go_sem,↓reduceIte,g1,hll,hfl,hy0,b9];intro q1 hq1;dsimp only at hq1;simp(disch:=omega) only[go_sem,↓reduceIte,hk];refine(Mm hG Ga hq1 hBK (by(try simp only[List.length_append,List.length_cons,List.length_nil,List.length_map]);omega) h1).mono ?_;rintro _ H2 ⟨rfl,h2⟩;have g2:=h2.keep (Aa _ _ _) n3.symm;simp(disch:=omega) only[go_sem,↓reduceIte,g2,hll,hfl,hl1];refine(Co hG y 0 (ih y (Cd (by rw[hx];simp))) _ r _ _ hBK (by(try simp only[List.length_append,List.length_cons,List.length_nil,List.length_map]);omega) h2).mono ?_;rintro _ H3 ⟨rfl,h3⟩;simp(disch:=omega) only[go_sem,↓reduceIte];refine Nu.refl ⟨rfl,?_⟩;have:=h3.drop hB3
   (try simp only[List.append_assoc,List.cons_append,List.nil_append] at this⊢)
   exact this
  ·by_cases b10:y.kind=10
   ·have hb:Ve (!Ah9 y.kind) (Ar y)=Dm y 0:=by rw[b10,Dm,decide_eq_false (by omega)];rfl
    rw[hb] at hlen⊢
    simp(disch:=omega) only[go_sem,↓reduceIte,g1,hll,hfl,hy0,b10];intro q1 hq1;dsimp only at hq1;simp(disch:=omega) only[go_sem,↓reduceIte,hk];refine(Mm hG Ga hq1 hBK (by(try simp only[List.length_append,List.length_cons,List.length_nil,List.length_map]);omega) h1).mono ?_;rintro _ H2 ⟨rfl,h2⟩;have g2:=h2.keep (Aa _ _ _) n3.symm;simp(disch:=omega) only[go_sem,↓reduceIte,g2,hll,hfl,hl1];refine(Co hG y 0 (ih y (Cd (by rw[hx];simp))) _ r _ _ hBK (by(try simp only[List.length_append,List.length_cons,List.length_nil,List.length_map]);omega) h2).mono ?_;rintro _ H3 ⟨rfl,h3⟩;simp(disch:=omega) only[go_sem,↓reduceIte];refine Nu.refl ⟨rfl,?_⟩;have:=h3.drop hB3
    (try simp only[List.append_assoc,List.cons_append,List.nil_append] at this⊢)
    exact this
   ·have hb:Ve (!Ah9 y.kind) (Ar y)=Dm y 6:=by rw[Dm,decide_eq_true (by omega),Ah9,decide_eq_false b9,decide_eq_false b10];rfl
    rw[hb] at hlen⊢
    simp(disch:=omega) only[go_sem,↓reduceIte,g1,hll,hfl,hy0,b9,b10];intro q1 hq1;dsimp only at hq1;simp(disch:=omega) only[go_sem,↓reduceIte,hk];refine(Mm hG Ga hq1 hBK (by(try simp only[List.length_append,List.length_cons,List.length_nil,List.length_map]);omega) h1).mono ?_;rintro _ H2 ⟨rfl,h2⟩;have g2:=h2.keep (Aa _ _ _) n3.symm;simp(disch:=omega) only[go_sem,↓reduceIte,g2,hll,hfl,hl1];refine(Co hG y 6 (ih y (Cd (by rw[hx];simp))) _ r _ _ hBK (by(try simp only[List.length_append,List.length_cons,List.length_nil,List.length_map]);omega) h2).mono ?_;rintro _ H3 ⟨rfl,h3⟩;simp(disch:=omega) only[go_sem,↓reduceIte];refine Nu.refl ⟨rfl,?_⟩;have:=h3.drop hB3
    (try simp only[List.append_assoc,List.cons_append,List.nil_append] at this⊢)
    exact this
 have z8:=hk;clear hk;by_cases hk:e.kind=9
 ·obtain⟨hx,ha,_⟩:=ff9 hk hf;have ht:Ar e=Bo Ce::(taE e++ [Bo Cp]):=Dg3 hk;rw[ht,List.length_cons,List.length_append] at hlen;rw[ht];simp only[List.length_cons,List.length_nil,taE] at hlen;unfold taE;have hnm:Bc e=false:=by cases h:Bc e with | false=>rfl | true=>exact(Ti (by omega) h).elim
  rw[hnm];rw[Ej] at ha;simp only[Bool.and_eq_true,decide_eq_true_eq,Bool.not_eq_true'] at ha;simp(disch:=omega) only[go_sem,↓reduceIte,gr3,hk];intro q1 hq1;dsimp only at hq1;simp(disch:=omega) only[go_sem,↓reduceIte,hk];refine(Mm hG Ce hq1 hBK (by(try simp only[List.length_append,List.length_cons,List.length_nil,List.length_map]);omega) hwK).mono ?_;rintro _ H2 ⟨rfl,h2⟩;have g2:=h2.keep (Aa _ _ _) n3.symm;simp(disch:=omega) only[go_sem,↓reduceIte,g2];refine(Yq hG e.a Gn (by omega) (fun a hma=>Yr hG a (Bg2 (Pr ha.2 a hma)) fun y hy=>ih y (Mz hma hy)) _ r _ _ hBK (by(try simp only[List.length_append,List.length_cons,List.length_nil,List.length_map]);omega) h2).mono ?_;rintro _ H3 ⟨rfl,h3⟩;simp(disch:=omega) only[go_sem,↓reduceIte];intro q2 hq2;dsimp only at hq2;simp(disch:=omega) only[go_sem,↓reduceIte,hk];refine(Mm hG Cp hq2 hBK (by(try simp only[List.length_append,List.length_cons,List.length_nil,List.length_map]);omega) h3).mono ?_;rintro _ H4 ⟨rfl,h4⟩;have g4:=h4.keep (Aa _ _ _) n3.symm;simp(disch:=omega) only[go_sem,↓reduceIte];refine Nu.refl ⟨rfl,?_⟩;have:=h4.drop hB3
  (try simp only[List.append_assoc,List.cons_append,List.nil_append] at this⊢)
  exact this
 have z9:=hk;clear hk;by_cases hk:e.kind=10
 ·obtain⟨⟨x,y,z,hx⟩,_⟩:=Dq3 hk hf;have ht:Ar e=ifT x y z 3++ [Bo Cp]:=by rw[Cr3 hk];unfold tE;rw[hx];simp [ifT]
  have hle3:(ifT x y z 1).length<=(ifT x y z 3).length/\(ifT x y z 2).length<=(ifT x y z 3).length:=by
   simp only[ifT,List.length_cons,List.length_append];omega
  rw[ht,List.length_append,List.length_singleton] at hlen;rw[ht];have hll:e.l.length=3:=by rw[hx];rfl
  have hl0:=lx0 hx;have hl1:=lx1 hx;have hl2:=lx2 hx;have hnm:Bc e=false:=by cases h:Bc e with | false=>rfl | true=>exact(Ti (by omega) h).elim
  rw[hnm];simp(disch:=omega) only[go_sem,↓reduceIte,gr3,hk];intro q0 hq0;dsimp only at hq0;obtain⟨L,hL⟩: ∃K',K'=upd K1 q0 (some (.cells [.str [105,102], .str [116,104,101,110], .str [101,108,115,101]] 9)):=⟨_,rfl⟩;rw[<-hL];have hwL:WAt (upd (upd B r3 (some (.cells (dEx e) 27))) q0 (some (.cells [.str [105,102], .str [116,104,101,110], .str [101,108,115,101]] 9))) r ts L:=by rw[hL];exact hwK.frame hq0 _
  have n0:r≠q0:=hwK.ne hq0;have hB0:=(hwK.lo hq0).1;have n30:r3≠q0:=Ae hq0 gr3;obtain⟨C,hC⟩: ∃C,C=upd (upd B r3 (some (.cells (dEx e) 27))) q0 (some (.cells [.str [105,102], .str [116,104,101,110], .str [101,108,115,101]] 9)):=⟨_,rfl⟩;rw[<-hC] at hwL;have hCr:C r=none:=by rw[hC,Ao _ _ _ _ n0];exact hBK
  have c3:C r3=some (.cells (dEx e) 27):=by rw[hC];exact Ag (Aa _ _ _) n30
  have c0:C q0=some (.cells [.str [105,102], .str [116,104,101,110], .str [101,108,115,101]] 9):=by rw[hC];exact Aa _ _ _
  simp(disch:=omega) only[go_sem,↓reduceIte];obtain⟨I,hI⟩: ∃I:Nat->(Nat->DVal)->Ac->Prop,∀j env heap,I j env heap↔(env 0= .optr r 0/\env 3= .optr r3 0/\env 111= .oslice 1 q0 0 3 3/\env 112=dI 3/\env 113=dI j/\j<=3/\WAt C r (ts++ifT x y z j) heap):=⟨_,fun _ _ _=>Iff.rfl⟩;refine Bt4.run I (fun j=>3-j) 0 ((hI _ _ _).2 ?_) ?_
  ·simp(disch:=omega) only[go_sem,↓reduceIte];(repeat' apply And.intro)<;>(try first | rfl | assumption | omega);simpa [ifT] using hwL
  ·intro j env heap hi;obtain⟨e0,e3,e111,e112,e113,hj,hwj⟩:=(hI _ _ _).1 hi;have g3:=hwj.keep c3 n3.symm;have g0:=hwj.keep c0 n0.symm;have hj':j=0\/j=1\/j=2\/j=3:=by omega
   have w1:IntKind.i64.wrap (0+1)=1:=by decide
   have w2:IntKind.i64.wrap (1+1)=2:=by decide
   have w3:IntKind.i64.wrap (2+1)=3:=by decide
   rcases hj' with rfl | rfl | rfl | rfl
   ·have z0:((0:Nat):Int)=0:=rfl;simp(disch:=omega) only[go_sem,↓reduceIte,e0,e3,e111,e112,e113,g0,z0];intro p1 hp1;dsimp only at hp1;simp(disch:=omega) only[go_sem,↓reduceIte,e0,e3,e111,e112,e113];refine(Mm hG Ce hp1 hCr (by simp only[ifT,List.append_nil];omega) hwj).mono ?_;rintro _ H1 ⟨rfl,h1⟩;have f1:=h1.keep c3 n3.symm;simp(disch:=omega) only[go_sem,↓reduceIte,e0,e3,e111,e112,e113,f1];intro p2 hp2;dsimp only at hp2;simp(disch:=omega) only[go_sem,↓reduceIte,e0,e3,e111,e112,e113];refine(Mm hG wIf hp2 hCr (by simp only[ifT,List.append_nil,List.length_append,List.length_cons,List.length_nil] at hle3 hlen⊢;omega) h1).mono ?_;rintro _ H2 ⟨rfl,h2⟩;have f2:=h2.keep c3 n3.symm;simp(disch:=omega) only[go_sem,↓reduceIte,e0,e3,e111,e112,e113,f2,hll,hfl,hl0];refine(ih x (Cd (by rw[hx];simp)) _ r _ _ hCr (by simp only[ifT,List.append_nil,List.length_append,List.length_cons,List.length_nil] at hle3 hlen⊢;omega) h2).mono ?_;rintro _ H4 ⟨rfl,h4⟩;simp(disch:=omega) only[go_sem,↓reduceIte,e0,e3,e111,e112,e113];refine⟨1,_,Ni.refl _,(hI _ _ _).2 ?_,by omega⟩;simp(disch:=omega) only[go_sem,↓reduceIte,e0,e3,e111,e112,e113,w1];(repeat' apply And.intro)<;>(try first | rfl | assumption | omega);simpa [ifT] using h4
   ·have z0:((1:Nat):Int)=1:=rfl;simp(disch:=omega) only[go_sem,↓reduceIte,e0,e3,e111,e112,e113,g0,z0];intro p2 hp2;dsimp only at hp2;simp(disch:=omega) only[go_sem,↓reduceIte,e0,e3,e111,e112,e113];refine(Mm hG Ji hp2 hCr (by simp only[ifT,List.append_nil,List.length_append,List.length_cons,List.length_nil] at hle3 hlen⊢;omega) hwj).mono ?_;rintro _ H2 ⟨rfl,h2⟩;have f2:=h2.keep c3 n3.symm;simp(disch:=omega) only[go_sem,↓reduceIte,e0,e3,e111,e112,e113,f2,hll,hfl,hl1];refine(ih y (Cd (by rw[hx];simp)) _ r _ _ hCr (by simp only[ifT,List.append_nil,List.length_append,List.length_cons,List.length_nil] at hle3 hlen⊢;omega) h2).mono ?_;rintro _ H4 ⟨rfl,h4⟩;simp(disch:=omega) only[go_sem,↓reduceIte,e0,e3,e111,e112,e113];refine⟨2,_,Ni.refl _,(hI _ _ _).2 ?_,by omega⟩;simp(disch:=omega) only[go_sem,↓reduceIte,e0,e3,e111,e112,e113,w2];(repeat' apply And.intro)<;>(try first | rfl | assumption | omega);simpa [ifT] using h4
   ·have z0:((2:Nat):Int)=2:=rfl;simp(disch:=omega) only[go_sem,↓reduceIte,e0,e3,e111,e112,e113,g0,z0];intro p2 hp2;dsimp only at hp2;simp(disch:=omega) only[go_sem,↓reduceIte,e0,e3,e111,e112,e113];refine(Mm hG Kj hp2 hCr (by simp only[ifT,List.append_nil,List.length_append,List.length_cons,List.length_nil] at hle3 hlen⊢;omega) hwj).mono ?_;rintro _ H2 ⟨rfl,h2⟩;have f2:=h2.keep c3 n3.symm;simp(disch:=omega) only[go_sem,↓reduceIte,e0,e3,e111,e112,e113,f2,hll,hfl,hl2];refine(ih z (Cd (by rw[hx];simp)) _ r _ _ hCr (by simp only[ifT,List.append_nil,List.length_append,List.length_cons,List.length_nil] at hle3 hlen⊢;omega) h2).mono ?_;rintro _ H4 ⟨rfl,h4⟩;simp(disch:=omega) only[go_sem,↓reduceIte,e0,e3,e111,e112,e113];refine⟨3,_,Ni.refl _,(hI _ _ _).2 ?_,by omega⟩;simp(disch:=omega) only[go_sem,↓reduceIte,e0,e3,e111,e112,e113,w3];(repeat' apply And.intro)<;>(try first | rfl | assumption | omega);simpa [ifT] using h4
   ·have z0:((3:Nat):Int)=3:=rfl;simp(disch:=omega) only[go_sem,↓reduceIte,e0,e3,e111,e112,e113,g0,z0];intro p2 hp2;dsimp only at hp2;simp(disch:=omega) only[go_sem,↓reduceIte,e0,e3,e111,e112,e113];refine(Mm hG Cp hp2 hCr (by simp only[List.length_append] at hlen⊢;omega) hwj).mono ?_;rintro _ H2 ⟨rfl,h2⟩;simp(disch:=omega) only[go_sem,↓reduceIte,e0];refine Nu.refl ⟨rfl,?_⟩;rw[hC] at h2;have:=(h2.drop hB0).drop hB3;rw[List.append_assoc] at this;exact this
 have z10:=hk;clear hk;by_cases hk:e.kind=11
 ·obtain⟨⟨x,hx⟩,⟨o,ho,ho2⟩,_⟩:=Dq4 hk hf;have ht:Ar e=(Bp o).map Bo++Dm x (Mc e):=by rw[Cr4 hk,ho,Int.toNat_natCast];unfold pE tE;rw[hx];rfl
  rw[ht] at hlen⊢
  have hnm:Bc e=false:=by cases h:Bc e with | false=>rfl | true=>exact(Ti (by omega) h).elim
  rw[hnm];simp(disch:=omega) only[go_sem,↓reduceIte,gr3,hk];refine(Bq5 hG e x o hx ho (by omega) (ih x (Cd (by rw[hx];simp))) _ r _ _ hBK hlen hwK).mono ?_;rintro _ H1 ⟨rfl,h1⟩;simp(disch:=omega) only[go_sem,↓reduceIte];exact Nu.refl ⟨rfl,h1.drop hB3⟩
 have z11:=hk;clear hk;by_cases hk:e.kind=12
 ·obtain⟨⟨x,y,hx⟩,⟨o,ho,ho2⟩,_⟩:=Dq5 hk hf;have ht:Ar e=Dm x (Hf e)++((Bp o).map Bo++Dm y (Jz e)):=by rw[Cr5 hk,ho,Int.toNat_natCast];unfold pE tE;rw[hx];rfl
  rw[ht] at hlen⊢
  have hnm:Bc e=false:=by cases h:Bc e with | false=>rfl | true=>exact(Ti (by omega) h).elim
  rw[hnm];simp(disch:=omega) only[go_sem,↓reduceIte,gr3,hk];refine(Bq6 hG e x y o hx ho (by omega) (ih x (Cd (by rw[hx];simp))) (ih y (Cd (by rw[hx];simp))) _ r _ _ hBK hlen hwK).mono ?_;rintro _ H1 ⟨rfl,h1⟩;simp(disch:=omega) only[go_sem,↓reduceIte];exact Nu.refl ⟨rfl,h1.drop hB3⟩
 have z12:=hk;clear hk;have hkd:e.kind=13\/e.kind=14:=by
  by_cases h:e.kind=13\/e.kind=14
  ·exact h
  ·exfalso;have:Af e=false:=by
    unfold Af;rw[if_neg z1,if_neg z2,if_neg z3,if_neg (by omega),if_neg z5,if_neg z7,if_neg z8,if_neg z9,if_neg z10,if_neg z11,if_neg z12,if_neg h]
   rw[this] at hf;cases hf
 obtain⟨hx',_⟩:=Dg4 hkd hf;have hx: ∃x,(∃y z,e.l= [x,y,z])\/ ∃y,e.l= [x,y]:=by
  rcases hx' with⟨x,y,z,hx⟩ | ⟨x,y,hx,_⟩
  ·exact⟨x, .inl ⟨y,z,hx⟩⟩
  ·exact⟨x, .inr ⟨y,hx⟩⟩
 clear hx';obtain⟨x,hx⟩:=hx;have g0:e.l.getD 0 ex0=x/\0<e.l.length:=by rcases hx with⟨y,z,hx⟩ | ⟨y,hx⟩<;>(rw[hx];exact⟨rfl,by simp⟩)
 have hp0:pE e 0 2=Dm x 2:=by rw[Dq1 g0.2,g0.1]
 have hihl: ∀y∈e.l,WrC Tryz.prog G 99 [.agg (dEx y)] (Ar y):=fun y hy=>ih y (Cd hy);have hnm:Bc e=false:=by cases h:Bc e with | false=>rfl | true=>exact(Ti (by omega) h).elim
 rw[hnm];by_cases hk:e.kind=13
 ·have ht:Ar e=Dm x 2++([wIn].map Bo++Nf e):=by rw[Cr6 hk,hp0];rfl
  rw[ht] at hlen⊢
  simp(disch:=omega) only[go_sem,↓reduceIte,gr3,hk];intro q1 hq1;dsimp only at hq1;simp(disch:=omega) only[go_sem,↓reduceIte];refine Ai.fzA q1 hq1 ?_;simp only[fzs,fz,if_neg (hwK.ne hq1),if_pos,Au0];refine(Vm hG e x [wIn] hx hihl _ r _ _ hBK hlen hwK).mono ?_;rintro _ H1 ⟨rfl,h1⟩;simp(disch:=omega) only[go_sem,↓reduceIte];exact Nu.refl ⟨rfl,h1.drop hB3⟩
 ·have hk14:e.kind=14:=by omega
  have ht:Ar e=Dm x 2++([Rt,wIn].map Bo++Nf e):=by rw[Cr7 hk14,hp0];rfl
  rw[ht] at hlen⊢
  simp(disch:=omega) only[go_sem,↓reduceIte,gr3,hk14];intro q1 hq1;dsimp only at hq1;simp(disch:=omega) only[go_sem,↓reduceIte];refine Ai.fzA q1 hq1 ?_;simp only[fzs,fz,if_neg (hwK.ne hq1),if_pos,Au0];refine(Vm hG e x [Rt,wIn] hx hihl _ r _ _ hBK hlen hwK).mono ?_;rintro _ H1 ⟨rfl,h1⟩;simp(disch:=omega) only[go_sem,↓reduceIte];exact Nu.refl ⟨rfl,h1.drop hB3⟩
end
end Go.Dl

-- Chapter 3: expressions: the plain laws, part 15: how many tokens an expression has.
namespace Go.Dl
open Go
set_option maxRecDepth 10000
def wt (l:List Ex):Nat:=(l.map fun x=>(Ar x).length+7).sum
theorem Rq (l m:List Ex):wt (l++m)=wt l+wt m:=by simp [wt]
theorem Dy (x:Ex) (l:List Ex):wt (x::l)=(Ar x).length+7+wt l:=by simp [wt]
theorem Dm1:wt []=0:=rfl
theorem Hv (x:Ex) (lv:Int):(Dm x lv).length<=(Ar x).length+2:=by
 rw[Dm,Bf7];split<;>omega
theorem Ap5 {n:Nat} {c:Ch} (h:Cr n c=true):(Ij c).length+1<=wt c.l+if c.kind=3 then 2 else 0:=by
 unfold Cr at h;by_cases c1:c.kind=1
 ·rw[if_pos c1,decide_eq_true_eq] at h;obtain⟨x,hx⟩:=Dc5 h;rw[Oe,if_pos c1,hx,Dy];show(Ar x).length+1<=_;omega
 ·rw[if_neg c1] at h;by_cases c2:c.kind=2
  ·rw[if_pos c2,decide_eq_true_eq] at h;obtain⟨x,y,hx⟩:=Cs2 h;rw[Oe,if_neg c1,if_pos c2,hx,Dy,Dy];show(Dm x 2++Bo Dz::Dm y 2).length+1<=_;have:=Hv x 2;have:=Hv y 2;rw[List.length_append,List.length_cons];omega
  ·rw[if_neg c2] at h;simp only[Bool.and_eq_true,decide_eq_true_eq] at h;rw[Oe,if_neg c1,if_neg c2,if_pos h.1.1];show 1+1<=_;omega
theorem Xk (t:List Tok) (ta:List (List Tok)):Av3 (t::ta)=t.length+1+Av3 ta:=by simp [Av3]
theorem Ys {n:Nat} (hn:n≠1): ∀(l:List Ch),l.length<=n->(∀c∈l,Cr n c=true)->Av3 (l.map Ij)<=wt (l.flatMap Ch.l)
 | [],_,_=>Nat.zero_le _
 | c::r,hl,h=>by
  have ih:=Ys hn r (by rw[List.length_cons] at hl;omega) fun d hd=>h d (by simp [hd]);have hc:=h c (by simp);have h1:=Ap5 hc;rw[if_neg] at h1
  ·rw[List.map_cons,Xk,List.flatMap_cons,Rq];omega
  ·intro c3;unfold Cr at hc;rw[if_neg (by omega),if_neg (by omega)] at hc;simp only[Bool.and_eq_true,decide_eq_true_eq,List.length_cons] at hc hl;omega
theorem Cg1 {l:List Ch} (h:Cq l=true):(Ib Dk (l.map Ij)).length<=wt (l.flatMap Ch.l)+2:=by
 simp only[Cq,Bool.and_eq_true,decide_eq_true_eq,List.all_eq_true] at h
 have h0:=Cr9 Dk (l.map Ij) (by intro e;rw[List.map_eq_nil_iff] at e;rw[e] at h;simp at h)
 by_cases hn:l.length=1
 ·match l,hn with
  | [c],_=>
   have h1:=Ap5 (h.2 c (by simp))
   have h2:(if c.kind=3 then 2 else 0)<=2:=by split<;>omega
   rw[List.map_singleton,Xk] at h0
   rw[List.map_singleton,List.flatMap_singleton]
   simp [Av3] at h0
   omega
 ·have:=Ys hn l (Nat.le_refl _) h.2
  omega
theorem Al5 {l:List Ch} (h:Bu l=true):Cq l=true:=by
 match l with
 | [c]=>
  simp only[Bu,Bool.and_eq_true,decide_eq_true_eq] at h
  simp only[Cq,List.length_singleton,List.all_cons,List.all_nil,Bool.and_true,Cr,if_pos h.1]
  match hl:c.l with
  | [x]=>rfl
  | []=>rw[hl] at h;cases h.2
  | _::_::_=>rw[hl] at h;cases h.2
 | []=>cases h
 | _::_::_=>cases h
theorem Cg2 {a:As} (h:(a.c.isEmpty || Cq a.c)=true):(Jc a).length+1<=wt (Bw a):=by
 rw[Bw,Rq,Dy,Dm1];by_cases c0:a.c= []
 ·rw[Vf,c0];show(Ar a.e).length+1<=_;omega
 ·have hr:Cq a.c=true:=by
   rw[Bool.or_eq_true] at h;rcases h with h | h
   ·exact absurd (List.isEmpty_iff.1 h) c0
   ·exact h
  have h1:=Cg1 hr;rw[Vf,if_neg (by simpa using c0),List.length_append,List.length_cons];omega
theorem Aj0: ∀(l:List As),(∀a∈l,(a.c.isEmpty || Cq a.c)=true)->Av3 (l.map Jc)<=wt (l.flatMap Bw)
 | [],_=>Nat.zero_le _
 | a::r,h=>by
  have ih:=Aj0 r fun d hd=>h d (by simp [hd]);have h1:=Cg2 (h a (by simp));rw[List.map_cons,Xk,List.flatMap_cons,Rq];omega
theorem Bq8 {l:List As} (h:Gl l=true): ∀a∈l,(a.c.isEmpty || Cq a.c)=true:=fun a ha=>by
 rw[Gl,Bool.and_eq_true,List.all_eq_true] at h;have:=h.2 a ha;rw[Bool.or_eq_true] at this⊢
 rcases this with h1 | h1
 ·exact .inl h1
 ·exact .inr (Al5 h1)
theorem Bw6 {l:List As} (h: ∀a∈l,(a.c.isEmpty || Cq a.c)=true):(Ib Gn (l.map Jc)).length<=wt (l.flatMap Bw):=by
 have h1:=Aj0 l h;rw[Ai4];unfold Av3 at h1;unfold Cr8;omega
theorem Ap6 (o:Nat):(Bp o).length<=2:=by
 rw[Bp,List.getD];by_cases h:o<22
 ·have: ∀i:Fin 22,((Cp4[i.1]?).getD []).length<=2:=by decide
  exact this ⟨o,h⟩
 ·rw[List.getElem?_eq_none (by have:Cp4.length=22:=rfl;omega)];decide
theorem Bq9 {e:Ex} (hf:Af e=true):(Ar e).length<=10+wt (parts e):=by
 have hpl:wt (parts e)=wt e.l+wt (e.a.flatMap Bw):=Rq _ _;by_cases k1:e.kind=1
 ·rw[Df5 k1];show 1<=_;omega
 by_cases k2:e.kind=2
 ·rw[Df6 k2];show 1<=_;omega
 by_cases k3:e.kind=3
 ·rw[Df7 k3];show 1<=_;omega
 by_cases k4:e.kind=4
 ·obtain⟨⟨x,hx,_⟩,_⟩:=Dc7 (.inl k4) hf;rw[Df8 k4,hpl,hx,Dy];unfold tE;rw[hx,List.length_append];show(Ar x).length+2<=_;omega
 by_cases k5:e.kind=5
 ·obtain⟨⟨x,hx,_⟩,_⟩:=ff5 k5 hf;rw[Df9 k5,hpl,hx,Dy];unfold tE;rw[hx,List.length_append];show(Ar x).length+2<=_;omega
 by_cases k6:e.kind=6
 ·obtain⟨⟨x,hx,_⟩,_⟩:=Dc7 (.inr k6) hf;rw[Dg0 k6,hpl,hx,Dy];unfold tE;rw[hx,List.length_append];show(Ar x).length+2<=_;omega
 by_cases k7:e.kind=7
 ·obtain⟨⟨x,hx,_⟩,ha,_⟩:=ff7 k7 hf;have h1:=Bw6 (Bq8 ha);rw[Dg1 k7,hpl,hx,Dy];unfold tE taE;rw[hx,List.length_append,List.length_cons,List.length_append];show(Ar x).length+(_+1+1)<=_;omega
 by_cases k8:e.kind=8
 ·obtain⟨⟨x,y,hx,_⟩,_⟩:=ff8 k8 hf;rw[Dg2 k8,hpl,hx,Dy,Dy];unfold tE;rw[hx,List.length_append,List.length_cons,Bf7];show(Ar x).length+((Ar y).length+_+1)<=_;split<;>omega
 by_cases k9:e.kind=9
 ·obtain⟨hx,ha,_⟩:=ff9 k9 hf;rw[Ej,Bool.and_eq_true] at ha;have h1:=Bw6 (fun a hm=>Pr ha.2 a hm);rw[Dg3 k9,hpl,List.length_cons,List.length_append];unfold taE;show _+1+1<=_;omega
 by_cases k10:e.kind=10
 ·obtain⟨⟨x,y,z,hx⟩,_⟩:=Dq3 k10 hf;rw[Cr3 k10,hpl,hx,Dy,Dy,Dy];unfold tE;rw[hx];simp only[List.length_append,List.length_cons];show(Ar x).length+((Ar y).length+((Ar z).length+_+1)+1)+1+1<=_;simp only[List.length_nil];omega
 by_cases k11:e.kind=11
 ·obtain⟨⟨x,hx⟩,⟨o,ho,_⟩,_⟩:=Dq4 k11 hf;have:=Ap6 e.oper.toNat;have:=Hv x (Mc e);have hp:pE e 0 (Mc e)=Dm x (Mc e):=by unfold pE tE;rw[hx];rfl
  rw[Cr4 k11,hpl,hx,Dy,hp,List.length_append,List.length_map];omega
 by_cases k12:e.kind=12
 ·obtain⟨⟨x,y,hx⟩,_⟩:=Dq5 k12 hf;have:=Ap6 e.oper.toNat;have:=Hv x (Hf e);have:=Hv y (Jz e);have hp:pE e 0 (Hf e)=Dm x (Hf e):=by unfold pE tE;rw[hx];rfl
  have hq:pE e 1 (Jz e)=Dm y (Jz e):=by unfold pE tE;rw[hx];rfl
  rw[Cr5 k12,hpl,hx,Dy,Dy,hp,hq,List.length_append,List.length_append,List.length_map];omega
 by_cases h:e.kind=13\/e.kind=14
 ·obtain⟨hx',_⟩:=Dg4 h hf;have hT:(pE e 0 2).length+(Nf e).length+3<=10+wt (parts e):=by
   rcases hx' with⟨x,y,z,hx⟩ | ⟨x,y,hx,_⟩
   ·have:=Hv x 2;have:=Hv y 2;have:=Hv z 2;have hp:pE e 0 2=Dm x 2:=by unfold pE tE;rw[hx];rfl
    have hq:Nf e=Dm y 2++Bo Dz::Dm z 2:=by unfold Nf pE tE;rw[hx];rfl
    rw[hp,hq,hpl,hx,Dy,Dy,Dy,List.length_append,List.length_cons];omega
   ·have:=Hv x 2;have hp:pE e 0 2=Dm x 2:=by unfold pE tE;rw[hx];rfl
    have hq:Nf e=Ar y:=by unfold Nf pE tE;rw[hx];rfl
    rw[hp,hq,hpl,hx,Dy,Dy];omega
  rcases h with k | k
  ·rw[Cr6 k,List.length_append,List.length_cons];omega
  ·rw[Cr7 k,List.length_append,List.length_cons,List.length_cons];omega
 exfalso;have:Af e=false:=by
  unfold Af;rw[if_neg k1,if_neg k2,if_neg k3,if_neg (by omega),if_neg k5,if_neg k7,if_neg k8,if_neg k9,if_neg k10,if_neg k11,if_neg k12,if_neg h]
 rw[this] at hf;cases hf
theorem Dq6 {l:List Ex} (h: ∀x∈l,(Ar x).length+7<=17*Eg x):wt l<=17*Fa l:=by
 induction l with
 | nil=>exact Nat.zero_le _
 | cons x l ih=>
  have h1:=h x (by simp);have h2:=ih fun y hy=>h y (by simp [hy]);rw[Dy,Fa,List.map_cons,List.sum_cons];unfold Fa at h2;omega
theorem Cg3 (e:Ex): ∀d,Ed d e=true->(Ar e).length+7<=17*Eg e:=by
 refine Ex.ind (p:=fun e=> ∀d,Ed d e=true->(Ar e).length+7<=17*Eg e) (fun e ih d hv=> ?_) e;obtain⟨hf,hp⟩:=Vk hv;have h1:=Bq9 hf;have h2:=Dq6 fun x hx=>ih x hx _ (hp x hx);rw[Js e];omega
theorem Dc8 {e:Ex} (h:Ia e=true):(Ar e).length<=5000:=by
 rw[Ia,Bool.and_eq_true,decide_eq_true_eq] at h;have:=Cg3 e 1 h.1;omega
def Vn (e:Ex):List Tok×Int:=if Ia e then(Ar e,0) else([],2)
end Go.Dl

-- Chapter 3: the package's Tokens, ArgTokens, ChoiceTokens.
namespace Go.Dl
open Go Go.Proofs
set_option maxRecDepth 100000
section
variable {G:Nat->DVal}
theorem Cg4 (hG:GX G) (e:Ex): ∀d,Ed d e=true->WrC Tryz.prog G 99 [.agg (dEx e)] (Ar e):=by
 refine Ex.ind (p:=fun e=> ∀d,Ed d e=true->WrC Tryz.prog G 99 [.agg (dEx e)] (Ar e)) (fun e ih d hv=> ?_) e;obtain⟨hf,hp⟩:=Vk hv;exact Bq7 hG e hf fun x hx=>ih x hx _ (hp x hx)
theorem Cg5 {e:Ex} (h:Ia e=true):Ed 1 e=true:=by
 rw[Ia,Bool.and_eq_true] at h;exact h.1
theorem WAt.start {B:Ac} {r:Nat} (hr:B r=none):WAt B r [] (upd B r (some (.cells [.nilSlice] 122))):=⟨_, .inl ⟨rfl,rfl,rfl,Sub.refl _⟩⟩
theorem WAt.cell {B H:Ac} {r:Nat} {ts:List Tok} (h:WAt B r ts H) (hr:B r=none): ∃v,H r=some (.cells [v] 122)/\Fc H v B (Cc ts):=by
 obtain⟨v,h⟩:=h;exact⟨v,h.keep (Aa _ _ _),Fc.own (h.less ((Sub.refl B).up hr _))⟩
set_option maxHeartbeats 4000000 in
theorem Rd (hG:GX G) (H:Ac) (e:Ex) (he:Fit e):Ai Tryz.prog G 52 [.agg (dEx e)] H (Au (.tuple [Cc (Vn e).1,dI (Vn e).2]) H):=by
 rw[Vn];refine Ad Tryz.func52 Tryz.call52 rfl (by kernel_rfl) ?_;simp(disch:=omega) only[go_sem,↓reduceIte,DVal.cells];intro r1 hr1;dsimp only at hr1;obtain⟨K,hK⟩: ∃K',K'=upd H r1 (some (.cells (dEx e) 27)):=⟨_,rfl⟩;rw[<-hK];have gr1:K r1=some (.cells (dEx e) 27):=by rw[hK];exact Aa _ _ _
 have hs:Sub H K:=by rw[hK];exact(Sub.refl H).new hr1 _
 simp(disch:=omega) only[go_sem,↓reduceIte,gr1];refine(Ii hG K e he).mono ?_;rintro _ K1 ⟨rfl,rfl⟩;cases hm:Ia e with
 | false=>
  simp(disch:=omega) only[go_sem,↓reduceIte];exact Fc.fin hs (Fc.tuple (.cons (Fc.nil hs) (Ek.keep hs _))) ⟨rfl,rfl⟩
 | true=>
  have hlen:=Dc8 hm;simp(disch:=omega) only[go_sem,↓reduceIte];intro r2 hr2;dsimp only at hr2;have n12:r1≠r2:=Ae hr2 gr1;have m12:=n12.symm;have hw:=WAt.start hr2;have g1:upd K1 r2 (some (.cells [.nilSlice] 122)) r1=some (.cells (dEx e) 27):=Ag gr1 n12;simp(disch:=omega) only[go_sem,↓reduceIte,g1];refine(Cg4 hG e 1 (Cg5 hm) K1 r2 [] _ hr2 (by simp;omega) hw).mono ?_;rintro _ H1 ⟨rfl,h1⟩;rw[List.nil_append] at h1;have hs1:Sub K1 H1:=by
   obtain⟨v,h1⟩:=h1;exact(((Sub.refl K1).up hr2 _).trans h1.sub)
  obtain⟨v,hv1,hv2⟩:=h1.cell hr2;simp(disch:=omega) only[go_sem,↓reduceIte,hv1];have hsf:Sub H H1:=hs.trans hs1;refine Fc.fin hsf (Fc.tuple (.cons (fun w hw x hx=>Rel.lasts (Jp hs w) _ _ (hv2 w hw x hx)) (Ek.keep hsf _))) ⟨rfl,rfl⟩
end
end Go.Dl

-- The reference of chapter 2: tokens of a text.
namespace Go.Dl
open Go Go.Proofs Go.RowKit
set_option maxRecDepth 100000
def Xl (w:List UInt8):Int:=match Ak8 w with | some v=>(v:Int) | none=> -1
theorem Cg6 {w:List UInt8} (h: ¬w.length<=10):Xl w= -1:=by rw[Xl,Ak8,if_neg (fun x=>h x.1)]
theorem Cs3 {w:List UInt8} (h:w.all Fi=false):Xl w= -1:=by rw[Xl,Ak8,if_neg (fun x=>by rw[h] at x;cases x.2.1)]
theorem Cs4 {w:List UInt8} (h: ¬Nk w<=2147483647):Xl w= -1:=by rw[Xl,Ak8,if_neg (fun x=>h x.2.2)]
theorem Dc9 {w:List UInt8} (h1:w.length<=10) (h2:w.all Fi=true) (h3:Nk w<=2147483647):Xl w=(Nk w:Int):=by rw[Xl,Ak8,if_pos ⟨h1,h2,h3⟩]
theorem Cg7 (s:List UInt8):s.take (Dg s).length=Dg s:=(List.prefix_iff_eq_take.1 (List.takeWhile_prefix _)).symm
def Vo (s w:List UInt8):Bool:=decide (w.length<=s.length)&&decide (s.take w.length=w)
theorem Cs5 {k:Nat} {w:List UInt8} (h:Ya[k]? =some w):(k<7/\ ∃p∈Um,w= [p.1,p.2])\/(7<=k/\ ∃a∈Bb6,w= [a]):=by
 have e:Ya=Um.map (fun p=> [p.1,p.2])++Bb6.map (fun a=> [a]):=by decide
 rw[e,List.getElem?_append] at h;split at h
 ·rename_i hk
  rw[List.getElem?_map,Option.map_eq_some_iff] at h;obtain⟨p,hp,rfl⟩:=h;exact .inl ⟨hk,p,List.mem_of_getElem? hp,rfl⟩
 ·rename_i hk
  rw[List.getElem?_map,Option.map_eq_some_iff] at h;obtain⟨a,ha,rfl⟩:=h;exact .inr ⟨by simpa [Um] using hk,a,List.mem_of_getElem? ha,rfl⟩
theorem Bg3 {k:Nat} (hk:7<=k): ∀p∈Um,[p.1,p.2]∈Ya.take k:=fun p hp=>by
 have h7: ∀p∈Um,[p.1,p.2]∈Ya.take 7:=by decide+kernel
 exact(List.take_sublist_take_left (l:=Ya) hk).subset (h7 p hp)
theorem Dq7 {a b:UInt8} {r:List UInt8}:Vo (a::b::r) [a,b]=true:=by
 rw[Vo,Bool.and_eq_true,decide_eq_true_eq,decide_eq_true_eq];exact⟨by simp,rfl⟩
theorem Dd0 {s w:List UInt8} {k:Nat} (hk:Ya[k]? =some w) (hp:Vo s w=true) (hno: ∀u∈Ya.take k,Vo s u=false):Qd s=w.length:=by
 rw[Vo,Bool.and_eq_true,decide_eq_true_eq,decide_eq_true_eq] at hp
 obtain⟨h1,h2⟩:=hp
 rcases Cs5 hk with⟨_,p,hp,rfl⟩ | ⟨h7,a,ha,rfl⟩
 ·match s,h1,h2 with
  | a::b::r,_,h2=>
   have e: [a,b]= [p.1,p.2]:=h2
   cases e
   show(if(p.1,p.2)∈Um then 2 else _)=2
   rw[if_pos hp]
 ·match s,h1,h2 with
  | x::r,_,h2=>
   have e: [x]= [a]:=h2
   cases e
   rw[An7 a r (fun b r' e hm=>by
    subst e
    have:=hno _ (Bg3 h7 _ hm)
    rw[Dq7] at this;cases this),if_pos ha];rfl
theorem Cs6 {s:List UInt8} (hno: ∀u∈Ya,Vo s u=false):Qd s=0:=by
 match s with
 | []=>rfl
 | x::r=>
  rw[An7 x r (fun b r' e hm=>by
   subst e
   have:=hno _ (List.mem_of_mem_take (Bg3 (Nat.le_refl 7) _ hm))
   rw[Dq7] at this;cases this),if_neg]
  intro hx
  have h1: ∀a∈Bb6,[a]∈Ya:=by decide+kernel
  have:=hno _ (h1 x hx)
  simp [Vo] at this
section
variable {G:Nat->DVal} {H:Ac}
theorem Bg4 (G:Nat->DVal) (H:Ac) (s:List UInt8) (hs:s.length<=1000000000):Ai Tryz.prog G 123 [.str s] H (Au (dI (Dg s).length) H):=by
 refine Ad Tryz.func123 Tryz.call123 rfl (by kernel_rfl) ?_;simp(disch:=omega) only[go_sem,↓reduceIte];obtain⟨I,hI⟩: ∃I:Nat->(Nat->DVal)->Ac->Prop,∀k env heap,I k env heap↔(env 0= .str s/\env 3=dI k/\k<=s.length/\(s.take k).all Dt=true/\heap=H):=⟨_,fun _ _ _=>Iff.rfl⟩;refine Bt4.run I (fun k=>s.length-k) 0 ((hI _ _ _).2 ?_) ?_
 ·simp(disch:=omega) only[go_sem,↓reduceIte];(repeat' apply And.intro)<;>(try first | rfl | assumption | omega)
 ·intro k env heap hi;obtain⟨e0,e3,hk,hw,rfl⟩:=(hI _ _ _).1 hi;by_cases hlt:k<s.length
  ·have hlt':(k:Int)<(s.length:Int):=by omega
   have hg:s[k]? =some s[k]:=List.getElem?_eq_getElem hlt;have hwd:IntKind.i64.wrap ((k:Int)+1)=((k+1:Nat):Int):=by rw[IntKind.wrap_i64];omega
   simp(disch:=omega) only[go_sem,↓reduceIte,e0,e3,hlt',hg,Int.toNat_natCast];refine(Ae1 G _ s[k]).mono ?_;rintro _ H1 ⟨rfl,rfl⟩;cases hb:Dt s[k] with
   | true=>
    simp(disch:=omega) only[go_sem,↓reduceIte,e0,e3];refine⟨k+1,_,Ni.refl _,(hI _ _ _).2 ?_,by omega⟩;simp(disch:=omega) only[go_sem,↓reduceIte,e0,e3,hwd];(repeat' apply And.intro)<;>(try first | rfl | assumption | omega);rw[List.take_add_one,hg,List.all_append,hw];simpa using hb
   | false=>
    simp(disch:=omega) only[go_sem,↓reduceIte,e0,e3];exact Nu.refl ⟨by rw[Bu7 hw hg hb,List.length_take,Nat.min_eq_left (by omega)],rfl⟩
  ·have:k=s.length:=by omega
   subst this;simp(disch:=omega) only[go_sem,↓reduceIte,e0,e3];rw[List.take_length] at hw;exact Nu.refl ⟨by rw[Uo s hw],rfl⟩
theorem Cg8 (G:Nat->DVal) (H:Ac) (w:List UInt8):Ai Tryz.prog G 128 [.str w] H (Au (dI (Xl w)) H):=by
 refine Ad Tryz.func128 Tryz.call128 rfl (by kernel_rfl) ?_;by_cases hl:w.length<=10
 ·have hl': ¬(10:Int)<(w.length:Int):=by omega
  simp(disch:=omega) only[go_sem,↓reduceIte,hl'];obtain⟨I,hI⟩: ∃I:Nat->(Nat->DVal)->Ac->Prop,∀k env heap,I k env heap↔(env 0= .str w/\env 3=dI (Nk (w.take k))/\env 4=dI k/\k<=w.length/\(w.take k).all Fi=true/\Nk (w.take k)<10^k/\heap=H):=⟨_,fun _ _ _=>Iff.rfl⟩;refine Bt4.run I (fun k=>w.length-k) 0 ((hI _ _ _).2 ?_) ?_
  ·simp(disch:=omega) only[go_sem,↓reduceIte];(repeat' apply And.intro)<;>(try first | rfl | assumption | omega);decide
  ·intro k env heap hi;obtain⟨e0,e3,e4,hk,hw,hv,rfl⟩:=(hI _ _ _).1 hi;have hp10:10^k<=10^10:=Nat.pow_le_pow_right (by omega) (by omega);have hv10:Nk (w.take k)<10000000000:=Nat.lt_of_lt_of_le hv hp10;by_cases hlt:k<w.length
   ·have hlt':(k:Int)<(w.length:Int):=by omega
    have hg:w[k]? =some w[k]:=List.getElem?_eq_getElem hlt;have hwd:IntKind.i64.wrap ((k:Int)+1)=((k+1:Nat):Int):=by rw[IntKind.wrap_i64];omega
    simp(disch:=omega) only[go_sem,↓reduceIte,e0,e3,e4,hlt',hg,Int.toNat_natCast];refine(Qv G _ w[k]).mono ?_;rintro _ H1 ⟨rfl,rfl⟩;cases hb:Fi w[k] with
    | true=>
     have hd:=(Cd3 w[k]).1 hb;have htk:w.take (k+1)=w.take k++ [w[k]]:=by rw[List.take_add_one,hg];rfl
     have hds:Nk (w.take (k+1))=10*Nk (w.take k)+(w[k].toNat-48):=by rw[htk,Cd0]
     have hall:(w.take (k+1)).all Fi=true:=by rw[htk,List.all_append,hw];simpa using hb
     have hlt10:Nk (w.take (k+1))<10^(k+1):=by rw[hds,Nat.pow_succ];omega
     have w1:IntKind.i64.wrap (10*(Nk (w.take k):Int))=10*(Nk (w.take k):Int):=by rw[IntKind.wrap_i64];omega
     have w2:IntKind.u8.wrap ((w[k].toNat:Int)-48)=(w[k].toNat:Int)-48:=by rw[IntKind.wrap_u8];omega
     have w3:IntKind.i64.wrap ((w[k].toNat:Int)-48)=(w[k].toNat:Int)-48:=by rw[IntKind.wrap_i64];omega
     have w4:IntKind.i64.wrap (10*(Nk (w.take k):Int)+((w[k].toNat:Int)-48))=(Nk (w.take (k+1)):Int):=by rw[IntKind.wrap_i64,hds];omega
     simp(disch:=omega) only[go_sem,↓reduceIte,e0,e3,e4,hlt',hg,Int.toNat_natCast,w1,w2,w3,w4];refine⟨k+1,_,Ni.refl _,(hI _ _ _).2 ?_,by omega⟩;simp(disch:=omega) only[go_sem,↓reduceIte,e0,e3,e4,hwd];(repeat' apply And.intro)<;>(try first | rfl | assumption | omega)
    | false=>
     simp(disch:=omega) only[go_sem,↓reduceIte,e0,e3];refine Nu.refl ⟨?_,rfl⟩;rw[Cs3 (List.all_eq_false.2 ⟨w[k],List.getElem_mem hlt,by rw[hb];simp⟩)]
   ·have:k=w.length:=by omega
    subst this;rw[List.take_length] at hw hv e3;by_cases hb:2147483647<Nk w
    ·have hb':(2147483647:Int)<(Nk w:Int):=by omega
     simp(disch:=omega) only[go_sem,↓reduceIte,e0,e3,e4,hb'];exact Nu.refl ⟨by rw[Cs4 (by omega)],rfl⟩
    ·have hb': ¬(2147483647:Int)<(Nk w:Int):=by omega
     simp(disch:=omega) only[go_sem,↓reduceIte,e0,e3,e4,hb'];exact Nu.refl ⟨by rw[Dc9 hl hw (by omega)],rfl⟩
 ·have hl':(10:Int)<(w.length:Int):=by omega
  simp(disch:=omega) only[go_sem,↓reduceIte,hl'];exact Nu.refl ⟨by rw[Cg6 hl],rfl⟩
theorem Cg9 (G:Nat->DVal) (H:Ac) (s:List UInt8) (hs:s.length<=1000000000):Ai Tryz.prog G 129 [.str s] H (Au (dI (Qd s)) H):=by
 refine Ad Tryz.func129 Tryz.call129 rfl (by kernel_rfl) ?_;simp(disch:=omega) only[go_sem,↓reduceIte];refine(Bo8 G _).mono ?_;rintro _ H1 ⟨rfl,rfl⟩;simp(disch:=omega) only[go_sem,↓reduceIte,Rz];obtain⟨l,hl⟩: ∃l,l=Ya:=⟨_,rfl⟩;rw[<-hl];have hlen:l.length=22:=by rw[hl];rfl
 obtain⟨I,hI⟩: ∃I:Nat->(Nat->DVal)->Ac->Prop,∀k env heap,I k env heap↔(env 0= .str s/\env 3= .vslice (l.map .str) l.length/\env 4=dI k/\k<=l.length/\(∀u∈l.take k,Vo s u=false)/\heap=H1):=⟨_,fun _ _ _=>Iff.rfl⟩;refine Bt4.run I (fun k=>l.length-k) 0 ((hI _ _ _).2 ?_) ?_
 ·simp(disch:=omega) only[go_sem,↓reduceIte];(repeat' apply And.intro)<;>(try first | rfl | assumption | omega);intro u hu;simp at hu
 ·intro k env heap hi;obtain⟨e0,e3,e4,hk,hno,rfl⟩:=(hI _ _ _).1 hi;by_cases hlt:k<l.length
  ·have hlt':(k:Int)<(l.length:Int):=by omega
   have hg:(l.map DVal.str)[k]? =some (.str l[k]):=by rw[List.getElem?_map,List.getElem?_eq_getElem hlt];rfl
   have hwd:IntKind.i64.wrap ((k:Int)+1)=((k+1:Nat):Int):=by rw[IntKind.wrap_i64];omega
   have hbd:Vo s l[k]=(decide (l[k].length<=s.length)&&decide (s.take l[k].length=l[k])):=rfl;simp(disch:=omega) only[go_sem,↓reduceIte,e0,e3,e4,hlt',hlt,hg,Int.toNat_natCast];refine Aj (by kernel_rfl) (.take 0 (.take 1 (.take 2 (.take 3 (.take 4 (.take 5 (.take 6 (.take 7 (.take 8 (.take 9 (.take 10 (.take 11 (.take 12 (.take 13 .done)))))))))))))) (by kernel_rfl) ?_;by_cases h1:l[k].length<=s.length
   ·have h1':(l[k].length:Int)<=(s.length:Int):=by omega
    by_cases h2:s.take l[k].length=l[k]
    ·have hh:Vo s l[k]=true:=by rw[hbd,decide_eq_true h1,decide_eq_true h2];rfl
     simp(disch:=omega) only[go_sem,↓reduceIte,e0,e3,e4,hlt',hlt,hg,h1',h2,Int.toNat_natCast];refine Nu.refl ⟨?_,rfl⟩;rw[Dd0 (k:=k) (w:=l[k]) (by rw[<-hl];exact List.getElem?_eq_getElem hlt) hh (by rw[<-hl];exact hno)]
    ·have hh:Vo s l[k]=false:=by rw[hbd,decide_eq_false h2,Bool.and_false]
     simp(disch:=omega) only[go_sem,↓reduceIte,e0,e3,e4,hlt',hlt,hg,h1',h2,Int.toNat_natCast];refine⟨k+1,_,Ni.refl _,(hI _ _ _).2 ?_,by omega⟩;simp(disch:=omega) only[go_sem,↓reduceIte,e0,e3,e4,hwd];(repeat' apply And.intro)<;>(try first | rfl | assumption | omega);exact It (p:=fun x=>Vo s x=false) hlt hno hh
   ·have h1': ¬(l[k].length:Int)<=(s.length:Int):=by omega
    have hh:Vo s l[k]=false:=by rw[hbd,decide_eq_false h1,Bool.false_and]
    simp(disch:=omega) only[go_sem,↓reduceIte,e0,e3,e4,hlt',hlt,hg,h1',Int.toNat_natCast];refine⟨k+1,_,Ni.refl _,(hI _ _ _).2 ?_,by omega⟩;simp(disch:=omega) only[go_sem,↓reduceIte,e0,e3,e4,hwd];(repeat' apply And.intro)<;>(try first | rfl | assumption | omega);exact It (p:=fun x=>Vo s x=false) hlt hno hh
  ·have:k=l.length:=by omega
   subst this;simp(disch:=omega) only[go_sem,↓reduceIte,e0,e3,e4];rw[List.take_length] at hno;refine Nu.refl ⟨?_,rfl⟩;rw[Cs6 (by rw[<-hl];exact hno)];rfl
theorem Aj1 (G:Nat->DVal) (H:Ac) (c:UInt8) (r:List UInt8) (hs:(c::r).length<=1000000000):Ai Tryz.prog G 75 [.str (c::r)] H (Au (Ae0 (Dd (c::r))) H):=by
 have h0:(c::r)[0]? =some c:=rfl
 have hwl:=Bu5 (c::r)
 have hwt:(c::r).take ((Dg (c::r)).length-0)=Dg (c::r):=Cg7 (c::r)
 have hwl':((Dg (c::r)).length:Int)<=((c::r).length:Int):=by omega
 refine Ad Tryz.func75 Tryz.call75 rfl (by kernel_rfl) ?_
 simp(disch:=omega) only[go_sem,↓reduceIte]
 intro r2 hr2;dsimp only at hr2
 simp(disch:=omega) only[go_sem,↓reduceIte]
 refine(Bg4 G _ (c::r) hs).mono ?_
 rintro _ H1 ⟨rfl,rfl⟩
 simp(disch:=omega) only[go_sem,↓reduceIte,h0]
 refine(Pa G _ c).mono ?_
 rintro _ H1 ⟨rfl,rfl⟩
 generalize hw:Dg (c::r)=w at hwl hwt hwl'
 cases hle:Ez c with
 | true=>
  simp(disch:=omega) only[go_sem,↓reduceIte,h0,hwl',hwt]
  refine(Rn G _ w).mono ?_
  rintro _ H1 ⟨rfl,rfl⟩
  cases hk:Qc w with
  | true=>
   simp(disch:=omega) only[go_sem,↓reduceIte,h0,DVal.cells]
   exact Nu.dropA r2 hr2 (Nu.refl ⟨by rw[Lx,hw,hle,if_pos rfl,hk,if_pos rfl];rfl,rfl⟩)
  | false=>
   simp(disch:=omega) only[go_sem,↓reduceIte,h0]
   refine(Pb G _ w).mono ?_
   rintro _ H1 ⟨rfl,rfl⟩
   cases hn:Kh w with
   | true=>
    simp(disch:=omega) only[go_sem,↓reduceIte,h0,DVal.cells]
    exact Nu.dropA r2 hr2 (Nu.refl ⟨by rw[Lx,hw,hle,if_pos rfl,hk,if_neg (by simp),hn,if_pos rfl];rfl,rfl⟩)
   | false=>
    simp(disch:=omega) only[go_sem,↓reduceIte,h0,DVal.cells]
    exact Nu.dropA r2 hr2 (Nu.refl ⟨by rw[Lx,hw,hle,if_pos rfl,hk,if_neg (by simp),hn,if_neg (by simp)];rfl,rfl⟩)
 | false=>
  simp(disch:=omega) only[go_sem,↓reduceIte,h0]
  refine(Qv G _ c).mono ?_
  rintro _ H1 ⟨rfl,rfl⟩
  cases hd:Fi c with
  | true=>
   have hfc:Dd (c::r)=match Ak8 w with | some v=>(⟨3,0,[],v⟩,w.length) | none=>(Za,0):=by
    rw[Lx,hw,hle,if_neg (by simp),hd,if_pos rfl];cases Ak8 w<;>rfl
   simp(disch:=omega) only[go_sem,↓reduceIte,h0,hwl',hwt]
   refine(Cg8 G _ w).mono ?_
   rintro _ H1 ⟨rfl,rfl⟩
   cases hv:Ak8 w with
   | some v=>
    have hiv:Xl w=(v:Int):=by rw[Xl,hv]
    have hneg: ¬(v:Int)<0:=by omega
    simp(disch:=omega) only[go_sem,↓reduceIte,hiv,hneg,DVal.cells]
    exact Nu.dropA r2 hr2 (Nu.refl ⟨by rw[hfc,hv];rfl,rfl⟩)
   | none=>
    have hiv:Xl w= -1:=by rw[Xl,hv]
    simp(disch:=omega) only[go_sem,↓reduceIte,hiv,DVal.cells]
    exact Nu.dropA r2 hr2 (Nu.refl ⟨by rw[hfc,hv];rfl,rfl⟩)
  | false=>
   have hsl:=Bn7 (c::r)
   have hsl':(Qd (c::r):Int)<=((c::r).length:Int):=by omega
   simp(disch:=omega) only[go_sem,↓reduceIte]
   refine(Cg9 G _ (c::r) hs).mono ?_
   rintro _ H1 ⟨rfl,rfl⟩
   simp(disch:=omega) only[go_sem,↓reduceIte,h0,DVal.cells,hsl']
   exact Nu.dropA r2 hr2 (Nu.refl ⟨by rw[Lx,hle,if_neg (by simp),hd,if_neg (by simp)];simp [Ae0,Ec],rfl⟩)
end
theorem Dd1 {c d:UInt8} {r r':List UInt8} (hd:d≠45) (h:r=d::r'):Jh (c::r)=false:=by
 subst h;unfold Jh;split
 ·rename_i e;simp at e;exact absurd e.2.1 hd
 ·rfl
theorem Dd2 {c:UInt8} {r:List UInt8} (h:r= []):Jh (c::r)=false:=by
 subst h;unfold Jh;split
 ·rename_i e;simp at e
 ·rfl
set_option maxHeartbeats 4000000 in
theorem Aw2 (G:Nat->DVal) (H:Ac) (src:List UInt8) (hs:src.length<=1000000000):Ai Tryz.prog G 28 [.str src] H (Au (.tuple [Cc (Cj src).1,dI (Cj src).2.1,dI (Cj src).2.2]) H):=by
 refine Ad Tryz.func28 Tryz.call28 rfl (by kernel_rfl) ?_
 by_cases hl:65536<src.length
 ·have hl':(65536:Int)<(src.length:Int):=by omega
  simp(disch:=omega) only[go_sem,↓reduceIte,hl',List.append_nil]
  refine Nu.ghost (Hr (H:=H) (Sub.refl H) [dI 0,dI 3] rfl) (Nu.refl ⟨?_,rfl⟩)
  rw[Cj,if_pos hl]
 have hl': ¬(65536:Int)<(src.length:Int):=by omega
 simp(disch:=omega) only[go_sem,↓reduceIte,hl']
 obtain⟨I,hI⟩: ∃I:Nat×Nat×List Tok->(Nat->DVal)->Ac->Prop,∀ix env heap,I ix env heap↔(env 0= .str src/\env 6=dI ix.2.1/\env 7=dI ix.1/\ix.1<=src.length/\ix.2.1<=ix.1+1/\ix.2.2.length<=8192/\Gu (src.drop ix.1) ix.2.1 ix.2.2=Cj src/\Dj H 31 4 ix.2.2.length (ix.2.2.flatMap Ec) (env 5) heap):=⟨_,fun _ _ _=>Iff.rfl⟩
 refine Bt4.run I (fun ix=>src.length-ix.1) (0,1,[]) ((hI _ _ _).2 ?_) ?_
 ·simp(disch:=omega) only[go_sem,↓reduceIte]
  (repeat' apply And.intro)<;>(try first | rfl | assumption | omega)
  ·exact(Bc2 (by omega)).symm
  ·exact Dj.nil _ _ (Sub.refl _)
 ·rintro⟨k,ln,ts⟩ env hp hi
  obtain⟨e0,e6,e7,hk,hln,hts,hr,hv⟩:=(hI _ _ _).1 hi
  dsimp only at e6 e7 hk hln hts hr hv
  obtain⟨v,e5⟩: ∃v,env 5=v:=⟨_,rfl⟩
  rw[e5] at hv
  by_cases hlt:k<src.length
  ·have hlt':(k:Int)<(src.length:Int):=by omega
   have hkl:(k:Int)<=(src.length:Int):=by omega
   obtain⟨c,hc⟩: ∃c,c=src[k]:=⟨_,rfl⟩
   have hg:src[k]? =some c:=by rw[hc];exact List.getElem?_eq_getElem hlt
   have hd:src.drop k=c::src.drop (k+1):=by rw[hc];exact List.drop_eq_getElem_cons hlt
   have hdr:(src.drop k).take (src.length-k)=c::src.drop (k+1):=by rw[<-hd];exact List.take_of_length_le (by rw[List.length_drop];exact Nat.le_refl _)
   have hw1:IntKind.i64.wrap ((k:Int)+1)=((k+1:Nat):Int):=by rw[IntKind.wrap_i64];omega
   have hwl:IntKind.i64.wrap ((ln:Int)+1)=((ln+1:Nat):Int):=by rw[IntKind.wrap_i64];omega
   by_cases c10:c=10
   ·have c10':(c.toNat:Int)=10:=by rw[c10];rfl
    simp(disch:=omega) only[go_sem,↓reduceIte,e0,e5,e6,e7,hlt',hg,c10',Int.toNat_natCast]
    refine⟨(k+1,ln+1,ts),_,Ni.refl _,(hI _ _ _).2 ?_,by dsimp only;omega⟩
    simp(disch:=omega) only[go_sem,↓reduceIte,e0,e5,e6,e7,hw1,hwl]
    (repeat' apply And.intro)<;>(try first | rfl | assumption | omega)
    rw[<-hr,hd,c10,Da8]
   have c10': ¬(c.toNat:Int)=10:=Lw (d:=10) c10
   by_cases c32:c=32
   ·have c32':(c.toNat:Int)=32:=by rw[c32];rfl
    simp(disch:=omega) only[go_sem,↓reduceIte,e0,e5,e6,e7,hlt',hg,c10',c32',Int.toNat_natCast]
    refine⟨(k+1,ln,ts),_,Ni.refl _,(hI _ _ _).2 ?_,by dsimp only;omega⟩
    simp(disch:=omega) only[go_sem,↓reduceIte,e0,e5,e6,e7,hw1,hwl]
    (repeat' apply And.intro)<;>(try first | rfl | assumption | omega)
    rw[<-hr,hd,c32,Da9]
   have c32': ¬(c.toNat:Int)=32:=Lw (d:=32) c32
   by_cases hlt1:k+1<src.length
   ·have hlt1':((k+1:Nat):Int)<(src.length:Int):=by omega
    have hd1:src.drop (k+1)=src[k+1]::src.drop (k+2):=List.drop_eq_getElem_cons hlt1
    have hg1:src[k+1]? =some src[k+1]:=List.getElem?_eq_getElem hlt1
    by_cases c45:c=45
    ·have c45':(c.toNat:Int)=45:=by rw[c45];rfl
     by_cases d45:src[k+1]=45
     ·have d45':(src[k+1].toNat:Int)=45:=by rw[d45];rfl
      have hd2:src.drop k=45::45::src.drop (k+2):=by rw[hd,hd1,c45,d45]
      obtain⟨h,t,hls,hbad,hok⟩:=Co9 (src.drop (k+2)) ln ts
      rw[<-hd2] at hls hbad hok
      rw[hr] at hbad hok
      obtain⟨p1,p2,_⟩:=Qu hls
      have hsh: ∃q,src.drop k=h++q/\(q= []\/ ∃q',q=10::q'):=by
       rcases p2 with⟨_,e⟩ | ⟨_,e⟩
       ·exact⟨[],by rw[e,List.append_nil], .inl rfl⟩
       ·exact⟨_,e, .inr ⟨_,rfl⟩⟩
      obtain⟨q,hq,hq2⟩:=hsh
      have hpos:0<h.length:=by
       match h,hq with
       | [],hq=>
        rw[hd2] at hq
        rcases hq2 with rfl | ⟨q',rfl⟩
        ·cases hq
        ·have:=(List.cons.inj hq).1;exact absurd this (by decide)
       | x::h,_=>simp
      have hhl:k+h.length+q.length=src.length:=by
       have:=congrArg List.length hq
       rw[List.length_drop,List.length_append] at this;omega
      have hat: ∀j (hj:j<h.length),src[k+j]? =some h[j]:=fun j hj=>by
       rw[<-List.getElem?_drop,hq,List.getElem?_append_left hj,List.getElem?_eq_getElem hj]
      have hend:src[k+h.length]? =q[0]? :=by
       rw[<-List.getElem?_drop,hq,List.getElem?_append_right (Nat.le_refl _),Nat.sub_self]
      simp(disch:=omega) only[go_sem,↓reduceIte,e0,e5,e6,e7,hlt',hg,c10',c32',hw1,hlt1',hg1,c45',d45',Int.toNat_natCast]
      obtain⟨J,hJ⟩: ∃J:Nat->(Nat->DVal)->Ac->Prop,∀j env heap,J j env heap↔(env 0= .str src/\env 5=v/\env 6=dI ln/\env 7=dI ((k+j:Nat):Int)/\j<=h.length/\Jr (h.take j)=true/\heap=hp):=⟨_,fun _ _ _=>Iff.rfl⟩
      refine Bt4.run J (fun j=>h.length-j) 0 ((hJ _ _ _).2 ?_) ?_
      ·simp(disch:=omega) only[go_sem,↓reduceIte,e0,e5,e6,e7,Nat.add_zero]
       (repeat' apply And.intro)<;>(try first | rfl | assumption | omega)
      ·intro j env' hp' hi'
       obtain⟨f0,f5,f6,f7,hj,hpl,rfl⟩:=(hJ _ _ _).1 hi'
       by_cases hjl:j<h.length
       ·have hjl':((k+j:Nat):Int)<(src.length:Int):=by omega
        have hgj:=hat j hjl
        have hn10: ¬(h[j].toNat:Int)=10:=Lw (d:=10) fun e=>p1 (by rw[<-e];exact List.getElem_mem hjl)
        have hwj:IntKind.i64.wrap (((k+j:Nat):Int)+1)=((k+(j+1):Nat):Int):=by rw[IntKind.wrap_i64];omega
        have hb: ¬(32<=h[j].toNat/\h[j].toNat<=126)->Jr h=false:=fun x=>by
         rw[Jr,List.all_eq_false]
         refine⟨h[j],List.getElem_mem hjl,?_⟩
         simp only[Bool.and_eq_true,decide_eq_true_eq];exact x
        by_cases h1:h[j].toNat<32
        ·have h1':(h[j].toNat:Int)<32:=by omega
         simp(disch:=omega) only[go_sem,↓reduceIte,f0,f5,f6,f7,hjl',hgj,hn10,h1',Int.toNat_natCast]
         refine Nu.ghost (Hr (H:=H) hv.sub [dI ln,dI 20] rfl) (Nu.refl ⟨?_,rfl⟩)
         rw[hbad (hb (by omega))]
        ·have h1': ¬(h[j].toNat:Int)<32:=by omega
         by_cases h2:126<h[j].toNat
         ·have h2':(126:Int)<(h[j].toNat:Int):=by omega
          simp(disch:=omega) only[go_sem,↓reduceIte,f0,f5,f6,f7,hjl',hgj,hn10,h1',h2',Int.toNat_natCast]
          refine Nu.ghost (Hr (H:=H) hv.sub [dI ln,dI 20] rfl) (Nu.refl ⟨?_,rfl⟩)
          rw[hbad (hb (by omega))]
         ·have h2': ¬(126:Int)<(h[j].toNat:Int):=by omega
          simp(disch:=omega) only[go_sem,↓reduceIte,f0,f5,f6,f7,hjl',hgj,hn10,h1',h2',Int.toNat_natCast]
          refine⟨j+1,_,Ni.refl _,(hJ _ _ _).2 ?_,by omega⟩
          simp(disch:=omega) only[go_sem,↓reduceIte,f0,f5,f6,f7,hwj]
          (repeat' apply And.intro)<;>(try first | rfl | assumption | omega)
          rw[List.take_add_one,List.getElem?_eq_getElem hjl,Cc9,hpl]
          simp [Jr];omega
       ·have:j=h.length:=by omega
        subst this
        rw[List.take_length] at hpl
        have hgo:=hok hpl
        rw[List.drop_drop] at hgo
        rcases hq2 with rfl | ⟨q',rfl⟩
        ·have hjl': ¬((k+h.length:Nat):Int)<(src.length:Int):=by simp at hhl;omega
         simp(disch:=omega) only[go_sem,↓reduceIte,f0,f5,f6,f7,hjl']
         refine⟨(k+h.length,ln,ts),_,Ni.refl _,(hI _ _ _).2 ?_,by dsimp only;omega⟩
         simp(disch:=omega) only[go_sem,↓reduceIte,f0,f5,f6,f7]
         (repeat' apply And.intro)<;>(try first | rfl | assumption | omega)
         exact hgo.symm
        ·have hjl':((k+h.length:Nat):Int)<(src.length:Int):=by simp at hhl;omega
         simp(disch:=omega) only[go_sem,↓reduceIte,f0,f5,f6,f7,hjl',hend,List.getElem?_cons_zero,Int.toNat_natCast]
         refine⟨(k+h.length,ln,ts),_,Ni.refl _,(hI _ _ _).2 ?_,by dsimp only;omega⟩
         simp(disch:=omega) only[go_sem,↓reduceIte,f0,f5,f6,f7]
         (repeat' apply And.intro)<;>(try first | rfl | assumption | omega)
         exact hgo.symm
     ·have d45': ¬(src[k+1].toNat:Int)=45:=Lw (d:=45) d45
      ·have hcom:Jh (c::src.drop (k+1))=false:=Dd1 d45 hd1
       simp(disch:=omega) only[go_sem,↓reduceIte,e0,e5,e6,e7,hlt',hg,c10',c32',hlt1',hg1,c45',d45',Int.toNat_natCast,hdr,hkl,hw1]
       refine(Aj1 G _ c (src.drop (k+1)) (by rw[<-hd,List.length_drop];omega)).mono ?_
       rintro _ H1 ⟨rfl,rfl⟩
       have htk:=Ad8 ln ts c10 c32 hcom
       have hfl:=Un (c::src.drop (k+1))
       rw[<-hd,List.length_drop] at hfl
       rw[<-hd,hr] at htk
       rw[<-hd]
       generalize hf:Dd (src.drop k)=tn at htk hfl
       obtain⟨T,n⟩:=tn
       dsimp only at htk hfl
       simp(disch:=omega) only[go_sem,↓reduceIte,Ae0,DVal.cells,e0,e5,e6,e7]
       intro r8 hr8;dsimp only at hr8
       have hvf:=hv.frame hr8 (.cells (Ec { T with line:=(ln:Int) }) 31)
       by_cases hn:n=0
       ·have hn':(n:Int)=0:=by omega
        rw[if_pos hn] at htk
        simp(disch:=omega) only[go_sem,↓reduceIte,e0,e5,e6,e7,hn',Bm,Il,Im,Gg,List.append_nil]
        refine Nu.ghost (Hr (H:=H) (hv.new hr8 _).sub [dI ln,dI 20] rfl) (Nu.refl ⟨?_,rfl⟩)
        rw[htk]
       ·have hn': ¬(n:Int)=0:=by omega
        rw[if_neg hn] at htk
        by_cases h8:ts.length=8192
        ·have h8':(ts.length:Int)=8192:=by omega
         rw[if_pos h8] at htk
         simp(disch:=omega) only[go_sem,↓reduceIte,e0,e5,e6,e7,hn',hv.dLen,h8',Bm,Il,Im,Gg,List.append_nil]
         refine Nu.ghost (Hr (H:=H) (hv.new hr8 _).sub [dI ln,dI 3] rfl) (Nu.refl ⟨?_,rfl⟩)
         rw[htk]
        ·have h8': ¬(ts.length:Int)=8192:=by omega
         rw[if_neg h8] at htk
         have hsp:Cz (Ec T) 1 [dI (ln:Int)]=Ec { T with line:=(ln:Int) }:=rfl
         have hrep:Cx 1 [DVal.int IntKind.u8 0,DVal.int IntKind.i64 0,DVal.str [],DVal.int IntKind.i64 0]= [DVal.int IntKind.u8 0,DVal.int IntKind.i64 0,DVal.str [],DVal.int IntKind.i64 0]:=rfl
         have hwn:IntKind.i64.wrap ((k:Int)+(n:Int))=((k+n:Nat):Int):=by rw[IntKind.wrap_i64];omega
         simp(disch:=omega) only[go_sem,↓reduceIte,e0,e5,e6,e7,hn',hv.dLen,h8',Bm,Il,Im,Gg,List.append_nil,hsp]
         rw[hrep]
         simp(disch:=omega) only[go_sem,↓reduceIte,List.length_cons,List.length_nil,List.drop_succ_cons,List.drop_zero,List.append_nil,e5]
         intro ns hns;dsimp only at hns
         simp(disch:=omega) only[go_sem,↓reduceIte,e0,e5,e6,e7,Bm,Il,Im,Gg,List.append_nil]
         refine Dj.append (m:=1) (hvf.new hns _) rfl (by omega) fun v2 H3 hv3=> ?_
         simp(disch:=omega) only[go_sem,↓reduceIte,e0,e5,e6,e7]
         refine⟨(k+n,ln,ts++ [{ T with line:=(ln:Int) }]),_,Ni.refl _,(hI _ _ _).2 ?_,by dsimp only;omega⟩
         simp(disch:=omega) only[go_sem,↓reduceIte,e0,e5,e6,e7,hwn]
         (repeat' apply And.intro)<;>(try first | rfl | assumption | omega)
         ·rw[List.length_append];simp;omega
         ·rw[<-List.drop_drop,<-htk]
         ·have:=hv3.less ((Sub.refl H).up (hv.sub.lo hr8) _)
          rw[List.length_append,List.flatMap_append]
          simpa using this
    ·have c45': ¬(c.toNat:Int)=45:=Lw (d:=45) c45
     ·have hcom:Jh (c::src.drop (k+1))=false:=Dk8 _ c45
      simp(disch:=omega) only[go_sem,↓reduceIte,e0,e5,e6,e7,hlt',hg,c10',c32',hlt1',hg1,c45',Int.toNat_natCast,hdr,hkl,hw1]
      refine(Aj1 G _ c (src.drop (k+1)) (by rw[<-hd,List.length_drop];omega)).mono ?_
      rintro _ H1 ⟨rfl,rfl⟩
      have htk:=Ad8 ln ts c10 c32 hcom
      have hfl:=Un (c::src.drop (k+1))
      rw[<-hd,List.length_drop] at hfl
      rw[<-hd,hr] at htk
      rw[<-hd]
      generalize hf:Dd (src.drop k)=tn at htk hfl
      obtain⟨T,n⟩:=tn
      dsimp only at htk hfl
      simp(disch:=omega) only[go_sem,↓reduceIte,Ae0,DVal.cells,e0,e5,e6,e7]
      intro r8 hr8;dsimp only at hr8
      have hvf:=hv.frame hr8 (.cells (Ec { T with line:=(ln:Int) }) 31)
      by_cases hn:n=0
      ·have hn':(n:Int)=0:=by omega
       rw[if_pos hn] at htk
       simp(disch:=omega) only[go_sem,↓reduceIte,e0,e5,e6,e7,hn',Bm,Il,Im,Gg,List.append_nil]
       refine Nu.ghost (Hr (H:=H) (hv.new hr8 _).sub [dI ln,dI 20] rfl) (Nu.refl ⟨?_,rfl⟩)
       rw[htk]
      ·have hn': ¬(n:Int)=0:=by omega
       rw[if_neg hn] at htk
       by_cases h8:ts.length=8192
       ·have h8':(ts.length:Int)=8192:=by omega
        rw[if_pos h8] at htk
        simp(disch:=omega) only[go_sem,↓reduceIte,e0,e5,e6,e7,hn',hv.dLen,h8',Bm,Il,Im,Gg,List.append_nil]
        refine Nu.ghost (Hr (H:=H) (hv.new hr8 _).sub [dI ln,dI 3] rfl) (Nu.refl ⟨?_,rfl⟩)
        rw[htk]
       ·have h8': ¬(ts.length:Int)=8192:=by omega
        rw[if_neg h8] at htk
        have hsp:Cz (Ec T) 1 [dI (ln:Int)]=Ec { T with line:=(ln:Int) }:=rfl
        have hrep:Cx 1 [DVal.int IntKind.u8 0,DVal.int IntKind.i64 0,DVal.str [],DVal.int IntKind.i64 0]= [DVal.int IntKind.u8 0,DVal.int IntKind.i64 0,DVal.str [],DVal.int IntKind.i64 0]:=rfl
        have hwn:IntKind.i64.wrap ((k:Int)+(n:Int))=((k+n:Nat):Int):=by rw[IntKind.wrap_i64];omega
        simp(disch:=omega) only[go_sem,↓reduceIte,e0,e5,e6,e7,hn',hv.dLen,h8',Bm,Il,Im,Gg,List.append_nil,hsp]
        rw[hrep]
        simp(disch:=omega) only[go_sem,↓reduceIte,List.length_cons,List.length_nil,List.drop_succ_cons,List.drop_zero,List.append_nil,e5]
        intro ns hns;dsimp only at hns
        simp(disch:=omega) only[go_sem,↓reduceIte,e0,e5,e6,e7,Bm,Il,Im,Gg,List.append_nil]
        refine Dj.append (m:=1) (hvf.new hns _) rfl (by omega) fun v2 H3 hv3=> ?_
        simp(disch:=omega) only[go_sem,↓reduceIte,e0,e5,e6,e7]
        refine⟨(k+n,ln,ts++ [{ T with line:=(ln:Int) }]),_,Ni.refl _,(hI _ _ _).2 ?_,by dsimp only;omega⟩
        simp(disch:=omega) only[go_sem,↓reduceIte,e0,e5,e6,e7,hwn]
        (repeat' apply And.intro)<;>(try first | rfl | assumption | omega)
        ·rw[List.length_append];simp;omega
        ·rw[<-List.drop_drop,<-htk]
        ·have:=hv3.less ((Sub.refl H).up (hv.sub.lo hr8) _)
         rw[List.length_append,List.flatMap_append]
         simpa using this
   ·have hlt1': ¬((k+1:Nat):Int)<(src.length:Int):=by omega
    have hd1:src.drop (k+1)= []:=List.drop_eq_nil_of_le (by omega)
    ·have hcom:Jh (c::src.drop (k+1))=false:=Dd2 hd1
     simp(disch:=omega) only[go_sem,↓reduceIte,e0,e5,e6,e7,hlt',hg,c10',c32',hlt1',Int.toNat_natCast,hdr,hkl,hw1]
     refine(Aj1 G _ c (src.drop (k+1)) (by rw[<-hd,List.length_drop];omega)).mono ?_
     rintro _ H1 ⟨rfl,rfl⟩
     have htk:=Ad8 ln ts c10 c32 hcom
     have hfl:=Un (c::src.drop (k+1))
     rw[<-hd,List.length_drop] at hfl
     rw[<-hd,hr] at htk
     rw[<-hd]
     generalize hf:Dd (src.drop k)=tn at htk hfl
     obtain⟨T,n⟩:=tn
     dsimp only at htk hfl
     simp(disch:=omega) only[go_sem,↓reduceIte,Ae0,DVal.cells,e0,e5,e6,e7]
     intro r8 hr8;dsimp only at hr8
     have hvf:=hv.frame hr8 (.cells (Ec { T with line:=(ln:Int) }) 31)
     by_cases hn:n=0
     ·have hn':(n:Int)=0:=by omega
      rw[if_pos hn] at htk
      simp(disch:=omega) only[go_sem,↓reduceIte,e0,e5,e6,e7,hn',Bm,Il,Im,Gg,List.append_nil]
      refine Nu.ghost (Hr (H:=H) (hv.new hr8 _).sub [dI ln,dI 20] rfl) (Nu.refl ⟨?_,rfl⟩)
      rw[htk]
     ·have hn': ¬(n:Int)=0:=by omega
      rw[if_neg hn] at htk
      by_cases h8:ts.length=8192
      ·have h8':(ts.length:Int)=8192:=by omega
       rw[if_pos h8] at htk
       simp(disch:=omega) only[go_sem,↓reduceIte,e0,e5,e6,e7,hn',hv.dLen,h8',Bm,Il,Im,Gg,List.append_nil]
       refine Nu.ghost (Hr (H:=H) (hv.new hr8 _).sub [dI ln,dI 3] rfl) (Nu.refl ⟨?_,rfl⟩)
       rw[htk]
      ·have h8': ¬(ts.length:Int)=8192:=by omega
       rw[if_neg h8] at htk
       have hsp:Cz (Ec T) 1 [dI (ln:Int)]=Ec { T with line:=(ln:Int) }:=rfl
       have hrep:Cx 1 [DVal.int IntKind.u8 0,DVal.int IntKind.i64 0,DVal.str [],DVal.int IntKind.i64 0]= [DVal.int IntKind.u8 0,DVal.int IntKind.i64 0,DVal.str [],DVal.int IntKind.i64 0]:=rfl
       have hwn:IntKind.i64.wrap ((k:Int)+(n:Int))=((k+n:Nat):Int):=by rw[IntKind.wrap_i64];omega
       simp(disch:=omega) only[go_sem,↓reduceIte,e0,e5,e6,e7,hn',hv.dLen,h8',Bm,Il,Im,Gg,List.append_nil,hsp]
       rw[hrep]
       simp(disch:=omega) only[go_sem,↓reduceIte,List.length_cons,List.length_nil,List.drop_succ_cons,List.drop_zero,List.append_nil,e5]
       intro ns hns;dsimp only at hns
       simp(disch:=omega) only[go_sem,↓reduceIte,e0,e5,e6,e7,Bm,Il,Im,Gg,List.append_nil]
       refine Dj.append (m:=1) (hvf.new hns _) rfl (by omega) fun v2 H3 hv3=> ?_
       simp(disch:=omega) only[go_sem,↓reduceIte,e0,e5,e6,e7]
       refine⟨(k+n,ln,ts++ [{ T with line:=(ln:Int) }]),_,Ni.refl _,(hI _ _ _).2 ?_,by dsimp only;omega⟩
       simp(disch:=omega) only[go_sem,↓reduceIte,e0,e5,e6,e7,hwn]
       (repeat' apply And.intro)<;>(try first | rfl | assumption | omega)
       ·rw[List.length_append];simp;omega
       ·rw[<-List.drop_drop,<-htk]
       ·have:=hv3.less ((Sub.refl H).up (hv.sub.lo hr8) _)
        rw[List.length_append,List.flatMap_append]
        simpa using this
  ·have:k=src.length:=by omega
   subst this
   simp(disch:=omega) only[go_sem,↓reduceIte,e0,e5,e6,e7]
   refine Nu.ghost (Hz.tuple1' (pre:= []) hv.ghost rfl rfl) (Nu.refl ⟨?_,rfl⟩)
   rw[List.drop_length,Co7] at hr
   rw[<-hr];rfl
end Go.Dl

-- Chapter 3: the law's helpers.
namespace Go.Dl
open Go Go.Proofs
set_option maxRecDepth 100000
theorem Ai.monoR {P:Program} {G:Nat->DVal} {f:FuncId} {args:List DVal} {H H2:Ac} {v:DVal} {R:DEnd->Ac->Prop} (h:Ai P G f args H (Au v H2)) (k:R (.ret v) H2):Ai P G f args H R:=h.mono (by rintro _ _ ⟨rfl,rfl⟩;exact k)
def nmE (s:List UInt8):Ex:= .mk 3 0 0 s [] [] 0 0 0
def Bz (n:Int):Ex:= .mk 1 0 n [] [] [] 0 0 0
def Aw3 (o:Int) (a b:Ex):Ex:= .mk 12 o 0 [] [a,b] [] 0 0 0
def Tj (o:Int) (a:Ex):Ex:= .mk 11 o 0 [] [a] [] 0 0 0
def Cs7 (n:Nat):Int:=if n=0 then 3 else n
def Mf (s:List UInt8) (lv n:Int) (want:Ex):Bool:=decide ((Ee (Cj s).1 lv).2.2=0)&&decide ((Ee (Cj s).1 lv).2.1=n)&&Gr (Ee (Cj s).1 lv).1 want
def Xm (s:List UInt8) (lv at':Int):Bool:=Gr (Ee (Cj s).1 lv).1 ex0&&decide ((Ee (Cj s).1 lv).2.1=at')&&decide ((Ee (Cj s).1 lv).2.2=30)
section
variable {G:Nat->DVal} {H:Ac}
theorem Hh (G:Nat->DVal) (H:Ac) (s:List UInt8):Ai Tryz.prog G 5 [.str s] H (Au (dE (nmE s)) H):=by
 refine Ad Tryz.func5 Tryz.call5 rfl (by kernel_rfl) ?_;simp(disch:=omega) only[go_sem,↓reduceIte];intro r hr;dsimp only at hr;simp(disch:=omega) only[go_sem,↓reduceIte];have hs:=fun z=>(Sub.refl H).new hr z;exact Fc.fin (hs _) (Fc.agg (Fc.ex (hs _) (.exs0 (hs _)) (.as0 (hs _)))) ⟨rfl,rfl⟩
theorem Gb (G:Nat->DVal) (H:Ac) (n:Int):Ai Tryz.prog G 12 [.int .i64 n] H (Au (dE (Bz n)) H):=by
 refine Ad Tryz.func12 Tryz.call12 rfl (by kernel_rfl) ?_;simp(disch:=omega) only[go_sem,↓reduceIte];intro r hr;dsimp only at hr;simp(disch:=omega) only[go_sem,↓reduceIte];have hs:=fun z=>(Sub.refl H).new hr z;exact Fc.fin (hs _) (Fc.agg (Fc.ex (hs _) (.exs0 (hs _)) (.as0 (hs _)))) ⟨rfl,rfl⟩
theorem Ka (G:Nat->DVal) (H:Ac) (o:Int) (a b:Ex):Ai Tryz.prog G 50 [.int .u8 o, .agg (dEx a), .agg (dEx b)] H (Au (dE (Aw3 o a b)) H):=by
 have hlx:(dEx a).length=9:=Ah a;have hly:(dEx b).length=9:=Ah b;have hab: [a,b].flatMap dEx=dEx a++dEx b:=by simp
 refine Ad Tryz.func50 Tryz.call50 rfl (by kernel_rfl) ?_;simp(disch:=omega) only[go_sem,↓reduceIte,DVal.cells];intro r4 hr4;dsimp only at hr4;simp(disch:=omega) only[go_sem,↓reduceIte,DVal.cells];intro r5 hr5;dsimp only at hr5;obtain⟨m1,m2,hr5'⟩:=De7.1 hr5;simp(disch:=omega) only[go_sem,↓reduceIte];intro r6 hr6;dsimp only at hr6;obtain⟨m3,m4,hr6a⟩:=De7.1 hr6;obtain⟨m5,m6,hr6'⟩:=De7.1 hr6a;simp(disch:=omega) only[go_sem,↓reduceIte,m1,m2,m3,m4,m5,m6];rw[Gk hlx hly];simp(disch:=omega) only[go_sem,↓reduceIte,m1,m2,m3,m4,m5,m6];intro r7 hr7;dsimp only at hr7;obtain⟨p1,p2,hr7a⟩:=De7.1 hr7;obtain⟨p3,p4,hr7b⟩:=De7.1 hr7a;obtain⟨p5,p6,hr7'⟩:=De7.1 hr7b;simp(disch:=omega) only[go_sem,↓reduceIte,m1,m2,m3,m4,m5,m6,p1,p2,p3,p4,p5,p6];have hs:=(((((Sub.refl H).new hr4 (some (.cells (dEx a) 27))).new hr5 (some (.cells (dEx b) 27))).new hr6 (some (.cells [.int .u8 0, .int .u8 0, .int .i64 0, .str [], .nilSlice, .nilSlice, .int .i64 0, .int .i64 0, .int .i64 0] 27))).new hr7 (some (.cells (dEx a++dEx b) 27))).up hr6' (some (.cells [.int .u8 12, .int .u8 o, .int .i64 0, .str [], .oslice 9 r7 0 2 2, .nilSlice, .int .i64 0, .int .i64 0, .int .i64 0] 27));refine Fc.fin hs (Fc.agg (Fc.ex (l:= [a,b]) hs (Fc.block (e:=27) hs hr7' ?_ ?_) (.as0 hs))) ⟨rfl,rfl⟩
 ·rw[hab];simp [upd,p1,p2]
 ·rw[hab,List.length_append,hlx,hly]
theorem Ll (G:Nat->DVal) (H:Ac) (o:Int) (a:Ex):Ai Tryz.prog G 6 [.int .u8 o, .agg (dEx a)] H (Au (dE (Tj o a)) H):=by
 have hlx:(dEx a).length=9:=Ah a;refine Ad Tryz.func6 Tryz.call6 rfl (by kernel_rfl) ?_;simp(disch:=omega) only[go_sem,↓reduceIte,DVal.cells];intro r4 hr4;dsimp only at hr4;simp(disch:=omega) only[go_sem,↓reduceIte,DVal.cells];intro r6 hr6;dsimp only at hr6;obtain⟨m3,m4,hr6'⟩:=De7.1 hr6;simp(disch:=omega) only[go_sem,↓reduceIte,m3,m4];rw[Cy hlx];simp(disch:=omega) only[go_sem,↓reduceIte,m3,m4];intro r7 hr7;dsimp only at hr7;obtain⟨p1,p2,hr7a⟩:=De7.1 hr7;obtain⟨p3,p4,hr7'⟩:=De7.1 hr7a;simp(disch:=omega) only[go_sem,↓reduceIte,m3,m4,p1,p2,p3,p4];have hs:=((((Sub.refl H).new hr4 (some (.cells (dEx a) 27))).new hr6 (some (.cells [.int .u8 0, .int .u8 0, .int .i64 0, .str [], .nilSlice, .nilSlice, .int .i64 0, .int .i64 0, .int .i64 0] 27))).new hr7 (some (.cells (dEx a) 27))).up hr6' (some (.cells [.int .u8 11, .int .u8 o, .int .i64 0, .str [], .oslice 9 r7 0 1 1, .nilSlice, .int .i64 0, .int .i64 0, .int .i64 0] 27));refine Fc.fin hs (Fc.agg (Fc.ex (l:= [a]) hs (Fc.block (e:=27) hs hr7' ?_ ?_) (.as0 hs))) ⟨rfl,rfl⟩
 ·rw[List.flatMap_singleton];simp [upd,p1,p2]
 ·rw[List.flatMap_singleton,hlx]
theorem Lg (G:Nat->DVal) (H:Ac) (l:List Ex) (hl:l.length<=2):Ai Tryz.prog G 13 [dXs l] H (Au (dC (.mk (Cs7 l.length) l)) H):=by
 have hk:([DVal.int .u8 3, .int .u8 1, .int .u8 2]:List DVal)[l.length]? =some (.int .u8 (Cs7 l.length)):=by
  have:l.length=0\/l.length=1\/l.length=2:=by omega
  rcases this with h | h | h<;>(rw[h];rfl)
 have hl3:(l.length:Int)<3:=by omega
 refine Ad Tryz.func13 Tryz.call13 rfl (by kernel_rfl) ?_;simp(disch:=omega) only[go_sem,↓reduceIte];intro r2 hr2;dsimp only at hr2;simp(disch:=omega) only[go_sem,↓reduceIte];intro r3 hr3;dsimp only at hr3;obtain⟨m1,m2,hr3'⟩:=De7.1 hr3;simp(disch:=omega) only[go_sem,↓reduceIte,m1,m2,dXs,hl3,hk,Int.toNat_natCast];have hs:=fun y z=>((Sub.refl H).new hr2 (some (.cells [.int .u8 0, .nilSlice] 47))).new hr3 y |>.up hr2 z;rw[dC,Pd];exact Nu.sub (hs _ _) (.refl ⟨rfl,rfl⟩)
theorem Mg (G:Nat->DVal) (H:Ac) (s:List UInt8) (hs:s.length<=1000000000):Ai Tryz.prog G 8 [.str s] H (Au (Cc (Cj s).1) H):=by
 refine Ad Tryz.func8 Tryz.call8 rfl (by kernel_rfl) ?_;simp(disch:=omega) only[go_sem,↓reduceIte];refine(Aw2 G H s hs).mono ?_;rintro _ K1 ⟨rfl,rfl⟩;simp(disch:=omega) only[go_sem,↓reduceIte];exact Nu.refl ⟨rfl,rfl⟩
theorem Bg5 (hG:GX G) (H:Ac) (s:List UInt8) (lv n:Int) (want:Ex) (hs:s.length<=800000) (hT:Gq (Cj s).1) (hl:(Cj s).1.length<=800000) (hF: ∀y,(Ee (Cj s).1 lv).1=y->Cv y<=1099511627776):
  Ai Tryz.prog G 49 [.str s,dI lv,dI n, .agg (dEx want)] H (Au (.bool (Mf s lv n want)) H):=by
 unfold Mf;refine Ad Tryz.func49 Tryz.call49 rfl (by kernel_rfl) ?_;simp(disch:=omega) only[go_sem,↓reduceIte,DVal.cells];intro r7 hr7;dsimp only at hr7;have hs7:=(Sub.refl H).new hr7 (some (.cells (dEx want) 27));simp(disch:=omega) only[go_sem,↓reduceIte];refine(Mg G _ s (by omega)).mono ?_;rintro _ K1 ⟨rfl,rfl⟩;simp(disch:=omega) only[go_sem,↓reduceIte];refine(Tg hG _ lv hl hT).mono ?_;rintro _ K2 ⟨rfl,rfl⟩;obtain⟨p,hp⟩: ∃p,p=Ee (Cj s).1 lv:=⟨_,rfl⟩;have hFp:=hF p.1 (by rw[hp]);rw[<-hp];simp(disch:=omega) only[go_sem,↓reduceIte,Xg,dE];intro r9 hr9;dsimp only at hr9;have n79:r7≠r9:=Ae hr9 (Aa _ _ _);have m79:=n79.symm;have hlx:=Ah p.1;have hox:=Al p.1;have hs9:=hs7.new hr9 (some (.cells (dEx p.1) 27));have h0:(dI p.2.2)= .int .i64 p.2.2:=rfl;simp(disch:=omega) only[go_sem,↓reduceIte,hlx,hox];by_cases c1:p.2.2=0
 ·by_cases c2:p.2.1=n
  ·simp(disch:=omega) only[go_sem,↓reduceIte,c1,c2,n79,m79];refine(Ao4 G _ p.1 want hFp).mono ?_;rintro _ K3 ⟨rfl,rfl⟩;simp(disch:=omega) only[go_sem,↓reduceIte];exact Nu.sub hs9 (.refl ⟨by simp,rfl⟩)
  ·simp(disch:=omega) only[go_sem,↓reduceIte,c1,c2,n79,m79];exact Nu.sub hs9 (.refl ⟨by simp,rfl⟩)
 ·simp(disch:=omega) only[go_sem,↓reduceIte,c1,n79,m79];exact Nu.sub hs9 (.refl ⟨by simp,rfl⟩)
theorem Bg6 (hG:GX G) (H:Ac) (s:List UInt8) (lv n:Int) (hs:s.length<=800000) (hT:Gq (Cj s).1) (hl:(Cj s).1.length<=800000) (hF: ∀y,(Ee (Cj s).1 lv).1=y->Cv y<=1099511627776):
  Ai Tryz.prog G 51 [.str s,dI lv,dI n] H (Au (.bool (Xm s lv n)) H):=by
 unfold Xm;refine Ad Tryz.func51 Tryz.call51 rfl (by kernel_rfl) ?_;simp(disch:=omega) only[go_sem,↓reduceIte];refine(Mg G _ s (by omega)).mono ?_;rintro _ K1 ⟨rfl,rfl⟩;simp(disch:=omega) only[go_sem,↓reduceIte];refine(Tg hG _ lv hl hT).mono ?_;rintro _ K2 ⟨rfl,rfl⟩;obtain⟨p,hp⟩: ∃p,p=Ee (Cj s).1 lv:=⟨_,rfl⟩;have hFp:=hF p.1 (by rw[hp]);rw[<-hp];simp(disch:=omega) only[go_sem,↓reduceIte,Xg,dE];intro r9 hr9;dsimp only at hr9;have hlx:=Ah p.1;have hox:=Al p.1;have hs9:=(Sub.refl K2).new hr9 (some (.cells (dEx p.1) 27));simp(disch:=omega) only[go_sem,↓reduceIte,hlx,hox];refine(Ek.lent (args':= [.agg (dEx p.1), .agg (dEx ex0)]) (H:=K2) (.cons (Fc.keep hs9 _) (.cons (Fc.ex0 hs9) .nil)) (Ao4 G h0 p.1 ex0 hFp) rfl).mono ?_;rintro _ K3 ⟨rfl,rfl⟩;by_cases c0:Gr p.1 ex0=true
 ·by_cases c1:p.2.1=n
  ·simp(disch:=omega) only[go_sem,↓reduceIte,c0,c1];exact Nu.sub hs9 (.refl ⟨by simp,rfl⟩)
  ·simp(disch:=omega) only[go_sem,↓reduceIte,c0,c1];exact Nu.sub hs9 (.refl ⟨by simp,rfl⟩)
 ·rw[Bool.not_eq_true] at c0;simp(disch:=omega) only[go_sem,↓reduceIte,c0];exact Nu.sub hs9 (.refl ⟨by simp,rfl⟩)
end
end Go.Dl

-- Chapter 3: awake: the examples.
namespace Go.Dl
open Go Go.Proofs
set_option maxRecDepth 100000
theorem Ch0 {l:List Tok} (h:(l.all fun t=>decide (t.text.length<=9223372036854775807))=true):Gq l:=fun k=>by
 rw[tk,List.getD];cases hk:l[k]? with
 | none=>decide
 | some t=>simpa using List.all_eq_true.1 h t (List.mem_of_getElem? hk)
def okB (s:List UInt8) (lv:Int):Bool:=decide (s.length<=800000)&&((Cj s).1.all fun t=>decide (t.text.length<=9223372036854775807))&&decide ((Cj s).1.length<=800000)&&decide (Cv (Ee (Cj s).1 lv).1<=1099511627776)
theorem Cs8 {s:List UInt8} {lv:Int} (h:okB s lv=true):s.length<=800000/\Gq (Cj s).1/\(Cj s).1.length<=800000/\ ∀y,(Ee (Cj s).1 lv).1=y->Cv y<=1099511627776:=by
 simp only[okB,Bool.and_eq_true,decide_eq_true_eq] at h;exact⟨h.1.1.1,Ch0 h.1.1.2,h.1.2,fun y e=>by rw[<-e];exact h.2⟩
section
variable {G:Nat->DVal}
theorem Hj (hG:GX G) (H:Ac) (s:List UInt8) (lv n:Int) (want:Ex) (h:(okB s lv&&Mf s lv n want)=true):Ai Tryz.prog G 49 [.str s,dI lv,dI n, .agg (dEx want)] H (Au (.bool true) H):=by
 rw[Bool.and_eq_true] at h;obtain⟨h1,h2,h3,h4⟩:=Cs8 h.1;have:=Bg5 hG H s lv n want h1 h2 h3 h4;rw[h.2] at this;exact this
theorem Tk (hG:GX G) (H:Ac) (s:List UInt8) (lv n:Int) (h:(okB s lv&&Xm s lv n)=true):Ai Tryz.prog G 51 [.str s,dI lv,dI n] H (Au (.bool true) H):=by
 rw[Bool.and_eq_true] at h;obtain⟨h1,h2,h3,h4⟩:=Cs8 h.1;have:=Bg6 hG H s lv n h1 h2 h3 h4;rw[h.2] at this;exact this
def eA:Ex:=nmE [65]
def eB:Ex:=nmE [66]
def eC:Ex:=nmE [67]
def Se:List As:= [.mk [] (nmE [88]), .mk [.mk 1 [nmE [78]]] (Bz 1)]
def Yt:Ex:= .mk 7 0 0 [] [nmE [70]] Se 0 0 0
def Br0:Ex:= .mk 6 0 0 [70,105,114,115,116] [.mk 5 0 0 [] [Yt] [] 0 0 0] [] 0 0 0
def Re:Ex:= .mk 9 0 0 [] [] [.mk [.mk 2 [Bz 1,Bz 2], .mk 1 [Bz 4]] (Bz 0), .mk [.mk 3 []] (Bz 1)] 0 0 0
def Br1:Ex:= .mk 14 0 0 [] [nmE [88],Bz 1,Bz 3] [] 0 0 0
def Cs9:Ex:= .mk 8 0 0 [] [nmE [84],eA] [] 0 0 0
def Gs:Ex:=Aw3 1 eA (Tj 19 eB)
theorem ex1:(okB [65,32,43,32,66,32,42,32,67] 0&&Mf [65,32,43,32,66,32,42,32,67] 0 5 (Aw3 1 eA (Aw3 3 eB eC)))=true:=by decide+kernel
theorem ex2:(okB [45,32,65,32,43,32,66] 2&&Mf [45,32,65,32,43,32,66] 2 4 (Aw3 1 (Tj 19 eA) eB))=true:=by decide+kernel
theorem ex3:(okB [70,32,40,88,44,32,78,32,61,62,32,49,41,46,97,108,108,39,70,105,114,115,116] 6&&Mf [70,32,40,88,44,32,78,32,61,62,32,49,41,46,97,108,108,39,70,105,114,115,116] 6 12 Br0)=true:=by decide+kernel
theorem ex4:(okB [88,32,110,111,116,32,105,110,32,49,32,46,46,32,51] 0&&Mf [88,32,110,111,116,32,105,110,32,49,32,46,46,32,51] 0 6 Br1)=true:=by decide+kernel
theorem ex5:(okB [40,49,32,46,46,32,50,32,124,32,52,32,61,62,32,48,44,32,111,116,104,101,114,115,32,61,62,32,49,41] 5&&Mf [40,49,32,46,46,32,50,32,124,32,52,32,61,62,32,48,44,32,111,116,104,101,114,115,32,61,62,32,49,41] 5 13 Re)=true:=by decide+kernel
theorem ex6:(okB [40,65,41,59] 5&&Mf [40,65,41,59] 5 3 eA)=true:=by decide+kernel
theorem ex7:(okB [84,39,40,65,41] 6&&Mf [84,39,40,65,41] 6 5 Cs9)=true:=by decide+kernel
theorem ex8:(okB [65,32,97,110,100,32,66,32,111,114,32,67] 0&&Mf [65,32,97,110,100,32,66,32,111,114,32,67] 0 3 (Aw3 13 eA eB))=true:=by decide+kernel
theorem ex9:(okB [65,32,43] 0&&Xm [65,32,43] 0 2)=true:=by decide+kernel
theorem Dr7:(okB [40,65,59] 0&&Xm [40,65,59] 0 2)=true:=by decide+kernel
theorem Dr8:(okB [41] 0&&Xm [41] 0 0)=true:=by decide+kernel
end
end Go.Dl
