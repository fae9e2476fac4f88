/- The data level and the contracts of the functions that are reached (part 10). -/
import Derived.ChangeSame
import Derived.Deep.Slices
import Derived.RowKit3
import Derived.Test.YtpcbhialfjiaaaaGreatDoorRows
import Derived.DeepKeys4
import Derived.LaidLaws
import Derived.Stop.LaidErr
import Derived.Shelf.Vars
import Derived.Test.YtpcbhialfjiaaaaGreatDoorPfi
set_option linter.unusedSimpArgs false
set_option linter.unusedVariables false
set_option linter.unusedSectionVars false
-- Chapter 3: awake (printed by gen_v8.py).
namespace Go.Dl
open Go Go.Proofs
set_option maxRecDepth 100000
theorem Cm (u:List DVal):Cx 1 u=u:=by simp [Cx]
theorem Dv (u:List DVal):Cx 2 u=u++u:=by simp [Cx]
theorem Dw (u:List DVal):Cx 3 u=u++(u++u):=by simp [Cx]
theorem Ng (c:List Ch) (e:Ex):dAs (.mk c e)= .vslice (c.flatMap dCh) c.length::dEx e:=Sy _
theorem Bg (k:Int) (l:List Ex):dCh (.mk k l)= [.int .u8 k, .vslice (l.flatMap dEx) l.length]:=Pd _
section
variable {G:Nat->DVal}
set_option maxHeartbeats 16000000 in
theorem Aj2 (hG:GX G) (H:Ac):Ai Tryz.prog G 16 [] H (Au (.bool true) H):=by
 have hdA:dE (nmE [65])= .agg (dEx eA):=rfl;have hdB:dE (nmE [66])= .agg (dEx eB):=rfl;have hdC:dE (nmE [67])= .agg (dEx eC):=rfl;have lA:=Ah eA;have oA:=Al eA;have lB:=Ah eB;have oB:=Al eB;have lC:=Ah eC;have oC:=Al eC;refine Ad Tryz.func16 Tryz.call16 rfl (by kernel_rfl) ?_;simp(disch:=omega) only[go_sem,↓reduceIte];refine(Hh G H [65]).mono ?_;rintro _ K1 ⟨rfl,rfl⟩;simp(disch:=omega) only[go_sem,↓reduceIte];refine(Hh G K1 [66]).mono ?_;rintro _ K2 ⟨rfl,rfl⟩;simp(disch:=omega) only[go_sem,↓reduceIte];refine(Hh G K2 [67]).mono ?_;rintro _ K3 ⟨rfl,rfl⟩;simp(disch:=omega) only[go_sem,↓reduceIte,hdA,hdB,hdC];intro b1 hb1;dsimp only at hb1;obtain⟨K4,hK4⟩: ∃K',K'=upd K3 b1 (some (.cells [.int .u8 0, .int .u8 0, .int .i64 0, .str [], .nilSlice, .nilSlice, .int .i64 0, .int .i64 0, .int .i64 0] 27)):=⟨_,rfl⟩;rw[<-hK4];have gb1:K4 b1=some (.cells [.int .u8 0, .int .u8 0, .int .i64 0, .str [], .nilSlice, .nilSlice, .int .i64 0, .int .i64 0, .int .i64 0] 27):=by rw[hK4];exact Aa _ _ _
 have sK4:Sub K3 K4:=by rw[hK4];exact(Sub.refl _).new hb1 _
 simp(disch:=omega) only[go_sem,↓reduceIte,hdA,hdB,hdC];intro b2 hb2;dsimp only at hb2;obtain⟨K5,hK5⟩: ∃K',K'=upd K4 b2 (some (.cells [.int .u8 0, .int .u8 0, .int .i64 0, .str [], .nilSlice, .nilSlice, .int .i64 0, .int .i64 0, .int .i64 0] 27)):=⟨_,rfl⟩;rw[<-hK5];have gb2:K5 b2=some (.cells [.int .u8 0, .int .u8 0, .int .i64 0, .str [], .nilSlice, .nilSlice, .int .i64 0, .int .i64 0, .int .i64 0] 27):=by rw[hK5];exact Aa _ _ _
 have sK5:Sub K4 K5:=by rw[hK5];exact(Sub.refl _).new hb2 _
 simp(disch:=omega) only[go_sem,↓reduceIte,hdA,hdB,hdC];intro b3 hb3;dsimp only at hb3;obtain⟨K6,hK6⟩: ∃K',K'=upd K5 b3 (some (.cells [.int .u8 0, .int .u8 0, .int .i64 0, .str [], .nilSlice, .nilSlice, .int .i64 0, .int .i64 0, .int .i64 0] 27)):=⟨_,rfl⟩;rw[<-hK6];have gb3:K6 b3=some (.cells [.int .u8 0, .int .u8 0, .int .i64 0, .str [], .nilSlice, .nilSlice, .int .i64 0, .int .i64 0, .int .i64 0] 27):=by rw[hK6];exact Aa _ _ _
 have sK6:Sub K5 K6:=by rw[hK6];exact(Sub.refl _).new hb3 _
 have n12:b1≠b2:=Ae hb2 gb1;have n13:b1≠b3:=Ae hb3 (sK5 _ _ gb1);have n23:b2≠b3:=Ae hb3 gb2;have a61:K6 b1=some (.cells [.int .u8 0, .int .u8 0, .int .i64 0, .str [], .nilSlice, .nilSlice, .int .i64 0, .int .i64 0, .int .i64 0] 27):=sK6 _ _ (sK5 _ _ gb1);have a62:K6 b2=some (.cells [.int .u8 0, .int .u8 0, .int .i64 0, .str [], .nilSlice, .nilSlice, .int .i64 0, .int .i64 0, .int .i64 0] 27):=sK6 _ _ gb2;have z2:K3 b2=none:=sK4.lo hb2;have z3:K3 b3=none:=(sK4.trans sK5).lo hb3;simp(disch:=omega) only[go_sem,↓reduceIte,hdA,hdB,hdC,lA,oA,lB,oB,lC,oC,a61,a62,gb3,n12,n13,n23,n12.symm,n13.symm,n23.symm];obtain⟨K7,hK7⟩: ∃K',K'=upd (upd (upd K6 b1 (some (.cells (dEx eA) 27))) b2 (some (.cells (dEx eB) 27))) b3 (some (.cells (dEx eC) 27)):=⟨_,rfl⟩;rw[<-hK7];have g1:K7 b1=some (.cells (dEx eA) 27):=by rw[hK7];exact Ag (Ag (Aa _ _ _) n12) n13
 have g2:K7 b2=some (.cells (dEx eB) 27):=by rw[hK7];exact Ag (Aa _ _ _) n23
 have g3:K7 b3=some (.cells (dEx eC) 27):=by rw[hK7];exact Aa _ _ _
 have t7:Sub K3 K7:=by rw[hK7];exact(((((sK4.trans sK5).trans sK6).up hb1 _).up z2 _).up z3 _)
 clear hK7 a61 a62 sK6 sK5 sK4 gb1 gb2 gb3;refine Ai.monoR (Hh G _ [70]) ?_;try simp(disch:=omega) only[go_sem,↓reduceIte,dE,nmE,Bz,Bl,List.flatMap_nil,List.length_nil,Cm,Dv,Dw,List.length_cons,List.length_append,List.drop_succ_cons,List.drop_zero,List.drop_nil,List.take_succ_cons,List.take_zero,List.cons_append,List.nil_append,List.append_nil,dC,Bg]
 intro r16 hr16;dsimp only at hr16;try simp(disch:=omega) only[go_sem,↓reduceIte,dE,nmE,Bz,Bl,List.flatMap_nil,List.length_nil,Cm,Dv,Dw,List.length_cons,List.length_append,List.drop_succ_cons,List.drop_zero,List.drop_nil,List.take_succ_cons,List.take_zero,List.cons_append,List.nil_append,List.append_nil,dC,Bg]
 obtain⟨K8,hK8⟩: ∃K',K'=upd K7 r16 (some (.cells [.int .u8 3, .int .u8 0, .int .i64 0, .str [70], .vslice [] 0, .vslice [] 0, .int .i64 0, .int .i64 0, .int .i64 0] 27)):=⟨_,rfl⟩;rw[<-hK8];have y_r16:K8 r16=some (.cells [.int .u8 3, .int .u8 0, .int .i64 0, .str [70], .vslice [] 0, .vslice [] 0, .int .i64 0, .int .i64 0, .int .i64 0] 27):=by rw[hK8];exact Aa _ _ _
 have sK8:Sub K7 K8:=by rw[hK8];exact(Sub.refl _).new hr16 _
 have z_r16:K3 r16=none:=t7.lo hr16;clear hK8;have g1:=sK8 _ _ g1;have g2:=sK8 _ _ g2;have g3:=sK8 _ _ g3;have t7:=t7.trans sK8;refine Ai.monoR (Hh G _ [88]) ?_;try simp(disch:=omega) only[go_sem,↓reduceIte,dE,nmE,Bz,Bl,List.flatMap_nil,List.length_nil,Cm,Dv,Dw,List.length_cons,List.length_append,List.drop_succ_cons,List.drop_zero,List.drop_nil,List.take_succ_cons,List.take_zero,List.cons_append,List.nil_append,List.append_nil,dC,Bg]
 refine Ai.monoR (Hh G _ [78]) ?_;try simp(disch:=omega) only[go_sem,↓reduceIte,dE,nmE,Bz,Bl,List.flatMap_nil,List.length_nil,Cm,Dv,Dw,List.length_cons,List.length_append,List.drop_succ_cons,List.drop_zero,List.drop_nil,List.take_succ_cons,List.take_zero,List.cons_append,List.nil_append,List.append_nil,dC,Bg]
 intro r20 hr20;dsimp only at hr20;try simp(disch:=omega) only[go_sem,↓reduceIte,dE,nmE,Bz,Bl,List.flatMap_nil,List.length_nil,Cm,Dv,Dw,List.length_cons,List.length_append,List.drop_succ_cons,List.drop_zero,List.drop_nil,List.take_succ_cons,List.take_zero,List.cons_append,List.nil_append,List.append_nil,dC,Bg]
 refine Ai.fzA r20 hr20 ?_;have hq:fzs r20 [.int .u8 3, .int .u8 0, .int .i64 0, .str [78], .vslice [] 0, .vslice [] 0, .int .i64 0, .int .i64 0, .int .i64 0] [.oslice 9 r20 0 1 1]= [dXs [nmE [78]]]:=by simp [fzs,fz,dXs,nmE,Bz,Bl]
 rw[hq];refine Ai.mono (R:=Au (dC (.mk 1 [nmE [78]])) K8) (Lg G K8 [nmE [78]] (by decide)) ?_;rintro _ H' ⟨rfl,hH'⟩;have hH2:=hH'.symm;clear hH';subst hH2;clear hq;try simp(disch:=omega) only[go_sem,↓reduceIte,dE,nmE,Bz,Bl,List.flatMap_nil,List.length_nil,Cm,Dv,Dw,List.length_cons,List.length_append,List.drop_succ_cons,List.drop_zero,List.drop_nil,List.take_succ_cons,List.take_zero,List.cons_append,List.nil_append,List.append_nil,dC,Bg,List.flatMap_singleton]
 intro r22 hr22;dsimp only at hr22;try simp(disch:=omega) only[go_sem,↓reduceIte,dE,nmE,Bz,Bl,List.flatMap_nil,List.length_nil,Cm,Dv,Dw,List.length_cons,List.length_append,List.drop_succ_cons,List.drop_zero,List.drop_nil,List.take_succ_cons,List.take_zero,List.cons_append,List.nil_append,List.append_nil,dC,Bg,List.flatMap_singleton]
 obtain⟨K9,hK9⟩: ∃K',K'=upd K8 r22 (some (.cells [.int .u8 1, .vslice [.int .u8 3, .int .u8 0, .int .i64 0, .str [78], .vslice [] 0, .vslice [] 0, .int .i64 0, .int .i64 0, .int .i64 0] 1] 47)):=⟨_,rfl⟩;rw[<-hK9];have y_r22:K9 r22=some (.cells [.int .u8 1, .vslice [.int .u8 3, .int .u8 0, .int .i64 0, .str [78], .vslice [] 0, .vslice [] 0, .int .i64 0, .int .i64 0, .int .i64 0] 1] 47):=by rw[hK9];exact Aa _ _ _
 have sK9:Sub K8 K9:=by rw[hK9];exact(Sub.refl _).new hr22 _
 have z_r22:K3 r22=none:=t7.lo hr22;clear hK9;have y_r16:=sK9 _ _ y_r16;have g1:=sK9 _ _ g1;have g2:=sK9 _ _ g2;have g3:=sK9 _ _ g3;have t7:=t7.trans sK9;refine Ai.monoR (Gb G _ 1) ?_;try simp(disch:=omega) only[go_sem,↓reduceIte,dE,nmE,Bz,Bl,List.flatMap_nil,List.length_nil,Cm,Dv,Dw,List.length_cons,List.length_append,List.drop_succ_cons,List.drop_zero,List.drop_nil,List.take_succ_cons,List.take_zero,List.cons_append,List.nil_append,List.append_nil,dC,Bg]
 intro r25 hr25;dsimp only at hr25;try simp(disch:=omega) only[go_sem,↓reduceIte,dE,nmE,Bz,Bl,List.flatMap_nil,List.length_nil,Cm,Dv,Dw,List.length_cons,List.length_append,List.drop_succ_cons,List.drop_zero,List.drop_nil,List.take_succ_cons,List.take_zero,List.cons_append,List.nil_append,List.append_nil,dC,Bg]
 obtain⟨K10,hK10⟩: ∃K',K'=upd K9 r25 (some (.cells [.nilSlice, .int .u8 3, .int .u8 0, .int .i64 0, .str [88], .vslice [] 0, .vslice [] 0, .int .i64 0, .int .i64 0, .int .i64 0, .oslice 2 r22 0 1 1, .int .u8 1, .int .u8 0, .int .i64 1, .str [], .vslice [] 0, .vslice [] 0, .int .i64 0, .int .i64 0, .int .i64 0] 44)):=⟨_,rfl⟩;rw[<-hK10];have y_r25:K10 r25=some (.cells [.nilSlice, .int .u8 3, .int .u8 0, .int .i64 0, .str [88], .vslice [] 0, .vslice [] 0, .int .i64 0, .int .i64 0, .int .i64 0, .oslice 2 r22 0 1 1, .int .u8 1, .int .u8 0, .int .i64 1, .str [], .vslice [] 0, .vslice [] 0, .int .i64 0, .int .i64 0, .int .i64 0] 44):=by rw[hK10];exact Aa _ _ _
 have sK10:Sub K9 K10:=by rw[hK10];exact(Sub.refl _).new hr25 _
 have z_r25:K3 r25=none:=t7.lo hr25;clear hK10;have y_r16:=sK10 _ _ y_r16;have y_r22:=sK10 _ _ y_r22;have g1:=sK10 _ _ g1;have g2:=sK10 _ _ g2;have g3:=sK10 _ _ g3;have t7:=t7.trans sK10;intro b4 hb4;dsimp only at hb4;try simp(disch:=omega) only[go_sem,↓reduceIte,dE,nmE,Bz,Bl,List.flatMap_nil,List.length_nil,Cm,Dv,Dw,List.length_cons,List.length_append,List.drop_succ_cons,List.drop_zero,List.drop_nil,List.take_succ_cons,List.take_zero,List.cons_append,List.nil_append,List.append_nil,dC,Bg]
 obtain⟨K11,hK11⟩: ∃K',K'=upd K10 b4 (some (.cells [.int .u8 7, .int .u8 0, .int .i64 0, .str [], .oslice 9 r16 0 1 1, .oslice 10 r25 0 2 2, .int .i64 0, .int .i64 0, .int .i64 0] 27)):=⟨_,rfl⟩;rw[<-hK11];have y_b4:K11 b4=some (.cells [.int .u8 7, .int .u8 0, .int .i64 0, .str [], .oslice 9 r16 0 1 1, .oslice 10 r25 0 2 2, .int .i64 0, .int .i64 0, .int .i64 0] 27):=by rw[hK11];exact Aa _ _ _
 have sK11:Sub K10 K11:=by rw[hK11];exact(Sub.refl _).new hb4 _
 have z_b4:K3 b4=none:=t7.lo hb4;clear hK11;have y_r16:=sK11 _ _ y_r16;have y_r22:=sK11 _ _ y_r22;have y_r25:=sK11 _ _ y_r25;have g1:=sK11 _ _ g1;have g2:=sK11 _ _ g2;have g3:=sK11 _ _ g3;have t7:=t7.trans sK11;try simp(disch:=omega) only[go_sem,↓reduceIte,dE,nmE,Bz,Bl,List.flatMap_nil,List.length_nil,Cm,Dv,Dw,List.length_cons,List.length_append,List.drop_succ_cons,List.drop_zero,List.drop_nil,List.take_succ_cons,List.take_zero,List.cons_append,List.nil_append,List.append_nil,dC,Bg,y_b4]
 intro r28 hr28;dsimp only at hr28;try simp(disch:=omega) only[go_sem,↓reduceIte,dE,nmE,Bz,Bl,List.flatMap_nil,List.length_nil,Cm,Dv,Dw,List.length_cons,List.length_append,List.drop_succ_cons,List.drop_zero,List.drop_nil,List.take_succ_cons,List.take_zero,List.cons_append,List.nil_append,List.append_nil,dC,Bg,y_b4]
 obtain⟨K12,hK12⟩: ∃K',K'=upd K11 r28 (some (.cells [.int .u8 7, .int .u8 0, .int .i64 0, .str [], .oslice 9 r16 0 1 1, .oslice 10 r25 0 2 2, .int .i64 0, .int .i64 0, .int .i64 0] 27)):=⟨_,rfl⟩;rw[<-hK12];have y_r28:K12 r28=some (.cells [.int .u8 7, .int .u8 0, .int .i64 0, .str [], .oslice 9 r16 0 1 1, .oslice 10 r25 0 2 2, .int .i64 0, .int .i64 0, .int .i64 0] 27):=by rw[hK12];exact Aa _ _ _
 have sK12:Sub K11 K12:=by rw[hK12];exact(Sub.refl _).new hr28 _
 have z_r28:K3 r28=none:=t7.lo hr28;clear hK12;have y_r16:=sK12 _ _ y_r16;have y_r22:=sK12 _ _ y_r22;have y_r25:=sK12 _ _ y_r25;have y_b4:=sK12 _ _ y_b4;have g1:=sK12 _ _ g1;have g2:=sK12 _ _ g2;have g3:=sK12 _ _ g3;have t7:=t7.trans sK12;intro r30 hr30;dsimp only at hr30;try simp(disch:=omega) only[go_sem,↓reduceIte,dE,nmE,Bz,Bl,List.flatMap_nil,List.length_nil,Cm,Dv,Dw,List.length_cons,List.length_append,List.drop_succ_cons,List.drop_zero,List.drop_nil,List.take_succ_cons,List.take_zero,List.cons_append,List.nil_append,List.append_nil,dC,Bg]
 obtain⟨K13,hK13⟩: ∃K',K'=upd K12 r30 (some (.cells [.int .u8 5, .int .u8 0, .int .i64 0, .str [], .oslice 9 r28 0 1 1, .nilSlice, .int .i64 0, .int .i64 0, .int .i64 0] 27)):=⟨_,rfl⟩;rw[<-hK13];have y_r30:K13 r30=some (.cells [.int .u8 5, .int .u8 0, .int .i64 0, .str [], .oslice 9 r28 0 1 1, .nilSlice, .int .i64 0, .int .i64 0, .int .i64 0] 27):=by rw[hK13];exact Aa _ _ _
 have sK13:Sub K12 K13:=by rw[hK13];exact(Sub.refl _).new hr30 _
 have z_r30:K3 r30=none:=t7.lo hr30;clear hK13;have y_r16:=sK13 _ _ y_r16;have y_r22:=sK13 _ _ y_r22;have y_r25:=sK13 _ _ y_r25;have y_b4:=sK13 _ _ y_b4;have y_r28:=sK13 _ _ y_r28;have g1:=sK13 _ _ g1;have g2:=sK13 _ _ g2;have g3:=sK13 _ _ g3;have t7:=t7.trans sK13;intro b5 hb5;dsimp only at hb5;try simp(disch:=omega) only[go_sem,↓reduceIte,dE,nmE,Bz,Bl,List.flatMap_nil,List.length_nil,Cm,Dv,Dw,List.length_cons,List.length_append,List.drop_succ_cons,List.drop_zero,List.drop_nil,List.take_succ_cons,List.take_zero,List.cons_append,List.nil_append,List.append_nil,dC,Bg]
 obtain⟨K14,hK14⟩: ∃K',K'=upd K13 b5 (some (.cells [.int .u8 6, .int .u8 0, .int .i64 0, .str [70,105,114,115,116], .oslice 9 r30 0 1 1, .nilSlice, .int .i64 0, .int .i64 0, .int .i64 0] 27)):=⟨_,rfl⟩;rw[<-hK14];have y_b5:K14 b5=some (.cells [.int .u8 6, .int .u8 0, .int .i64 0, .str [70,105,114,115,116], .oslice 9 r30 0 1 1, .nilSlice, .int .i64 0, .int .i64 0, .int .i64 0] 27):=by rw[hK14];exact Aa _ _ _
 have sK14:Sub K13 K14:=by rw[hK14];exact(Sub.refl _).new hb5 _
 have z_b5:K3 b5=none:=t7.lo hb5;clear hK14;have y_r16:=sK14 _ _ y_r16;have y_r22:=sK14 _ _ y_r22;have y_r25:=sK14 _ _ y_r25;have y_b4:=sK14 _ _ y_b4;have y_r28:=sK14 _ _ y_r28;have y_r30:=sK14 _ _ y_r30;have g1:=sK14 _ _ g1;have g2:=sK14 _ _ g2;have g3:=sK14 _ _ g3;have t7:=t7.trans sK14;refine Ai.monoR (Gb G _ 1) ?_;try simp(disch:=omega) only[go_sem,↓reduceIte,dE,nmE,Bz,Bl,List.flatMap_nil,List.length_nil,Cm,Dv,Dw,List.length_cons,List.length_append,List.drop_succ_cons,List.drop_zero,List.drop_nil,List.take_succ_cons,List.take_zero,List.cons_append,List.nil_append,List.append_nil,dC,Bg]
 refine Ai.monoR (Gb G _ 2) ?_;try simp(disch:=omega) only[go_sem,↓reduceIte,dE,nmE,Bz,Bl,List.flatMap_nil,List.length_nil,Cm,Dv,Dw,List.length_cons,List.length_append,List.drop_succ_cons,List.drop_zero,List.drop_nil,List.take_succ_cons,List.take_zero,List.cons_append,List.nil_append,List.append_nil,dC,Bg]
 intro r34 hr34;dsimp only at hr34;try simp(disch:=omega) only[go_sem,↓reduceIte,dE,nmE,Bz,Bl,List.flatMap_nil,List.length_nil,Cm,Dv,Dw,List.length_cons,List.length_append,List.drop_succ_cons,List.drop_zero,List.drop_nil,List.take_succ_cons,List.take_zero,List.cons_append,List.nil_append,List.append_nil,dC,Bg]
 refine Ai.fzA r34 hr34 ?_;have hq:fzs r34 [.int .u8 1, .int .u8 0, .int .i64 1, .str [], .vslice [] 0, .vslice [] 0, .int .i64 0, .int .i64 0, .int .i64 0, .int .u8 1, .int .u8 0, .int .i64 2, .str [], .vslice [] 0, .vslice [] 0, .int .i64 0, .int .i64 0, .int .i64 0] [.oslice 9 r34 0 2 2]= [dXs [Bz 1,Bz 2]]:=by simp [fzs,fz,dXs,nmE,Bz,Bl]
 rw[hq];refine Ai.mono (R:=Au (dC (.mk 2 [Bz 1,Bz 2])) K14) (Lg G K14 [Bz 1,Bz 2] (by decide)) ?_;rintro _ H' ⟨rfl,hH'⟩;have hH2:=hH'.symm;clear hH';subst hH2;clear hq;try simp(disch:=omega) only[go_sem,↓reduceIte,dE,nmE,Bz,Bl,List.flatMap_nil,List.length_nil,Cm,Dv,Dw,List.length_cons,List.length_append,List.drop_succ_cons,List.drop_zero,List.drop_nil,List.take_succ_cons,List.take_zero,List.cons_append,List.nil_append,List.append_nil,dC,Bg,List.flatMap_cons]
 refine Ai.monoR (Gb G _ 4) ?_;try simp(disch:=omega) only[go_sem,↓reduceIte,dE,nmE,Bz,Bl,List.flatMap_nil,List.length_nil,Cm,Dv,Dw,List.length_cons,List.length_append,List.drop_succ_cons,List.drop_zero,List.drop_nil,List.take_succ_cons,List.take_zero,List.cons_append,List.nil_append,List.append_nil,dC,Bg]
 intro r37 hr37;dsimp only at hr37;try simp(disch:=omega) only[go_sem,↓reduceIte,dE,nmE,Bz,Bl,List.flatMap_nil,List.length_nil,Cm,Dv,Dw,List.length_cons,List.length_append,List.drop_succ_cons,List.drop_zero,List.drop_nil,List.take_succ_cons,List.take_zero,List.cons_append,List.nil_append,List.append_nil,dC,Bg]
 refine Ai.fzA r37 hr37 ?_;have hq:fzs r37 [.int .u8 1, .int .u8 0, .int .i64 4, .str [], .vslice [] 0, .vslice [] 0, .int .i64 0, .int .i64 0, .int .i64 0] [.oslice 9 r37 0 1 1]= [dXs [Bz 4]]:=by simp [fzs,fz,dXs,nmE,Bz,Bl]
 rw[hq];refine Ai.mono (R:=Au (dC (.mk 1 [Bz 4])) K14) (Lg G K14 [Bz 4] (by decide)) ?_;rintro _ H' ⟨rfl,hH'⟩;have hH2:=hH'.symm;clear hH';subst hH2;clear hq;try simp(disch:=omega) only[go_sem,↓reduceIte,dE,nmE,Bz,Bl,List.flatMap_nil,List.length_nil,Cm,Dv,Dw,List.length_cons,List.length_append,List.drop_succ_cons,List.drop_zero,List.drop_nil,List.take_succ_cons,List.take_zero,List.cons_append,List.nil_append,List.append_nil,dC,Bg,List.flatMap_cons]
 intro r39 hr39;dsimp only at hr39;try simp(disch:=omega) only[go_sem,↓reduceIte,dE,nmE,Bz,Bl,List.flatMap_nil,List.length_nil,Cm,Dv,Dw,List.length_cons,List.length_append,List.drop_succ_cons,List.drop_zero,List.drop_nil,List.take_succ_cons,List.take_zero,List.cons_append,List.nil_append,List.append_nil,dC,Bg,List.flatMap_cons]
 obtain⟨K15,hK15⟩: ∃K',K'=upd K14 r39 (some (.cells [.int .u8 2, .vslice [.int .u8 1, .int .u8 0, .int .i64 1, .str [], .vslice [] 0, .vslice [] 0, .int .i64 0, .int .i64 0, .int .i64 0, .int .u8 1, .int .u8 0, .int .i64 2, .str [], .vslice [] 0, .vslice [] 0, .int .i64 0, .int .i64 0, .int .i64 0] 2, .int .u8 1, .vslice [.int .u8 1, .int .u8 0, .int .i64 4, .str [], .vslice [] 0, .vslice [] 0, .int .i64 0, .int .i64 0, .int .i64 0] 1] 47)):=⟨_,rfl⟩;rw[<-hK15];have y_r39:K15 r39=some (.cells [.int .u8 2, .vslice [.int .u8 1, .int .u8 0, .int .i64 1, .str [], .vslice [] 0, .vslice [] 0, .int .i64 0, .int .i64 0, .int .i64 0, .int .u8 1, .int .u8 0, .int .i64 2, .str [], .vslice [] 0, .vslice [] 0, .int .i64 0, .int .i64 0, .int .i64 0] 2, .int .u8 1, .vslice [.int .u8 1, .int .u8 0, .int .i64 4, .str [], .vslice [] 0, .vslice [] 0, .int .i64 0, .int .i64 0, .int .i64 0] 1] 47):=by rw[hK15];exact Aa _ _ _
 have sK15:Sub K14 K15:=by rw[hK15];exact(Sub.refl _).new hr39 _
 have z_r39:K3 r39=none:=t7.lo hr39;clear hK15;have y_r16:=sK15 _ _ y_r16;have y_r22:=sK15 _ _ y_r22;have y_r25:=sK15 _ _ y_r25;have y_b4:=sK15 _ _ y_b4;have y_r28:=sK15 _ _ y_r28;have y_r30:=sK15 _ _ y_r30;have y_b5:=sK15 _ _ y_b5;have g1:=sK15 _ _ g1;have g2:=sK15 _ _ g2;have g3:=sK15 _ _ g3;have t7:=t7.trans sK15;refine Ai.monoR (Gb G _ 0) ?_;try simp(disch:=omega) only[go_sem,↓reduceIte,dE,nmE,Bz,Bl,List.flatMap_nil,List.length_nil,Cm,Dv,Dw,List.length_cons,List.length_append,List.drop_succ_cons,List.drop_zero,List.drop_nil,List.take_succ_cons,List.take_zero,List.cons_append,List.nil_append,List.append_nil,dC,Bg]
 refine Ai.leArgs (args':= [dXs []]) (Bn5.cons .nil .nil) ?_;refine Ai.mono (R:=Au (dC (.mk 3 [])) K15) (Lg G K15 [] (by decide)) ?_;rintro _ H' ⟨rfl,hH'⟩;have hH2:=hH'.symm;clear hH';subst hH2;try simp(disch:=omega) only[go_sem,↓reduceIte,dE,nmE,Bz,Bl,List.flatMap_nil,List.length_nil,Cm,Dv,Dw,List.length_cons,List.length_append,List.drop_succ_cons,List.drop_zero,List.drop_nil,List.take_succ_cons,List.take_zero,List.cons_append,List.nil_append,List.append_nil,dC,Bg]
 intro r43 hr43;dsimp only at hr43;try simp(disch:=omega) only[go_sem,↓reduceIte,dE,nmE,Bz,Bl,List.flatMap_nil,List.length_nil,Cm,Dv,Dw,List.length_cons,List.length_append,List.drop_succ_cons,List.drop_zero,List.drop_nil,List.take_succ_cons,List.take_zero,List.cons_append,List.nil_append,List.append_nil,dC,Bg]
 obtain⟨K16,hK16⟩: ∃K',K'=upd K15 r43 (some (.cells [.int .u8 3, .vslice [] 0] 47)):=⟨_,rfl⟩;rw[<-hK16];have y_r43:K16 r43=some (.cells [.int .u8 3, .vslice [] 0] 47):=by rw[hK16];exact Aa _ _ _
 have sK16:Sub K15 K16:=by rw[hK16];exact(Sub.refl _).new hr43 _
 have z_r43:K3 r43=none:=t7.lo hr43;clear hK16;have y_r16:=sK16 _ _ y_r16;have y_r22:=sK16 _ _ y_r22;have y_r25:=sK16 _ _ y_r25;have y_b4:=sK16 _ _ y_b4;have y_r28:=sK16 _ _ y_r28;have y_r30:=sK16 _ _ y_r30;have y_b5:=sK16 _ _ y_b5;have y_r39:=sK16 _ _ y_r39;have g1:=sK16 _ _ g1;have g2:=sK16 _ _ g2;have g3:=sK16 _ _ g3;have t7:=t7.trans sK16;refine Ai.monoR (Gb G _ 1) ?_;try simp(disch:=omega) only[go_sem,↓reduceIte,dE,nmE,Bz,Bl,List.flatMap_nil,List.length_nil,Cm,Dv,Dw,List.length_cons,List.length_append,List.drop_succ_cons,List.drop_zero,List.drop_nil,List.take_succ_cons,List.take_zero,List.cons_append,List.nil_append,List.append_nil,dC,Bg]
 intro r46 hr46;dsimp only at hr46;try simp(disch:=omega) only[go_sem,↓reduceIte,dE,nmE,Bz,Bl,List.flatMap_nil,List.length_nil,Cm,Dv,Dw,List.length_cons,List.length_append,List.drop_succ_cons,List.drop_zero,List.drop_nil,List.take_succ_cons,List.take_zero,List.cons_append,List.nil_append,List.append_nil,dC,Bg]
 obtain⟨K17,hK17⟩: ∃K',K'=upd K16 r46 (some (.cells [.oslice 2 r39 0 2 2, .int .u8 1, .int .u8 0, .int .i64 0, .str [], .vslice [] 0, .vslice [] 0, .int .i64 0, .int .i64 0, .int .i64 0, .oslice 2 r43 0 1 1, .int .u8 1, .int .u8 0, .int .i64 1, .str [], .vslice [] 0, .vslice [] 0, .int .i64 0, .int .i64 0, .int .i64 0] 44)):=⟨_,rfl⟩;rw[<-hK17];have y_r46:K17 r46=some (.cells [.oslice 2 r39 0 2 2, .int .u8 1, .int .u8 0, .int .i64 0, .str [], .vslice [] 0, .vslice [] 0, .int .i64 0, .int .i64 0, .int .i64 0, .oslice 2 r43 0 1 1, .int .u8 1, .int .u8 0, .int .i64 1, .str [], .vslice [] 0, .vslice [] 0, .int .i64 0, .int .i64 0, .int .i64 0] 44):=by rw[hK17];exact Aa _ _ _
 have sK17:Sub K16 K17:=by rw[hK17];exact(Sub.refl _).new hr46 _
 have z_r46:K3 r46=none:=t7.lo hr46;clear hK17;have y_r16:=sK17 _ _ y_r16;have y_r22:=sK17 _ _ y_r22;have y_r25:=sK17 _ _ y_r25;have y_b4:=sK17 _ _ y_b4;have y_r28:=sK17 _ _ y_r28;have y_r30:=sK17 _ _ y_r30;have y_b5:=sK17 _ _ y_b5;have y_r39:=sK17 _ _ y_r39;have y_r43:=sK17 _ _ y_r43;have g1:=sK17 _ _ g1;have g2:=sK17 _ _ g2;have g3:=sK17 _ _ g3;have t7:=t7.trans sK17;intro b6 hb6;dsimp only at hb6;try simp(disch:=omega) only[go_sem,↓reduceIte,dE,nmE,Bz,Bl,List.flatMap_nil,List.length_nil,Cm,Dv,Dw,List.length_cons,List.length_append,List.drop_succ_cons,List.drop_zero,List.drop_nil,List.take_succ_cons,List.take_zero,List.cons_append,List.nil_append,List.append_nil,dC,Bg]
 obtain⟨K18,hK18⟩: ∃K',K'=upd K17 b6 (some (.cells [.int .u8 9, .int .u8 0, .int .i64 0, .str [], .nilSlice, .oslice 10 r46 0 2 2, .int .i64 0, .int .i64 0, .int .i64 0] 27)):=⟨_,rfl⟩;rw[<-hK18];have y_b6:K18 b6=some (.cells [.int .u8 9, .int .u8 0, .int .i64 0, .str [], .nilSlice, .oslice 10 r46 0 2 2, .int .i64 0, .int .i64 0, .int .i64 0] 27):=by rw[hK18];exact Aa _ _ _
 have sK18:Sub K17 K18:=by rw[hK18];exact(Sub.refl _).new hb6 _
 have z_b6:K3 b6=none:=t7.lo hb6;clear hK18;have y_r16:=sK18 _ _ y_r16;have y_r22:=sK18 _ _ y_r22;have y_r25:=sK18 _ _ y_r25;have y_b4:=sK18 _ _ y_b4;have y_r28:=sK18 _ _ y_r28;have y_r30:=sK18 _ _ y_r30;have y_b5:=sK18 _ _ y_b5;have y_r39:=sK18 _ _ y_r39;have y_r43:=sK18 _ _ y_r43;have y_r46:=sK18 _ _ y_r46;have g1:=sK18 _ _ g1;have g2:=sK18 _ _ g2;have g3:=sK18 _ _ g3;have t7:=t7.trans sK18;clear sK8 sK9 sK10 sK11 sK12 sK13 sK14 sK15 sK16 sK17 sK18;have q_r16:Ek K18 [.int .u8 3, .int .u8 0, .int .i64 0, .str [70], .vslice [] 0, .vslice [] 0, .int .i64 0, .int .i64 0, .int .i64 0] K3 ([nmE [70]].flatMap dEx):=by
  rw[show [nmE [70]].flatMap dEx=([.int .u8 3, .int .u8 0, .int .i64 0, .str [70], .vslice [] 0, .vslice [] 0, .int .i64 0, .int .i64 0, .int .i64 0]:List DVal) from by simp [nmE,Bz,Bl,Bg,Ng,Se,Re,Ex.a]];exact Ek.keep t7 _
 have p_r16:Fc K18 (.oslice 9 r16 0 1 1) K3 (.vslice ([nmE [70]].flatMap dEx) 1):=Fc.cells t7 z_r16 y_r16 rfl q_r16;have q_r22:Ek K18 [.int .u8 1, .vslice [.int .u8 3, .int .u8 0, .int .i64 0, .str [78], .vslice [] 0, .vslice [] 0, .int .i64 0, .int .i64 0, .int .i64 0] 1] K3 ([Ch.mk 1 [nmE [78]]].flatMap dCh):=by
  rw[show [Ch.mk 1 [nmE [78]]].flatMap dCh=([.int .u8 1, .vslice [.int .u8 3, .int .u8 0, .int .i64 0, .str [78], .vslice [] 0, .vslice [] 0, .int .i64 0, .int .i64 0, .int .i64 0] 1]:List DVal) from by simp [nmE,Bz,Bl,Bg,Ng,Se,Re,Ex.a]];exact Ek.keep t7 _
 have p_r22:Fc K18 (.oslice 2 r22 0 1 1) K3 (.vslice ([Ch.mk 1 [nmE [78]]].flatMap dCh) 1):=Fc.cells t7 z_r22 y_r22 rfl q_r22;have q_r25:Ek K18 [.nilSlice, .int .u8 3, .int .u8 0, .int .i64 0, .str [88], .vslice [] 0, .vslice [] 0, .int .i64 0, .int .i64 0, .int .i64 0, .oslice 2 r22 0 1 1, .int .u8 1, .int .u8 0, .int .i64 1, .str [], .vslice [] 0, .vslice [] 0, .int .i64 0, .int .i64 0, .int .i64 0] K3 (Se.flatMap dAs):=by
  rw[show Se.flatMap dAs=([.vslice [] 0, .int .u8 3, .int .u8 0, .int .i64 0, .str [88], .vslice [] 0, .vslice [] 0, .int .i64 0, .int .i64 0, .int .i64 0, .vslice ([Ch.mk 1 [nmE [78]]].flatMap dCh) 1, .int .u8 1, .int .u8 0, .int .i64 1, .str [], .vslice [] 0, .vslice [] 0, .int .i64 0, .int .i64 0, .int .i64 0]:List DVal) from by simp [nmE,Bz,Bl,Bg,Ng,Se,Re,Ex.a]];exact .cons (Fc.nil t7) (.cons (Fc.keep t7 _) (.cons (Fc.keep t7 _) (.cons (Fc.keep t7 _) (.cons (Fc.keep t7 _) (.cons (Fc.keep t7 _) (.cons (Fc.keep t7 _) (.cons (Fc.keep t7 _) (.cons (Fc.keep t7 _) (.cons (Fc.keep t7 _) (.cons p_r22 (.cons (Fc.keep t7 _) (.cons (Fc.keep t7 _) (.cons (Fc.keep t7 _) (.cons (Fc.keep t7 _) (.cons (Fc.keep t7 _) (.cons (Fc.keep t7 _) (.cons (Fc.keep t7 _) (.cons (Fc.keep t7 _) (.cons (Fc.keep t7 _) (.nil))))))))))))))))))))
 have p_r25:Fc K18 (.oslice 10 r25 0 2 2) K3 (.vslice (Se.flatMap dAs) 2):=Fc.cells t7 z_r25 y_r25 rfl q_r25;have q_call:Ek K18 [.int .u8 7, .int .u8 0, .int .i64 0, .str [], .oslice 9 r16 0 1 1, .oslice 10 r25 0 2 2, .int .i64 0, .int .i64 0, .int .i64 0] K3 (dEx Yt):=Fc.ex (l:= [nmE [70]]) (a:=Se) t7 p_r16 p_r25;have q_r28:Ek K18 [.int .u8 7, .int .u8 0, .int .i64 0, .str [], .oslice 9 r16 0 1 1, .oslice 10 r25 0 2 2, .int .i64 0, .int .i64 0, .int .i64 0] K3 ([Yt].flatMap dEx):=by rw[List.flatMap_singleton];exact q_call
 have p_r28:Fc K18 (.oslice 9 r28 0 1 1) K3 (.vslice ([Yt].flatMap dEx) 1):=Fc.cells t7 z_r28 y_r28 rfl q_r28;have q_r30:Ek K18 [.int .u8 5, .int .u8 0, .int .i64 0, .str [], .oslice 9 r28 0 1 1, .nilSlice, .int .i64 0, .int .i64 0, .int .i64 0] K3 ([Ex.mk 5 0 0 [] [Yt] [] 0 0 0].flatMap dEx):=by rw[List.flatMap_singleton];exact Fc.ex (l:= [Yt]) (a:= []) t7 p_r28 (.as0 t7)
 have p_r30:Fc K18 (.oslice 9 r30 0 1 1) K3 (.vslice ([Ex.mk 5 0 0 [] [Yt] [] 0 0 0].flatMap dEx) 1):=Fc.cells t7 z_r30 y_r30 rfl q_r30;have q_b5:Ek K18 [.int .u8 6, .int .u8 0, .int .i64 0, .str [70,105,114,115,116], .oslice 9 r30 0 1 1, .nilSlice, .int .i64 0, .int .i64 0, .int .i64 0] K3 (dEx Br0):=Fc.ex (l:= [Ex.mk 5 0 0 [] [Yt] [] 0 0 0]) (a:= []) t7 p_r30 (.as0 t7);clear q_r16 q_r22 q_r25 q_r28 q_r30 p_r16 p_r22 p_r25 p_r28 p_r30 q_call;clear y_r16 z_r16;clear y_r22 z_r22;clear y_r25 z_r25;clear y_b4 z_b4;clear y_r28 z_r28;clear y_r30 z_r30;try simp(disch:=omega) only[go_sem,↓reduceIte,dE,nmE,Bz,Bl,List.flatMap_nil,List.length_nil,Cm,Dv,Dw,List.length_cons,List.length_append,List.drop_succ_cons,List.drop_zero,List.drop_nil,List.take_succ_cons,List.take_zero,List.cons_append,List.nil_append,List.append_nil,dC,Bg,g1,g2,g3]
 refine Aj (by kernel_rfl) (.take 0 (.take 1 (.take 2 (.go 3 [0] (.go 4 [] (.go 5 [] (.take 6 (.take 7 (.take 9 (.go 8 [9] (.go 10 [] (.go 11 [] (.take 12 (.take 13 (.take 14 (.go 15 [] (.take 16 (.take 17 (.go 18 [] (.go 19 [] (.go 20 [] (.go 21 [] (.take 22 (.go 23 [] (.take 24 (.take 25 .done)))))))))))))))))))))))))) (by kernel_rfl) ?_;try simp(disch:=omega) only[go_sem,↓reduceIte,dE,nmE,Bz,Bl,List.flatMap_nil,List.length_nil,Cm,Dv,Dw,List.length_cons,List.length_append,List.drop_succ_cons,List.drop_zero,List.drop_nil,List.take_succ_cons,List.take_zero,List.cons_append,List.nil_append,List.append_nil,dC,Bg,g1,g2,g3]
 refine Ai.monoR (Ka G K18 3 eB eC) ?_;simp(disch:=omega) only[go_sem,↓reduceIte,g1,g2,g3,dE];refine Ai.monoR (Ka G K18 1 eA (Aw3 3 eB eC)) ?_;simp(disch:=omega) only[go_sem,↓reduceIte,g1,g2,g3,dE];refine Ai.monoR (Hj hG K18 _ 0 5 _ ex1) ?_;simp(disch:=omega) only[go_sem,↓reduceIte,g1,g2,g3,dE];refine Ai.monoR (Ll G K18 19 eA) ?_;simp(disch:=omega) only[go_sem,↓reduceIte,g1,g2,g3,dE];refine Ai.monoR (Ka G K18 1 (Tj 19 eA) eB) ?_;simp(disch:=omega) only[go_sem,↓reduceIte,g1,g2,g3,dE];refine Ai.monoR (Hj hG K18 _ 2 4 _ ex2) ?_;simp(disch:=omega) only[go_sem,↓reduceIte,g1,g2,g3,dE,y_b5];refine(Ek.lent (H:=K3) (args':= [.str _,dI 6,dI 12, .agg (dEx Br0)]) (.cons (.keep t7 _) (.cons (.keep t7 _) (.cons (.keep t7 _) (.cons (Fc.agg q_b5) .nil)))) (Hj hG h0 _ 6 12 _ ex3) rfl).mono ?_;rintro _ H' ⟨rfl,hH'⟩;have hH2:=hH'.symm;clear hH';subst hH2;clear q_b5 y_b5;simp(disch:=omega) only[go_sem,↓reduceIte,g1,g2,g3,dE];refine Ai.monoR (Hh G _ [88]) ?_;try simp(disch:=omega) only[go_sem,↓reduceIte,dE,nmE,Bz,Bl,List.flatMap_nil,List.length_nil,Cm,Dv,Dw,List.length_cons,List.length_append,List.drop_succ_cons,List.drop_zero,List.drop_nil,List.take_succ_cons,List.take_zero,List.cons_append,List.nil_append,List.append_nil,dC,Bg]
 refine Ai.monoR (Gb G _ 1) ?_;try simp(disch:=omega) only[go_sem,↓reduceIte,dE,nmE,Bz,Bl,List.flatMap_nil,List.length_nil,Cm,Dv,Dw,List.length_cons,List.length_append,List.drop_succ_cons,List.drop_zero,List.drop_nil,List.take_succ_cons,List.take_zero,List.cons_append,List.nil_append,List.append_nil,dC,Bg]
 refine Ai.monoR (Gb G _ 3) ?_;try simp(disch:=omega) only[go_sem,↓reduceIte,dE,nmE,Bz,Bl,List.flatMap_nil,List.length_nil,Cm,Dv,Dw,List.length_cons,List.length_append,List.drop_succ_cons,List.drop_zero,List.drop_nil,List.take_succ_cons,List.take_zero,List.cons_append,List.nil_append,List.append_nil,dC,Bg]
 intro r69 hr69;dsimp only at hr69;try simp(disch:=omega) only[go_sem,↓reduceIte,dE,nmE,Bz,Bl,List.flatMap_nil,List.length_nil,Cm,Dv,Dw,List.length_cons,List.length_append,List.drop_succ_cons,List.drop_zero,List.drop_nil,List.take_succ_cons,List.take_zero,List.cons_append,List.nil_append,List.append_nil,dC,Bg]
 obtain⟨K19,hK19⟩: ∃K',K'=upd K18 r69 (some (.cells [.int .u8 3, .int .u8 0, .int .i64 0, .str [88], .vslice [] 0, .vslice [] 0, .int .i64 0, .int .i64 0, .int .i64 0, .int .u8 1, .int .u8 0, .int .i64 1, .str [], .vslice [] 0, .vslice [] 0, .int .i64 0, .int .i64 0, .int .i64 0, .int .u8 1, .int .u8 0, .int .i64 3, .str [], .vslice [] 0, .vslice [] 0, .int .i64 0, .int .i64 0, .int .i64 0] 27)):=⟨_,rfl⟩;rw[<-hK19];have y_r69:K19 r69=some (.cells [.int .u8 3, .int .u8 0, .int .i64 0, .str [88], .vslice [] 0, .vslice [] 0, .int .i64 0, .int .i64 0, .int .i64 0, .int .u8 1, .int .u8 0, .int .i64 1, .str [], .vslice [] 0, .vslice [] 0, .int .i64 0, .int .i64 0, .int .i64 0, .int .u8 1, .int .u8 0, .int .i64 3, .str [], .vslice [] 0, .vslice [] 0, .int .i64 0, .int .i64 0, .int .i64 0] 27):=by rw[hK19];exact Aa _ _ _
 have sK19:Sub K18 K19:=by rw[hK19];exact(Sub.refl _).new hr69 _
 have z_r69:K3 r69=none:=t7.lo hr69;clear hK19;have y_r39:=sK19 _ _ y_r39;have y_r43:=sK19 _ _ y_r43;have y_r46:=sK19 _ _ y_r46;have y_b6:=sK19 _ _ y_b6;have g1:=sK19 _ _ g1;have g2:=sK19 _ _ g2;have g3:=sK19 _ _ g3;have t7:=t7.trans sK19;have q_r69:Ek K19 [.int .u8 3, .int .u8 0, .int .i64 0, .str [88], .vslice [] 0, .vslice [] 0, .int .i64 0, .int .i64 0, .int .i64 0, .int .u8 1, .int .u8 0, .int .i64 1, .str [], .vslice [] 0, .vslice [] 0, .int .i64 0, .int .i64 0, .int .i64 0, .int .u8 1, .int .u8 0, .int .i64 3, .str [], .vslice [] 0, .vslice [] 0, .int .i64 0, .int .i64 0, .int .i64 0] K3 ([nmE [88],Bz 1,Bz 3].flatMap dEx):=by
  rw[show [nmE [88],Bz 1,Bz 3].flatMap dEx=([.int .u8 3, .int .u8 0, .int .i64 0, .str [88], .vslice [] 0, .vslice [] 0, .int .i64 0, .int .i64 0, .int .i64 0, .int .u8 1, .int .u8 0, .int .i64 1, .str [], .vslice [] 0, .vslice [] 0, .int .i64 0, .int .i64 0, .int .i64 0, .int .u8 1, .int .u8 0, .int .i64 3, .str [], .vslice [] 0, .vslice [] 0, .int .i64 0, .int .i64 0, .int .i64 0]:List DVal) from by simp [nmE,Bz,Bl,Bg,Ng,Se,Re,Ex.a]];exact Ek.keep t7 _
 have p_r69:Fc K19 (.oslice 9 r69 0 3 3) K3 (.vslice ([nmE [88],Bz 1,Bz 3].flatMap dEx) 3):=Fc.cells t7 z_r69 y_r69 rfl q_r69;have q_ni:Ek K19 [.int .u8 14, .int .u8 0, .int .i64 0, .str [], .oslice 9 r69 0 3 3, .nilSlice, .int .i64 0, .int .i64 0, .int .i64 0] K3 (dEx Br1):=Fc.ex (l:= [nmE [88],Bz 1,Bz 3]) (a:= []) t7 p_r69 (.as0 t7);try simp(disch:=omega) only[go_sem,↓reduceIte,dE,nmE,Bz,Bl,List.flatMap_nil,List.length_nil,Cm,Dv,Dw,List.length_cons,List.length_append,List.drop_succ_cons,List.drop_zero,List.drop_nil,List.take_succ_cons,List.take_zero,List.cons_append,List.nil_append,List.append_nil,dC,Bg]
 refine(Ek.lent (H:=K3) (args':= [.str _,dI 0,dI 6, .agg (dEx Br1)]) (.cons (.keep t7 _) (.cons (.keep t7 _) (.cons (.keep t7 _) (.cons (Fc.agg q_ni) .nil)))) (Hj hG h0 _ 0 6 _ ex4) rfl).mono ?_;rintro _ H' ⟨rfl,hH'⟩;have hH2:=hH'.symm;clear hH';subst hH2;have q_r39:Ek K19 [.int .u8 2, .vslice [.int .u8 1, .int .u8 0, .int .i64 1, .str [], .vslice [] 0, .vslice [] 0, .int .i64 0, .int .i64 0, .int .i64 0, .int .u8 1, .int .u8 0, .int .i64 2, .str [], .vslice [] 0, .vslice [] 0, .int .i64 0, .int .i64 0, .int .i64 0] 2, .int .u8 1, .vslice [.int .u8 1, .int .u8 0, .int .i64 4, .str [], .vslice [] 0, .vslice [] 0, .int .i64 0, .int .i64 0, .int .i64 0] 1] K3 ([Ch.mk 2 [Bz 1,Bz 2],Ch.mk 1 [Bz 4]].flatMap dCh):=by
  rw[show [Ch.mk 2 [Bz 1,Bz 2],Ch.mk 1 [Bz 4]].flatMap dCh=([.int .u8 2, .vslice [.int .u8 1, .int .u8 0, .int .i64 1, .str [], .vslice [] 0, .vslice [] 0, .int .i64 0, .int .i64 0, .int .i64 0, .int .u8 1, .int .u8 0, .int .i64 2, .str [], .vslice [] 0, .vslice [] 0, .int .i64 0, .int .i64 0, .int .i64 0] 2, .int .u8 1, .vslice [.int .u8 1, .int .u8 0, .int .i64 4, .str [], .vslice [] 0, .vslice [] 0, .int .i64 0, .int .i64 0, .int .i64 0] 1]:List DVal) from by simp [nmE,Bz,Bl,Bg,Ng,Se,Re,Ex.a]];exact Ek.keep t7 _
 have p_r39:Fc K19 (.oslice 2 r39 0 2 2) K3 (.vslice ([Ch.mk 2 [Bz 1,Bz 2],Ch.mk 1 [Bz 4]].flatMap dCh) 2):=Fc.cells t7 z_r39 y_r39 rfl q_r39;have q_r43:Ek K19 [.int .u8 3, .vslice [] 0] K3 ([Ch.mk 3 []].flatMap dCh):=by
  rw[show [Ch.mk 3 []].flatMap dCh=([.int .u8 3, .vslice [] 0]:List DVal) from by simp [nmE,Bz,Bl,Bg,Ng,Se,Re,Ex.a]];exact Ek.keep t7 _
 have p_r43:Fc K19 (.oslice 2 r43 0 1 1) K3 (.vslice ([Ch.mk 3 []].flatMap dCh) 1):=Fc.cells t7 z_r43 y_r43 rfl q_r43;have q_r46:Ek K19 [.oslice 2 r39 0 2 2, .int .u8 1, .int .u8 0, .int .i64 0, .str [], .vslice [] 0, .vslice [] 0, .int .i64 0, .int .i64 0, .int .i64 0, .oslice 2 r43 0 1 1, .int .u8 1, .int .u8 0, .int .i64 1, .str [], .vslice [] 0, .vslice [] 0, .int .i64 0, .int .i64 0, .int .i64 0] K3 (Re.a.flatMap dAs):=by
  rw[show Re.a.flatMap dAs=([.vslice ([Ch.mk 2 [Bz 1,Bz 2],Ch.mk 1 [Bz 4]].flatMap dCh) 2, .int .u8 1, .int .u8 0, .int .i64 0, .str [], .vslice [] 0, .vslice [] 0, .int .i64 0, .int .i64 0, .int .i64 0, .vslice ([Ch.mk 3 []].flatMap dCh) 1, .int .u8 1, .int .u8 0, .int .i64 1, .str [], .vslice [] 0, .vslice [] 0, .int .i64 0, .int .i64 0, .int .i64 0]:List DVal) from by simp [nmE,Bz,Bl,Bg,Ng,Se,Re,Ex.a]];exact .cons p_r39 (.cons (Fc.keep t7 _) (.cons (Fc.keep t7 _) (.cons (Fc.keep t7 _) (.cons (Fc.keep t7 _) (.cons (Fc.keep t7 _) (.cons (Fc.keep t7 _) (.cons (Fc.keep t7 _) (.cons (Fc.keep t7 _) (.cons (Fc.keep t7 _) (.cons p_r43 (.cons (Fc.keep t7 _) (.cons (Fc.keep t7 _) (.cons (Fc.keep t7 _) (.cons (Fc.keep t7 _) (.cons (Fc.keep t7 _) (.cons (Fc.keep t7 _) (.cons (Fc.keep t7 _) (.cons (Fc.keep t7 _) (.cons (Fc.keep t7 _) (.nil))))))))))))))))))))
 have p_r46:Fc K19 (.oslice 10 r46 0 2 2) K3 (.vslice (Re.a.flatMap dAs) 2):=Fc.cells t7 z_r46 y_r46 rfl q_r46;have q_b6:Ek K19 [.int .u8 9, .int .u8 0, .int .i64 0, .str [], .nilSlice, .oslice 10 r46 0 2 2, .int .i64 0, .int .i64 0, .int .i64 0] K3 (dEx Re):=Fc.ex (l:= []) (a:=Re.a) t7 (.exs0 t7) p_r46;simp(disch:=omega) only[go_sem,↓reduceIte,g1,g2,g3,dE,y_b6];refine Aj (by kernel_rfl) (.take 0 (.go 1 [] (.take 2 (.take 3 (.go 4 [] (.take 5 (.take 6 (.take 8 (.go 7 [8] (.go 9 [] (.take 10 (.go 11 [] (.take 12 (.take 13 (.take 14 (.take 15 (.go 16 [] (.go 17 [] (.take 18 (.take 19 (.go 20 [] (.take 21 (.take 22 (.go 23 [] (.take 24 (.take 25 (.go 26 [] (.take 27 (.take 28 .done))))))))))))))))))))))))))))) (by kernel_rfl) ?_;simp(disch:=omega) only[go_sem,↓reduceIte,g1,g2,g3,dE,y_b6];refine(Ek.lent (H:=K3) (args':= [.str _,dI 5,dI 13, .agg (dEx Re)]) (.cons (.keep t7 _) (.cons (.keep t7 _) (.cons (.keep t7 _) (.cons (Fc.agg q_b6) .nil)))) (Hj hG h0 _ 5 13 _ ex5) rfl).mono ?_;rintro _ H' ⟨rfl,hH'⟩;have hH2:=hH'.symm;clear hH';subst hH2;simp(disch:=omega) only[go_sem,↓reduceIte,g1,g2,g3,dE];refine Ai.monoR (Hj hG K19 _ 5 3 eA ex6) ?_;simp(disch:=omega) only[go_sem,↓reduceIte,g1,g2,g3,dE];refine Ai.monoR (Hh G _ [84]) ?_;try simp(disch:=omega) only[go_sem,↓reduceIte,dE,nmE,Bz,Bl,List.flatMap_nil,List.length_nil,Cm,Dv,Dw,List.length_cons,List.length_append,List.drop_succ_cons,List.drop_zero,List.drop_nil,List.take_succ_cons,List.take_zero,List.cons_append,List.nil_append,List.append_nil,dC,Bg,g1,eA]
 intro r82 hr82;dsimp only at hr82;try simp(disch:=omega) only[go_sem,↓reduceIte,dE,nmE,Bz,Bl,List.flatMap_nil,List.length_nil,Cm,Dv,Dw,List.length_cons,List.length_append,List.drop_succ_cons,List.drop_zero,List.drop_nil,List.take_succ_cons,List.take_zero,List.cons_append,List.nil_append,List.append_nil,dC,Bg,g1,eA]
 obtain⟨K20,hK20⟩: ∃K',K'=upd K19 r82 (some (.cells [.int .u8 3, .int .u8 0, .int .i64 0, .str [84], .vslice [] 0, .vslice [] 0, .int .i64 0, .int .i64 0, .int .i64 0, .int .u8 3, .int .u8 0, .int .i64 0, .str [65], .vslice [] 0, .vslice [] 0, .int .i64 0, .int .i64 0, .int .i64 0] 27)):=⟨_,rfl⟩;rw[<-hK20];have y_r82:K20 r82=some (.cells [.int .u8 3, .int .u8 0, .int .i64 0, .str [84], .vslice [] 0, .vslice [] 0, .int .i64 0, .int .i64 0, .int .i64 0, .int .u8 3, .int .u8 0, .int .i64 0, .str [65], .vslice [] 0, .vslice [] 0, .int .i64 0, .int .i64 0, .int .i64 0] 27):=by rw[hK20];exact Aa _ _ _
 have sK20:Sub K19 K20:=by rw[hK20];exact(Sub.refl _).new hr82 _
 have z_r82:K3 r82=none:=t7.lo hr82;clear hK20;have y_r39:=sK20 _ _ y_r39;have y_r43:=sK20 _ _ y_r43;have y_r46:=sK20 _ _ y_r46;have y_b6:=sK20 _ _ y_b6;have y_r69:=sK20 _ _ y_r69;have g1:=sK20 _ _ g1;have g2:=sK20 _ _ g2;have g3:=sK20 _ _ g3;have t7:=t7.trans sK20;have q_r82:Ek K20 [.int .u8 3, .int .u8 0, .int .i64 0, .str [84], .vslice [] 0, .vslice [] 0, .int .i64 0, .int .i64 0, .int .i64 0, .int .u8 3, .int .u8 0, .int .i64 0, .str [65], .vslice [] 0, .vslice [] 0, .int .i64 0, .int .i64 0, .int .i64 0] K3 ([nmE [84],eA].flatMap dEx):=by
  rw[show [nmE [84],eA].flatMap dEx=([.int .u8 3, .int .u8 0, .int .i64 0, .str [84], .vslice [] 0, .vslice [] 0, .int .i64 0, .int .i64 0, .int .i64 0, .int .u8 3, .int .u8 0, .int .i64 0, .str [65], .vslice [] 0, .vslice [] 0, .int .i64 0, .int .i64 0, .int .i64 0]:List DVal) from by simp [nmE,Bz,Bl,Bg,Ng,Se,Re,Ex.a,eA]];exact Ek.keep t7 _
 have p_r82:Fc K20 (.oslice 9 r82 0 2 2) K3 (.vslice ([nmE [84],eA].flatMap dEx) 2):=Fc.cells t7 z_r82 y_r82 rfl q_r82;have q_ql:Ek K20 [.int .u8 8, .int .u8 0, .int .i64 0, .str [], .oslice 9 r82 0 2 2, .nilSlice, .int .i64 0, .int .i64 0, .int .i64 0] K3 (dEx Cs9):=Fc.ex (l:= [nmE [84],eA]) (a:= []) t7 p_r82 (.as0 t7);try simp(disch:=omega) only[go_sem,↓reduceIte,dE,nmE,Bz,Bl,List.flatMap_nil,List.length_nil,Cm,Dv,Dw,List.length_cons,List.length_append,List.drop_succ_cons,List.drop_zero,List.drop_nil,List.take_succ_cons,List.take_zero,List.cons_append,List.nil_append,List.append_nil,dC,Bg]
 refine(Ek.lent (H:=K3) (args':= [.str _,dI 6,dI 5, .agg (dEx Cs9)]) (.cons (.keep t7 _) (.cons (.keep t7 _) (.cons (.keep t7 _) (.cons (Fc.agg q_ql) .nil)))) (Hj hG h0 _ 6 5 _ ex7) rfl).mono ?_;rintro _ H' ⟨rfl,hH'⟩;have hH2:=hH'.symm;clear hH';subst hH2;simp(disch:=omega) only[go_sem,↓reduceIte,g1,g2,g3,dE];refine Ai.monoR (Ka G K20 13 eA eB) ?_;simp(disch:=omega) only[go_sem,↓reduceIte,g1,g2,g3,dE];refine Ai.monoR (Hj hG K20 _ 0 3 _ ex8) ?_;simp(disch:=omega) only[go_sem,↓reduceIte,g1,g2,g3,dE];refine Ai.monoR (Tk hG K20 _ 0 2 ex9) ?_;simp(disch:=omega) only[go_sem,↓reduceIte,g1,g2,g3,dE];refine Ai.monoR (Tk hG K20 _ 0 2 Dr7) ?_;simp(disch:=omega) only[go_sem,↓reduceIte,g1,g2,g3,dE];refine Ai.monoR (Tk hG K20 _ 0 0 Dr8) ?_;simp(disch:=omega) only[go_sem,↓reduceIte,g1,g2,g3,dE];refine Aj (by kernel_rfl) (.take 0 (.take 1 (.alt (.go 4 [1,0] (.go 2 [0] (.go 3 [] (.go 5 [] .done)))) (.go 2 [0] (.alt (.go 4 [1,0] (.go 3 [] (.go 5 [] .done))) (.go 3 [] (.go 4 [1,0] (.go 5 [] .done)))))))) (by kernel_rfl) ?_;simp(disch:=omega) only[go_sem,↓reduceIte,g1,g2,g3,dE];have lS:=Ah Gs;have oS:=Al Gs;have eS:Aw3 1 eA (Tj 19 eB)=Gs:=rfl;have hts:Vn Gs=(Ar Gs,0):=by rw[Vn,if_pos (by decide+kernel)]
 have ht1:Px (Ar Gs) (Cj [65,32,43,32,40,45,32,66,41]).1=true:=by decide+kernel
 have ht2:Ia Gs=true:=by decide+kernel
 have ht3:Ia (Tj 21 ex0)=false:=by decide+kernel
 have ht4:Eg Gs=4:=by decide+kernel
 have ht5:Cb Gs=2:=by decide+kernel
 have ht6:Bc Gs=false:=by decide+kernel
 have ht7:Bc eA=true:=by decide+kernel
 have hF0:Fit (Tj 21 ex0):=⟨by decide+kernel,by simp [Tj,ex0,okE,okL,Jv]⟩;have hz0:DLe (.agg [.int .u8 0, .int .u8 0, .int .i64 0, .str [], .nilSlice, .nilSlice, .int .i64 0, .int .i64 0, .int .i64 0]) (.agg (dEx ex0)):=DLe.agg (.cons (.refl _) (.cons (.refl _) (.cons (.refl _) (.cons (.refl _) (.cons .nil (.cons .nil (.refl _)))))));have hFS:Fit Gs:=⟨by decide+kernel,by simp [Gs,Aw3,Tj,eA,eB,nmE,okE,okL,Jv]⟩;refine⟨?_,?_⟩
 ·intro b9 hb9;dsimp only at hb9;have m19:b1≠b9:=Ae hb9 g1;have o1:=g1;have o2:=g2;obtain⟨K21,hK21⟩: ∃K',K'=upd K20 b9 (some (.cells [.int .u8 0, .int .u8 0, .int .i64 0, .str [], .nilSlice, .nilSlice, .int .i64 0, .int .i64 0, .int .i64 0] 27)):=⟨_,rfl⟩;rw[<-hK21];have y_b9:K21 b9=some (.cells [.int .u8 0, .int .u8 0, .int .i64 0, .str [], .nilSlice, .nilSlice, .int .i64 0, .int .i64 0, .int .i64 0] 27):=by rw[hK21];exact Aa _ _ _
  have sK21:Sub K20 K21:=by rw[hK21];exact(Sub.refl _).new hb9 _
  have z_b9:K3 b9=none:=t7.lo hb9;clear hK21;have y_r39:=sK21 _ _ y_r39;have y_r43:=sK21 _ _ y_r43;have y_r46:=sK21 _ _ y_r46;have y_b6:=sK21 _ _ y_b6;have y_r69:=sK21 _ _ y_r69;have y_r82:=sK21 _ _ y_r82;have g1:=sK21 _ _ g1;have g2:=sK21 _ _ g2;have g3:=sK21 _ _ g3;have t7:=t7.trans sK21;try simp(disch:=omega) only[go_sem,↓reduceIte,g1,g2,g3,dE,eS]
  refine⟨⟨o2.symm,o1.symm⟩,?_⟩;refine Ai.monoR (Ll G K21 19 eB) ?_;try simp(disch:=omega) only[go_sem,↓reduceIte,g1,g2,g3,dE,eS]
  refine Ai.monoR (Ka G K21 1 eA (Tj 19 eB)) ?_;rw[eS];try simp(disch:=omega) only[go_sem,↓reduceIte,g1,g2,g3,dE,y_b9,lS,oS]
  obtain⟨K30,hK30⟩: ∃K',K'=upd K21 b9 (some (.cells (dEx Gs) 27)):=⟨_,rfl⟩;rw[<-hK30];have g1:K30 b1=some (.cells (dEx eA) 27):=by rw[hK30];exact Ag g1 m19
  have g9:K30 b9=some (.cells (dEx Gs) 27):=by rw[hK30];exact Aa _ _ _
  have t7:Sub K3 K30:=by rw[hK30];exact t7.up z_b9 _
  clear hK30;try simp(disch:=omega) only[go_sem,↓reduceIte,g9]
  (try refine⟨⟨o2.symm,o1.symm⟩,?_⟩)
  refine Ai.monoR (Rd hG K30 Gs hFS) ?_;rw[hts];simp(disch:=omega) only[go_sem,↓reduceIte,g1,g9];refine Ai.monoR (Mg G K30 _ (by decide)) ?_;simp(disch:=omega) only[go_sem,↓reduceIte,g1,g9];refine Ai.monoR (Sw G K30 (Ar Gs) (Cj [65,32,43,32,40,45,32,66,41]).1 (by decide+kernel)) ?_;rw[ht1];simp(disch:=omega) only[go_sem,↓reduceIte,g1,g9];refine Ai.monoR (Ii hG K30 Gs hFS) ?_;rw[ht2];simp(disch:=omega) only[go_sem,↓reduceIte,g1,g9];refine Ai.leArgs (args':= [.int .u8 21, .agg (dEx ex0)]) (Bn5.cons (.refl _) (Bn5.cons hz0 .nil)) ?_;refine Ai.monoR (Ll G K30 21 ex0) ?_;simp(disch:=omega) only[go_sem,↓reduceIte,dE];refine Ai.monoR (Ii hG K30 (Tj 21 ex0) hF0) ?_;rw[ht3];simp(disch:=omega) only[go_sem,↓reduceIte,g1,g9];refine Ai.monoR (Wt G Gs K30 (by decide+kernel)) ?_;rw[ht4];simp(disch:=omega) only[go_sem,↓reduceIte,g1,g9];refine Ai.monoR (Jx G K30 Gs) ?_;rw[ht5];simp(disch:=omega) only[go_sem,↓reduceIte,g1,g9];refine Ai.monoR (Du G K30 Gs) ?_;rw[ht6];simp(disch:=omega) only[go_sem,↓reduceIte,g1,g9];refine Ai.monoR (Du G K30 eA) ?_;rw[ht7];simp(disch:=omega) only[go_sem,↓reduceIte,g1,g9];exact Nu.sub t7 (.refl ⟨rfl,rfl⟩)
 ·refine Ai.monoR (Ll G K20 19 eB) ?_;try simp(disch:=omega) only[go_sem,↓reduceIte,g1,g2,g3,dE,eS]
  refine⟨?_,?_⟩
  ·intro b9 hb9;dsimp only at hb9;have m19:b1≠b9:=Ae hb9 g1;have o1:=g1;have o2:=g2;obtain⟨K21,hK21⟩: ∃K',K'=upd K20 b9 (some (.cells [.int .u8 0, .int .u8 0, .int .i64 0, .str [], .nilSlice, .nilSlice, .int .i64 0, .int .i64 0, .int .i64 0] 27)):=⟨_,rfl⟩;rw[<-hK21];have y_b9:K21 b9=some (.cells [.int .u8 0, .int .u8 0, .int .i64 0, .str [], .nilSlice, .nilSlice, .int .i64 0, .int .i64 0, .int .i64 0] 27):=by rw[hK21];exact Aa _ _ _
   have sK21:Sub K20 K21:=by rw[hK21];exact(Sub.refl _).new hb9 _
   have z_b9:K3 b9=none:=t7.lo hb9;clear hK21;have y_r39:=sK21 _ _ y_r39;have y_r43:=sK21 _ _ y_r43;have y_r46:=sK21 _ _ y_r46;have y_b6:=sK21 _ _ y_b6;have y_r69:=sK21 _ _ y_r69;have y_r82:=sK21 _ _ y_r82;have g1:=sK21 _ _ g1;have g2:=sK21 _ _ g2;have g3:=sK21 _ _ g3;have t7:=t7.trans sK21;try simp(disch:=omega) only[go_sem,↓reduceIte,g1,g2,g3,dE,eS]
   refine⟨⟨o2.symm,o1.symm⟩,?_⟩;refine Ai.monoR (Ka G K21 1 eA (Tj 19 eB)) ?_;rw[eS];try simp(disch:=omega) only[go_sem,↓reduceIte,g1,g2,g3,dE,y_b9,lS,oS]
   obtain⟨K30,hK30⟩: ∃K',K'=upd K21 b9 (some (.cells (dEx Gs) 27)):=⟨_,rfl⟩;rw[<-hK30];have g1:K30 b1=some (.cells (dEx eA) 27):=by rw[hK30];exact Ag g1 m19
   have g9:K30 b9=some (.cells (dEx Gs) 27):=by rw[hK30];exact Aa _ _ _
   have t7:Sub K3 K30:=by rw[hK30];exact t7.up z_b9 _
   clear hK30;try simp(disch:=omega) only[go_sem,↓reduceIte,g9]
   (try refine⟨⟨o2.symm,o1.symm⟩,?_⟩)
   refine Ai.monoR (Rd hG K30 Gs hFS) ?_;rw[hts];simp(disch:=omega) only[go_sem,↓reduceIte,g1,g9];refine Ai.monoR (Mg G K30 _ (by decide)) ?_;simp(disch:=omega) only[go_sem,↓reduceIte,g1,g9];refine Ai.monoR (Sw G K30 (Ar Gs) (Cj [65,32,43,32,40,45,32,66,41]).1 (by decide+kernel)) ?_;rw[ht1];simp(disch:=omega) only[go_sem,↓reduceIte,g1,g9];refine Ai.monoR (Ii hG K30 Gs hFS) ?_;rw[ht2];simp(disch:=omega) only[go_sem,↓reduceIte,g1,g9];refine Ai.leArgs (args':= [.int .u8 21, .agg (dEx ex0)]) (Bn5.cons (.refl _) (Bn5.cons hz0 .nil)) ?_;refine Ai.monoR (Ll G K30 21 ex0) ?_;simp(disch:=omega) only[go_sem,↓reduceIte,dE];refine Ai.monoR (Ii hG K30 (Tj 21 ex0) hF0) ?_;rw[ht3];simp(disch:=omega) only[go_sem,↓reduceIte,g1,g9];refine Ai.monoR (Wt G Gs K30 (by decide+kernel)) ?_;rw[ht4];simp(disch:=omega) only[go_sem,↓reduceIte,g1,g9];refine Ai.monoR (Jx G K30 Gs) ?_;rw[ht5];simp(disch:=omega) only[go_sem,↓reduceIte,g1,g9];refine Ai.monoR (Du G K30 Gs) ?_;rw[ht6];simp(disch:=omega) only[go_sem,↓reduceIte,g1,g9];refine Ai.monoR (Du G K30 eA) ?_;rw[ht7];simp(disch:=omega) only[go_sem,↓reduceIte,g1,g9];exact Nu.sub t7 (.refl ⟨rfl,rfl⟩)
  ·refine Ai.monoR (Ka G K20 1 eA (Tj 19 eB)) ?_;rw[eS];try simp(disch:=omega) only[go_sem,↓reduceIte,g1,g2,g3,dE,eS]
   intro b9 hb9;dsimp only at hb9;have m19:b1≠b9:=Ae hb9 g1;have o1:=g1;have o2:=g2;obtain⟨K21,hK21⟩: ∃K',K'=upd K20 b9 (some (.cells [.int .u8 0, .int .u8 0, .int .i64 0, .str [], .nilSlice, .nilSlice, .int .i64 0, .int .i64 0, .int .i64 0] 27)):=⟨_,rfl⟩;rw[<-hK21];have y_b9:K21 b9=some (.cells [.int .u8 0, .int .u8 0, .int .i64 0, .str [], .nilSlice, .nilSlice, .int .i64 0, .int .i64 0, .int .i64 0] 27):=by rw[hK21];exact Aa _ _ _
   have sK21:Sub K20 K21:=by rw[hK21];exact(Sub.refl _).new hb9 _
   have z_b9:K3 b9=none:=t7.lo hb9;clear hK21;have y_r39:=sK21 _ _ y_r39;have y_r43:=sK21 _ _ y_r43;have y_r46:=sK21 _ _ y_r46;have y_b6:=sK21 _ _ y_b6;have y_r69:=sK21 _ _ y_r69;have y_r82:=sK21 _ _ y_r82;have g1:=sK21 _ _ g1;have g2:=sK21 _ _ g2;have g3:=sK21 _ _ g3;have t7:=t7.trans sK21;try simp(disch:=omega) only[go_sem,↓reduceIte,g1,g2,g3,dE,y_b9,lS,oS]
   obtain⟨K30,hK30⟩: ∃K',K'=upd K21 b9 (some (.cells (dEx Gs) 27)):=⟨_,rfl⟩;rw[<-hK30];have g1:K30 b1=some (.cells (dEx eA) 27):=by rw[hK30];exact Ag g1 m19
   have g9:K30 b9=some (.cells (dEx Gs) 27):=by rw[hK30];exact Aa _ _ _
   have t7:Sub K3 K30:=by rw[hK30];exact t7.up z_b9 _
   clear hK30;try simp(disch:=omega) only[go_sem,↓reduceIte,g9]
   (try refine⟨⟨o2.symm,o1.symm⟩,?_⟩)
   refine Ai.monoR (Rd hG K30 Gs hFS) ?_;rw[hts];simp(disch:=omega) only[go_sem,↓reduceIte,g1,g9];refine Ai.monoR (Mg G K30 _ (by decide)) ?_;simp(disch:=omega) only[go_sem,↓reduceIte,g1,g9];refine Ai.monoR (Sw G K30 (Ar Gs) (Cj [65,32,43,32,40,45,32,66,41]).1 (by decide+kernel)) ?_;rw[ht1];simp(disch:=omega) only[go_sem,↓reduceIte,g1,g9];refine Ai.monoR (Ii hG K30 Gs hFS) ?_;rw[ht2];simp(disch:=omega) only[go_sem,↓reduceIte,g1,g9];refine Ai.leArgs (args':= [.int .u8 21, .agg (dEx ex0)]) (Bn5.cons (.refl _) (Bn5.cons hz0 .nil)) ?_;refine Ai.monoR (Ll G K30 21 ex0) ?_;simp(disch:=omega) only[go_sem,↓reduceIte,dE];refine Ai.monoR (Ii hG K30 (Tj 21 ex0) hF0) ?_;rw[ht3];simp(disch:=omega) only[go_sem,↓reduceIte,g1,g9];refine Ai.monoR (Wt G Gs K30 (by decide+kernel)) ?_;rw[ht4];simp(disch:=omega) only[go_sem,↓reduceIte,g1,g9];refine Ai.monoR (Jx G K30 Gs) ?_;rw[ht5];simp(disch:=omega) only[go_sem,↓reduceIte,g1,g9];refine Ai.monoR (Du G K30 Gs) ?_;rw[ht6];simp(disch:=omega) only[go_sem,↓reduceIte,g1,g9];refine Ai.monoR (Du G K30 eA) ?_;rw[ht7];simp(disch:=omega) only[go_sem,↓reduceIte,g1,g9];exact Nu.sub t7 (.refl ⟨rfl,rfl⟩)
end
end Go.Dl

-- Chapter 3: ExprMays.
namespace Go.Dl
open Go Go.Proofs
set_option maxRecDepth 100000
theorem Br2 (e:Ex):Gr e e=true:=(Ai8 e e).2 rfl
theorem Bg7 (l:List As):Gw l l=true:=(Xh l l).2 rfl
section
end
end Go.Dl

-- THE READING, PART 1: what was read of the input before a call is read the same behind it, if the call left all old memory as it was.
namespace Go.Dl
open Go
section
variable {H:Type} {enc:TypeId×Value->H} {P:Program} {w w':World}
def Tl (w w':World):Prop:= ∀b,b<w.heap.size->w'.heap[b]? =w.heap[b]?
theorem Tl.cell (h:Tl w w') {a:Addr} {x:Value} (hc:w.cell? a=some x):w'.cell? a=some x:=by
 have hlt:a.block<w.heap.size:=by
  unfold World.cell? at hc;rcases Nat.lt_or_ge a.block w.heap.size with hl | hl
  ·exact hl
  ·simp [Array.getElem?_eq_none hl] at hc
 unfold World.cell? at hc⊢
 rw[h _ hlt];exact hc
theorem Kb {α β:Type} {f g:α->Option β}: ∀ {l:List α} {r:List β},l.mapM f=some r->(∀x∈l,∀y,f x=some y->y∈r->g x=some y)->l.mapM g=some r
 | [],r,h,_=>by simpa using h
 | x::l,r,h,hg=>by
  rw[List.mapM_cons] at h⊢
  simp only[Option.bind_eq_bind,Option.bind_eq_some_iff,Option.pure_def,Option.some.injEq] at h⊢
  obtain⟨y,hy,ys,hys,rfl⟩:=h;exact⟨y,hg x (by simp) y hy (by simp),ys,Kb hys (fun z hz u hu hm=>hg z (by simp [hz]) u hu (by simp [hm])),rfl⟩
theorem Tl.cells (h:Tl w w') {base:Nat} {a:Addr} {n:Nat} {cs:List Value} (hc:w.cells? base a n=some cs):w'.cells? base a n=some cs:=by
 unfold World.cells? at hc⊢
 split at hc
 ·rename_i hb;rw[if_pos hb];exact Kb hc fun i _ y hy _=>h.cell hy
 ·cases hc
structure Closed (P:Program) (T:TypeId->Prop):Prop where
 ptr: ∀t e,T t->P.underlying t=some (.pointer e)->T e
 slice: ∀t e,T t->P.underlying t=some (.slice e)->0<P.cellsOf e/\T e
 struct: ∀t fs,T t->P.underlying t=some (.struct fs)-> ∀f∈fs.toList,T f.type
 array: ∀t n e,T t->P.underlying t=some (.array n e)->T e
 iface: ∀t m,T t->P.underlying t≠some (.interface m)
 map: ∀t k e,T t->P.underlying t=some (.map k e)->T e
def Bw7 (P:Program) (ts:List TypeId):Bool:=ts.all fun t=>match P.underlying t with
 | some (.pointer e)=>ts.contains e
 | some (.slice e)=>decide (0<P.cellsOf e)&&ts.contains e
 | some (.struct fs)=>fs.toList.all fun f=>ts.contains f.type
 | some (.array _ e)=>ts.contains e
 | some (.interface _)=>false
 | some (.map _ e)=>ts.contains e
 | _=>true
theorem Ch1 {P:Program} {ts:List TypeId} (h:Bw7 P ts=true):Closed P (· ∈ts):=by
 unfold Bw7 at h;rw[List.all_eq_true] at h;refine⟨fun t e ht hu=> ?_,fun t e ht hu=> ?_,fun t fs ht hu=> ?_,fun t n e ht hu=> ?_,fun t m ht hu=> ?_,fun t k e ht hu=> ?_⟩;all_goals have h1:=h t ht;rw[hu] at h1
 ·simpa using h1
 ·simpa using h1
 ·intro f hf;simpa using List.all_eq_true.1 h1 f hf
 ·simpa using h1
 ·cases h1
 ·simpa using h1
theorem Ap7 (h:Tl w w') {T:TypeId->Prop} (hT:Closed P T) {base:Nat} {sp:Nat->Bool} {held:Bool}:
  ∀(Ci:Nat) (t:TypeId) (cs:List Value) (d:DataW H) (ps:List MemPlace),T t->DataW.trod enc P w base (fun _=>true) held Ci t cs=some (d,ps)->(∀p∈ps,sp p.block=true)->
   DataW.trod enc P w' base sp held Ci t cs=some (d,ps)
 | 0,_,_,_,_,_,hh,_=>by simp [DataW.trod] at hh
 | Ci+1,t,cs,d,ps,ht,hh,hp=>by
  have ih:= @Ap7 h T hT base sp held Ci;unfold DataW.trod at hh⊢
  split at hh<;>(try (first | exact hh | (simp at hh;done)))
  ·-- pointer
   rename_i e a hu
   simp only[Option.map_eq_some_iff,Option.bind_eq_some_iff,Prod.mk.injEq] at hh⊢
   obtain⟨x,⟨c,hc,hx⟩,rfl,rfl⟩:=hh;exact⟨x,⟨c,h.cells hc,ih _ _ x.1 x.2 (hT.ptr _ _ ht hu) hx fun p hpm=>hp p (by simp [hpm])⟩,rfl,rfl⟩
  ·-- slice
   rename_i e a len cap hu
   dsimp only at hh⊢
   split at hh
   ·rename_i hc
    rw[if_pos hc];simp only[Option.bind_eq_some_iff,Option.map_eq_some_iff,if_true,Prod.mk.injEq] at hh⊢
    obtain⟨elems,he,rest,hr,rfl,rfl⟩:=hh;have hp1: ∀y∈elems,∀p∈y.2,sp p.block=true:=fun y hy p hpm=>hp p (by
     simp only[List.mem_append,List.mem_flatMap];exact .inr ⟨y, .inl hy,hpm⟩)
    have hp2: ∀y∈rest,∀p∈y.2,sp p.block=true:=fun y hy p hpm=>hp p (by
     simp only[List.mem_append,List.mem_flatMap];exact .inr ⟨y, .inr hy,hpm⟩)
    refine⟨elems,Kb he (fun i _ y hy hym=> ?_),rest,?_,rfl,rfl⟩
    ·simp only[Option.bind_eq_some_iff] at hy⊢
     obtain⟨c,hc1,hc2⟩:=hy;exact⟨c,h.cells hc1,ih _ _ y.1 y.2 (hT.slice _ _ ht hu).2 hc2 (hp1 y hym)⟩
    ·have hr':(List.range (cap-len)).mapM (fun j=>(w'.cells? base (a.add ((len+j)*P.cellsOf e)) (P.cellsOf e)).bind (DataW.trod enc P w' base sp held Ci e))=some rest:=by
      refine Kb hr (fun i _ y hy hym=> ?_);simp only[Option.bind_eq_some_iff] at hy⊢
      obtain⟨c,hc1,hc2⟩:=hy;exact⟨c,h.cells hc1,ih _ _ y.1 y.2 (hT.slice _ _ ht hu).2 hc2 (hp2 y hym)⟩
     by_cases hsp:sp a.block=true
     ·rw[if_pos hsp];exact hr'
     ·rw[if_neg hsp];have hpos:=(hT.slice t e ht hu).1;have hlen:rest.length=0:=by
       rcases Nat.eq_zero_or_pos rest.length with h0 | h0
       ·exact h0
       ·exfalso;refine hsp (hp (.cell a.block a.off) ?_);refine List.mem_append_left _ ?_;unfold MemPlace.row;refine List.mem_map.2 ⟨0,List.mem_range.2 (Nat.mul_pos (by omega) hpos),by simp⟩
      rw[List.eq_nil_of_length_eq_zero hlen]
   ·cases hh
  ·-- struct
   rename_i fs hu
   split at hh
   ·rename_i hl
    rw[if_pos hl];simp only[Option.map_eq_some_iff,Prod.mk.injEq] at hh⊢
    obtain⟨xs,hx,rfl,rfl⟩:=hh;exact⟨xs,Kb hx (fun f hf y hy hym=>ih _ _ y.1 y.2 (hT.struct _ _ ht hu f hf) hy fun p hpm=>hp p (List.mem_flatMap.2 ⟨y,hym,hpm⟩)),rfl,rfl⟩
   ·cases hh
  ·-- array
   rename_i hu
   split at hh
   ·rename_i hl
    rw[if_pos hl];simp only[Option.map_eq_some_iff,Prod.mk.injEq] at hh⊢
    obtain⟨xs,hx,rfl,rfl⟩:=hh;exact⟨xs,Kb hx (fun f hf y hy hym=>ih _ _ y.1 y.2 (hT.array _ _ _ ht hu) hy fun p hpm=>hp p (List.mem_flatMap.2 ⟨y,hym,hpm⟩)),rfl,rfl⟩
   ·cases hh
  ·-- interface
   rename_i hu
   exact(hT.iface _ _ ht hu).elim
  ·-- map
   rename_i k e b hu
   split at hh
   ·rename_i es clock hb
    have hlt:b<w.heap.size:=(Array.getElem?_eq_some_iff.1 hb).1;rw[h b hlt,hb];dsimp only at hh⊢
    split at hh
    ·rename_i hc
     rw[if_pos hc];simp only[Option.bind_eq_some_iff] at hh⊢
     obtain⟨entries,he,hr⟩:=hh;split at hr
     ·rename_i hri
      simp only[Option.some.injEq,Prod.mk.injEq] at hr;obtain⟨rfl,rfl⟩:=hr;refine⟨entries,Kb he (fun x _ y hy hym=> ?_),by rw[if_pos hri]⟩;simp only[Option.bind_eq_some_iff] at hy⊢
      obtain⟨key,hk,hy⟩:=hy;refine⟨key,hk,?_⟩;split at hy
      ·rename_i hf
       rw[if_pos hf];simp only[Option.map_eq_some_iff] at hy⊢
       obtain⟨z,hz1,rfl⟩:=hy;exact⟨z,ih _ _ z.1 z.2 (hT.map _ _ _ ht hu) hz1 fun p hpm=>hp p (by
        simp only[List.mem_cons,List.mem_flatMap];exact .inr ⟨_,hym,hpm⟩),rfl⟩
      ·cases hy
     ·cases hr
    ·cases hh
   ·cases hh
theorem Trod.keep (h:Tl w w') {T:TypeId->Prop} (hT:Closed P T) {base:Nat} {sp:Nat->Bool} {held:Bool} {t:TypeId} {v:Value} {d:DataW H} {ps:List MemPlace}
  (ht:T t) (hh:DataW.Trod enc P w base (fun _=>true) held t v d ps) (hp: ∀p∈ps,sp p.block=true):DataW.Trod enc P w' base sp held t v d ps:=by
 obtain⟨Ci,hh⟩:=hh;exact⟨Ci,Ap7 h hT Ci _ _ _ _ ht hh hp⟩
theorem TrodAll.keep (h:Tl w w') {T:TypeId->Prop} (hT:Closed P T) {base:Nat} {sp:Nat->Bool} {held:Bool}:
  ∀ {ts:List TypeId} {vs:List Value} {ds:List (DataW H)} {ps:List MemPlace},(∀t∈ts,T t)->DataW.TrodAll enc P w base (fun _=>true) held ts vs ds ps->(∀p∈ps,sp p.block=true)->DataW.TrodAll enc P w' base sp held ts vs ds ps
 | [],[],[],_,_,hh,_=>hh
 | [],[],_::_,_,_,hh,_=>hh.elim
 | [],_::_,_,_,_,hh,_=>hh.elim
 | _::_,[],_,_,_,hh,_=>hh.elim
 | _::_,_::_,[],_,_,hh,_=>hh.elim
 | t::ts,v::vs,d::ds,_,ht,⟨p,q,h1,h2,rfl⟩,hp=>
  ⟨p,q,Trod.keep h hT (ht t (by simp)) h1 (fun x hx=>hp x (by simp [hx])),TrodAll.keep h hT (fun u hu=>ht u (by simp [hu])) h2 (fun x hx=>hp x (by simp [hx])),rfl⟩
end
end Go.Dl

-- THE READING, PART 2: what was read of the input is plain data, seen at the data level.
namespace Go.Dl
open Go Go.RowKit Go.Deep
def Rf (P:Program) (H:Type) (w:World) (t:TypeId) (α:Type) (f:α->List DVal) (g:α->DataW H->Prop):Prop:=
 ∀(enc:TypeId×Value->H) base sp held Ci cs d ps,DataW.trod enc P w base sp held Ci t cs=some (d,ps)-> ∃x,g x d/\Aq w (fun _=>none) (f x) cs
section
variable {P:Program} {H:Type} {w:World}
theorem Ap8 {a:Addr} {x:Value} (h:w.cell? a=some x):a.spot=none:=by
 unfold World.cell? at h;split at h
 ·split at h
  ·cases h
  ·rename_i hs;simpa using hs
 ·cases h
theorem Rg {α β:Type} {f:α->Option β}: ∀ {l:List α} {r:List β},l.mapM f=some r->r.length=l.length/\ ∀(i:Nat) (x:α),l[i]? =some x-> ∃y,r[i]? =some y/\f x=some y
 | [],r,h=>by simp at h;subst h;simp
 | x::l,r,h=>by
  rw[List.mapM_cons] at h;simp only[Option.bind_eq_bind,Option.bind_eq_some_iff,Option.pure_def,Option.some.injEq] at h;obtain⟨y,hy,ys,hys,rfl⟩:=h;obtain⟨h1,h2⟩:=Rg hys;refine⟨by simp [h1],fun i z hz=> ?_⟩;cases i with
  | zero=>simp at hz;subst hz;exact⟨y,rfl,hy⟩
  | succ i=>simp at hz;obtain⟨u,hu,hf⟩:=h2 i z hz;exact⟨u,by simpa using hu,hf⟩
theorem Bg8 {base:Nat} {a:Addr} {n:Nat} {cs:List Value} (h:w.cells? base a n=some cs):cs.length=n/\Ie w a.block a.off cs:=by
 unfold World.cells? at h;split at h
 ·obtain⟨h1,h2⟩:=Rg h;rw[List.length_range] at h1;refine⟨h1,fun i x hx=> ?_⟩;have hi:i<n:=by
   have:=(List.getElem?_eq_some_iff.1 hx).1;omega
  obtain⟨y,hy,hc⟩:=h2 i i (by simp [hi]);rw[hx] at hy;cases hy;by_cases h0:i=0
  ·subst h0;have:a.add 0=a:=rfl;rw[this] at hc;have hs:=Ap8 hc;have:(⟨a.block,a.off+0,none⟩:Addr)=a:=by cases a;simp at hs⊢;exact hs.symm
   rw[this];exact hc
  ·have:a.add i=⟨a.block,a.off+i,none⟩:=by simp [Addr.add,h0]
   rw[<-this];exact hc
 ·cases h
theorem Ie.append {b off:Nat} {xs ys:List Value} (h:Ie w b off xs) (k:Ie w b (off+xs.length) ys):Ie w b off (xs++ys):=by
 intro i x hx;by_cases hi:i<xs.length
 ·rw[List.getElem?_append_left hi] at hx;exact h i x hx
 ·rw[List.getElem?_append_right (by omega)] at hx;have:=k (i-xs.length) x hx;rw[show off+xs.length+(i-xs.length)=off+i by omega] at this;exact this
theorem Rr {t:TypeId} {k:IntKind} (ht:P.underlying t=some (.int k)):Rf P H w t Int (fun n=> [.int k n]) (fun n d=>(Lit.int k n).wf=true/\d= .lit (.int k n)):=by
 intro enc base sp held Ci cs d ps h;cases Ci with
 | zero=>simp [DataW.trod] at h
 | succ Ci=>
  unfold DataW.trod at h;rw[ht] at h;split at h<;>simp_all;obtain⟨⟨rfl,hw⟩,rfl,rfl⟩:=h;exact⟨_,⟨hw,rfl⟩,by simp [Aq,Rel]⟩
theorem Aw4 {t:TypeId} (ht:P.underlying t=some .string):Rf P H w t (List UInt8) (fun s=> [.str s]) (fun s d=>s.length<=maxLen/\d= .lit (.string s)):=by
 intro enc base sp held Ci cs d ps h;cases Ci with
 | zero=>simp [DataW.trod] at h
 | succ Ci=>
  unfold DataW.trod at h;rw[ht] at h;split at h<;>simp_all
  rename_i s
  obtain⟨hl,rfl,rfl⟩:=h;exact⟨s.data.toList,⟨by simpa using hl,rfl⟩,by simp [Aq,Rel]⟩
def Aw5 {α:Type} (g:α->DataW H->Prop):List α->List (DataW H)->Prop
 | [],[]=>True
 | x::xs,d::ds=>g x d/\Aw5 g xs ds
 | _,_=>False
theorem Aw5.append {α:Type} {g:α->DataW H->Prop}: ∀ {xs ys:List α} {ds es:List (DataW H)},Aw5 g xs ds->Aw5 g ys es->Aw5 g (xs++ys) (ds++es)
 | [],_,[],_,_,k=>k
 | [],_,_::_,_,h,_=>h.elim
 | _::_,_,[],_,h,_=>h.elim
 | x::xs,ys,d::ds,es,h,k=>⟨h.1,Aw5.append h.2 k⟩
theorem Bg9 {t e:TypeId} {α:Type} {f:α->List DVal} {g:α->DataW H->Prop} (ht:P.underlying t=some (.slice e)) (he:Rf P H w e α f g):
  Rf P H w t (List α) (fun xs=> [.vslice (xs.flatMap f) xs.length]) (fun xs d=>(d= .nil/\xs= [])\/ ∃es sp,d= .slice es sp/\xs.length<=maxLen/\Aw5 g xs es):=by
 intro enc base sp held Ci cs d ps h;rcases open_slice ht h with⟨rfl,hx⟩ | ⟨a,len,cap,m,n,D,Pl,rfl,hb,hl,hm,hmm,hx,hall⟩
 ·cases hx;exact⟨[], .inl ⟨rfl,rfl⟩,by simp [Aq,Rel]⟩
 ·have hlm:len<=m:=by rw[hmm];split<;>omega
  simp only[Prod.mk.injEq] at hx;obtain⟨rfl,rfl⟩:=hx;have key: ∀k,k<=len-> ∃(xs:List α) (ys:List Value),xs.length=k/\Aw5 g xs ((List.range k).map D)/\ys.length=k*P.cellsOf e/\Ie w a.block a.off ys/\Aq w (fun _=>none) (xs.flatMap f) ys:=by
   intro k
   induction k with
   | zero=>intro _;exact⟨[],[],rfl,trivial,by simp,fun i x hx=>by simp at hx,by simp [Aq]⟩
   | succ k ih=>
    intro hk;obtain⟨xs,ys,h1,h2,h3,h4,h5⟩:=ih (by omega);obtain⟨cs',g1,g2⟩:=hall k (by omega);obtain⟨x,hg,hr⟩:=he _ _ _ _ _ _ _ _ g2;obtain⟨c1,c2⟩:=Bg8 g1;refine⟨xs++ [x],ys++cs',by simp [h1],?_,by simp only[List.length_append,h3,c1,Nat.succ_mul],h4.append ?_,?_⟩
    ·rw[List.range_succ,List.map_append];exact h2.append ⟨hg,trivial⟩
    ·rw[h3];have ha:(a.add (k*P.cellsOf e)).block=a.block/\(a.add (k*P.cellsOf e)).off=a.off+k*P.cellsOf e:=by
      unfold Addr.add;split
      ·rename_i h0;rw[h0];exact⟨rfl,rfl⟩
      ·exact⟨rfl,rfl⟩
     rw[ha.1,ha.2] at c2;exact c2
    ·rw[List.flatMap_append];simpa using h5.append hr
  obtain⟨xs,ys,h1,h2,h3,h4,h5⟩:=key len (Nat.le_refl _);refine⟨xs, .inr ⟨_,_,rfl,by omega,h2⟩,?_⟩;have hrel:Rel w (fun _=>none) (.vslice (xs.flatMap f) xs.length) (.slice (some a) len cap):=by
   simp only[Rel];refine⟨some a,cap,by rw[h1],by omega,?_⟩;cases hys:ys with
   | nil=>subst hys;left;exact List.eq_nil_of_length_eq_zero (by rw[h5.length];rfl)
   | cons y yr=>
    right;have h6:=h4 0 y (by rw[hys];rfl);have hpos:0<len/\0<P.cellsOf e:=by
     rw[hys] at h3;simp only[List.length_cons] at h3;constructor
     ·rcases Nat.eq_zero_or_pos len with h0 | h0
      ·subst h0;simp at h3
      ·exact h0
     ·rcases Nat.eq_zero_or_pos (P.cellsOf e) with h0 | h0
      ·rw[h0] at h3;simp at h3
      ·exact h0
    have hsp:a.spot=none:=by
     obtain⟨cs',g1,g2⟩:=hall 0 (by omega);unfold World.cells? at g1;split at g1
     ·obtain⟨_,m2⟩:=Rg g1;obtain⟨z,_,hz⟩:=m2 0 0 (by simp [hpos.2]);have:(a.add (0*P.cellsOf e)).add 0=a:=by simp [Addr.add]
      rw[this] at hz;exact Ap8 hz
     ·cases g1
    refine⟨a.block,a.off,ys,by cases a;simp at hsp⊢;exact hsp, .inr ⟨rfl,h4⟩,h5⟩
  simp only[Aq];exact⟨_,_,rfl,hrel,rfl⟩
end
end Go.Dl

-- THE READING, PART 3: a law's call at the data level, as the row wants it.
namespace Go.Dl
open Go Go.RowKit
section
variable {P:Program} {w:World}
theorem Ext.stands {w':World} {H':Ac} (h:Ext (fun _=>none) w H' w'):Tl w w':=fun b hb=>h.block b hb rfl
def Ct0 (W w':World):Prop:=W.keptBut w' (fun _=>False)/\(∀a,a.block<W.heap.size->w'.frozen? a=W.frozen? a)/\W.heap.size<=w'.heap.size
theorem Ct0.frame {W w':World} (h:Ct0 W w') (may:MemPlace->Prop):W.keptBut w' may:=World.keptBut_mono (fun _ f=>f.elim) h.1
theorem Ext.grown {w':World} {H':Ac} (h:Ext (fun _=>none) w H' w'):Ct0 w w':=by
 refine⟨⟨h.os,h.output,fun i hi=> ?_⟩,fun a ha=>h.fz a ha rfl,h.size⟩;rw[h.block i hi rfl];cases ho:w.heap[i]? with
 | none=>simp
 | some o=>cases o<;>simp
theorem Aw6 (w:World):Av w (fun _=>none):=fun r o h=>by cases h
theorem Ai.row {G:Nat->DVal} {f:FuncId} {args:List DVal} {vs:Array Value} (h:Ai P G f args (fun _=>none) (fun e _=>e= .ret (.bool true))) (hv:Aq w (fun _=>none) args vs.toList) (hG:GOk G w (fun _=>none)):
  Calls P f vs w fun e W'=>e= .returned (.bool true)/\Ct0 w W'/\Tl w W':=by
 have:=h.2 vs.toList w hv (Aw6 w) hG;simp only[Array.toArray_toList] at this;refine this.mono fun e w' ⟨e',H',he,hr,_,hE⟩=> ?_;subst he;cases hr with
 | ret d v hv=>simp only[Rel] at hv;subst hv;exact⟨rfl,hE.grown,hE.stands⟩
theorem Aq.cons {Hp:Ac} {d:DVal} {v:Value} {ds:List DVal} {vs:List Value} (h:Rel w Hp d v) (k:Aq w Hp ds vs):Aq w Hp (d::ds) (v::vs):=by
 simp only[Aq];exact⟨v,vs,rfl,h,k⟩
theorem Aq.one {Hp:Ac} {d:DVal} {v:Value} (h:Aq w Hp [d] [v]):Rel w Hp d v:=by
 simp only[Aq] at h;obtain⟨y,ys,h1,h2,_⟩:=h;cases h1;exact h2
end
end Go.Dl
namespace Go.ChangeShapes
open Go.WideShapes
section
variable {H:Type} {enc:TypeId×Value->H} {P:Program}
theorem Bh0 {f:Func} {s:ChangeSpec} {apart fresh handsOn De4:Bool} {W W':World} {args:Array Value} {v:Value} {ds gs:List (DataW H)} {before pa pv:List MemPlace}
  (hW:DataW.Whole enc P f.params.toList s.vars apart W args.toList ds gs before)
  (hres: ∀(b:Nat) (sp:Nat->Bool) (hd:Bool),DataW.TrodAll enc P W' b sp hd f.resultTypes.toList (v.resultList f.resultTypes.size) (s.fn H (ds++gs)).results [])
  (hargs: ∀sp:Nat->Bool,(∀p∈before,sp p.block=true)->DataW.TrodAll enc P W' 0 sp true f.params.toList args.toList (s.fn H (ds++gs)).args pa)
  (hvars: ∀sp:Nat->Bool,(∀p∈before,sp p.block=true)->DataW.TrodVars enc P W' sp s.vars (s.fn H (ds++gs)).vars pv)
  (hps:before=pa++pv) (hk:W.keptBut W' (· ∈before)) (hfz: ∀a,a.block<W.heap.size->W'.frozen? a=W.frozen? a)
  (hok: ∀(j:Nat) (t:TypeId) (r:Value),f.resultTypes[j]? =some t->(v.resultList f.resultTypes.size)[j]? =some r->Value.okWide P W' .any 0 t r):
  s.post enc P f apart fresh handsOn De4 W args v W':=by
 have hlt:=hW.lt;have hold: ∀p∈before,(fun b=>decide (b<W.heap.size)) p.block=true:=fun p hp=>by simpa using hlt p hp
 refine⟨ds,gs,before,[],pa,pv,hW,hres _ _ _,hargs _ hold,hvars _ hold,World.keptBut_mono (fun p hp=>⟨hp, .inr (List.mem_append.1 (hps▸hp))⟩) hk,fun _=> ?_⟩;obtain⟨_,_,_,_,_,hz,hn⟩:=hW;refine⟨hok,_,_,([]++pa)++pv,⟨[]++pa,pv,trodAll_append (hargs _ (fun _ _=>rfl)) (hres _ _ _),hvars _ (fun _ _=>rfl),rfl,?_,?_⟩,?_⟩
 ·intro b off hp;have hp':MemPlace.cell b off∈before:=by rw[hps];simpa using hp
  exact(hfz _ (hlt _ hp')).trans (hz b off hp')
 ·intro ha;have:=hn ha;rw[hps] at this;simpa using this
 ·intro p hp _;rw[hps];simpa using hp
end
end Go.ChangeShapes

-- THE READING, PART 4: an argument, as the data level sees it; a law's contract.
namespace Go.Dl
open Go Go.RowKit
section
variable {P:Program} {H:Type} {w:World}
theorem Vp {r:Reach} {base:Nat} {t:TypeId} {v:Value} {d:TypeDesc} (hu:P.underlying t=some d) (hd:(∃e,d= .slice e)\/(∃k,d= .int k)\/d= .bool\/d= .string) (h:Value.okWide P w r base t v):v.cells= #[v]:=by
 unfold Value.okWide at h;rw[hu] at h;cases v<;>first | rfl | skip
 rename_i xs
 rcases hd with⟨e,rfl⟩ | ⟨k,rfl⟩ | rfl | rfl<;>(unfold Cell.okWide at h;rw[hu] at h;simp [Cell.ok,hu] at h)
theorem Aw7 {r:Reach} {base:Nat} {t e:TypeId} {v:Value} (hu:P.underlying t=some (.slice e)) (h:Value.okWide P w r base t v):v.cells= #[v]:=Vp hu (.inl ⟨_,rfl⟩) h
theorem Br3 {r:Reach} {base:Nat} {t:TypeId} {k:IntKind} {v:Value} (hu:P.underlying t=some (.int k)) (h:Value.okWide P w r base t v):v.cells= #[v]:=Vp hu (.inr (.inl ⟨_,rfl⟩)) h
theorem Ct1 {t:TypeId} {α:Type} {f:α->DVal} {g:α->DataW H->Prop} (hr:Rf P H w t α (fun x=> [f x]) g) {enc:TypeId×Value->H} {base:Nat} {sp:Nat->Bool} {held:Bool} {v:Value} {d:DataW H} {ps:List MemPlace}
  (h:DataW.Trod enc P w base sp held t v d ps) (hv:v.cells= #[v]): ∃x,g x d/\Rel w (fun _=>none) (f x) v:=by
 obtain⟨Ci,h⟩:=h;rw[hv] at h;obtain⟨x,hg,hx⟩:=hr _ _ _ _ _ _ _ _ h;exact⟨x,hg,hx.one⟩
end
end Go.Dl

-- THE READING, PART 5: the bound on what is read, at plain data.
namespace Go.Dl
open Go Go.RowKit Go.Proofs.YtpcbhialfjiaaaaGreatDoor
section
variable {H:Type}
theorem Ct2 (d:DataW H):1<=Rows.uptoBulk d:=by
 cases d
 case lit l=>cases l<;>simp only[Rows.uptoBulk]<;>omega
 all_goals simp only[Rows.uptoBulk]
 all_goals omega
theorem Br4 {l:List (DataW H)} (h:Rows.uptoSmall H l=true):Rows.uptoBulkAll l<=1048576:=of_decide_eq_true h
theorem Bh1 {α:Type} {g:α->DataW H->Prop}: ∀ {xs:List α} {ds:List (DataW H)},Aw5 g xs ds->xs.length<=Rows.uptoBulkAll ds
 | [],[],_=>by simp
 | [],_::_,h=>h.elim
 | _::_,[],h=>h.elim
 | x::xs,d::ds,h=>by
  have:=Bh1 h.2;have:=Ct2 d;simp only[List.length_cons,Rows.uptoBulkAll];omega
def SlG {α:Type} (g:α->DataW H->Prop) (xs:List α) (d:DataW H):Prop:=(d= .nil/\xs= [])\/ ∃es sp,d= .slice es sp/\xs.length<=maxLen/\Aw5 g xs es
theorem Dd3 {α:Type} {g:α->DataW H->Prop} {xs:List α} {d:DataW H} (h:SlG g xs d):xs.length+1<=Rows.uptoBulk d:=by
 rcases h with⟨rfl,rfl⟩ | ⟨es,sp,rfl,_,h⟩
 ·simp [Rows.uptoBulk]
 ·have:=Bh1 h;simp only[Rows.uptoBulk];omega
end
section
end
end Go.Dl

-- THE READING, PART 6: slices of any kind of int, structs.
namespace Go.Dl
open Go Go.RowKit Go.Proofs.YtpcbhialfjiaaaaGreatDoor
section
variable {P:Program} {H:Type} {w:World}
def Zw (P:Program) (H:Type) (w:World) (fs:List Field) (off total:Nat) (α:Type) (f:α->List DVal) (g:α->List (DataW H)->Prop):Prop:=
 ∀(enc:TypeId×Value->H) base sp held Ci (cs:List Value) xs,cs.length=total->(fs.mapM fun fl=>DataW.trod enc P w base sp held Ci fl.type ((cs.drop fl.offset).take (P.cellsOf fl.type)))=some xs-> ∃x,g x (xs.map (·.1))/\Aq w (fun _=>none) (f x) (cs.drop off)
theorem Bh2 (n:Nat):Zw P H w [] n n Unit (fun _=> []) (fun _ ds=>ds= []):=by
 intro enc base sp held Ci cs xs hl h;simp at h;subst h;exact⟨(),rfl,by rw[List.drop_of_length_le (by omega)];simp [Aq]⟩
theorem Lh {fl:Field} {fs:List Field} {off total n:Nat} {α β:Type} {f:α->List DVal} {g:α->DataW H->Prop} {f':β->List DVal} {g':β->List (DataW H)->Prop} (h1:Rf P H w fl.type α f g) (ho:fl.offset=off) (hn:P.cellsOf fl.type=n)
  (h2:Zw P H w fs (off+n) total β f' g'):Zw P H w (fl::fs) off total (α×β) (fun x=>f x.1++f' x.2) (fun x ds=> ∃d ds',ds=d::ds'/\g x.1 d/\g' x.2 ds'):=by
 intro enc base sp held Ci cs xs hl h;rw[List.mapM_cons] at h;simp only[Option.bind_eq_bind,Option.bind_eq_some_iff,Option.pure_def,Option.some.injEq] at h;obtain⟨y,hy,ys,hys,rfl⟩:=h;obtain⟨x1,g1,r1⟩:=h1 enc base sp held Ci _ y.1 y.2 hy;obtain⟨x2,g2,r2⟩:=h2 enc base sp held Ci cs ys hl hys;refine⟨(x1,x2),⟨y.1,ys.map (·.1),by simp,g1,g2⟩,?_⟩;rw[ho,hn] at r1;have:cs.drop off=(cs.drop off).take n++cs.drop (off+n):=by
  rw[<-List.drop_drop,List.take_append_drop]
 rw[this];exact r1.append r2
theorem Aw8 {t:TypeId} {fs:List Field} {α:Type} {f:α->List DVal} {g:α->List (DataW H)->Prop} (ht:P.underlying t=some (.struct fs.toArray)) (h:Zw P H w fs 0 (P.cellsOf t) α f g):
  Rf P H w t α f (fun x d=> ∃ds,d= .agg ds/\g x ds):=by
 intro enc base sp held Ci cs d ps hh;cases Ci with
 | zero=>simp [DataW.trod] at hh
 | succ Ci=>
  unfold DataW.trod at hh;rw[ht] at hh;dsimp only at hh;split at hh
  ·rename_i hl
   simp only[Option.map_eq_some_iff,Prod.mk.injEq] at hh;obtain⟨xs,hx,rfl,rfl⟩:=hh;obtain⟨x,g1,r1⟩:=h enc base sp held Ci cs xs hl hx;exact⟨x,⟨_,rfl,g1⟩,by simpa using r1⟩
  ·cases hh
theorem Rf.map {t:TypeId} {α β:Type} {f:α->List DVal} {g:α->DataW H->Prop} (h:Rf P H w t α f g) {f':β->List DVal} {g':β->DataW H->Prop} (c: ∀x d,g x d-> ∃y,f' y=f x/\g' y d):Rf P H w t β f' g':=by
 intro enc base sp held Ci cs d ps hh;obtain⟨x,g1,r1⟩:=h enc base sp held Ci cs d ps hh;obtain⟨y,e,g2⟩:=c x d g1;exact⟨y,g2,by rw[e];exact r1⟩
end
end Go.Dl

-- THE READING, PART G: the package's variables that a row lists ('laid'), as the data level sees them.
namespace Go.Dl
open Go Go.RowKit
def Sf:DataW Unit->Bool
 | .lit (.bool _)=>true
 | .lit (.int _ _)=>true
 | .lit (.string _)=>true
 | .agg ds=>litsBs ds
 | _=>false
where litsBs:List (DataW Unit)->Bool
 | []=>true
 | d::ds=>Sf d&&litsBs ds
def Dn:DataW Unit->List Value
 | .lit (.bool b)=> [.bool b]
 | .lit (.int k n)=> [.int k n]
 | .lit (.string s)=> [.string ⟨⟨s⟩⟩]
 | .agg ds=>litCellss ds
 | _=> []
where litCellss:List (DataW Unit)->List Value
 | []=> []
 | d::ds=>Dn d++litCellss ds
theorem Aj3 {ds:List (DataW Unit)}:Sf.litsBs ds=true↔ ∀d∈ds,Sf d=true:=by
 induction ds with
 | nil=>simp [Sf.litsBs]
 | cons d ds ih=>simp [Sf.litsBs,ih]
theorem Vq (ds:List (DataW Unit)):Dn.litCellss ds=ds.flatMap Dn:=by
 induction ds with
 | nil=>rfl
 | cons d ds ih=>simp [Dn.litCellss,ih]
theorem Br5 {α:Type} (cs:List α) (off size:Nat->Nat): ∀(n:Nat),(∀j,j<n->off (j+1)=off j+size j)->off 0=0->off n<=cs.length->(List.range n).flatMap (fun j=>(cs.drop (off j)).take (size j))=cs.take (off n)
 | 0,_,h0,_=>by simp [h0]
 | n+1,h,h0,hn=>by
  have hs:=h n (by omega);rw[List.range_succ,List.flatMap_append,Br5 cs off size n (fun j hj=>h j (by omega)) h0 (by omega),hs];simp only[List.flatMap_cons,List.flatMap_nil,List.append_nil];rw[List.take_add]
theorem Aj4 {α β:Type} (xs:List α) (g:α->List β) (f:Nat->List β) (n:Nat) (hn:xs.length=n) (h: ∀(j:Nat) (x:α),xs[j]? =some x->f j=g x):(List.range n).flatMap f=xs.flatMap g:=by
 rw[List.flatMap_def,List.flatMap_def];congr 1;apply List.ext_getElem?;intro j;simp only[List.getElem?_map];by_cases hj:j<n
 ·rw[List.getElem?_eq_getElem (by omega:j<xs.length),List.getElem?_range hj];simp only[Option.map_some];rw[h j xs[j] (List.getElem?_eq_getElem (by omega))]
 ·rw[List.getElem?_eq_none (by omega:xs.length<=j),List.getElem?_eq_none (by simp;omega)];rfl
section
variable {P:Program} {w:World}
theorem Xn (hl:laidOutB P=true) {base:Nat} {sp:Nat->Bool}: ∀(Ci:Nat) (t:TypeId) (cs:List Value) (d:DataW Unit) (ps:List MemPlace),isVar P t=true->Sf d=true->
  DataW.trod (fun _=>()) P w base sp false Ci t cs=some (d,ps)->cs=Dn d
 | 0,_,_,_,_,_,_,h=>by simp [DataW.trod] at h
 | Ci+1,t,cs,d,ps,hv,hd,h=>by
  have ih:= @Xn hl base sp Ci;have hlt:t<P.types.size:=by simp only[isVar,Bool.and_eq_true,decide_eq_true_eq] at hv;exact hv.1
  have hrow:=rowFine_of_laidOut hl hlt;simp only[rowFine,hv,Bool.not_true,Bool.false_or] at hrow;unfold DataW.trod at h;split at h<;>(try (simp at h;done))
  ·simp only[Option.some.injEq,Prod.mk.injEq] at h;obtain⟨rfl,rfl⟩:=h;rfl
  ·split at h
   ·rename_i hk
    obtain⟨rfl,_⟩:=hk;simp only[Option.some.injEq,Prod.mk.injEq] at h;obtain⟨rfl,rfl⟩:=h;rfl
   ·cases h
  ·split at h
   ·simp only[Option.some.injEq,Prod.mk.injEq] at h;obtain⟨rfl,rfl⟩:=h;cases hd
   ·cases h
  ·split at h
   ·simp only[Option.some.injEq,Prod.mk.injEq] at h;obtain⟨rfl,rfl⟩:=h;simp [Dn]
   ·cases h
  ·simp only[Option.some.injEq,Prod.mk.injEq] at h;obtain⟨rfl,rfl⟩:=h;cases hd
  ·simp only[Option.map_eq_some_iff,Prod.mk.injEq] at h;obtain⟨_,_,rfl,_⟩:=h;cases hd
  ·simp only[Option.some.injEq,Prod.mk.injEq] at h;obtain⟨rfl,rfl⟩:=h;cases hd
  ·dsimp only at h;split at h
   ·simp only[Option.bind_eq_some_iff,Option.map_eq_some_iff,Prod.mk.injEq] at h;obtain⟨_,_,_,_,rfl,_⟩:=h;cases hd
   ·cases h
  ·rename_i cs _ _ fs hu
   rw[hu] at hrow;simp only[Bool.and_eq_true,beq_iff_eq,List.all_eq_true] at hrow;obtain⟨⟨hf,hsum⟩,hoff⟩:=hrow;split at h
   ·rename_i hcl
    simp only[Option.map_eq_some_iff,Prod.mk.injEq] at h;obtain⟨xs,hx,rfl,rfl⟩:=h;obtain⟨hxl,hxg⟩:=Rg hx;simp only[Sf,Aj3] at hd;have key: ∀(j:Nat) (f:Field) (x:DataW Unit×List MemPlace),fs.toList[j]? =some f->xs[j]? =some x->(cs.drop f.offset).take (P.cellsOf f.type)=Dn x.1:=by
     intro j f x hjf hjx;obtain⟨y,hy,hfy⟩:=hxg j f hjf;rw[hjx] at hy;cases hy;exact ih _ _ x.1 x.2 (hf f (List.mem_of_getElem? hjf)) (hd _ (List.mem_map.2 ⟨x,List.mem_of_getElem? hjx,rfl⟩)) hfy
    have hp:=Br5 cs (fun j=>((fs.toList.take j).map fun f=>P.cellsOf f.type).sum) (fun j=>(fs.toList[j]?).elim 0 fun f=>P.cellsOf f.type) fs.toList.length (fun j hj=>by
     rw[List.take_succ_eq_append_getElem hj];simp [List.getElem?_eq_getElem hj]) (by simp) (by rw[List.take_length,hcl,hsum];omega)
    simp only[List.take_length,<-hsum,<-hcl] at hp;rw[<-hp];simp only[Dn,Vq,List.flatMap_map];refine Aj4 xs _ _ _ hxl fun j x hjx=> ?_;have hjx':j<xs.length:=(List.getElem?_eq_some_iff.1 hjx).1;have hj':j<fs.toList.length:=by omega
    have h1:=hoff j (List.mem_range.2 hj');rw[List.getElem?_eq_getElem hj'] at h1;simp only[beq_iff_eq] at h1;have h2:=key j fs.toList[j] x (List.getElem?_eq_getElem hj') hjx;rw[h1] at h2;simp only[List.getElem?_eq_getElem hj',Option.elim_some];exact h2
   ·cases h
  ·rename_i cs _ _ n e hu
   rw[hu] at hrow;simp only[Bool.and_eq_true,beq_iff_eq] at hrow;obtain⟨hf,hsum⟩:=hrow;split at h
   ·rename_i hcl
    simp only[Option.map_eq_some_iff,Prod.mk.injEq] at h;obtain⟨xs,hx,rfl,rfl⟩:=h;obtain⟨hxl,hxg⟩:=Rg hx;rw[List.length_range] at hxl;simp only[Sf,Aj3] at hd;have hp:=Br5 cs (fun j=>j*P.cellsOf e) (fun _=>P.cellsOf e) n (fun j _=>Nat.succ_mul j _) (by simp) (by rw[hcl,hsum];exact Nat.le_refl _);rw[List.take_of_length_le (by rw[hcl,hsum];exact Nat.le_refl _)] at hp;rw[<-hp];simp only[Dn,Vq,List.flatMap_map];refine Aj4 xs _ _ _ hxl fun j x hjx=> ?_;have hjx':j<xs.length:=(List.getElem?_eq_some_iff.1 hjx).1;obtain⟨y,hy,hfy⟩:=hxg j j (by rw[List.getElem?_range (by omega)]);rw[hjx] at hy;cases hy;exact ih _ _ _ _ hf (hd _ (List.mem_map.2 ⟨x,List.mem_of_getElem? hjx,rfl⟩)) hfy
   ·cases h
  ·simp only[Option.some.injEq,Prod.mk.injEq] at h;obtain⟨rfl,rfl⟩:=h;cases hd
  ·split at h
   ·rename_i e;cases e
   ·simp only[Option.map_eq_some_iff,Prod.mk.injEq] at h;obtain⟨_,_,rfl,_⟩:=h;cases hd
   ·cases h
  ·simp only[Option.some.injEq,Prod.mk.injEq] at h;obtain⟨rfl,rfl⟩:=h;cases hd
  ·split at h
   ·dsimp only at h;split at h
    ·simp only[Option.bind_eq_some_iff] at h;obtain⟨_,_,h⟩:=h;split at h
     ·simp only[Option.some.injEq,Prod.mk.injEq] at h;obtain⟨rfl,rfl⟩:=h;cases hd
     ·cases h
    ·cases h
   ·cases h
  ·simp only[Option.some.injEq,Prod.mk.injEq] at h;obtain⟨rfl,rfl⟩:=h;cases hd
  ·simp only[Option.some.injEq,Prod.mk.injEq] at h;obtain⟨rfl,rfl⟩:=h;cases hd
  ·simp only[Option.some.injEq,Prod.mk.injEq] at h;obtain⟨rfl,rfl⟩:=h;cases hd
theorem Aw9: ∀ {laid:List (String×DataW Unit)} {n:String} {d:DataW Unit},laidMet P laid w->(n,d)∈laid->
  ∃g t cs Ci p,P.globalNamed n=some g/\(P.globals[g]?).map (·.type)=some t/\w.var? P n=some cs/\DataW.trod (fun _=>()) P w 0 (fun _=>true) false Ci t cs.toList=some (d,p)/\
   ∀u v,w.cell? ⟨g,0,none⟩=some (.iface u v)->0<cs.size->Value.okWide P w .any 0 u v
 | [],_,_,_,hm=>by cases hm
 | x::laid,n,d,h,hm=>by
  rcases List.mem_cons.1 hm with rfl | hm
  ·obtain⟨ps,⟨g,t,cs,Ci,p,q,h1,h2,h3,h4,h5,h6⟩,_,h8⟩:=h;refine⟨g,t,cs,Ci,p,h1,h2,h3,h4,fun u v hc hz=>(h8 g 0 ?_).2 u v hc⟩;rw[h6];refine List.mem_append_left _ (List.mem_append_left _ ?_);unfold MemPlace.row;exact List.mem_map.2 ⟨0,List.mem_range.2 hz,by simp⟩
  ·exact Aw9 h.tail hm
def Dq8 (v:Value):Prop:=(∃b,v= .bool b)\/(∃k n,v= .int k n)\/ ∃s:List UInt8,v= .string ⟨⟨s⟩⟩
mutual
theorem Bh3: ∀(d:DataW Unit),Sf d=true-> ∀v∈Dn d,Dq8 v
 | .lit (.bool b),_,v,hv=>by simp [Dn] at hv;exact .inl ⟨b,hv⟩
 | .lit (.int k n),_,v,hv=>by simp [Dn] at hv;exact .inr (.inl ⟨k,n,hv⟩)
 | .lit (.string s),_,v,hv=>by simp [Dn] at hv;exact .inr (.inr ⟨s,hv⟩)
 | .agg ds,h,v,hv=>Ap9 ds (by simpa [Sf] using h) v (by simpa [Dn] using hv)
 | .lit (.float _ _),h,_,_=>by cases h
 | .nil,h,_,_=>by cases h
 | .ptr _,h,_,_=>by cases h
 | .slice _ _,h,_,_=>by cases h
 | .iface _ _,h,_,_=>by cases h
 | .map _,h,_,_=>by cases h
 | .held _,h,_,_=>by cases h
theorem Ap9: ∀(ds:List (DataW Unit)),Sf.litsBs ds=true-> ∀v∈Dn.litCellss ds,Dq8 v
 | [],_,v,hv=>by simp [Dn.litCellss] at hv
 | d::ds,h,v,hv=>by
  simp only[Sf.litsBs,Bool.and_eq_true] at h
  simp only[Dn.litCellss,List.mem_append] at hv
  rcases hv with hv | hv
  ·exact Bh3 d h.1 v hv
  ·exact Ap9 ds h.2 v hv
end
theorem Ct3 {Hp:Ac}: ∀(d:DataW Unit),Sf d=true->Aq w Hp (Fu (Dn d)) (Dn d):=by
 have all: ∀(vs:List Value),(∀v∈vs,(∃b,v= .bool b)\/(∃k n,v= .int k n)\/ ∃s:List UInt8,v= .string ⟨⟨s⟩⟩)->Aq w Hp (Fu vs) vs:=by
  intro vs
  induction vs with
  | nil=>intro _;simp [Fu,Aq]
  | cons v vs ih=>
   intro h;simp only[Fu,Aq];refine⟨v,vs,rfl,?_,ih fun x hx=>h x (by simp [hx])⟩;rcases h v (by simp) with⟨b,rfl⟩ | ⟨k,n,rfl⟩ | ⟨s,rfl⟩<;>simp [De,Rel]
 exact fun d h=>all _ (Bh3 d h)
theorem Ct4 {laid:List (String×DataW Unit)} {n:String} {d:DataW Unit} {g:Nat} (hl:laidOutB P=true) (h:laidMet P laid w) (hm:(n,d)∈laid) (hd:Sf d=true) (hg:P.globalNamed n=some g)
  (hgt:isVar P (((P.globals[g]?).map (·.type)).getD 0)=true):Rel w (fun _=>none) (.vptr (Fu (Dn d)) 0) (.pointer (some ⟨g,0,none⟩)):=by
 obtain⟨g',t,cs,Ci,p,h1,h2,h3,h4,_⟩:=Aw9 h hm;rw[hg] at h1;cases h1;rw[h2] at hgt;have hc:=Xn hl Ci t cs.toList d p hgt hd h4;simp only[Rel];refine⟨g,0,cs.toList,rfl,?_,by rw[hc];exact Ct3 d hd⟩;refine .inr ⟨rfl,fun i x hx=> ?_⟩;have:=World.var?_cell hg h3 i;rw[Nat.zero_add,this];simpa using hx
end
end Go.Dl

-- That no place of laid variables stands twice, found in one pass.
namespace Go.Dl
open Go Go.RowKit
def Of:List MemPlace->Nat->Bool
 | [],_=>true
 | .cell b off::l,m=>decide (off<1024)&&!(m.testBit (b*1024+off))&&Of l (m ||| 1<<<(b*1024+off))
 | .map _::_,_=>false
theorem Bw8 {m k n:Nat} (h:(m ||| 1<<<k).testBit n=false):m.testBit n=false/\n≠k:=by
 rw[Nat.testBit_or,Bool.or_eq_false_iff] at h;refine⟨h.1,fun e=> ?_⟩;subst e;have:=h.2;rw[Nat.testBit_shiftLeft] at this;simp at this
theorem Vr: ∀(l:List MemPlace) (m:Nat),Of l m=true->l.Nodup/\ ∀p∈l,∃b off,p= .cell b off/\off<1024/\m.testBit (b*1024+off)=false
 | [],_,_=>⟨List.nodup_nil,fun p hp=>by cases hp⟩
 | .map _::_,_,h=>by simp [Of] at h
 | .cell b off::l,m,h=>by
  simp only[Of,Bool.and_eq_true,decide_eq_true_eq,Bool.not_eq_true'] at h;obtain⟨⟨h1,h2⟩,h3⟩:=h;obtain⟨k1,k2⟩:=Vr l _ h3;refine⟨List.nodup_cons.2 ⟨fun hm=> ?_,k1⟩,fun p hp=> ?_⟩
  ·obtain⟨b',off',e,_,h5⟩:=k2 _ hm;cases e;exact(Bw8 h5).2 rfl
  ·rcases List.mem_cons.1 hp with rfl | hp
   ·exact⟨b,off,rfl,h1,h2⟩
   ·obtain⟨b',off',e,h4,h5⟩:=k2 _ hp;exact⟨b',off',e,h4,(Bw8 h5).1⟩
theorem Ax0 {P:Program} {w:World} {l:List (String×DataW Unit)} (Ci:Nat) (h:(DataW.laidRun P w Ci (l.map (·.1))).map (·.1)=some l)
  (hr:(DataW.laidRun P w Ci (l.map (·.1))).map (fun x=>Of x.2 0&&laidRowsB P w x.2)=some true):laidMet P l w:=by
 cases hx:DataW.laidRun P w Ci (l.map (·.1)) with
 | none=>simp [hx] at h
 | some x=>
  obtain⟨l',ps⟩:=x;simp only[hx,Option.map_some,Option.some.injEq] at h hr;subst h;simp only[Bool.and_eq_true] at hr;exact laidMet_of_run Ci hx (decide_eq_true (Vr _ _ hr.1).1) hr.2
end Go.Dl

-- Chapter 3: the reading of the package's variables; a world in which they hold what their text lays.
namespace Go.Dl
open Go Go.RowKit Go.Proofs Go.Proofs.YtpcbhialfjiaaaaGreatDoor
set_option maxRecDepth 100000
theorem Bw9:laidOutB Tryz.prog=true:=by kernel_rfl
theorem Br6 {P:Program} {w:World} {laid:List (String×DataW Unit)} {n:String} {d:DataW Unit} {g:Nat} (hl:laidOutB P=true) (h:laidMet P laid w) (hm:(n,d)∈laid) (hd:Sf d=true) (hg:P.globalNamed n=some g)
  (hgt:isVar P (((P.globals[g]?).map (·.type)).getD 0)=true):Jg w.heap[g]? =some (Dn d).length:=by
 obtain⟨g',t,cs,Ci,p,h1,h2,h3,h4,_⟩:=Aw9 h hm;rw[hg] at h1;cases h1;rw[h2] at hgt;have hc:=Xn hl Ci t cs.toList d p hgt hd h4;unfold World.var? at h3;rw[hg] at h3;simp only[Option.bind_some] at h3;split at h3
 ·rename_i c t' fz ho
  cases h3;rw[ho];simp only[Jg,Option.some.injEq];rw[<-hc,Array.length_toList]
 ·cases h3
theorem Sg: ∀l:List Value,(Fu l).length=l.length
 | []=>rfl
 | _::l=>by simp [Fu,Sg l]
theorem Dd4:Fu (Dn Rows.laid_strings_asciiSpace)=Lib.asciiSpaceTab.map fun z=>DVal.int .u8 z:=by kernel_rfl
section
variable {H:Type} {w:World}
theorem Bh4 {α:Type} {g:α->DataW H->Prop} {p:α->Prop} (hp: ∀x d,g x d->p x): ∀ {xs:List α} {ds:List (DataW H)},Aw5 g xs ds-> ∀x∈xs,p x
 | [],_,_,x,hx=>by cases hx
 | _::_,[],h,_,_=>h.elim
 | y::xs,d::ds,h,x,hx=>by
  rcases List.mem_cons.1 hx with rfl | hx
  ·exact hp _ _ h.1
  ·exact Bh4 hp h.2 x hx
theorem Dd5 {α:Type} {g:α->DataW H->Prop} {p:α->Prop} (hp: ∀x d,g x d->p x) {xs:List α} {d:DataW H} (h:SlG g xs d): ∀x∈xs,p x:=by
 rcases h with⟨rfl,rfl⟩ | ⟨es,sp,rfl,_,h⟩
 ·intro x hx;cases hx
 ·exact Bh4 hp h
end
noncomputable def Dq9 (h:Array Obj) (g:Nat) (cs:Array Value):Array Obj:=h.modify g fun
 | .cells _ t frozen=> .cells cs t frozen
 | o=>o
theorem Dr0 {laid:List (String×DataW Unit)} {W:World} (hL:laidMetH Tryz.prog laid W) (hs:W.ShapedOpen Tryz.prog) (hh:(laid.filter fun x=>x.2.handleName?.isSome)= [])
  (m5:("strings.asciiSpace",Rows.laid_strings_asciiSpace)∈laid): ∃G,GX G/\GOk G W (fun _=>none):=by
 have hL':laidMet Tryz.prog laid W:=by
  unfold laidMetH at hL;rw[hh] at hL;exact hL
 have r5:=Ct4 Bw9 hL' m5 (by kernel_rfl) (show Tryz.prog.globalNamed "strings.asciiSpace" =some 0 by kernel_rfl) (by kernel_rfl);have x5:=Br6 Bw9 hL' m5 (by kernel_rfl) (show Tryz.prog.globalNamed "strings.asciiSpace" =some 0 by kernel_rfl) (by kernel_rfl);refine⟨fun g=>if g=0 then .vptr (Fu (Dn Rows.laid_strings_asciiSpace)) 0 else .optr g 0,⟨by simp [Dd4]⟩,⟨fun g=> ?_,fun g cs e=> ?_⟩⟩
 ·show Rel W _ (if g=_ then _ else _) _;split
  ·rename_i e;subst e;exact r5
  ·simp [Rel]
 ·change (if g=_ then _ else _)=_ at e;split at e
  ·rename_i e';subst e';cases e;rw[x5,Sg]
  ·cases e
noncomputable def Ax1 (os:Os):World:=
 let N:=(World.settled Tryz.prog os).heap.size
 let w0:=World.holding Tryz.prog os ⟨#[.cells #[.slice (some ⟨N+1,0,none⟩) 7 7, .slice none 0 0, .int .i64 2] 176,
  .cells (#[9,13,1,32,133,101,160,5760,5600,8192,8202,1,8232,8233,1,8239,8287,48,12288,12288,1].map (Value.int .u16)) 179], #[],[]⟩
 let h9:=Dq9 w0.heap 0 (Dn Rows.laid_strings_asciiSpace).toArray
 let ha:=Dq9 h9 1 #[.pointer (some ⟨N,0,none⟩)]
 { w0 with heap:=ha }
section
variable {H:Type} {w:World}
theorem Ch2:Rf Tryz.prog H w 31 Tok Ec (fun x d=>x.text.length<=9223372036854775807):=by
 have h:=Aw8 (H:=H) (w:=w) Tryz.underlying31 (Lh (n:=1) (Rr Tryz.underlying29) rfl (by kernel_rfl) (Lh (n:=1) (Rr Tryz.underlying3) rfl (by kernel_rfl) (Lh (n:=1) (Aw4 Tryz.underlying9) rfl (by kernel_rfl) (Lh (n:=1) (Rr Tryz.underlying2) rfl (by kernel_rfl) (by
   rw[show Tryz.prog.cellsOf 31=0+1+1+1+1 by kernel_rfl];exact Bh2 _)))))
 refine h.map fun x d hg=>⟨⟨x.1,x.2.1,x.2.2.1,x.2.2.2.1⟩,rfl,?_⟩;obtain⟨ds,rfl,d0,ds0,rfl,g0,d1,ds1,rfl,g1,d2,ds2,rfl,g2,_⟩:=hg;have:=g2.1;unfold maxLen at this;exact this
theorem Br7:Rf Tryz.prog H w 32 (List Tok) (fun l=> [Cc l]) (SlG fun x d=>x.text.length<=9223372036854775807):=Bg9 Tryz.underlying32 Ch2
theorem Dm2 {l:List Tok} {d:DataW H} (h:SlG (fun(x:Tok) (_:DataW H)=>x.text.length<=9223372036854775807) l d):Gq l:=fun k=>by
 have h2:=Dd5 (p:=fun x:Tok=>x.text.length<=9223372036854775807) (fun x d h=>h) h;rw[tk,List.getD];cases hk:l[k]? with
 | none=>decide
 | some t=>exact h2 t (List.mem_of_getElem? hk)
end
end Go.Dl

-- Chapter 3: the reference's Words (printed by gen_w7.py).
namespace Go.Dl
open Go Go.Proofs
set_option maxRecDepth 100000
section
variable {G:Nat->DVal} {H0 H:Ac}
set_option maxHeartbeats 4000000 in
theorem Yu (G:Nat->DVal) (H:Ac) (o:Nat) (ho:o<22):Ai Tryz.prog G 149 [.int .u8 o] H (Au (dW (Bp o)) H):=by
 refine Ad Tryz.func149 Tryz.call149 rfl (by kernel_rfl) ?_;simp(disch:=omega) only[go_sem,↓reduceIte];intro b1 hb1;dsimp only at hb1;obtain⟨K1,hK1⟩: ∃K,K=upd H b1 (some (.cells [.str [43]] 9)):=⟨_,rfl⟩;rw[<-hK1];simp(disch:=omega) only[go_sem,↓reduceIte];intro b2 hb2;dsimp only at hb2;obtain⟨K2,hK2⟩: ∃K,K=upd K1 b2 (some (.cells [.str [45]] 9)):=⟨_,rfl⟩;rw[<-hK2];simp(disch:=omega) only[go_sem,↓reduceIte];intro b3 hb3;dsimp only at hb3;obtain⟨K3,hK3⟩: ∃K,K=upd K2 b3 (some (.cells [.str [42]] 9)):=⟨_,rfl⟩;rw[<-hK3];simp(disch:=omega) only[go_sem,↓reduceIte];intro b4 hb4;dsimp only at hb4;obtain⟨K4,hK4⟩: ∃K,K=upd K3 b4 (some (.cells [.str [47]] 9)):=⟨_,rfl⟩;rw[<-hK4];simp(disch:=omega) only[go_sem,↓reduceIte];intro b5 hb5;dsimp only at hb5;obtain⟨K5,hK5⟩: ∃K,K=upd K4 b5 (some (.cells [.str [109,111,100]] 9)):=⟨_,rfl⟩;rw[<-hK5];simp(disch:=omega) only[go_sem,↓reduceIte];intro b6 hb6;dsimp only at hb6;obtain⟨K6,hK6⟩: ∃K,K=upd K5 b6 (some (.cells [.str [114,101,109]] 9)):=⟨_,rfl⟩;rw[<-hK6];simp(disch:=omega) only[go_sem,↓reduceIte];intro b7 hb7;dsimp only at hb7;obtain⟨K7,hK7⟩: ∃K,K=upd K6 b7 (some (.cells [.str [61]] 9)):=⟨_,rfl⟩;rw[<-hK7];simp(disch:=omega) only[go_sem,↓reduceIte];intro b8 hb8;dsimp only at hb8;obtain⟨K8,hK8⟩: ∃K,K=upd K7 b8 (some (.cells [.str [47,61]] 9)):=⟨_,rfl⟩;rw[<-hK8];simp(disch:=omega) only[go_sem,↓reduceIte];intro b9 hb9;dsimp only at hb9;obtain⟨K9,hK9⟩: ∃K,K=upd K8 b9 (some (.cells [.str [60]] 9)):=⟨_,rfl⟩;rw[<-hK9];simp(disch:=omega) only[go_sem,↓reduceIte];intro b10 hb10;dsimp only at hb10;obtain⟨K10,hK10⟩: ∃K,K=upd K9 b10 (some (.cells [.str [60,61]] 9)):=⟨_,rfl⟩;rw[<-hK10];simp(disch:=omega) only[go_sem,↓reduceIte];intro b11 hb11;dsimp only at hb11;obtain⟨K11,hK11⟩: ∃K,K=upd K10 b11 (some (.cells [.str [62]] 9)):=⟨_,rfl⟩;rw[<-hK11];simp(disch:=omega) only[go_sem,↓reduceIte];intro b12 hb12;dsimp only at hb12;obtain⟨K12,hK12⟩: ∃K,K=upd K11 b12 (some (.cells [.str [62,61]] 9)):=⟨_,rfl⟩;rw[<-hK12];simp(disch:=omega) only[go_sem,↓reduceIte];intro b13 hb13;dsimp only at hb13;obtain⟨K13,hK13⟩: ∃K,K=upd K12 b13 (some (.cells [.str [97,110,100]] 9)):=⟨_,rfl⟩;rw[<-hK13];simp(disch:=omega) only[go_sem,↓reduceIte];intro b14 hb14;dsimp only at hb14;obtain⟨K14,hK14⟩: ∃K,K=upd K13 b14 (some (.cells [.str [111,114]] 9)):=⟨_,rfl⟩;rw[<-hK14];simp(disch:=omega) only[go_sem,↓reduceIte];intro b15 hb15;dsimp only at hb15;obtain⟨K15,hK15⟩: ∃K,K=upd K14 b15 (some (.cells [.str [120,111,114]] 9)):=⟨_,rfl⟩;rw[<-hK15];simp(disch:=omega) only[go_sem,↓reduceIte];intro b16 hb16;dsimp only at hb16;obtain⟨K16,hK16⟩: ∃K,K=upd K15 b16 (some (.cells [.str [97,110,100], .str [116,104,101,110]] 9)):=⟨_,rfl⟩;rw[<-hK16];simp(disch:=omega) only[go_sem,↓reduceIte];intro b17 hb17;dsimp only at hb17;obtain⟨K17,hK17⟩: ∃K,K=upd K16 b17 (some (.cells [.str [111,114], .str [101,108,115,101]] 9)):=⟨_,rfl⟩;rw[<-hK17];simp(disch:=omega) only[go_sem,↓reduceIte];intro b18 hb18;dsimp only at hb18;obtain⟨K18,hK18⟩: ∃K,K=upd K17 b18 (some (.cells [.str [43]] 9)):=⟨_,rfl⟩;rw[<-hK18];simp(disch:=omega) only[go_sem,↓reduceIte];intro b19 hb19;dsimp only at hb19;obtain⟨K19,hK19⟩: ∃K,K=upd K18 b19 (some (.cells [.str [45]] 9)):=⟨_,rfl⟩;rw[<-hK19];simp(disch:=omega) only[go_sem,↓reduceIte];intro b20 hb20;dsimp only at hb20;obtain⟨K20,hK20⟩: ∃K,K=upd K19 b20 (some (.cells [.str [97,98,115]] 9)):=⟨_,rfl⟩;rw[<-hK20];simp(disch:=omega) only[go_sem,↓reduceIte];intro b21 hb21;dsimp only at hb21;obtain⟨K21,hK21⟩: ∃K,K=upd K20 b21 (some (.cells [.str [110,111,116]] 9)):=⟨_,rfl⟩;rw[<-hK21];simp(disch:=omega) only[go_sem,↓reduceIte];intro b22 hb22;dsimp only at hb22;obtain⟨K22,hK22⟩: ∃K,K=upd K21 b22 (some (.cells [.nilSlice, .oslice 1 b1 0 1 1, .oslice 1 b2 0 1 1, .oslice 1 b3 0 1 1, .oslice 1 b4 0 1 1, .oslice 1 b5 0 1 1, .oslice 1 b6 0 1 1, .oslice 1 b7 0 1 1, .oslice 1 b8 0 1 1, .oslice 1 b9 0 1 1, .oslice 1 b10 0 1 1, .oslice 1 b11 0 1 1, .oslice 1 b12 0 1 1, .oslice 1 b13 0 1 1, .oslice 1 b14 0 1 1, .oslice 1 b15 0 1 1, .oslice 1 b16 0 2 2, .oslice 1 b17 0 2 2, .oslice 1 b18 0 1 1, .oslice 1 b19 0 1 1, .oslice 1 b20 0 1 1, .oslice 1 b21 0 1 1] 138)):=⟨_,rfl⟩;rw[<-hK22];have s1:Sub H K1:=by rw[hK1];exact(Sub.refl _).new hb1 _
 have s2:Sub K1 K2:=by rw[hK2];exact(Sub.refl _).new hb2 _
 have s3:Sub K2 K3:=by rw[hK3];exact(Sub.refl _).new hb3 _
 have s4:Sub K3 K4:=by rw[hK4];exact(Sub.refl _).new hb4 _
 have s5:Sub K4 K5:=by rw[hK5];exact(Sub.refl _).new hb5 _
 have s6:Sub K5 K6:=by rw[hK6];exact(Sub.refl _).new hb6 _
 have s7:Sub K6 K7:=by rw[hK7];exact(Sub.refl _).new hb7 _
 have s8:Sub K7 K8:=by rw[hK8];exact(Sub.refl _).new hb8 _
 have s9:Sub K8 K9:=by rw[hK9];exact(Sub.refl _).new hb9 _
 have s10:Sub K9 K10:=by rw[hK10];exact(Sub.refl _).new hb10 _
 have s11:Sub K10 K11:=by rw[hK11];exact(Sub.refl _).new hb11 _
 have s12:Sub K11 K12:=by rw[hK12];exact(Sub.refl _).new hb12 _
 have s13:Sub K12 K13:=by rw[hK13];exact(Sub.refl _).new hb13 _
 have s14:Sub K13 K14:=by rw[hK14];exact(Sub.refl _).new hb14 _
 have s15:Sub K14 K15:=by rw[hK15];exact(Sub.refl _).new hb15 _
 have s16:Sub K15 K16:=by rw[hK16];exact(Sub.refl _).new hb16 _
 have s17:Sub K16 K17:=by rw[hK17];exact(Sub.refl _).new hb17 _
 have s18:Sub K17 K18:=by rw[hK18];exact(Sub.refl _).new hb18 _
 have s19:Sub K18 K19:=by rw[hK19];exact(Sub.refl _).new hb19 _
 have s20:Sub K19 K20:=by rw[hK20];exact(Sub.refl _).new hb20 _
 have s21:Sub K20 K21:=by rw[hK21];exact(Sub.refl _).new hb21 _
 have s22:Sub K21 K22:=by rw[hK22];exact(Sub.refl _).new hb22 _
 have t22:Sub K22 K22:=Sub.refl _;have t21:Sub K21 K22:=s22.trans t22;have t20:Sub K20 K22:=s21.trans t21;have t19:Sub K19 K22:=s20.trans t20;have t18:Sub K18 K22:=s19.trans t19;have t17:Sub K17 K22:=s18.trans t18;have t16:Sub K16 K22:=s17.trans t17;have t15:Sub K15 K22:=s16.trans t16;have t14:Sub K14 K22:=s15.trans t15;have t13:Sub K13 K22:=s14.trans t14;have t12:Sub K12 K22:=s13.trans t13;have t11:Sub K11 K22:=s12.trans t12;have t10:Sub K10 K22:=s11.trans t11;have t9:Sub K9 K22:=s10.trans t10;have t8:Sub K8 K22:=s9.trans t9;have t7:Sub K7 K22:=s8.trans t8;have t6:Sub K6 K22:=s7.trans t7;have t5:Sub K5 K22:=s6.trans t6;have t4:Sub K4 K22:=s5.trans t5;have t3:Sub K3 K22:=s4.trans t4;have t2:Sub K2 K22:=s3.trans t3;have t1:Sub K1 K22:=s2.trans t2;have t0:Sub H K22:=s1.trans t1;have u1:Sub H H:=Sub.refl H;have u2:Sub H K1:=u1.trans s1;have u3:Sub H K2:=u2.trans s2;have u4:Sub H K3:=u3.trans s3;have u5:Sub H K4:=u4.trans s4;have u6:Sub H K5:=u5.trans s5;have u7:Sub H K6:=u6.trans s6;have u8:Sub H K7:=u7.trans s7;have u9:Sub H K8:=u8.trans s8;have u10:Sub H K9:=u9.trans s9;have u11:Sub H K10:=u10.trans s10;have u12:Sub H K11:=u11.trans s11;have u13:Sub H K12:=u12.trans s12;have u14:Sub H K13:=u13.trans s13;have u15:Sub H K14:=u14.trans s14;have u16:Sub H K15:=u15.trans s15;have u17:Sub H K16:=u16.trans s16;have u18:Sub H K17:=u17.trans s17;have u19:Sub H K18:=u18.trans s18;have u20:Sub H K19:=u19.trans s19;have u21:Sub H K20:=u20.trans s20;have u22:Sub H K21:=u21.trans s21;have hsT:Sub H K22:=u22.trans s22;have c1:K22 b1=some (.cells [.str [43]] 9):=t1 _ _ (by rw[hK1];exact Aa _ _ _);have c2:K22 b2=some (.cells [.str [45]] 9):=t2 _ _ (by rw[hK2];exact Aa _ _ _);have c3:K22 b3=some (.cells [.str [42]] 9):=t3 _ _ (by rw[hK3];exact Aa _ _ _);have c4:K22 b4=some (.cells [.str [47]] 9):=t4 _ _ (by rw[hK4];exact Aa _ _ _);have c5:K22 b5=some (.cells [.str [109,111,100]] 9):=t5 _ _ (by rw[hK5];exact Aa _ _ _);have c6:K22 b6=some (.cells [.str [114,101,109]] 9):=t6 _ _ (by rw[hK6];exact Aa _ _ _);have c7:K22 b7=some (.cells [.str [61]] 9):=t7 _ _ (by rw[hK7];exact Aa _ _ _);have c8:K22 b8=some (.cells [.str [47,61]] 9):=t8 _ _ (by rw[hK8];exact Aa _ _ _);have c9:K22 b9=some (.cells [.str [60]] 9):=t9 _ _ (by rw[hK9];exact Aa _ _ _);have c10:K22 b10=some (.cells [.str [60,61]] 9):=t10 _ _ (by rw[hK10];exact Aa _ _ _);have c11:K22 b11=some (.cells [.str [62]] 9):=t11 _ _ (by rw[hK11];exact Aa _ _ _);have c12:K22 b12=some (.cells [.str [62,61]] 9):=t12 _ _ (by rw[hK12];exact Aa _ _ _);have c13:K22 b13=some (.cells [.str [97,110,100]] 9):=t13 _ _ (by rw[hK13];exact Aa _ _ _);have c14:K22 b14=some (.cells [.str [111,114]] 9):=t14 _ _ (by rw[hK14];exact Aa _ _ _);have c15:K22 b15=some (.cells [.str [120,111,114]] 9):=t15 _ _ (by rw[hK15];exact Aa _ _ _);have c16:K22 b16=some (.cells [.str [97,110,100], .str [116,104,101,110]] 9):=t16 _ _ (by rw[hK16];exact Aa _ _ _);have c17:K22 b17=some (.cells [.str [111,114], .str [101,108,115,101]] 9):=t17 _ _ (by rw[hK17];exact Aa _ _ _);have c18:K22 b18=some (.cells [.str [43]] 9):=t18 _ _ (by rw[hK18];exact Aa _ _ _);have c19:K22 b19=some (.cells [.str [45]] 9):=t19 _ _ (by rw[hK19];exact Aa _ _ _);have c20:K22 b20=some (.cells [.str [97,98,115]] 9):=t20 _ _ (by rw[hK20];exact Aa _ _ _);have c21:K22 b21=some (.cells [.str [110,111,116]] 9):=t21 _ _ (by rw[hK21];exact Aa _ _ _);have c22:K22 b22=some (.cells [.nilSlice, .oslice 1 b1 0 1 1, .oslice 1 b2 0 1 1, .oslice 1 b3 0 1 1, .oslice 1 b4 0 1 1, .oslice 1 b5 0 1 1, .oslice 1 b6 0 1 1, .oslice 1 b7 0 1 1, .oslice 1 b8 0 1 1, .oslice 1 b9 0 1 1, .oslice 1 b10 0 1 1, .oslice 1 b11 0 1 1, .oslice 1 b12 0 1 1, .oslice 1 b13 0 1 1, .oslice 1 b14 0 1 1, .oslice 1 b15 0 1 1, .oslice 1 b16 0 2 2, .oslice 1 b17 0 2 2, .oslice 1 b18 0 1 1, .oslice 1 b19 0 1 1, .oslice 1 b20 0 1 1, .oslice 1 b21 0 1 1] 138):=t22 _ _ (by rw[hK22];exact Aa _ _ _);obtain⟨cs,hcs⟩: ∃cs:List DVal,cs= [.nilSlice, .oslice 1 b1 0 1 1, .oslice 1 b2 0 1 1, .oslice 1 b3 0 1 1, .oslice 1 b4 0 1 1, .oslice 1 b5 0 1 1, .oslice 1 b6 0 1 1, .oslice 1 b7 0 1 1, .oslice 1 b8 0 1 1, .oslice 1 b9 0 1 1, .oslice 1 b10 0 1 1, .oslice 1 b11 0 1 1, .oslice 1 b12 0 1 1, .oslice 1 b13 0 1 1, .oslice 1 b14 0 1 1, .oslice 1 b15 0 1 1, .oslice 1 b16 0 2 2, .oslice 1 b17 0 2 2, .oslice 1 b18 0 1 1, .oslice 1 b19 0 1 1, .oslice 1 b20 0 1 1, .oslice 1 b21 0 1 1]:=⟨_,rfl⟩;rw[<-hcs] at c22;have hl:cs.length=22:=by rw[hcs];rfl
 obtain⟨d,hd⟩: ∃d,cs[o]? =some d:=⟨_,List.getElem?_eq_getElem (by omega)⟩;have hs:Fc K22 d H (dW (Bp o)):=by
  rw[hcs] at hd;have hcas:o=0\/o=1\/o=2\/o=3\/o=4\/o=5\/o=6\/o=7\/o=8\/o=9\/o=10\/o=11\/o=12\/o=13\/o=14\/o=15\/o=16\/o=17\/o=18\/o=19\/o=20\/o=21:=by omega
  rcases hcas with rfl | rfl | rfl | rfl | rfl | rfl | rfl | rfl | rfl | rfl | rfl | rfl | rfl | rfl | rfl | rfl | rfl | rfl | rfl | rfl | rfl | rfl
  ·cases hd;exact Fc.nil hsT
  ·cases hd;exact Fc.block hsT (u1.lo hb1) c1 rfl
  ·cases hd;exact Fc.block hsT (u2.lo hb2) c2 rfl
  ·cases hd;exact Fc.block hsT (u3.lo hb3) c3 rfl
  ·cases hd;exact Fc.block hsT (u4.lo hb4) c4 rfl
  ·cases hd;exact Fc.block hsT (u5.lo hb5) c5 rfl
  ·cases hd;exact Fc.block hsT (u6.lo hb6) c6 rfl
  ·cases hd;exact Fc.block hsT (u7.lo hb7) c7 rfl
  ·cases hd;exact Fc.block hsT (u8.lo hb8) c8 rfl
  ·cases hd;exact Fc.block hsT (u9.lo hb9) c9 rfl
  ·cases hd;exact Fc.block hsT (u10.lo hb10) c10 rfl
  ·cases hd;exact Fc.block hsT (u11.lo hb11) c11 rfl
  ·cases hd;exact Fc.block hsT (u12.lo hb12) c12 rfl
  ·cases hd;exact Fc.block hsT (u13.lo hb13) c13 rfl
  ·cases hd;exact Fc.block hsT (u14.lo hb14) c14 rfl
  ·cases hd;exact Fc.block hsT (u15.lo hb15) c15 rfl
  ·cases hd;exact Fc.block hsT (u16.lo hb16) c16 rfl
  ·cases hd;exact Fc.block hsT (u17.lo hb17) c17 rfl
  ·cases hd;exact Fc.block hsT (u18.lo hb18) c18 rfl
  ·cases hd;exact Fc.block hsT (u19.lo hb19) c19 rfl
  ·cases hd;exact Fc.block hsT (u20.lo hb20) c20 rfl
  ·cases hd;exact Fc.block hsT (u21.lo hb21) c21 rfl
 have h22: ¬(22:Int)<=(o:Int):=by omega
 have h22b:(o:Int)<22:=by omega
 have hwr:IntKind.i64.wrap (o:Int)=(o:Int):=by rw[IntKind.wrap_i64];omega
 clear s1 s2 s3 s4 s5 s6 s7 s8 s9 s10 s11 s12 s13 s14 s15 s16 s17 s18 s19 s20 s21 s22 t0 t1 t2 t3 t4 t5 t6 t7 t8 t9 t10 t11 t12 t13 t14 t15 t16 t17 t18 t19 t20 t21 t22;simp(disch:=omega) only[go_sem,↓reduceIte,hwr,h22,h22b,c22,hd,Int.toNat_natCast];exact Fc.fin hsT hs ⟨rfl,rfl⟩
end
end Go.Dl

-- Chapter 3: the reference's reader: states, contracts.
namespace Go.Dl
open Go Go.Proofs
set_option maxRecDepth 100000
structure RS where
 k:Nat
 bad:Bool
abbrev rfO (l:List Tok) (s:RS):DObj:= .cells [Cc l,dI s.k, .bool s.bad] 89
def Aft {α:Type} (T:Nat->Res α) (s:RS) (x:α) (s':RS):Prop:=
 if s.bad=true then s'=s else match T s.k with
  | .ok y k=>x=y/\s'=⟨k,false⟩
  | .fail k=>s'=⟨k,true⟩
  | .bot=>False
def Can {α:Type} (l:List Tok) (T:Nat->Res α) (s:RS):Prop:=s.bad=false->s.k<=l.length/\T s.k≠ .bot
section
variable {α β:Type} {l:List Tok} {T U:Nat->Res α} {V:α->Nat->Res β} {s s1 s2:RS} {x:α} {y:β} {k:Nat}
theorem Aft.bad (h:s.bad=true):Aft T s x s:=by rw[Aft,if_pos h]
theorem Aft.good:Aft T ⟨k,false⟩ x s1↔match T k with
  | .ok y k=>x=y/\s1=⟨k,false⟩
  | .fail k=>s1=⟨k,true⟩
  | .bot=>False:=by rw[Aft,if_neg (by simp)]
theorem RS.cases (s:RS):s.bad=true\/ ∃k,s=⟨k,false⟩:=by
 obtain⟨k,b⟩:=s;cases b
 ·exact .inr ⟨k,rfl⟩
 ·exact .inl rfl
theorem Aft.then (h1:Aft T s x s1) (h2:Aft (V x) s1 y s2):Aft (fun k=>(T k).then V) s y s2:=by
 rcases s.cases with h | ⟨k,rfl⟩
 ·rw[Aft,if_pos h] at h1;subst h1;rw[Aft,if_pos h] at h2;rw[Aft,if_pos h];exact h2
 ·rw[Aft.good] at h1⊢
  cases hT:T k with
  | bot=>rw[hT] at h1;exact h1.elim
  | fail j=>
   rw[hT] at h1;dsimp only at h1;subst h1;rw[Aft,if_pos rfl] at h2;exact h2
  | ok z j=>
   rw[hT] at h1;obtain⟨rfl,rfl⟩:=h1;rw[Aft.good] at h2;exact h2
theorem Aft.eq (h:s.bad=false->T s.k=U s.k) (k:Aft U s x s1):Aft T s x s1:=by
 rcases s.cases with c | ⟨j,rfl⟩
 ·rw[Aft,if_pos c] at k⊢;exact k
 ·rw[Aft.good] at k⊢;rw[show T j=U j from h rfl];exact k
theorem Aft.at {j:Nat} (h:T k=U j) (g:Aft U ⟨j,false⟩ x s1):Aft T ⟨k,false⟩ x s1:=by
 rw[Aft.good] at g⊢;rw[h];exact g
theorem Aft.pure:Aft (fun k=> .ok x k) s x s:=by
 rcases s.cases with c | ⟨j,rfl⟩
 ·exact .bad c
 ·rw[Aft.good];exact⟨rfl,rfl⟩
theorem Aft.fail:Aft (fun k=>(.fail k:Res α)) s x ⟨s.k,true⟩:=by
 rcases s.cases with c | ⟨j,rfl⟩
 ·obtain⟨k,b⟩:=s;cases c;exact .bad rfl
 ·rw[Aft.good]
theorem Can.bad (h:s.bad=true):Can l T s:=fun c=>by rw[h] at c;cases c
theorem Can.good (h:Can l T ⟨k,false⟩):k<=l.length/\T k≠ .bot:=h rfl
theorem Can.then1 (h:Can l (fun k=>(T k).then V) s):Can l T s:=fun c=>⟨(h c).1,fun e=>(h c).2 (by dsimp only;rw[e];rfl)⟩
theorem Can.then2 {lb:Nat} (h:Can l (fun k=>(T k).then V) s) (g:Aft T s x s1) (ha:s.bad=false->Adv l lb (T s.k)):Can l (V x) s1:=by
 rcases s.cases with c | ⟨k,rfl⟩
 ·rw[Aft,if_pos c] at g;subst g;exact .bad c
 ·rw[Aft.good] at g;have h2:=h.good;have h3:=ha rfl;dsimp only at h2 h3;cases hT:T k with
  | bot=>rw[hT] at g;exact g.elim
  | fail j=>rw[hT] at g;dsimp only at g;subst g;exact .bad rfl
  | ok z j=>
   rw[hT] at g h2 h3;obtain⟨rfl,rfl⟩:=g;exact fun _=>⟨h3.2,h2.2⟩
theorem Can.eq (h:s.bad=false->T s.k=U s.k) (k:Can l T s):Can l U s:=fun c=>⟨(k c).1,by rw[<-h c];exact(k c).2⟩
theorem Can.at {j:Nat} (h:T k=U j) (hj:j<=l.length) (g:Can l T ⟨k,false⟩):Can l U ⟨j,false⟩:=fun _=>⟨hj,by show U j≠_;rw[<-h];exact g.good.2⟩
end
def RfC (P:Program) (G:Nat->DVal) (l:List Tok) {α:Type} (f:FuncId) (r:Nat) (more:List DVal) (T:Nat->Res α) (D:α->DVal):Prop:=
 ∀H s,H r=some (rfO l s)->Can l T s->Ai P G f (.optr r 0::more) H fun e H'=> ∃x s',e= .ret (D x)/\H'=upd H r (some (rfO l s'))/\Aft T s x s'
def RfG (P:Program) (G:Nat->DVal) (l:List Tok) {α:Type} (f:FuncId) (r:Nat) (more:List DVal) (T:Nat->Res α) (D:α->DVal):Prop:=
 ∀H k,H r=some (rfO l ⟨k,false⟩)->k<=l.length->T k≠ .bot->Ai P G f (.optr r 0::more) H fun e H'=> ∃x s',e= .ret (D x)/\H'=upd H r (some (rfO l s'))/\Aft T ⟨k,false⟩ x s'
section
variable {P:Program} {G:Nat->DVal} {l:List Tok} {α:Type} {f:FuncId} {r:Nat} {more:List DVal} {T U:Nat->Res α} {D:α->DVal}
theorem RfC.g (h:RfC P G l f r more T D):RfG P G l f r more T D:=fun H k hr hk hn=>h H ⟨k,false⟩ hr fun _=>⟨hk,hn⟩
theorem RfG.bot:RfG P G l f r more (fun _=>(.bot:Res α)) D:=fun _ _ _ _ hn=>absurd rfl hn
theorem RfC.bot (h:RfC P G l f r more T D):RfC P G l f r more (fun _=>(.bot:Res α)) D:=fun H s hr hc=>by
 rcases s.cases with c | ⟨k,rfl⟩
 ·refine(h H s hr (.bad c)).mono ?_;rintro e H' ⟨x,s',a,b,d⟩;refine⟨x,s',a,b,?_⟩;rw[Aft,if_pos c] at d⊢;exact d
 ·exact absurd rfl hc.good.2
end
end Go.Dl

-- Chapter 3: the reference's reader: tokens, words, operators.
namespace Go.Dl
open Go Go.Proofs
set_option maxRecDepth 100000
def isT (l:List Tok) (k:Nat) (kd:Int) (s:List UInt8):Bool:=decide ((tk l k).kind=kd)&&decide ((tk l k).text=s)
theorem Mh {l:List Tok} {k:Nat} {kd:Int} {s:List UInt8} (h:Ea s=kd):isT l k kd s=isW l k [s]:=by rw[Dm0,h];rfl
section
variable {G:Nat->DVal} {H0 H H':Ac} {r k:Nat} {l:List Tok} {s s':RS}
def FAt (r:Nat) (l:List Tok) (s:RS) (H0 H:Ac):Prop:=Sub (upd H0 r (some (rfO l s))) H
theorem FAt.refl (h:H r=some (rfO l s)):FAt r l s H H:=fun b o hb=>by rw[Be h] at hb;exact hb
theorem FAt.get (h:FAt r l s H0 H):H r=some (rfO l s):=h _ _ (Aa _ _ _)
theorem FAt.new (h:FAt r l s H0 H) {x:Nat} (hx:H x=none) (o:Option DObj):FAt r l s H0 (upd H x o):=Sub.new h hx o
theorem FAt.more (h:FAt r l s H0 H) (k:Sub H H'):FAt r l s H0 H':=Sub.trans h k
theorem FAt.set (h:FAt r l s H0 H) (s':RS):FAt r l s' H0 (upd H r (some (rfO l s'))):=by
 have:=Sub.both h r (some (rfO l s'))
 rwa [Da] at this
theorem FAt.lo (h:FAt r l s H0 H) {x:Nat} (hx:H x=none):H0 x=none:=by
 have:=Sub.lo h hx;simp only[upd] at this;split at this
 ·cases this
 ·exact this
theorem FAt.own (h:FAt r l s H0 H) {x:Nat} (hx:H0 x=none) (hr:x≠r) (o:Option DObj):FAt r l s H0 (upd H x o):=Sub.up h (by simp only[upd];rw[if_neg hr];exact hx) o
theorem FAt.fin {R:DEnd->Ac->Prop} {v:DVal} (h:FAt r l s H0 H) (hR:R (.ret v) (upd H0 r (some (rfO l s)))):Nu R v H:=Nu.sub h (.refl hR)
set_option maxHeartbeats 4000000 in
theorem Dh (G:Nat->DVal) (H:Ac) (j:Nat) (kd:Int) (w:List UInt8) (hr:H r=some (rfO l s)) (hl:l.length<=1000000) (hk:s.bad=false->s.k<=900000) (hj:j<=1000) (h0:kd≠0):
  Ai Tryz.prog G 104 [.optr r 0,dI j, .int .u8 kd, .str w] H (Au (.bool (!s.bad&&isT l (s.k+j) kd w)) H):=by
 unfold rfO at hr;refine Ad Tryz.func104 Tryz.call104 rfl (by kernel_rfl) ?_;simp(disch:=omega) only[go_sem,↓reduceIte];refine Aj (by kernel_rfl) (.take 0 (.take 1 (.take 2 (.take 3 (.take 4 (.take 5 (.take 6 (.take 7 (.take 8 (.take 9 (.take 10 (.take 11 (.take 12 (.take 13 (.take 14 (.take 15 (.take 16 (.take 17 (.take 18 (.take 19 (.take 20 (.take 21 (.take 22 (.take 23 (.take 24 (.take 25 (.take 26 (.take 27 (.take 28 (.take 29 (.take 30 (.take 31 (.take 32 (.take 33 (.take 34 (.take 35 (.take 36 (.take 37 (.take 38 (.take 39 (.take 40 (.take 41 (.take 42 (.take 43 (.take 44 (.take 45 (.take 46 (.take 47 (.take 48 (.take 49 (.take 50 (.take 51 (.take 52 (.take 53 .done)))))))))))))))))))))))))))))))))))))))))))))))))))))) (by kernel_rfl) ?_;rcases s.cases with c | ⟨k,rfl⟩
 ·rw[c] at hr⊢
  simp(disch:=omega) only[go_sem,↓reduceIte,hr];exact Nu.refl ⟨rfl,rfl⟩
 ·have hk:=hk rfl;dsimp only at hk hr⊢
  have hw:IntKind.i64.wrap ((k:Int)+(j:Int))=((k+j:Nat):Int):=by rw[IntKind.wrap_i64];omega
  by_cases c:k+j<l.length
  ·have c':((k+j:Nat):Int)<(l.length:Int):=by omega
   have g0:(l.flatMap Ec)[(k+j)*4]? =some (.int .u8 l[k+j].kind):=Bs Bm l _ c 0 (by omega);have g2:(l.flatMap Ec)[(k+j)*4+2]? =some (.str l[k+j].text):=Bs Bm l _ c 2 (by omega);have hfl:=An Bm l;rw[isT,Ah2 c];by_cases c1:l[k+j].kind=kd
   ·by_cases c2:l[k+j].text=w
    ·simp(disch:=omega) only[go_sem,↓reduceIte,hr,hw,c',Cc,g0,g2,hfl,c1,c2,Int.toNat_natCast];exact Nu.refl ⟨rfl,rfl⟩
    ·simp(disch:=omega) only[go_sem,↓reduceIte,hr,hw,c',Cc,g0,g2,hfl,c1,c2,Int.toNat_natCast];refine Nu.refl ⟨?_,rfl⟩;simp [c2]
   ·simp(disch:=omega) only[go_sem,↓reduceIte,hr,hw,c',Cc,g0,g2,hfl,c1,Int.toNat_natCast];refine Nu.refl ⟨?_,rfl⟩;simp
  ·have c': ¬((k+j:Nat):Int)<(l.length:Int):=by omega
   rw[isT,Au6 (by omega),show Za.kind=0 from rfl,decide_eq_false (fun e=>h0 e.symm)];simp(disch:=omega) only[go_sem,↓reduceIte,hr,hw,c',Cc];exact Nu.refl ⟨rfl,rfl⟩
set_option maxHeartbeats 4000000 in
theorem Xo (G:Nat->DVal) (H:Ac) (kd:Int) (hr:H r=some (rfO l s)) (hl:l.length<=1000000) (hk:s.bad=false->s.k<=900000) (h0:kd≠0):
  Ai Tryz.prog G 108 [.optr r 0,dI 0, .int .u8 kd] H (Au (.bool (!s.bad&&decide ((tk l s.k).kind=kd))) H):=by
 unfold rfO at hr;refine Ad Tryz.func108 Tryz.call108 rfl (by kernel_rfl) ?_;simp(disch:=omega) only[go_sem,↓reduceIte];refine Aj (by kernel_rfl) (.take 0 (.take 1 (.take 2 (.take 3 (.take 4 (.take 5 (.take 6 (.take 7 (.take 8 (.take 9 (.take 10 (.take 11 (.take 12 (.take 13 (.take 14 (.take 15 (.take 16 (.take 17 (.take 18 (.take 19 (.take 20 (.take 21 (.take 22 (.take 23 (.take 24 (.take 25 (.take 26 (.take 27 (.take 28 (.take 29 (.take 30 (.take 31 (.take 32 (.take 33 (.take 34 (.take 35 (.take 36 .done))))))))))))))))))))))))))))))))))))) (by kernel_rfl) ?_;rcases s.cases with c | ⟨k,rfl⟩
 ·rw[c] at hr⊢
  simp(disch:=omega) only[go_sem,↓reduceIte,hr];exact Nu.refl ⟨rfl,rfl⟩
 ·have hk:=hk rfl;dsimp only at hk hr⊢
  have hw:IntKind.i64.wrap ((k:Int)+0)=(k:Int):=by rw[IntKind.wrap_i64];omega
  by_cases c:k<l.length
  ·have c':(k:Int)<(l.length:Int):=by omega
   have g0:(l.flatMap Ec)[k*4]? =some (.int .u8 l[k].kind):=Bs Bm l _ c 0 (by omega);have hfl:=An Bm l;rw[Ah2 c];by_cases c1:l[k].kind=kd
   ·simp(disch:=omega) only[go_sem,↓reduceIte,hr,hw,c',Cc,g0,hfl,c1,Int.toNat_natCast];exact Nu.refl ⟨rfl,rfl⟩
   ·simp(disch:=omega) only[go_sem,↓reduceIte,hr,hw,c',Cc,g0,hfl,c1,Int.toNat_natCast];exact Nu.refl ⟨rfl,rfl⟩
  ·have c': ¬(k:Int)<(l.length:Int):=by omega
   rw[Au6 (by omega),show Za.kind=0 from rfl,decide_eq_false (fun e=>h0 e.symm)];simp(disch:=omega) only[go_sem,↓reduceIte,hr,hw,c',Cc];exact Nu.refl ⟨rfl,rfl⟩
theorem Hl (G:Nat->DVal) (H:Ac) (hr:H r=some (rfO l s)) (hl:l.length<=1000000):Ai Tryz.prog G 107 [.optr r 0] H (Au (dI (tk l s.k).line) H):=by
 unfold rfO at hr;refine Ad Tryz.func107 Tryz.call107 rfl (by kernel_rfl) ?_;simp(disch:=omega) only[go_sem,↓reduceIte];refine Aj (by kernel_rfl) (.take 0 (.take 1 (.take 2 (.take 3 (.take 4 (.take 5 (.take 6 (.take 7 (.take 8 (.take 9 .done)))))))))) (by kernel_rfl) ?_;by_cases c:s.k<l.length
 ·have c':(s.k:Int)<(l.length:Int):=by omega
  have g1:(l.flatMap Ec)[s.k*4+1]? =some (dI l[s.k].line):=Bs Bm l _ c 1 (by omega);have hfl:=An Bm l;simp(disch:=omega) only[go_sem,↓reduceIte,hr,c',Cc];refine Aj (by kernel_rfl) (.take 0 (.take 1 (.take 2 (.take 3 (.take 4 (.take 5 (.take 6 (.take 7 (.take 8 (.take 9 (.take 10 (.take 11 .done)))))))))))) (by kernel_rfl) ?_;simp(disch:=omega) only[go_sem,↓reduceIte,hr,c',Cc,g1,hfl,Int.toNat_natCast];rw[Ah2 c];exact Nu.refl ⟨rfl,rfl⟩
 ·have c': ¬(s.k:Int)<(l.length:Int):=by omega
  simp(disch:=omega) only[go_sem,↓reduceIte,hr,c',Cc];rw[Au6 (by omega)];exact Nu.refl ⟨rfl,rfl⟩
def Al6 (l:List Tok) (w:List UInt8) (s:RS):RS:=if !s.bad&&isW l s.k [w] then⟨s.k+1,false⟩ else s
def Fs (l:List Tok) (w:List UInt8) (s:RS):RS:=if !s.bad&&isW l s.k [w] then⟨s.k+1,false⟩ else⟨s.k,true⟩
theorem Ef (G:Nat->DVal) (H:Ac) (w:List UInt8) (hw:Ea w=4) (hr:H r=some (rfO l s)) (hl:l.length<=1000000) (hk:s.bad=false->s.k<=900000):
  Ai Tryz.prog G 105 [.optr r 0, .str w] H (Au (.bool (!s.bad&&isW l s.k [w])) (upd H r (some (rfO l (Al6 l w s))))):=by
 refine Ad Tryz.func105 Tryz.call105 rfl (by kernel_rfl) ?_;have hr':=hr;unfold rfO at hr';simp(disch:=omega) only[go_sem,↓reduceIte];refine Ai.monoR (Dh G H 0 4 w hr hl hk (by decide) (by decide)) ?_;rw[Nat.add_zero,Mh hw];rw[Al6];cases hb:(!s.bad&&isW l s.k [w]) with
 | false=>
  simp(disch:=omega) only[go_sem,↓reduceIte];exact Nu.refl ⟨rfl,(Be hr).symm⟩
 | true=>
  simp only[Bool.and_eq_true,Bool.not_eq_true'] at hb;obtain⟨k,b⟩:=s;obtain⟨rfl,hb⟩:=hb;have hk:=hk rfl;dsimp only at hk hr'⊢
  have hw1:IntKind.i64.wrap ((k:Int)+1)=((k+1:Nat):Int):=by rw[IntKind.wrap_i64];omega
  simp(disch:=omega) only[go_sem,↓reduceIte,hr',hw1];exact Nu.refl ⟨rfl,rfl⟩
theorem Mi (G:Nat->DVal) (H:Ac) (w:List UInt8) (hw:Ea w=2) (hr:H r=some (rfO l s)) (hl:l.length<=1000000) (hk:s.bad=false->s.k<=900000):
  Ai Tryz.prog G 109 [.optr r 0, .str w] H (Au (.bool (!s.bad&&isW l s.k [w])) (upd H r (some (rfO l (Al6 l w s))))):=by
 refine Ad Tryz.func109 Tryz.call109 rfl (by kernel_rfl) ?_;have hr':=hr;unfold rfO at hr';simp(disch:=omega) only[go_sem,↓reduceIte];refine Ai.monoR (Dh G H 0 2 w hr hl hk (by decide) (by decide)) ?_;rw[Nat.add_zero,Mh hw];rw[Al6];cases hb:(!s.bad&&isW l s.k [w]) with
 | false=>
  simp(disch:=omega) only[go_sem,↓reduceIte];exact Nu.refl ⟨rfl,(Be hr).symm⟩
 | true=>
  simp only[Bool.and_eq_true,Bool.not_eq_true'] at hb;obtain⟨k,b⟩:=s;obtain⟨rfl,hb⟩:=hb;have hk:=hk rfl;dsimp only at hk hr'⊢
  have hw1:IntKind.i64.wrap ((k:Int)+1)=((k+1:Nat):Int):=by rw[IntKind.wrap_i64];omega
  simp(disch:=omega) only[go_sem,↓reduceIte,hr',hw1];exact Nu.refl ⟨rfl,rfl⟩
theorem Ft (G:Nat->DVal) (H:Ac) (w:List UInt8) (hw:Ea w=4) (hr:H r=some (rfO l s)) (hl:l.length<=1000000) (hk:s.bad=false->s.k<=900000):
  Ai Tryz.prog G 112 [.optr r 0, .str w] H (Au (.tuple []) (upd H r (some (rfO l (Fs l w s))))):=by
 refine Ad Tryz.func112 Tryz.call112 rfl (by kernel_rfl) ?_;simp(disch:=omega) only[go_sem,↓reduceIte];refine Ai.monoR (Ef G H w hw hr hl hk) ?_;rw[Al6,Fs];cases hb:(!s.bad&&isW l s.k [w]) with
 | true=>
  simp(disch:=omega) only[go_sem,↓reduceIte];exact Nu.refl ⟨rfl,rfl⟩
 | false=>
  have hr':=hr;unfold rfO at hr';rw[if_neg (by simp),if_neg (by simp),Be hr];simp(disch:=omega) only[go_sem,↓reduceIte,hr'];exact Nu.refl ⟨rfl,rfl⟩
theorem Yv (G:Nat->DVal) (H:Ac) (w:List UInt8) (hw:Ea w=2) (hr:H r=some (rfO l s)) (hl:l.length<=1000000) (hk:s.bad=false->s.k<=900000):
  Ai Tryz.prog G 150 [.optr r 0, .str w] H (Au (.tuple []) (upd H r (some (rfO l (Fs l w s))))):=by
 refine Ad Tryz.func150 Tryz.call150 rfl (by kernel_rfl) ?_;simp(disch:=omega) only[go_sem,↓reduceIte];refine Ai.monoR (Mi G H w hw hr hl hk) ?_;rw[Al6,Fs];cases hb:(!s.bad&&isW l s.k [w]) with
 | true=>
  simp(disch:=omega) only[go_sem,↓reduceIte];exact Nu.refl ⟨rfl,rfl⟩
 | false=>
  have hr':=hr;unfold rfO at hr';rw[if_neg (by simp),if_neg (by simp),Be hr];simp(disch:=omega) only[go_sem,↓reduceIte,hr'];exact Nu.refl ⟨rfl,rfl⟩
def nmS (l:List Tok) (s:RS):RS:=if !s.bad&&decide ((tk l s.k).kind=1) then⟨s.k+1,false⟩ else⟨s.k,true⟩
def nmV (l:List Tok) (s:RS):List UInt8:=if !s.bad&&decide ((tk l s.k).kind=1) then(tk l s.k).text else []
theorem Ko (G:Nat->DVal) (H:Ac) (hr:H r=some (rfO l s)) (hl:l.length<=1000000) (hk:s.bad=false->s.k<=900000):
  Ai Tryz.prog G 111 [.optr r 0] H (Au (.str (nmV l s)) (upd H r (some (rfO l (nmS l s))))):=by
 have hr':=hr;unfold rfO at hr';refine Ad Tryz.func111 Tryz.call111 rfl (by kernel_rfl) ?_;simp(disch:=omega) only[go_sem,↓reduceIte];refine Ai.monoR (Xo G H 1 hr hl hk (by decide)) ?_;rw[nmV,nmS];cases hb:(!s.bad&&decide ((tk l s.k).kind=1)) with
 | false=>
  simp(disch:=omega) only[go_sem,↓reduceIte,hr'];exact Nu.refl ⟨rfl,rfl⟩
 | true=>
  simp only[Bool.and_eq_true,Bool.not_eq_true',decide_eq_true_eq] at hb;obtain⟨k,b⟩:=s;obtain⟨rfl,hb⟩:=hb;have hk:=hk rfl;dsimp only at hk hr' hb⊢
  have hlt:k<l.length:=Jj (by rw[hb];decide);have hlt':(k:Int)<(l.length:Int):=by omega
  have g2:(l.flatMap Ec)[k*4+2]? =some (.str l[k].text):=Bs Bm l _ hlt 2 (by omega);have hfl:=An Bm l;have hw1:IntKind.i64.wrap ((k:Int)+1)=((k+1:Nat):Int):=by rw[IntKind.wrap_i64];omega
  have hw2:IntKind.i64.wrap (((k+1:Nat):Int)-1)=(k:Int):=by rw[IntKind.wrap_i64];omega
  simp(disch:=omega) only[go_sem,↓reduceIte,hr',hw1];refine Aj (by kernel_rfl) (.take 0 (.take 1 (.take 2 (.take 3 (.take 4 (.take 5 (.take 6 (.take 7 (.take 8 (.take 9 (.take 10 (.take 11 (.take 12 .done))))))))))))) (by kernel_rfl) ?_;simp(disch:=omega) only[go_sem,↓reduceIte,hr',hw1,hw2,Cc,g2,hfl,Int.toNat_natCast];rw[Ah2 hlt];exact Nu.refl ⟨rfl,rfl⟩
theorem Br8: ∀i:Fin 22,1<=i.1->((Bp i.1).length=1/\ ∃w,Bp i.1= [w])\/((Bp i.1).length=2/\ ∃w v,Bp i.1= [w,v]/\Ea v=2):=by
 intro i h
 have: ∀i:Fin 22,1<=i.1->(match Bp i.1 with | [_]=>true | [_,v]=>decide (Ea v=2) | _=>false)=true:=by decide+kernel
 have:=this i h
 split at this
 ·rename_i w e;exact .inl ⟨by rw[e];rfl,w,e⟩
 ·rename_i w v e;exact .inr ⟨by rw[e];rfl,w,v,e,by simpa using this⟩
 ·cases this
set_option maxHeartbeats 4000000 in
theorem Iw (G:Nat->DVal) (H:Ac) (lo n:Nat) (h1:1<=lo) (h3:lo+n<=21) (hr:H r=some (rfO l s)) (hl:l.length<=1000000) (hk:s.bad=false->s.k<=900000):
  Ai Tryz.prog G 102 [.optr r 0, .int .u8 lo, .int .u8 ((lo+n:Nat):Int)] H (Au (.int .u8 (if s.bad then 0 else(opF l 0 s.k (Kn (lo+n) (n+1))).1:Nat)) H):=by
 refine Ad Tryz.func102 Tryz.call102 rfl (by kernel_rfl) ?_;simp(disch:=omega) only[go_sem,↓reduceIte];obtain⟨I,hI⟩: ∃I:Nat->(Nat->DVal)->Ac->Prop,∀j env heap,I j env heap↔(env 0= .optr r 0/\env 2= .int .u8 ((lo+n:Nat):Int)/\env 8= .int .u8 ((lo+j:Nat):Int)/\env 7= .int .u8 (if s.bad then 0 else(opF l 0 s.k (Kn (lo+j-1) j)).1:Nat)/\j<=n+1/\heap=H):=⟨_,fun _ _ _=>Iff.rfl⟩;refine Bt4.run I (fun j=>n+1-j) 0 ((hI _ _ _).2 ?_) ?_
 ·simp(disch:=omega) only[go_sem,↓reduceIte];(repeat' apply And.intro)<;>(try first | rfl | assumption | omega)
  ·rw[Kn,opF];split<;>rfl
 ·intro j E K hi;obtain⟨e0,e2,e8,e7,hj,rfl⟩:=(hI _ _ _).1 hi;by_cases hlt:j<=n
  ·obtain⟨o,ho⟩: ∃o,o=lo+j:=⟨_,rfl⟩;have hlt':(o:Int)<=((lo+n:Nat):Int):=by omega
   have hops:Kn (lo+(j+1)-1) (j+1)=o::Kn (lo+j-1) j:=by rw[ho,show lo+(j+1)-1=lo+j by omega];rfl
   have hw1:IntKind.u8.wrap ((o:Int)+1)=((lo+(j+1):Nat):Int):=by rw[IntKind.wrap_u8];omega
   rw[<-ho] at e8;simp(disch:=omega) only[go_sem,↓reduceIte,e0,e2,e8,e7,hlt'];refine Ai.monoR (Yu G K o (by omega)) ?_;have hnext:opF l 0 s.k (Kn (lo+(j+1)-1) (j+1))=if isW l s.k (Bp o) then(o,s.k+(Bp o).length) else opF l 0 s.k (Kn (lo+j-1) j):=by rw[hops,Oc];simp
   have hWn:=Br8 ⟨o,by omega⟩ (by show 1<=o;omega);dsimp only at hWn;obtain⟨ws,hws⟩: ∃ws,ws=Bp o:=⟨_,rfl⟩;rw[<-hws] at hnext hWn⊢
   have hgo: ∀(E':Nat->DVal) (v:Nat),E' 0= .optr r 0->E' 2= .int .u8 ((lo+n:Nat):Int)->E' 8= .int .u8 ((lo+(j+1):Nat):Int)->E' 7= .int .u8 (v:Int)->v=(if s.bad then 0 else(if isW l s.k ws then o else(opF l 0 s.k (Kn (lo+j-1) j)).1))->I (j+1) E' K:=fun E' v a0 a2 a8 a7 hv=>(hI _ _ _).2 ⟨a0,a2,a8,by
    rw[a7,hv,hnext];split
    ·rfl
    ·split<;>rfl,by omega,rfl⟩
   have hkk: ∀w:List UInt8,(if Qc w=true then(2:Int) else 4)=Ea w:=fun w=>rfl;have hs0:s.k+0=s.k:=rfl;rcases hWn with⟨_,w,hw⟩ | ⟨_,w,v,hw,hv2⟩
   ·rw[hw] at hgo⊢
    simp(disch:=omega) only[go_sem,↓reduceIte,e0,e2,e8,e7,dW,List.map_cons,List.map_nil,List.getElem?_cons_zero,List.getElem?_cons_succ,List.length_cons,List.length_nil];refine Ai.monoR (Rn G K w) ?_;have hkw: ∀c,Ea w=c->isT l (s.k+0) c w=isW l s.k [w]:=fun c h=>Mh h;cases hkb:Qc w with
    | true=>
     simp(disch:=omega) only[go_sem,↓reduceIte,e0,e2,e8,e7,dW,List.map_cons,List.map_nil,List.getElem?_cons_zero,List.getElem?_cons_succ,List.length_cons,List.length_nil];refine Ai.monoR (Dh G K 0 2 w hr hl hk (by decide) (by decide)) ?_;rw[hkw 2 (by rw[Ea,hkb];rfl)];cases hb:(!s.bad&&isW l s.k [w]) with
     | false=>
      simp(disch:=omega) only[go_sem,↓reduceIte,e0,e2,e8,e7,dW,List.map_cons,List.map_nil,List.getElem?_cons_zero,List.getElem?_cons_succ,List.length_cons,List.length_nil];refine⟨j+1,_,Ni.refl _,hgo _ (if s.bad then 0 else(opF l 0 s.k (Kn (lo+j-1) j)).1) ?_ ?_ ?_ ?_ ?_,by omega⟩
      ·simp(disch:=omega) only[go_sem,↓reduceIte,e0,e2,e8,e7]
      ·simp(disch:=omega) only[go_sem,↓reduceIte,e0,e2,e8,e7]
      ·simp(disch:=omega) only[go_sem,↓reduceIte,e0,e2,e8,e7,hw1]
      ·simp(disch:=omega) only[go_sem,↓reduceIte,e0,e2,e8,e7]
      ·cases hsb:s.bad with
       | true=>rfl
       | false=>
        rw[hsb] at hb;rw[show isW l s.k [w]=false by simpa using hb];rfl
     | true=>
      simp(disch:=omega) only[go_sem,↓reduceIte,e0,e2,e8,e7,dW,List.map_cons,List.map_nil,List.getElem?_cons_zero,List.getElem?_cons_succ,List.length_cons,List.length_nil];refine⟨j+1,_,Ni.refl _,hgo _ o ?_ ?_ ?_ ?_ ?_,by omega⟩
      ·simp(disch:=omega) only[go_sem,↓reduceIte,e0,e2,e8,e7]
      ·simp(disch:=omega) only[go_sem,↓reduceIte,e0,e2,e8,e7]
      ·simp(disch:=omega) only[go_sem,↓reduceIte,e0,e2,e8,e7,hw1]
      ·simp(disch:=omega) only[go_sem,↓reduceIte,e0,e2,e8,e7]
      ·simp only[Bool.and_eq_true,Bool.not_eq_true'] at hb;rw[hb.1,hb.2];rfl
    | false=>
     simp(disch:=omega) only[go_sem,↓reduceIte,e0,e2,e8,e7,dW,List.map_cons,List.map_nil,List.getElem?_cons_zero,List.getElem?_cons_succ,List.length_cons,List.length_nil];refine Ai.monoR (Dh G K 0 4 w hr hl hk (by decide) (by decide)) ?_;rw[hkw 4 (by rw[Ea,hkb];rfl)];cases hb:(!s.bad&&isW l s.k [w]) with
     | false=>
      simp(disch:=omega) only[go_sem,↓reduceIte,e0,e2,e8,e7,dW,List.map_cons,List.map_nil,List.getElem?_cons_zero,List.getElem?_cons_succ,List.length_cons,List.length_nil];refine⟨j+1,_,Ni.refl _,hgo _ (if s.bad then 0 else(opF l 0 s.k (Kn (lo+j-1) j)).1) ?_ ?_ ?_ ?_ ?_,by omega⟩
      ·simp(disch:=omega) only[go_sem,↓reduceIte,e0,e2,e8,e7]
      ·simp(disch:=omega) only[go_sem,↓reduceIte,e0,e2,e8,e7]
      ·simp(disch:=omega) only[go_sem,↓reduceIte,e0,e2,e8,e7,hw1]
      ·simp(disch:=omega) only[go_sem,↓reduceIte,e0,e2,e8,e7]
      ·cases hsb:s.bad with
       | true=>rfl
       | false=>
        rw[hsb] at hb;rw[show isW l s.k [w]=false by simpa using hb];rfl
     | true=>
      simp(disch:=omega) only[go_sem,↓reduceIte,e0,e2,e8,e7,dW,List.map_cons,List.map_nil,List.getElem?_cons_zero,List.getElem?_cons_succ,List.length_cons,List.length_nil];refine⟨j+1,_,Ni.refl _,hgo _ o ?_ ?_ ?_ ?_ ?_,by omega⟩
      ·simp(disch:=omega) only[go_sem,↓reduceIte,e0,e2,e8,e7]
      ·simp(disch:=omega) only[go_sem,↓reduceIte,e0,e2,e8,e7]
      ·simp(disch:=omega) only[go_sem,↓reduceIte,e0,e2,e8,e7,hw1]
      ·simp(disch:=omega) only[go_sem,↓reduceIte,e0,e2,e8,e7]
      ·simp only[Bool.and_eq_true,Bool.not_eq_true'] at hb;rw[hb.1,hb.2];rfl
   ·rw[hw] at hgo⊢
    simp(disch:=omega) only[go_sem,↓reduceIte,e0,e2,e8,e7,dW,List.map_cons,List.map_nil,List.getElem?_cons_zero,List.getElem?_cons_succ,List.length_cons,List.length_nil];refine Ai.monoR (Rn G K w) ?_;have hkw: ∀c,Ea w=c->isT l (s.k+0) c w=isW l s.k [w]:=fun c h=>Mh h;cases hkb:Qc w with
    | true=>
     simp(disch:=omega) only[go_sem,↓reduceIte,e0,e2,e8,e7,dW,List.map_cons,List.map_nil,List.getElem?_cons_zero,List.getElem?_cons_succ,List.length_cons,List.length_nil];refine Ai.monoR (Dh G K 0 2 w hr hl hk (by decide) (by decide)) ?_;rw[hkw 2 (by rw[Ea,hkb];rfl)];cases hb:(!s.bad&&isW l s.k [w]) with
     | false=>
      simp(disch:=omega) only[go_sem,↓reduceIte,e0,e2,e8,e7,dW,List.map_cons,List.map_nil,List.getElem?_cons_zero,List.getElem?_cons_succ,List.length_cons,List.length_nil];refine⟨j+1,_,Ni.refl _,hgo _ (if s.bad then 0 else(opF l 0 s.k (Kn (lo+j-1) j)).1) ?_ ?_ ?_ ?_ ?_,by omega⟩
      ·simp(disch:=omega) only[go_sem,↓reduceIte,e0,e2,e8,e7]
      ·simp(disch:=omega) only[go_sem,↓reduceIte,e0,e2,e8,e7]
      ·simp(disch:=omega) only[go_sem,↓reduceIte,e0,e2,e8,e7,hw1]
      ·simp(disch:=omega) only[go_sem,↓reduceIte,e0,e2,e8,e7]
      ·cases hsb:s.bad with
       | true=>rfl
       | false=>
        rw[hsb] at hb;rw[Ai3,show isW l s.k [w]=false by simpa using hb];rfl
     | true=>
      simp(disch:=omega) only[go_sem,↓reduceIte,e0,e2,e8,e7,dW,List.map_cons,List.map_nil,List.getElem?_cons_zero,List.getElem?_cons_succ,List.length_cons,List.length_nil];refine Ai.monoR (Dh G K 1 2 v hr hl hk (by decide) (by decide)) ?_;rw[Mh hv2];simp only[Bool.and_eq_true,Bool.not_eq_true'] at hb;cases hb2:(!s.bad&&isW l (s.k+1) [v]) with
      | false=>
       simp(disch:=omega) only[go_sem,↓reduceIte,e0,e2,e8,e7,dW,List.map_cons,List.map_nil,List.getElem?_cons_zero,List.getElem?_cons_succ,List.length_cons,List.length_nil];refine⟨j+1,_,Ni.refl _,hgo _ (if s.bad then 0 else(opF l 0 s.k (Kn (lo+j-1) j)).1) ?_ ?_ ?_ ?_ ?_,by omega⟩
       ·simp(disch:=omega) only[go_sem,↓reduceIte,e0,e2,e8,e7]
       ·simp(disch:=omega) only[go_sem,↓reduceIte,e0,e2,e8,e7]
       ·simp(disch:=omega) only[go_sem,↓reduceIte,e0,e2,e8,e7,hw1]
       ·simp(disch:=omega) only[go_sem,↓reduceIte,e0,e2,e8,e7]
       ·rw[hb.1] at hb2;rw[Ai3,show isW l (s.k+1) [v]=false by simpa using hb2,Bool.and_false];rfl
      | true=>
       simp(disch:=omega) only[go_sem,↓reduceIte,e0,e2,e8,e7,dW,List.map_cons,List.map_nil,List.getElem?_cons_zero,List.getElem?_cons_succ,List.length_cons,List.length_nil];refine⟨j+1,_,Ni.refl _,hgo _ o ?_ ?_ ?_ ?_ ?_,by omega⟩
       ·simp(disch:=omega) only[go_sem,↓reduceIte,e0,e2,e8,e7]
       ·simp(disch:=omega) only[go_sem,↓reduceIte,e0,e2,e8,e7]
       ·simp(disch:=omega) only[go_sem,↓reduceIte,e0,e2,e8,e7,hw1]
       ·simp(disch:=omega) only[go_sem,↓reduceIte,e0,e2,e8,e7]
       ·simp only[Bool.and_eq_true,Bool.not_eq_true'] at hb2;rw[Ai3,hb.1,hb.2,hb2.2];rfl
    | false=>
     simp(disch:=omega) only[go_sem,↓reduceIte,e0,e2,e8,e7,dW,List.map_cons,List.map_nil,List.getElem?_cons_zero,List.getElem?_cons_succ,List.length_cons,List.length_nil];refine Ai.monoR (Dh G K 0 4 w hr hl hk (by decide) (by decide)) ?_;rw[hkw 4 (by rw[Ea,hkb];rfl)];cases hb:(!s.bad&&isW l s.k [w]) with
     | false=>
      simp(disch:=omega) only[go_sem,↓reduceIte,e0,e2,e8,e7,dW,List.map_cons,List.map_nil,List.getElem?_cons_zero,List.getElem?_cons_succ,List.length_cons,List.length_nil];refine⟨j+1,_,Ni.refl _,hgo _ (if s.bad then 0 else(opF l 0 s.k (Kn (lo+j-1) j)).1) ?_ ?_ ?_ ?_ ?_,by omega⟩
      ·simp(disch:=omega) only[go_sem,↓reduceIte,e0,e2,e8,e7]
      ·simp(disch:=omega) only[go_sem,↓reduceIte,e0,e2,e8,e7]
      ·simp(disch:=omega) only[go_sem,↓reduceIte,e0,e2,e8,e7,hw1]
      ·simp(disch:=omega) only[go_sem,↓reduceIte,e0,e2,e8,e7]
      ·cases hsb:s.bad with
       | true=>rfl
       | false=>
        rw[hsb] at hb;rw[Ai3,show isW l s.k [w]=false by simpa using hb];rfl
     | true=>
      simp(disch:=omega) only[go_sem,↓reduceIte,e0,e2,e8,e7,dW,List.map_cons,List.map_nil,List.getElem?_cons_zero,List.getElem?_cons_succ,List.length_cons,List.length_nil];refine Ai.monoR (Dh G K 1 2 v hr hl hk (by decide) (by decide)) ?_;rw[Mh hv2];simp only[Bool.and_eq_true,Bool.not_eq_true'] at hb;cases hb2:(!s.bad&&isW l (s.k+1) [v]) with
      | false=>
       simp(disch:=omega) only[go_sem,↓reduceIte,e0,e2,e8,e7,dW,List.map_cons,List.map_nil,List.getElem?_cons_zero,List.getElem?_cons_succ,List.length_cons,List.length_nil];refine⟨j+1,_,Ni.refl _,hgo _ (if s.bad then 0 else(opF l 0 s.k (Kn (lo+j-1) j)).1) ?_ ?_ ?_ ?_ ?_,by omega⟩
       ·simp(disch:=omega) only[go_sem,↓reduceIte,e0,e2,e8,e7]
       ·simp(disch:=omega) only[go_sem,↓reduceIte,e0,e2,e8,e7]
       ·simp(disch:=omega) only[go_sem,↓reduceIte,e0,e2,e8,e7,hw1]
       ·simp(disch:=omega) only[go_sem,↓reduceIte,e0,e2,e8,e7]
       ·rw[hb.1] at hb2;rw[Ai3,show isW l (s.k+1) [v]=false by simpa using hb2,Bool.and_false];rfl
      | true=>
       simp(disch:=omega) only[go_sem,↓reduceIte,e0,e2,e8,e7,dW,List.map_cons,List.map_nil,List.getElem?_cons_zero,List.getElem?_cons_succ,List.length_cons,List.length_nil];refine⟨j+1,_,Ni.refl _,hgo _ o ?_ ?_ ?_ ?_ ?_,by omega⟩
       ·simp(disch:=omega) only[go_sem,↓reduceIte,e0,e2,e8,e7]
       ·simp(disch:=omega) only[go_sem,↓reduceIte,e0,e2,e8,e7]
       ·simp(disch:=omega) only[go_sem,↓reduceIte,e0,e2,e8,e7,hw1]
       ·simp(disch:=omega) only[go_sem,↓reduceIte,e0,e2,e8,e7]
       ·simp only[Bool.and_eq_true,Bool.not_eq_true'] at hb2;rw[Ai3,hb.1,hb.2,hb2.2];rfl
  ·have hj2:j=n+1:=by omega
   subst hj2;have hlt': ¬((lo+(n+1):Nat):Int)<=((lo+n:Nat):Int):=by omega
   simp(disch:=omega) only[go_sem,↓reduceIte,e0,e2,e8,e7,hlt'];exact Nu.refl ⟨rfl,rfl⟩
end
end Go.Dl
