/- The data level and the contracts of the functions that are reached (part 8). -/
import Derived.Test.YtlahodmjhbpfiaaGreatDoorPug
set_option linter.unusedSimpArgs false
set_option linter.unusedVariables false
set_option linter.unusedSectionVars false
-- Chapter 3: the reference's Words (printed by gen_w7.py).
namespace Go.Dl
open Go Go.Proofs
set_option maxRecDepth 100000
section
variable {G:Nat->DVal} {H0 H:Ab}
set_option maxHeartbeats 4000000 in
theorem Ci7 (G:Nat->DVal) (H:Ab) (o:Nat) (ho:o<22):Ae Tryz.prog G 393 [.int .u8 o] H (Ba (dW (Eh o)) H):=by
 refine Aa Tryz.func393 Tryz.call393 rfl (by kernel_rfl) ?_;simp(disch:=omega)only[go_sem];intro b1 hb1;dsimp only at hb1;obtain⟨K1,hK1⟩: ∃K,K=upd H b1 (some (.cells [.str [43]] 9)):=⟨_,rfl⟩;rw[<-hK1];simp(disch:=omega)only[go_sem];intro b2 hb2;dsimp only at hb2;obtain⟨K2,hK2⟩: ∃K,K=upd K1 b2 (some (.cells [.str [45]] 9)):=⟨_,rfl⟩;rw[<-hK2];simp(disch:=omega)only[go_sem];intro b3 hb3;dsimp only at hb3;obtain⟨K3,hK3⟩: ∃K,K=upd K2 b3 (some (.cells [.str [42]] 9)):=⟨_,rfl⟩;rw[<-hK3];simp(disch:=omega)only[go_sem];intro b4 hb4;dsimp only at hb4;obtain⟨K4,hK4⟩: ∃K,K=upd K3 b4 (some (.cells [.str [47]] 9)):=⟨_,rfl⟩;rw[<-hK4];simp(disch:=omega)only[go_sem];intro b5 hb5;dsimp only at hb5;obtain⟨K5,hK5⟩: ∃K,K=upd K4 b5 (some (.cells [.str [109,111,100]] 9)):=⟨_,rfl⟩;rw[<-hK5];simp(disch:=omega)only[go_sem];intro b6 hb6;dsimp only at hb6;obtain⟨K6,hK6⟩: ∃K,K=upd K5 b6 (some (.cells [.str [114,101,109]] 9)):=⟨_,rfl⟩;rw[<-hK6];simp(disch:=omega)only[go_sem];intro b7 hb7;dsimp only at hb7;obtain⟨K7,hK7⟩: ∃K,K=upd K6 b7 (some (.cells [.str [61]] 9)):=⟨_,rfl⟩;rw[<-hK7];simp(disch:=omega)only[go_sem];intro b8 hb8;dsimp only at hb8;obtain⟨K8,hK8⟩: ∃K,K=upd K7 b8 (some (.cells [.str [47,61]] 9)):=⟨_,rfl⟩;rw[<-hK8];simp(disch:=omega)only[go_sem];intro b9 hb9;dsimp only at hb9;obtain⟨K9,hK9⟩: ∃K,K=upd K8 b9 (some (.cells [.str [60]] 9)):=⟨_,rfl⟩;rw[<-hK9];simp(disch:=omega)only[go_sem];intro b10 hb10;dsimp only at hb10;obtain⟨K10,hK10⟩: ∃K,K=upd K9 b10 (some (.cells [.str [60,61]] 9)):=⟨_,rfl⟩;rw[<-hK10];simp(disch:=omega)only[go_sem];intro b11 hb11;dsimp only at hb11;obtain⟨K11,hK11⟩: ∃K,K=upd K10 b11 (some (.cells [.str [62]] 9)):=⟨_,rfl⟩;rw[<-hK11];simp(disch:=omega)only[go_sem];intro b12 hb12;dsimp only at hb12;obtain⟨K12,hK12⟩: ∃K,K=upd K11 b12 (some (.cells [.str [62,61]] 9)):=⟨_,rfl⟩;rw[<-hK12];simp(disch:=omega)only[go_sem];intro b13 hb13;dsimp only at hb13;obtain⟨K13,hK13⟩: ∃K,K=upd K12 b13 (some (.cells [.str [97,110,100]] 9)):=⟨_,rfl⟩;rw[<-hK13];simp(disch:=omega)only[go_sem];intro b14 hb14;dsimp only at hb14;obtain⟨K14,hK14⟩: ∃K,K=upd K13 b14 (some (.cells [.str [111,114]] 9)):=⟨_,rfl⟩;rw[<-hK14];simp(disch:=omega)only[go_sem];intro b15 hb15;dsimp only at hb15;obtain⟨K15,hK15⟩: ∃K,K=upd K14 b15 (some (.cells [.str [120,111,114]] 9)):=⟨_,rfl⟩;rw[<-hK15];simp(disch:=omega)only[go_sem];intro b16 hb16;dsimp only at hb16;obtain⟨K16,hK16⟩: ∃K,K=upd K15 b16 (some (.cells [.str [97,110,100], .str [116,104,101,110]] 9)):=⟨_,rfl⟩;rw[<-hK16];simp(disch:=omega)only[go_sem];intro b17 hb17;dsimp only at hb17;obtain⟨K17,hK17⟩: ∃K,K=upd K16 b17 (some (.cells [.str [111,114], .str [101,108,115,101]] 9)):=⟨_,rfl⟩;rw[<-hK17];simp(disch:=omega)only[go_sem];intro b18 hb18;dsimp only at hb18;obtain⟨K18,hK18⟩: ∃K,K=upd K17 b18 (some (.cells [.str [43]] 9)):=⟨_,rfl⟩;rw[<-hK18];simp(disch:=omega)only[go_sem];intro b19 hb19;dsimp only at hb19;obtain⟨K19,hK19⟩: ∃K,K=upd K18 b19 (some (.cells [.str [45]] 9)):=⟨_,rfl⟩;rw[<-hK19];simp(disch:=omega)only[go_sem];intro b20 hb20;dsimp only at hb20;obtain⟨K20,hK20⟩: ∃K,K=upd K19 b20 (some (.cells [.str [97,98,115]] 9)):=⟨_,rfl⟩;rw[<-hK20];simp(disch:=omega)only[go_sem];intro b21 hb21;dsimp only at hb21;obtain⟨K21,hK21⟩: ∃K,K=upd K20 b21 (some (.cells [.str [110,111,116]] 9)):=⟨_,rfl⟩;rw[<-hK21];simp(disch:=omega)only[go_sem];intro b22 hb22;dsimp only at hb22;obtain⟨K22,hK22⟩: ∃K,K=upd K21 b22 (some (.cells [.nilSlice, .oslice 1 b1 0 1 1, .oslice 1 b2 0 1 1, .oslice 1 b3 0 1 1, .oslice 1 b4 0 1 1, .oslice 1 b5 0 1 1, .oslice 1 b6 0 1 1, .oslice 1 b7 0 1 1, .oslice 1 b8 0 1 1, .oslice 1 b9 0 1 1, .oslice 1 b10 0 1 1, .oslice 1 b11 0 1 1, .oslice 1 b12 0 1 1, .oslice 1 b13 0 1 1, .oslice 1 b14 0 1 1, .oslice 1 b15 0 1 1, .oslice 1 b16 0 2 2, .oslice 1 b17 0 2 2, .oslice 1 b18 0 1 1, .oslice 1 b19 0 1 1, .oslice 1 b20 0 1 1, .oslice 1 b21 0 1 1] 54)):=⟨_,rfl⟩;rw[<-hK22];have s1:Sub H K1:=by rw[hK1];exact(Sub.refl _).new hb1 _
 have s2:Sub K1 K2:=by rw[hK2];exact(Sub.refl _).new hb2 _
 have s3:Sub K2 K3:=by rw[hK3];exact(Sub.refl _).new hb3 _
 have s4:Sub K3 K4:=by rw[hK4];exact(Sub.refl _).new hb4 _
 have s5:Sub K4 K5:=by rw[hK5];exact(Sub.refl _).new hb5 _
 have s6:Sub K5 K6:=by rw[hK6];exact(Sub.refl _).new hb6 _
 have s7:Sub K6 K7:=by rw[hK7];exact(Sub.refl _).new hb7 _
 have s8:Sub K7 K8:=by rw[hK8];exact(Sub.refl _).new hb8 _
 have s9:Sub K8 K9:=by rw[hK9];exact(Sub.refl _).new hb9 _
 have s10:Sub K9 K10:=by rw[hK10];exact(Sub.refl _).new hb10 _
 have s11:Sub K10 K11:=by rw[hK11];exact(Sub.refl _).new hb11 _
 have s12:Sub K11 K12:=by rw[hK12];exact(Sub.refl _).new hb12 _
 have s13:Sub K12 K13:=by rw[hK13];exact(Sub.refl _).new hb13 _
 have s14:Sub K13 K14:=by rw[hK14];exact(Sub.refl _).new hb14 _
 have s15:Sub K14 K15:=by rw[hK15];exact(Sub.refl _).new hb15 _
 have s16:Sub K15 K16:=by rw[hK16];exact(Sub.refl _).new hb16 _
 have s17:Sub K16 K17:=by rw[hK17];exact(Sub.refl _).new hb17 _
 have s18:Sub K17 K18:=by rw[hK18];exact(Sub.refl _).new hb18 _
 have s19:Sub K18 K19:=by rw[hK19];exact(Sub.refl _).new hb19 _
 have s20:Sub K19 K20:=by rw[hK20];exact(Sub.refl _).new hb20 _
 have s21:Sub K20 K21:=by rw[hK21];exact(Sub.refl _).new hb21 _
 have s22:Sub K21 K22:=by rw[hK22];exact(Sub.refl _).new hb22 _
 have t22:Sub K22 K22:=Sub.refl _;have t21:Sub K21 K22:=s22.trans t22;have t20:Sub K20 K22:=s21.trans t21;have t19:Sub K19 K22:=s20.trans t20;have t18:Sub K18 K22:=s19.trans t19;have t17:Sub K17 K22:=s18.trans t18;have t16:Sub K16 K22:=s17.trans t17;have t15:Sub K15 K22:=s16.trans t16;have t14:Sub K14 K22:=s15.trans t15;have t13:Sub K13 K22:=s14.trans t14;have t12:Sub K12 K22:=s13.trans t13;have t11:Sub K11 K22:=s12.trans t12;have t10:Sub K10 K22:=s11.trans t11;have t9:Sub K9 K22:=s10.trans t10;have t8:Sub K8 K22:=s9.trans t9;have t7:Sub K7 K22:=s8.trans t8;have t6:Sub K6 K22:=s7.trans t7;have t5:Sub K5 K22:=s6.trans t6;have t4:Sub K4 K22:=s5.trans t5;have t3:Sub K3 K22:=s4.trans t4;have t2:Sub K2 K22:=s3.trans t3;have t1:Sub K1 K22:=s2.trans t2;have t0:Sub H K22:=s1.trans t1;have u1:Sub H H:=Sub.refl H;have u2:Sub H K1:=u1.trans s1;have u3:Sub H K2:=u2.trans s2;have u4:Sub H K3:=u3.trans s3;have u5:Sub H K4:=u4.trans s4;have u6:Sub H K5:=u5.trans s5;have u7:Sub H K6:=u6.trans s6;have u8:Sub H K7:=u7.trans s7;have u9:Sub H K8:=u8.trans s8;have u10:Sub H K9:=u9.trans s9;have u11:Sub H K10:=u10.trans s10;have u12:Sub H K11:=u11.trans s11;have u13:Sub H K12:=u12.trans s12;have u14:Sub H K13:=u13.trans s13;have u15:Sub H K14:=u14.trans s14;have u16:Sub H K15:=u15.trans s15;have u17:Sub H K16:=u16.trans s16;have u18:Sub H K17:=u17.trans s17;have u19:Sub H K18:=u18.trans s18;have u20:Sub H K19:=u19.trans s19;have u21:Sub H K20:=u20.trans s20;have u22:Sub H K21:=u21.trans s21;have hsT:Sub H K22:=u22.trans s22;have c1:K22 b1=some (.cells [.str [43]] 9):=t1 _ _ (by rw[hK1];exact Ac _ _ _);have c2:K22 b2=some (.cells [.str [45]] 9):=t2 _ _ (by rw[hK2];exact Ac _ _ _);have c3:K22 b3=some (.cells [.str [42]] 9):=t3 _ _ (by rw[hK3];exact Ac _ _ _);have c4:K22 b4=some (.cells [.str [47]] 9):=t4 _ _ (by rw[hK4];exact Ac _ _ _);have c5:K22 b5=some (.cells [.str [109,111,100]] 9):=t5 _ _ (by rw[hK5];exact Ac _ _ _);have c6:K22 b6=some (.cells [.str [114,101,109]] 9):=t6 _ _ (by rw[hK6];exact Ac _ _ _);have c7:K22 b7=some (.cells [.str [61]] 9):=t7 _ _ (by rw[hK7];exact Ac _ _ _);have c8:K22 b8=some (.cells [.str [47,61]] 9):=t8 _ _ (by rw[hK8];exact Ac _ _ _);have c9:K22 b9=some (.cells [.str [60]] 9):=t9 _ _ (by rw[hK9];exact Ac _ _ _);have c10:K22 b10=some (.cells [.str [60,61]] 9):=t10 _ _ (by rw[hK10];exact Ac _ _ _);have c11:K22 b11=some (.cells [.str [62]] 9):=t11 _ _ (by rw[hK11];exact Ac _ _ _);have c12:K22 b12=some (.cells [.str [62,61]] 9):=t12 _ _ (by rw[hK12];exact Ac _ _ _);have c13:K22 b13=some (.cells [.str [97,110,100]] 9):=t13 _ _ (by rw[hK13];exact Ac _ _ _);have c14:K22 b14=some (.cells [.str [111,114]] 9):=t14 _ _ (by rw[hK14];exact Ac _ _ _);have c15:K22 b15=some (.cells [.str [120,111,114]] 9):=t15 _ _ (by rw[hK15];exact Ac _ _ _);have c16:K22 b16=some (.cells [.str [97,110,100], .str [116,104,101,110]] 9):=t16 _ _ (by rw[hK16];exact Ac _ _ _);have c17:K22 b17=some (.cells [.str [111,114], .str [101,108,115,101]] 9):=t17 _ _ (by rw[hK17];exact Ac _ _ _);have c18:K22 b18=some (.cells [.str [43]] 9):=t18 _ _ (by rw[hK18];exact Ac _ _ _);have c19:K22 b19=some (.cells [.str [45]] 9):=t19 _ _ (by rw[hK19];exact Ac _ _ _);have c20:K22 b20=some (.cells [.str [97,98,115]] 9):=t20 _ _ (by rw[hK20];exact Ac _ _ _);have c21:K22 b21=some (.cells [.str [110,111,116]] 9):=t21 _ _ (by rw[hK21];exact Ac _ _ _);have c22:K22 b22=some (.cells [.nilSlice, .oslice 1 b1 0 1 1, .oslice 1 b2 0 1 1, .oslice 1 b3 0 1 1, .oslice 1 b4 0 1 1, .oslice 1 b5 0 1 1, .oslice 1 b6 0 1 1, .oslice 1 b7 0 1 1, .oslice 1 b8 0 1 1, .oslice 1 b9 0 1 1, .oslice 1 b10 0 1 1, .oslice 1 b11 0 1 1, .oslice 1 b12 0 1 1, .oslice 1 b13 0 1 1, .oslice 1 b14 0 1 1, .oslice 1 b15 0 1 1, .oslice 1 b16 0 2 2, .oslice 1 b17 0 2 2, .oslice 1 b18 0 1 1, .oslice 1 b19 0 1 1, .oslice 1 b20 0 1 1, .oslice 1 b21 0 1 1] 54):=t22 _ _ (by rw[hK22];exact Ac _ _ _);obtain⟨cs,hcs⟩: ∃cs:List DVal,cs= [.nilSlice, .oslice 1 b1 0 1 1, .oslice 1 b2 0 1 1, .oslice 1 b3 0 1 1, .oslice 1 b4 0 1 1, .oslice 1 b5 0 1 1, .oslice 1 b6 0 1 1, .oslice 1 b7 0 1 1, .oslice 1 b8 0 1 1, .oslice 1 b9 0 1 1, .oslice 1 b10 0 1 1, .oslice 1 b11 0 1 1, .oslice 1 b12 0 1 1, .oslice 1 b13 0 1 1, .oslice 1 b14 0 1 1, .oslice 1 b15 0 1 1, .oslice 1 b16 0 2 2, .oslice 1 b17 0 2 2, .oslice 1 b18 0 1 1, .oslice 1 b19 0 1 1, .oslice 1 b20 0 1 1, .oslice 1 b21 0 1 1]:=⟨_,rfl⟩;rw[<-hcs] at c22;have hl:cs.length=22:=by rw[hcs];rfl
 obtain⟨d,hd⟩: ∃d,cs[o]? =some d:=⟨_,List.getElem?_eq_getElem (by omega)⟩;have hs:Qg K22 d H (dW (Eh o)):=by
  rw[hcs] at hd;have hcas:o=0\/o=1\/o=2\/o=3\/o=4\/o=5\/o=6\/o=7\/o=8\/o=9\/o=10\/o=11\/o=12\/o=13\/o=14\/o=15\/o=16\/o=17\/o=18\/o=19\/o=20\/o=21:=by omega
  rcases hcas with rfl | rfl | rfl | rfl | rfl | rfl | rfl | rfl | rfl | rfl | rfl | rfl | rfl | rfl | rfl | rfl | rfl | rfl | rfl | rfl | rfl | rfl
  ·cases hd;exact Qg.nil hsT
  ·cases hd;exact Qg.block hsT (u1.lo hb1) c1 rfl
  ·cases hd;exact Qg.block hsT (u2.lo hb2) c2 rfl
  ·cases hd;exact Qg.block hsT (u3.lo hb3) c3 rfl
  ·cases hd;exact Qg.block hsT (u4.lo hb4) c4 rfl
  ·cases hd;exact Qg.block hsT (u5.lo hb5) c5 rfl
  ·cases hd;exact Qg.block hsT (u6.lo hb6) c6 rfl
  ·cases hd;exact Qg.block hsT (u7.lo hb7) c7 rfl
  ·cases hd;exact Qg.block hsT (u8.lo hb8) c8 rfl
  ·cases hd;exact Qg.block hsT (u9.lo hb9) c9 rfl
  ·cases hd;exact Qg.block hsT (u10.lo hb10) c10 rfl
  ·cases hd;exact Qg.block hsT (u11.lo hb11) c11 rfl
  ·cases hd;exact Qg.block hsT (u12.lo hb12) c12 rfl
  ·cases hd;exact Qg.block hsT (u13.lo hb13) c13 rfl
  ·cases hd;exact Qg.block hsT (u14.lo hb14) c14 rfl
  ·cases hd;exact Qg.block hsT (u15.lo hb15) c15 rfl
  ·cases hd;exact Qg.block hsT (u16.lo hb16) c16 rfl
  ·cases hd;exact Qg.block hsT (u17.lo hb17) c17 rfl
  ·cases hd;exact Qg.block hsT (u18.lo hb18) c18 rfl
  ·cases hd;exact Qg.block hsT (u19.lo hb19) c19 rfl
  ·cases hd;exact Qg.block hsT (u20.lo hb20) c20 rfl
  ·cases hd;exact Qg.block hsT (u21.lo hb21) c21 rfl
 have h22: ¬(22:Int)<=(o:Int):=by omega
 have h22b:(o:Int)<22:=by omega
 have hwr:IntKind.i64.wrap (o:Int)=(o:Int):=by rw[IntKind.wrap_i64];omega
 clear s1 s2 s3 s4 s5 s6 s7 s8 s9 s10 s11 s12 s13 s14 s15 s16 s17 s18 s19 s20 s21 s22 t0 t1 t2 t3 t4 t5 t6 t7 t8 t9 t10 t11 t12 t13 t14 t15 t16 t17 t18 t19 t20 t21 t22;simp(disch:=omega)only[go_sem,hwr,h22,h22b,c22,hd,jD];exact Qg.fin hsT hs ⟨rfl,rfl⟩
end
end Go.Dl

-- Chapter 3: the reference's tokens: operators, levels, parts.
namespace Go.Dl
open Go Go.Proofs
set_option maxRecDepth 100000
section
variable {G:Nat->DVal}
set_option maxHeartbeats 4000000 in
theorem Bb5 (G:Nat->DVal) (H:Ab) (o:Nat) (ho:o<22):Ae Tryz.prog G 357 [.int .u8 o] H (Ba (Aq ((Eh o).map Aj)) H):=by
 have hwl:=Ct4 o;suffices hown:Ae Tryz.prog G 357 [.int .u8 o] H (fun e H'=> ∃v,e= .ret v/\Df H 31 4 ((Eh o).map Aj).length (((Eh o).map Aj).flatMap Af) v H') from hown.frozenJ
 refine Aa Tryz.func357 Tryz.call357 rfl (by kernel_rfl) ?_;simp(disch:=omega)only[go_sem];refine(Ci7 G H o ho).mono ?_;rintro _ K ⟨rfl,rfl⟩;obtain⟨ws,hws⟩: ∃ws,ws=Eh o:=⟨_,rfl⟩;rw[<-hws] at hwl⊢
 simp(disch:=omega)only[go_sem];obtain⟨I,hI⟩: ∃I:Nat->(Nat->DVal)->Ab->Prop,∀j env heap,I j env heap↔(env 0= .int .u8 o/\env 4=dW ws/\env 5=dI j/\j<=ws.length/\Df K 31 4 ((ws.take j).map Aj).length (((ws.take j).map Aj).flatMap Af) (env 3) heap):=⟨_,fun _ _ _=>Iff.rfl⟩;refine Dt1.run I (fun j=>ws.length-j) 0 ((hI _ _ _).2 ?_) ?_
 ·simp(disch:=omega)only[go_sem];(repeat' apply And.intro)<;>(try first | rfl | assumption | omega);exact Df.nil _ _ (Sub.refl K)
 ·intro j env heap hi;obtain⟨e0,e4,e5,hj,hv⟩:=(hI _ _ _).1 hi;by_cases hlt:j<ws.length
  ·have hlt':(j:Int)<(ws.length:Int):=by omega
   have hw1:IntKind.i64.wrap ((j:Int)+1)=((j+1:Nat):Int):=by rw[IntKind.wrap_i64];omega
   have Aw:(ws.map DVal.str)[j]? =some (.str ws[j]):=by rw[List.getElem?_map,List.getElem?_eq_getElem hlt];rfl
   have hml:(ws.map DVal.str).length=ws.length:=jK _;have htk:(ws.take (j+1)).map Aj=(ws.take j).map Aj++ [Aj ws[j]]:=by rw[List.take_add_one,List.getElem?_eq_getElem hlt,Option.toList_some,List.map_append,List.map_singleton]
   obtain⟨s,hse⟩: ∃s,s=ws[j]:=⟨_,rfl⟩;rw[<-hse] at Aw htk;obtain⟨v,hve⟩: ∃v,v=env 3:=⟨_,rfl⟩;rw[<-hve] at hv;simp(disch:=omega)only[go_sem,e0,e4,e5,<-hve,hlt',dW,Aw,hml,jD];refine(Bk2 G _ s).mono ?_;rintro _ H1 ⟨rfl,rfl⟩;cases hkb:As4 s with
   | true=>
    have hk:Aj s=Az s:=by rw[Aj,Dz,hkb];rfl
    simp(disch:=omega)only[go_sem,e0,e4,e5,<-hve,dW,Aw,hml,jD];refine(Ho G _ s).mono ?_;rintro _ H2 ⟨rfl,rfl⟩;simp(disch:=omega)only[go_sem,e0,e4,e5];intro r25 hr25;dsimp only at hr25;have hv6:=hv.new hr25 (some (.cells (Af (Aj s)) 31));simp(disch:=omega)only[go_sem,e0,e4,e5,Af];rw[hk] at hv6;refine Df.append (m:=1) hv6 rfl (by rw[jK,List.length_take];omega) fun v2 H6 hv2=> ?_;simp(disch:=omega)only[go_sem,e0,e4,e5];refine⟨j+1,_,Ws.refl _,(hI _ _ _).2 ?_,by omega⟩;simp(disch:=omega)only[go_sem,e0,e4,e5,hw1];(repeat' apply And.intro)<;>(try first | rfl | assumption | omega);rw[htk,Ea,hk,show(ws.take (j+1)).length=((ws.take j).map Aj).length+1 by rw[jK,List.length_take,List.length_take];omega];exact hv2
   | false=>
    have hk:Aj s=Bb s:=by rw[Aj,Dz,hkb];rfl
    simp(disch:=omega)only[go_sem,e0,e4,e5,<-hve,dW,Aw,hml,jD];refine(Cn G _ s).mono ?_;rintro _ H2 ⟨rfl,rfl⟩;simp(disch:=omega)only[go_sem,e0,e4,e5];intro r25 hr25;dsimp only at hr25;have hv6:=hv.new hr25 (some (.cells (Af (Aj s)) 31));simp(disch:=omega)only[go_sem,e0,e4,e5,Af];rw[hk] at hv6;refine Df.append (m:=1) hv6 rfl (by rw[jK,List.length_take];omega) fun v2 H6 hv2=> ?_;simp(disch:=omega)only[go_sem,e0,e4,e5];refine⟨j+1,_,Ws.refl _,(hI _ _ _).2 ?_,by omega⟩;simp(disch:=omega)only[go_sem,e0,e4,e5,hw1];(repeat' apply And.intro)<;>(try first | rfl | assumption | omega);rw[htk,Ea,hk,show(ws.take (j+1)).length=((ws.take j).map Aj).length+1 by rw[jK,List.length_take,List.length_take];omega];exact hv2
  ·have:j=ws.length:=by omega
   subst this;have hlt': ¬(ws.length:Int)<(ws.length:Int):=by omega
   rw[List.take_length,jK] at hv;simp(disch:=omega)only[go_sem,e0,e4,e5,hlt',dW];exact Wj.refl ⟨_,rfl,hv⟩
def Hg (e:Ex) (i:Nat):Int:=if e.kind=12 then(if i=0 then Ge e else Hk e) else if Bo e=1 then 2 else Jp e
set_option maxHeartbeats 8000000 in
theorem Xt (G:Nat->DVal) (H:Ab) (e:Ex) (i:Nat) (hi:i=0\/i=1) (hk:e.kind=11\/e.kind=12\/e.kind=13\/e.kind=14) (h12:e.kind=12->2<=e.l.length):Ae Tryz.prog G 359 [.agg (dEx e),dI i] H (Ba (dI (Hg e i)) H):=by
 have hfl:=Al Ad e.l;have hlv:=Af1 e;have hwl1:IntKind.i64.wrap (Bo e+1)=Bo e+1:=by rw[IntKind.wrap_i64];omega
 refine Aa Tryz.func359 Tryz.call359 rfl (by kernel_rfl) ?_;simp(disch:=omega)only[go_sem,DVal.cells];intro r2 hr2;dsimp only at hr2;simp(disch:=omega)only[go_sem];refine(Xh G _ e).mono ?_;rintro _ K ⟨rfl,rfl⟩;have hs:Sub H (upd H r2 (some (.cells (dEx e) 27))):=(Sub.refl H).new hr2 _;by_cases k12:e.kind=12
 ·have hl2:=h12 k12;obtain⟨x,hx⟩: ∃x,x=e.l.getD 0 ex0:=⟨_,rfl⟩;obtain⟨y,m,hm⟩: ∃y m,e.l=y::m:=by
   cases hc:e.l with
   | nil=>rw[hc] at hl2;simp at hl2
   | cons y m=>exact⟨y,m,rfl⟩
  have hxy:x=y:=by rw[hx,hm];rfl
  have hlp:(0:Nat)<e.l.length:=by omega
  have hx0:(e.l.flatMap dEx)[0]? =some (.int .u8 x.kind):=by rw[hm,List.flatMap_cons,Ki,hxy];rfl
  have hx1:(e.l.flatMap dEx)[1]? =some (.int .u8 x.oper):=by rw[hm,List.flatMap_cons,Ki,hxy];rfl
  by_cases c0:Bo e=0
  ·rcases hi with rfl | rfl
   ·have hP:Hg e 0=if x.kind=12/\x.oper=e.oper then 0 else 1:=by
     rw[Hg,if_pos k12,if_pos rfl,Ge,c0,if_neg (by decide),<-hx];by_cases cc:x.kind=12/\x.oper=e.oper
     ·rw[if_pos cc,if_neg (by rintro⟨_,a | a⟩;exact a cc.1;exact a cc.2)]
     ·rw[if_neg cc,if_pos ⟨rfl,by by_cases c1:x.kind=12;exact .inr fun a=>cc ⟨c1,a⟩;exact .inl c1⟩]
    rw[hP];have z0:((0:Nat):Int)=0:=rfl;simp(disch:=omega)only[go_sem,k12,c0,z0];refine Ak (by kernel_rfl) pL4 (by kernel_rfl) ?_;by_cases ck:x.kind=12
    ·by_cases co:x.oper=e.oper
     ·simp(disch:=omega)only[go_sem,hlp,hfl,hx0,hx1,ck,co,z0];exact Wj.sub hs (.refl ⟨rfl,rfl⟩)
     ·simp(disch:=omega)only[go_sem,hlp,hfl,hx0,hx1,ck,co,z0];exact Wj.sub hs (.refl ⟨rfl,rfl⟩)
    ·simp(disch:=omega)only[go_sem,hlp,hfl,hx0,hx1,ck,z0];exact Wj.sub hs (.refl ⟨rfl,rfl⟩)
   ·have hP:Hg e 1=1:=by rw[Hg,if_pos k12,if_neg (by decide),Hk,c0];rfl
    rw[hP];have z0:((1:Nat):Int)=1:=rfl;simp(disch:=omega)only[go_sem,k12,c0,z0];refine Ak (by kernel_rfl) pL4 (by kernel_rfl) ?_;simp(disch:=omega)only[go_sem,hlp,hfl,hx0,hx1,z0];exact Wj.sub hs (.refl ⟨rfl,rfl⟩)
  ·by_cases c1:Bo e=1
   ·have hP:Hg e i=2:=by
     rw[Hg,if_pos k12,Ge,Hk,if_pos c1,if_pos c1];split<;>rfl
    rw[hP];simp(disch:=omega)only[go_sem,k12,c0,c1];exact Wj.sub hs (.refl ⟨rfl,rfl⟩)
   ·rcases hi with rfl | rfl
    ·have hP:Hg e 0=Bo e:=by rw[Hg,if_pos k12,if_pos rfl,Ge,if_neg c1,if_neg (by rintro⟨a,_⟩;exact c0 a)]
     rw[hP];have z0:((0:Nat):Int)=0:=rfl;simp(disch:=omega)only[go_sem,k12,c0,c1,z0];exact Wj.sub hs (.refl ⟨rfl,rfl⟩)
    ·have hP:Hg e 1=Bo e+1:=by rw[Hg,if_pos k12,if_neg (by decide),Hk,if_neg c1]
     rw[hP];have z0:((1:Nat):Int)=1:=rfl;simp(disch:=omega)only[go_sem,k12,c0,c1,z0,hwl1];exact Wj.sub hs (.refl ⟨rfl,rfl⟩)
 ·by_cases c1:Bo e=1
  ·have hP:Hg e i=2:=by rw[Hg,if_neg k12,if_pos c1]
   rw[hP];simp(disch:=omega)only[go_sem,k12,c1];exact Wj.sub hs (.refl ⟨rfl,rfl⟩)
  ·have k11:e.kind=11:=by
    rcases hk with h | h | h
    ·exact h
    ·exact absurd h k12
    ·exfalso;apply c1;unfold Bo;rw[if_pos h]
   by_cases c2:Bo e=2
   ·have hP:Hg e i=3:=by rw[Hg,if_neg k12,if_neg c1,Jp,if_pos c2]
    rw[hP];simp(disch:=omega)only[go_sem,k11,c2];exact Wj.sub hs (.refl ⟨rfl,rfl⟩)
   ·have hP:Hg e i=5:=by rw[Hg,if_neg k12,if_neg c1,Jp,if_neg c2]
    rw[hP];simp(disch:=omega)only[go_sem,k11,c1,c2];exact Wj.sub hs (.refl ⟨rfl,rfl⟩)
set_option maxHeartbeats 4000000 in
theorem Ek (G:Nat->DVal) (H:Ab) (e:Ex) (lv:Int) (hlen:(Ai e).length<=1000000) (he: ∀H,Ae Tryz.prog G 290 [.agg (dEx e)] H (Ba (Aq (Ai e)) H)):Ae Tryz.prog G 358 [.agg (dEx e),dI lv] H (Ba (Aq (Ay e lv)) H):=by
 refine Aa Tryz.func358 Tryz.call358 rfl (by kernel_rfl) ?_;simp(disch:=omega)only[go_sem,DVal.cells];intro r2 hr2;dsimp only at hr2;obtain⟨K,hK⟩: ∃K',K'=upd H r2 (some (.cells (dEx e) 27)):=⟨_,rfl⟩;rw[<-hK];have g2:K r2=some (.cells (dEx e) 27):=by rw[hK];exact Ac _ _ _
 have hs:Sub H K:=by rw[hK];exact(Sub.refl H).new hr2 _
 simp(disch:=omega)only[go_sem,g2];refine Ae.monoR (Xh G K e) ?_;try simp(disch:=omega)only[go_sem,g2,Af]
 by_cases c:Bo e<lv
 ·have hp:Ay e lv= [[Bb By],Ai e,[Bb Cb]].flatten:=by rw[Ay,decide_eq_true c,Ty,if_pos rfl,Aj,Aj,show Dz By=4 by decide+kernel,show Dz Cb=4 by decide+kernel];simp [Bb]
  rw[hp];simp(disch:=omega)only[go_sem,c];refine Ak (by kernel_rfl) pL53 (by kernel_rfl) ?_;simp(disch:=omega)only[go_sem,g2];refine Ae.monoR (Cn G K By) ?_;try simp(disch:=omega)only[go_sem,g2,Af]
  intro q1 hq1;dsimp only at hq1;have nq1:r2≠q1:=Am hq1 g2;try simp(disch:=omega)only[go_sem,g2,nq1,Af,Ap,Ar,Au,jE,jJ,jL,jI,jG,jH]
  refine Ae.monoR (Rt G K (Bb By) hq1) ?_;try simp(disch:=omega)only[go_sem,g2,Af,nq1]
  refine Ae.monoR (he K) ?_;try simp(disch:=omega)only[go_sem,g2,Af,nq1]
  refine Ae.monoR (Cn G K Cb) ?_;try simp(disch:=omega)only[go_sem,g2,Af,nq1]
  intro q2 hq2;dsimp only at hq2;have nq2:r2≠q2:=Am hq2 g2;try simp(disch:=omega)only[go_sem,g2,nq2,Af,Ap,Ar,Au,jE,jJ,jL,jI,jG,jH]
  refine Ae.monoR (Rt G K (Bb Cb) hq2) ?_;try simp(disch:=omega)only[go_sem,g2,Af,nq1,nq2]
  intro q3 hq3;dsimp only at hq3;have nq3:r2≠q3:=Am hq3 g2;try simp(disch:=omega)only[go_sem,g2,nq3,Af,Ap,Ar,Au,jE,jJ,jL,jI,jG,jH]
  have hj: [[Bb By],Ai e,[Bb Cb]].flatten.length<=100000000:=by rw[<-hp,Ay,Xk];split<;>omega
  refine Ae.monoR (Cw G K [[Bb By],Ai e,[Bb Cb]] hq3 rfl (by simp) hj) ?_;try simp(disch:=omega)only[go_sem,g2,Af,nq1,nq2,nq3]
  exact Wj.sub hs (.refl ⟨rfl,rfl⟩)
 ·have hp:Ay e lv=Ai e:=by rw[Ay,decide_eq_false c];rfl
  rw[hp];simp(disch:=omega)only[go_sem,c,g2];refine Ae.monoR (he K) ?_;try simp(disch:=omega)only[go_sem,g2,Af]
  exact Wj.sub hs (.refl ⟨rfl,rfl⟩)
end
end Go.Dl

-- Chapter 3: the reference's tokens: choices, arguments.
namespace Go.Dl
open Go Go.Proofs
set_option maxRecDepth 100000
def Zd (P:Program) (G:Nat->DVal) (f:FuncId) (e:Ex):Prop:=(Ai e).length<=100000/\ ∀H,Ae P G f [.agg (dEx e)] H (Ba (Aq (Ai e)) H)
theorem Ha (ts:List Tok):(ts.flatMap Af).all (fun d=>d.one)=true:=by
 rw[List.all_eq_true];intro d hd;obtain⟨t,_,hd⟩:=List.mem_flatMap.1 hd;exact List.all_eq_true.1 (Ce8 t) d hd
theorem Fx (ts:List Tok):(ts.flatMap Af).take (ts.length*4)=ts.flatMap Af:=List.take_of_length_le (by rw[Al Gc];omega)
section
variable {G:Nat->DVal}
set_option maxHeartbeats 8000000 in
theorem Vn (G:Nat->DVal) (K:Ab) (l:List Ch) {n:Nat} (hll:l.length<=1000000) (hr: ∀c∈l,Cs n c=true) (ho: ∀c∈l,∀x∈c.l,Zd Tryz.prog G 290 x) (hlen:(Et Mb (l.map Es)).length<=10000000):
  Ae Tryz.prog G 392 [dCl l] K (fun e H'=> ∃v,e= .ret v/\Df K 31 4 (Et Mb (l.map Es)).length ((Et Mb (l.map Es)).flatMap Af) v H'):=by
 refine Aa Tryz.func392 Tryz.call392 rfl (by kernel_rfl) ?_;simp(disch:=omega)only[go_sem];obtain⟨I,hI⟩: ∃I:Nat->(Nat->DVal)->Ab->Prop,∀j env heap,I j env heap↔(env 0=dCl l/\env 4=dI j/\j<=l.length/\Df K 31 4 (Et Mb ((l.take j).map Es)).length ((Et Mb ((l.take j).map Es)).flatMap Af) (env 3) heap):=⟨_,fun _ _ _=>Iff.rfl⟩;refine Dt1.run I (fun j=>l.length-j) 0 ((hI _ _ _).2 ?_) ?_
 ·simp(disch:=omega)only[go_sem];(repeat' apply And.intro)<;>(try first | rfl | assumption | omega);exact Df.nil _ _ (Sub.refl K)
 ·intro j env heap hi;obtain⟨e0,e4,hj,hv⟩:=(hI _ _ _).1 hi;by_cases hlt:j<l.length
  ·have hlt':(j:Int)<(l.length:Int):=by omega
   have hw1:IntKind.i64.wrap ((j:Int)+1)=((j+1:Nat):Int):=by rw[IntKind.wrap_i64];omega
   have hget0:=Bu Cu l j hlt;have hfl:=Al Cu l;have htk:=Ub Es Mb l j hlt;have hle:=Au5 Es Mb l (j+1) hlt;have hrc:=hr l[j] (List.getElem_mem hlt);have hok:=ho l[j] (List.getElem_mem hlt);obtain⟨c,hce⟩: ∃c,c=l[j]:=⟨_,rfl⟩;rw[<-hce] at hget0 htk hrc hok;rw[htk,jC,jC] at hle;have Aw:=Ck Cu l j hlt;rw[<-hce] at Aw;have hg0:(l.flatMap dCh)[j*2]? =some (.int .u8 c.kind):=by have:=Aw 0 (by decide);rw[Nat.add_zero] at this;rw[this,Aa1];rfl
   have hgl:(l.flatMap dCh)[j*2+1]? =some (.vslice (c.l.flatMap dEx) c.l.length):=by rw[Aw 1 (by decide),Aa1];rfl
   have ht4:=fun ts:List Tok=>Al Gc ts;have hfx:=fun e:List Ex=>Al Ad e;clear Aw;have Aw:=hg0;have hcl:(dCl l)= .vslice (l.flatMap dCh) l.length:=rfl;obtain⟨v,hve⟩: ∃v,v=env 3:=⟨_,rfl⟩;rw[<-hve] at hv;simp(disch:=omega)only[go_sem,e0,e4,<-hve,hlt',hcl];by_cases c0:j=0
   ·have c0'': ¬(0:Int)<(j:Int):=by omega
    rw[if_pos c0,jG] at htk;rw[if_pos c0,jB] at hle;obtain⟨pre,hpre⟩: ∃pre,pre=Et Mb ((l.take j).map Es):=⟨_,rfl⟩;rw[<-hpre] at hv htk hle;have hpv:=hv;rw[hve] at hpv;simp(disch:=omega)only[go_sem,e0,e4,c0''];by_cases k1:c.kind=1
    ·obtain⟨x,hx⟩:=Do5 (by simpa [Cs,k1] using hrc);have ht:Es c=Ai x:=by rw[Jv,if_pos k1,hx];rfl
     have hl0:=lx0 hx;have hll:c.l.length=1:=by rw[hx];rfl
     obtain⟨ho1,ho2⟩:=hok x (by rw[hx];simp);rw[ht] at htk hle;simp(disch:=omega)only[go_sem,e0,e4,hcl,Aw,hfl,hgl,jD,k1,hll,hl0,hfx];refine Ae.monoR (ho2 _) ?_;simp(disch:=omega)only[go_sem,Aq,Fx,Ha,ht4];refine Df.append (n:=pre.length) (bytes:=40) (m:=(Ai x).length) (news:=(Ai x).flatMap Af) hpv (Al Gc _) (by omega) fun v2 H2 hv2=> ?_;simp(disch:=omega)only[go_sem,e0,e4];refine⟨j+1,_,Ws.refl _,(hI _ _ _).2 ?_,by omega⟩;simp(disch:=omega)only[go_sem,e0,e4,hw1];(repeat' apply And.intro)<;>(try first | rfl | assumption | omega);rw[<-List.flatMap_append,<-jC] at hv2;rw[htk];exact hv2
    ·by_cases k2:c.kind=2
     ·obtain⟨x,y,hx⟩:=Ct8 (by simpa [Cs,k2] using hrc);have ht:Es c=Ay x 2++([Bb Ep]++Ay y 2):=by rw[Jv,if_neg k1,if_pos k2,hx];rfl
      have hl0:=lx0 hx;have hl1:=lx1 hx;have hll:c.l.length=2:=by rw[hx];rfl
      obtain⟨hx1,hx2⟩:=hok x (by rw[hx];simp);obtain⟨hy1,hy2⟩:=hok y (by rw[hx];simp);have pl1:=Hc x 2;have pl2:=Hc y 2;rw[ht] at htk hle;rw[jC,jC,jQ] at hle;simp(disch:=omega)only[go_sem,e0,e4,hcl,Aw,hfl,hgl,jD,k2];refine Ak (by kernel_rfl) pL10 (by kernel_rfl) ?_;simp(disch:=omega)only[go_sem,e0,e4,hcl,Aw,hfl,hgl,jD,hll,hl0,hl1,hfx];refine Ae.monoR (Ek G _ x 2 (by omega) hx2) ?_;try simp(disch:=omega)only[go_sem,e0,e4,hcl,Aw,hfl,hgl,jD,hll,hl0,hl1,Af]
      refine Ae.monoR (Cn G _ Ep) ?_;try simp(disch:=omega)only[go_sem,e0,e4,hcl,Aw,hfl,hgl,jD,hll,hl0,hl1,Af]
      intro q1 hq1;dsimp only at hq1;have hpv1:=fun z=>hpv.new hq1 z;try simp(disch:=omega)only[go_sem,e0,e4,Ap,jE,jJ,jL,jH]
      refine Ae.monoR (Rt G _ (Bb Ep) hq1) ?_;try simp(disch:=omega)only[go_sem,e0,e4,hcl,Aw,hfl,hgl,jD,hll,hl0,hl1,Af]
      refine Ae.monoR (Ek G _ y 2 (by omega) hy2) ?_;try simp(disch:=omega)only[go_sem,e0,e4,hcl,Aw,hfl,hgl,jD,hll,hl0,hl1,Af]
      obtain⟨hc1,-⟩:=hpv.cell1;simp(disch:=omega)only[go_sem,hc1,Aq,Ap,Ar,Au,jA,jB,jE,jJ,jL,jH,jI,jG];intro q2 hq2;dsimp only at hq2;simp(disch:=omega)only[go_sem,e0,e4,hcl,Aw,hfl,hgl,jD,hll,hl0,hl1];have hpv2:=fun z=>hpv.new hq2 z;have hj: [pre,Ay x 2,[Bb Ep],Ay y 2].flatten.length<=100000000:=by
       simp only[List.flatten_cons,List.flatten_nil,jC,jA,jB];omega
      have hk0:K q2=none:=by
       rcases hkq:K q2 with _ | o
       ·rfl
       ·have:=hpv.keep hkq;rw[hq2] at this;cases this
      refine(Px.call (hpv2 _).sub (.cons (Qg.cells (e:=32) (size:=1) (n:=4) (cs':= [Aq pre,Aq (Ay x 2),Aq [Bb Ep],Aq (Ay y 2)]) (hpv2 _).sub hk0 (Ac _ _ _) rfl (.cons (.own (hpv2 _)) (.keep (hpv2 _).sub _))) .nil) (Uh G K [pre,Ay x 2,[Bb Ep],Ay y 2] (by simp) hj)).mono ?_;rintro _ H9 ⟨v2,rfl,hv2⟩;simp(disch:=omega)only[go_sem,e0,e4];refine⟨j+1,_,Ws.refl _,(hI _ _ _).2 ?_,by omega⟩;simp(disch:=omega)only[go_sem,e0,e4,hw1];(repeat' apply And.intro)<;>(try first | rfl | assumption | omega);rw[htk];simpa using hv2
     ·have k3:c.kind=3:=by
       unfold Cs at hrc;rw[if_neg k1,if_neg k2] at hrc;simp only[jF,decide_eq_true_eq] at hrc;exact hrc.1.1
      have ht:Es c= [Az Kz]:=by rw[Jv,if_neg k1,if_neg k2,Aj,show Dz Kz=2 by decide+kernel];rfl
      rw[ht] at htk hle;rw[jQ] at hle;simp(disch:=omega)only[go_sem,e0,e4,hcl,Aw,hfl,hgl,jD,k1,k2];refine Ae.monoR (Ho G _ Kz) ?_;simp(disch:=omega)only[go_sem,Af];intro r24 hr24;dsimp only at hr24;try simp(disch:=omega)only[go_sem,Ap,jE,jJ,jL,jH]
      refine Df.append (n:=pre.length) (bytes:=40) (m:=1) (news:= [Az Kz].flatMap Af) (hpv.new hr24 _) rfl (by omega) fun v2 H2 hv2=> ?_;simp(disch:=omega)only[go_sem,e0,e4];refine⟨j+1,_,Ws.refl _,(hI _ _ _).2 ?_,by omega⟩;simp(disch:=omega)only[go_sem,e0,e4,hw1];(repeat' apply And.intro)<;>(try first | rfl | assumption | omega);rw[<-List.flatMap_append] at hv2;rw[htk,jC];exact hv2
   ·have c0'':(0:Int)<(j:Int):=by omega
    rw[if_neg c0,<-jO] at htk;rw[if_neg c0,jQ] at hle;simp(disch:=omega)only[go_sem,e0,e4,<-hve,c0''];refine Ae.monoR (Cn G _ Mb) ?_;simp(disch:=omega)only[go_sem,Af];intro r15 hr15;dsimp only at hr15;try simp(disch:=omega)only[go_sem,Ap,jE,jJ,jL,jH]
    refine Df.append (m:=1) (news:=Af (Bb Mb)) (hv.new hr15 _) rfl (by omega) fun v1 H1 hv1=> ?_;obtain⟨pre,hpre⟩: ∃pre,pre=Et Mb ((l.take j).map Es)++ [Bb Mb]:=⟨_,rfl⟩;have hpv:Df K 31 4 pre.length (pre.flatMap Af) v1 H1:=by
     rw[hpre,jC,List.flatMap_append];exact hv1
    have hpl:pre.length=(Et Mb ((l.take j).map Es)).length+1:=by rw[hpre,jC];rfl
    have hb1:Aj Mb=Bb Mb:=by rw[Aj,show Dz Mb=4 by decide+kernel];rfl
    rw[hb1,<-hpre] at htk;simp(disch:=omega)only[go_sem,e0,e4];by_cases k1:c.kind=1
    ·obtain⟨x,hx⟩:=Do5 (by simpa [Cs,k1] using hrc);have ht:Es c=Ai x:=by rw[Jv,if_pos k1,hx];rfl
     have hl0:=lx0 hx;have hll:c.l.length=1:=by rw[hx];rfl
     obtain⟨ho1,ho2⟩:=hok x (by rw[hx];simp);rw[ht] at htk hle;simp(disch:=omega)only[go_sem,e0,e4,hcl,Aw,hfl,hgl,jD,k1,hll,hl0,hfx];refine Ae.monoR (ho2 _) ?_;simp(disch:=omega)only[go_sem,Aq,Fx,Ha,ht4];refine Df.append (n:=pre.length) (bytes:=40) (m:=(Ai x).length) (news:=(Ai x).flatMap Af) hpv (Al Gc _) (by omega) fun v2 H2 hv2=> ?_;simp(disch:=omega)only[go_sem,e0,e4];refine⟨j+1,_,Ws.refl _,(hI _ _ _).2 ?_,by omega⟩;simp(disch:=omega)only[go_sem,e0,e4,hw1];(repeat' apply And.intro)<;>(try first | rfl | assumption | omega);rw[<-List.flatMap_append,<-jC] at hv2;rw[htk];exact hv2
    ·by_cases k2:c.kind=2
     ·obtain⟨x,y,hx⟩:=Ct8 (by simpa [Cs,k2] using hrc);have ht:Es c=Ay x 2++([Bb Ep]++Ay y 2):=by rw[Jv,if_neg k1,if_pos k2,hx];rfl
      have hl0:=lx0 hx;have hl1:=lx1 hx;have hll:c.l.length=2:=by rw[hx];rfl
      obtain⟨hx1,hx2⟩:=hok x (by rw[hx];simp);obtain⟨hy1,hy2⟩:=hok y (by rw[hx];simp);have pl1:=Hc x 2;have pl2:=Hc y 2;rw[ht] at htk hle;rw[jC,jC,jQ] at hle;simp(disch:=omega)only[go_sem,e0,e4,hcl,Aw,hfl,hgl,jD,k2];refine Ak (by kernel_rfl) pL10 (by kernel_rfl) ?_;simp(disch:=omega)only[go_sem,e0,e4,hcl,Aw,hfl,hgl,jD,hll,hl0,hl1,hfx];refine Ae.monoR (Ek G _ x 2 (by omega) hx2) ?_;try simp(disch:=omega)only[go_sem,e0,e4,hcl,Aw,hfl,hgl,jD,hll,hl0,hl1,Af]
      refine Ae.monoR (Cn G _ Ep) ?_;try simp(disch:=omega)only[go_sem,e0,e4,hcl,Aw,hfl,hgl,jD,hll,hl0,hl1,Af]
      intro q1 hq1;dsimp only at hq1;have hpv1:=fun z=>hpv.new hq1 z;try simp(disch:=omega)only[go_sem,e0,e4,Ap,jE,jJ,jL,jH]
      refine Ae.monoR (Rt G _ (Bb Ep) hq1) ?_;try simp(disch:=omega)only[go_sem,e0,e4,hcl,Aw,hfl,hgl,jD,hll,hl0,hl1,Af]
      refine Ae.monoR (Ek G _ y 2 (by omega) hy2) ?_;try simp(disch:=omega)only[go_sem,e0,e4,hcl,Aw,hfl,hgl,jD,hll,hl0,hl1,Af]
      obtain⟨hc1,-⟩:=hpv.cell1;simp(disch:=omega)only[go_sem,hc1,Aq,Ap,Ar,Au,jA,jB,jE,jJ,jL,jH,jI,jG];intro q2 hq2;dsimp only at hq2;simp(disch:=omega)only[go_sem,e0,e4,hcl,Aw,hfl,hgl,jD,hll,hl0,hl1];have hpv2:=fun z=>hpv.new hq2 z;have hj: [pre,Ay x 2,[Bb Ep],Ay y 2].flatten.length<=100000000:=by
       simp only[List.flatten_cons,List.flatten_nil,jC,jA,jB];omega
      have hk0:K q2=none:=by
       rcases hkq:K q2 with _ | o
       ·rfl
       ·have:=hpv.keep hkq;rw[hq2] at this;cases this
      refine(Px.call (hpv2 _).sub (.cons (Qg.cells (e:=32) (size:=1) (n:=4) (cs':= [Aq pre,Aq (Ay x 2),Aq [Bb Ep],Aq (Ay y 2)]) (hpv2 _).sub hk0 (Ac _ _ _) rfl (.cons (.own (hpv2 _)) (.keep (hpv2 _).sub _))) .nil) (Uh G K [pre,Ay x 2,[Bb Ep],Ay y 2] (by simp) hj)).mono ?_;rintro _ H9 ⟨v2,rfl,hv2⟩;simp(disch:=omega)only[go_sem,e0,e4];refine⟨j+1,_,Ws.refl _,(hI _ _ _).2 ?_,by omega⟩;simp(disch:=omega)only[go_sem,e0,e4,hw1];(repeat' apply And.intro)<;>(try first | rfl | assumption | omega);rw[htk];simpa using hv2
     ·have k3:c.kind=3:=by
       unfold Cs at hrc;rw[if_neg k1,if_neg k2] at hrc;simp only[jF,decide_eq_true_eq] at hrc;exact hrc.1.1
      have ht:Es c= [Az Kz]:=by rw[Jv,if_neg k1,if_neg k2,Aj,show Dz Kz=2 by decide+kernel];rfl
      rw[ht] at htk hle;rw[jQ] at hle;simp(disch:=omega)only[go_sem,e0,e4,hcl,Aw,hfl,hgl,jD,k1,k2];refine Ae.monoR (Ho G _ Kz) ?_;simp(disch:=omega)only[go_sem,Af];intro r24 hr24;dsimp only at hr24;try simp(disch:=omega)only[go_sem,Ap,jE,jJ,jL,jH]
      refine Df.append (n:=pre.length) (bytes:=40) (m:=1) (news:= [Az Kz].flatMap Af) (hpv.new hr24 _) rfl (by omega) fun v2 H2 hv2=> ?_;simp(disch:=omega)only[go_sem,e0,e4];refine⟨j+1,_,Ws.refl _,(hI _ _ _).2 ?_,by omega⟩;simp(disch:=omega)only[go_sem,e0,e4,hw1];(repeat' apply And.intro)<;>(try first | rfl | assumption | omega);rw[<-List.flatMap_append] at hv2;rw[htk,jC];exact hv2
  ·have:j=l.length:=by omega
   subst this;have hlt': ¬(l.length:Int)<(l.length:Int):=by omega
   rw[List.take_length] at hv;simp(disch:=omega)only[go_sem,e0,e4,hlt',dCl];exact Wj.refl ⟨_,rfl,hv⟩
end
end Go.Dl

-- Chapter 4: the writer of package shape: names, expressions, bounds.
namespace Go.Dl
open Go Go.Proofs
set_option maxRecDepth 100000
section
end
theorem Vo {ws:List (List UInt8)} (h:0<ws.length):Bv (ws.take 1)= [Dq ws[0]]:=by
 cases ws with
 | nil=>simp at h
 | cons s l=>rfl
theorem Sr {ws:List (List UInt8)} {j:Nat} (hlt:j<ws.length) (hj:0<j):Bv (ws.take (j+1))=Bv (ws.take j)++ [Aj Cx,Dq ws[j]]:=by
 unfold Bv;rw[Hl hlt,List.map_append,List.map_singleton,Ua _ _ _ (by
  intro e;have:=congrArg List.length e;rw[jK,List.length_take,jB] at this;omega)]
theorem Mf {ws:List (List UInt8)}: ∀j,j<=ws.length->(Bv (ws.take j)).length=2*j-1
 | 0,_=>rfl
 | 1,h=>by rw[Vo (by omega)];rfl
 | j+2,h=>by
  rw[Sr (by omega) (by omega),jC,Mf (j+1) (by omega)];simp only[jA,jB];omega
section
variable {G:Nat->DVal}
set_option maxHeartbeats 4000000 in
theorem Ia (hG:GX G) (ws:List (List UInt8)) (hws:ws.length<=100000000):SrC Tryz.prog G 115 [dW ws] (Bv ws):=by
 intro B r ts H hB hlen hw;have hln:=Mf ws.length (Nat.le_refl _);rw[List.take_length] at hln;refine Aa Tryz.func115 Tryz.call115 rfl (by kernel_rfl) ?_;simp(disch:=omega)only[go_sem,dW];obtain⟨I,hI⟩: ∃I:Nat->(Nat->DVal)->Ab->Prop,∀j env heap,I j env heap↔(env 0= .optr r 0/\env 7=dW ws/\env 8=dI ws.length/\env 9=dI j/\j<=ws.length/\SAt B r (ts++Bv (ws.take j)) heap):=⟨_,fun _ _ _=>Iff.rfl⟩;refine Dt1.run I (fun j=>ws.length-j) 0 ((hI _ _ _).2 ?_) ?_
 ·simp(disch:=omega)only[go_sem];(repeat' apply And.intro)<;>(try first | rfl | assumption | omega);rw[show Bv []= [] from rfl,jH];exact hw
 ·intro j env heap hi;obtain⟨e0,e7,e8,e9,hj,hwj⟩:=(hI _ _ _).1 hi;by_cases hlt:j<ws.length
  ·have hlt':(j:Int)<(ws.length:Int):=by omega
   have hw1:IntKind.i64.wrap ((j:Int)+1)=((j+1:Nat):Int):=by rw[IntKind.wrap_i64];omega
   have Aw:(ws.map DVal.str)[j]? =some (.str ws[j]):=by rw[List.getElem?_map,List.getElem?_eq_getElem hlt];rfl
   have hml:(ws.map DVal.str).length=ws.length:=jK _;have hl2:=Mf j hj;by_cases j0:j=0
   ·subst j0;have htk:Bv (ws.take (0+1))= []++ [Dq ws[0]]:=Vo hlt;obtain⟨s,hse⟩: ∃s,s=ws[0]:=⟨_,rfl⟩;rw[<-hse] at Aw htk;have hw2:SAt B r (ts++ []) heap:=hwj;simp(disch:=omega)only[go_sem,e0,e7,e8,e9,hlt',dW,Aw,hml,jD];have hl3:(ts++([]:List Tok)).length+1<=1000000000:=by rw[jH];omega
    rw[jH] at hw2;rw[jG] at htk;obtain⟨v,hv⟩:=hw2;have gr:=hv.keep (Ac _ _ _);simp(disch:=omega)only[go_sem,e0,e7,e8,e9,gr];intro r25 hr25;dsimp only at hr25;have n25:r≠r25:=Am hr25 gr;have m25:=n25.symm;have hv6:=hv.new hr25 (some (.cells (Af (Dq s)) 31));simp(disch:=omega)only[go_sem,e0,e7,e8,e9,gr,n25,m25];refine Df.append (m:=1) hv6 rfl (by omega) fun v2 H6 hv2=> ?_;have g6:=hv2.keep (Ac _ _ _);obtain⟨j1,j2⟩:=hv2.cell1;simp(disch:=omega)only[go_sem,e0,e7,e8,e9,g6,j1,j2];refine⟨0+1,_,Ws.refl _,(hI _ _ _).2 ?_,by omega⟩;simp(disch:=omega)only[go_sem,e0,e7,e8,e9,hw1];(repeat' apply And.intro)<;>(try first | rfl | assumption | omega);refine⟨v2, ?_⟩;have hv3:=hv2.at (Ac _ _ _) (some (.cells [v2] 150));rw[Ht] at hv3;rw[htk,Ea,jC,jQ];exact hv3
   ·have j0':(0:Int)<(j:Int):=by omega
    have htk:Bv (ws.take (j+1))=(Bv (ws.take j)++ [Aj Cx])++ [Dq ws[j]]:=by rw[Sr hlt (by omega)];simp
    obtain⟨s,hse⟩: ∃s,s=ws[j]:=⟨_,rfl⟩;rw[<-hse] at Aw htk;simp(disch:=omega)only[go_sem,e0,e7,e8,e9,hlt',dW,Aw,hml,jD,j0'];intro q hq;dsimp only at hq;simp(disch:=omega)only[go_sem,e0,e7,e8,e9];refine(Wg hG Cx hq hB (by rw[jC];omega) hwj).mono ?_;rintro _ H2 ⟨rfl,hw2⟩;rw[jO] at hw2;simp(disch:=omega)only[go_sem,e0,e7,e8,e9];obtain⟨v,hv⟩:=hw2;have gr:=hv.keep (Ac _ _ _);simp(disch:=omega)only[go_sem,e0,e7,e8,e9,gr];intro r25 hr25;dsimp only at hr25;have n25:r≠r25:=Am hr25 gr;have m25:=n25.symm;have hv6:=hv.new hr25 (some (.cells (Af (Dq s)) 31));simp(disch:=omega)only[go_sem,e0,e7,e8,e9,gr,n25,m25];refine Df.append (m:=1) hv6 rfl (by simp only[jC,jA,jB];omega) fun v2 H6 hv2=> ?_;have g6:=hv2.keep (Ac _ _ _);obtain⟨j1,j2⟩:=hv2.cell1;simp(disch:=omega)only[go_sem,e0,e7,e8,e9,g6,j1,j2];refine⟨j+1,_,Ws.refl _,(hI _ _ _).2 ?_,by omega⟩;simp(disch:=omega)only[go_sem,e0,e7,e8,e9,hw1];(repeat' apply And.intro)<;>(try first | rfl | assumption | omega);refine⟨v2, ?_⟩;have hv3:=hv2.at (Ac _ _ _) (some (.cells [v2] 150));rw[Ht] at hv3;rw[htk,<-jO,Ea,jC,jQ];exact hv3
  ·have:j=ws.length:=by omega
   subst this;have hlt': ¬(ws.length:Int)<(ws.length:Int):=by omega
   rw[List.take_length] at hwj;simp(disch:=omega)only[go_sem,e0,e7,e8,e9,hlt'];exact Wj.refl ⟨rfl,hwj⟩
set_option maxHeartbeats 4000000 in
theorem Bu7 (hG:GX G) (ws:List (List UInt8)) (hws:ws.length<=100000000) {B H:Ab} {r q0:Nat} {ts:List Tok} (hq0:B q0=some (.cells (ws.map .str) 9)) (hB:B r=none) (hlen:ts.length+(Bv ws).length<=1000000000) (hw:SAt B r ts H):
  Ae Tryz.prog G 115 [.optr r 0, .oslice 1 q0 0 ws.length ws.length] H (fun e H'=>e= .ret (.optr r 0)/\SAt B r (ts++Bv ws) H'):=by
 have nqr:q0≠r:=fun e=>by rw[e,hB] at hq0;cases hq0
 have hln:=Mf ws.length (Nat.le_refl _);rw[List.take_length] at hln;refine Aa Tryz.func115 Tryz.call115 rfl (by kernel_rfl) ?_;simp(disch:=omega)only[go_sem,dW];obtain⟨I,hI⟩: ∃I:Nat->(Nat->DVal)->Ab->Prop,∀j env heap,I j env heap↔(env 0= .optr r 0/\env 7= .oslice 1 q0 0 ws.length ws.length/\env 8=dI ws.length/\env 9=dI j/\j<=ws.length/\SAt B r (ts++Bv (ws.take j)) heap):=⟨_,fun _ _ _=>Iff.rfl⟩;refine Dt1.run I (fun j=>ws.length-j) 0 ((hI _ _ _).2 ?_) ?_
 ·simp(disch:=omega)only[go_sem];(repeat' apply And.intro)<;>(try first | rfl | assumption | omega);rw[show Bv []= [] from rfl,jH];exact hw
 ·intro j env heap hi;obtain⟨e0,e7,e8,e9,hj,hwj⟩:=(hI _ _ _).1 hi;have gq:=hwj.keep hq0 nqr;by_cases hlt:j<ws.length
  ·have hlt':(j:Int)<(ws.length:Int):=by omega
   have hw1:IntKind.i64.wrap ((j:Int)+1)=((j+1:Nat):Int):=by rw[IntKind.wrap_i64];omega
   have Aw:(ws.map DVal.str)[j]? =some (.str ws[j]):=by rw[List.getElem?_map,List.getElem?_eq_getElem hlt];rfl
   have hml:(ws.map DVal.str).length=ws.length:=jK _;have hl2:=Mf j hj;by_cases j0:j=0
   ·subst j0;have htk:Bv (ws.take (0+1))= []++ [Dq ws[0]]:=Vo hlt;obtain⟨s,hse⟩: ∃s,s=ws[0]:=⟨_,rfl⟩;rw[<-hse] at Aw htk;have hw2:SAt B r (ts++ []) heap:=hwj;simp(disch:=omega)only[go_sem,e0,e7,e8,e9,hlt',gq,Aw,hml,jD];have hl3:(ts++([]:List Tok)).length+1<=1000000000:=by rw[jH];omega
    rw[jH] at hw2;rw[jG] at htk;obtain⟨v,hv⟩:=hw2;have gr:=hv.keep (Ac _ _ _);simp(disch:=omega)only[go_sem,e0,e7,e8,e9,gr];intro r25 hr25;dsimp only at hr25;have n25:r≠r25:=Am hr25 gr;have m25:=n25.symm;have hv6:=hv.new hr25 (some (.cells (Af (Dq s)) 31));simp(disch:=omega)only[go_sem,e0,e7,e8,e9,gr,n25,m25];refine Df.append (m:=1) hv6 rfl (by omega) fun v2 H6 hv2=> ?_;have g6:=hv2.keep (Ac _ _ _);obtain⟨j1,j2⟩:=hv2.cell1;simp(disch:=omega)only[go_sem,e0,e7,e8,e9,g6,j1,j2];refine⟨0+1,_,Ws.refl _,(hI _ _ _).2 ?_,by omega⟩;simp(disch:=omega)only[go_sem,e0,e7,e8,e9,hw1];(repeat' apply And.intro)<;>(try first | rfl | assumption | omega);refine⟨v2, ?_⟩;have hv3:=hv2.at (Ac _ _ _) (some (.cells [v2] 150));rw[Ht] at hv3;rw[htk,Ea,jC,jQ];exact hv3
   ·have j0':(0:Int)<(j:Int):=by omega
    have htk:Bv (ws.take (j+1))=(Bv (ws.take j)++ [Aj Cx])++ [Dq ws[j]]:=by rw[Sr hlt (by omega)];simp
    obtain⟨s,hse⟩: ∃s,s=ws[j]:=⟨_,rfl⟩;rw[<-hse] at Aw htk;simp(disch:=omega)only[go_sem,e0,e7,e8,e9,hlt',gq,Aw,hml,jD,j0'];intro q hq;dsimp only at hq;simp(disch:=omega)only[go_sem,e0,e7,e8,e9];refine(Wg hG Cx hq hB (by rw[jC];omega) hwj).mono ?_;rintro _ H2 ⟨rfl,hw2⟩;rw[jO] at hw2;simp(disch:=omega)only[go_sem,e0,e7,e8,e9];obtain⟨v,hv⟩:=hw2;have gr:=hv.keep (Ac _ _ _);simp(disch:=omega)only[go_sem,e0,e7,e8,e9,gr];intro r25 hr25;dsimp only at hr25;have n25:r≠r25:=Am hr25 gr;have m25:=n25.symm;have hv6:=hv.new hr25 (some (.cells (Af (Dq s)) 31));simp(disch:=omega)only[go_sem,e0,e7,e8,e9,gr,n25,m25];refine Df.append (m:=1) hv6 rfl (by simp only[jC,jA,jB];omega) fun v2 H6 hv2=> ?_;have g6:=hv2.keep (Ac _ _ _);obtain⟨j1,j2⟩:=hv2.cell1;simp(disch:=omega)only[go_sem,e0,e7,e8,e9,g6,j1,j2];refine⟨j+1,_,Ws.refl _,(hI _ _ _).2 ?_,by omega⟩;simp(disch:=omega)only[go_sem,e0,e7,e8,e9,hw1];(repeat' apply And.intro)<;>(try first | rfl | assumption | omega);refine⟨v2, ?_⟩;have hv3:=hv2.at (Ac _ _ _) (some (.cells [v2] 150));rw[Ht] at hv3;rw[htk,<-jO,Ea,jC,jQ];exact hv3
  ·have:j=ws.length:=by omega
   subst this;have hlt': ¬(ws.length:Int)<(ws.length:Int):=by omega
   rw[List.take_length] at hwj;simp(disch:=omega)only[go_sem,e0,e7,e8,e9,hlt'];exact Wj.refl ⟨rfl,hwj⟩
set_option maxHeartbeats 4000000 in
theorem Dn (hG:GX G) (e:Ex) (hm:Cl e=true) (he:Fit e):SrC Tryz.prog G 144 [.agg (dEx e)] (Ai e):=by
 intro B r ts H hB hlen hw;have htk:Af5 e=(Ai e,0):=by rw[Af5,hm];rfl
 refine Aa Tryz.func144 Tryz.call144 rfl (by kernel_rfl) ?_;simp(disch:=omega)only[go_sem,DVal.cells];intro r4 hr4;dsimp only at hr4;have hw4:=hw.frame hr4 (.cells (dEx e) 27);have hB4:B r4=none:=(hw.lo hr4).1;obtain⟨K,hK⟩: ∃K,K=upd H r4 (some (.cells (dEx e) 27)):=⟨_,rfl⟩;rw[<-hK] at hw4⊢
 have g4:K r4=some (.cells (dEx e) 27):=by rw[hK];exact Ac _ _ _
 clear hK;simp(disch:=omega)only[go_sem,g4];refine Ae.monoR (Ch4 hG K e he) ?_;rw[htk];obtain⟨v,hv⟩:=hw4;have gr:=hv.keep (Ac _ _ _);have hnl:=Al Gc (Ai e);simp(disch:=omega)only[go_sem,gr,Aq,Ha,Fx,hnl,jD];refine Df.append (m:=(Ai e).length) hv hnl (by omega) fun v2 H6 hv2=> ?_;have g6:=hv2.keep (Ac _ _ _);obtain⟨j1,j2⟩:=hv2.cell1;simp(disch:=omega)only[go_sem,g6,j1,j2];have hv3:=hv2.at (Ac _ _ _) (some (.cells [v2] 150));rw[Ht] at hv3;have hw5:SAt (upd B r4 (some (.cells (dEx e) 27))) r (ts++Ai e) (upd H6 r (some (.cells [v2] 150))):=⟨v2,by rw[jC,List.flatMap_append];exact hv3⟩;exact Wj.refl ⟨rfl,hw5.drop hB4⟩
structure St (B0 B:Ab) (r:Nat) (ts:List Tok) (K:Ab):Prop where
 hw:SAt B r ts K
 hr:B r=none
 hs:Sub B0 B
section
variable {B0 B K:Ab} {r:Nat} {ts:List Tok}
theorem St.g (h:St B0 B r ts K) {x:Nat} {o:DObj} (hx:B x=some o):K x=some o:=h.hw.keep hx fun e=>by rw[e,h.hr] at hx;cases hx
theorem St.new (h:St B0 B r ts K) {q:Nat} (hq:K q=none) (o:DObj): ∃B' K',upd K q (some o)=K'/\St B0 B' r ts K'/\Sub B B'/\B' q=some o:=by
 have hl:=h.hw.lo hq;have s:Sub B (upd B q (some o)):=(Sub.refl B).up hl.1 _;exact⟨_,_,rfl,⟨h.hw.frame hq o,by rw[Em _ _ _ _ hl.2.symm];exact h.hr,h.hs.trans s⟩,s,Ac _ _ _⟩
theorem St.call {P:Program} {f:FuncId} {args:List DVal} {t:List Tok} (h:St B0 B r ts K) (c:SrC P G f args t) (hlen:ts.length+t.length<=1000000000):Ae P G f (.optr r 0::args) K (fun e K'=>e= .ret (.optr r 0)/\St B0 B r (ts++t) K'):=
 (c B r ts K h.hr hlen h.hw).mono fun _ _ ⟨e,w⟩=>⟨e,w,h.hr,h.hs⟩
theorem St.put (h:St B0 B r ts K) (hG:GX G) (ws:List (List UInt8)) {q:Nat} (hq:B q=some (.cells (ws.map .str) 9)) (hlen:ts.length+(ws.map Aj).length<=1000000000):Ae Tryz.prog G 114 [.optr r 0, .oslice 1 q 0 ws.length ws.length] K (fun e K'=>e= .ret (.optr r 0)/\St B0 B r (ts++ws.map Aj) K'):=
 (Cu9 hG ws hq h.hr hlen h.hw).mono fun _ _ ⟨e,w⟩=>⟨e,w,h.hr,h.hs⟩
theorem St.nms (h:St B0 B r ts K) (hG:GX G) (ws:List (List UInt8)) (hws:ws.length<=100000000) {q:Nat} (hq:B q=some (.cells (ws.map .str) 9)) (hlen:ts.length+(Bv ws).length<=1000000000):Ae Tryz.prog G 115 [.optr r 0, .oslice 1 q 0 ws.length ws.length] K (fun e K'=>e= .ret (.optr r 0)/\St B0 B r (ts++Bv ws) K'):=
 (Bu7 hG ws hws hq h.hr hlen h.hw).mono fun _ _ ⟨e,w⟩=>⟨e,w,h.hr,h.hs⟩
theorem St.start (s:Sub B0 B) (hr:B r=none): ∃K,upd B r (some (.cells [.nilSlice] 150))=K/\St B0 B r [] K:=⟨_,rfl,SAt.start hr,hr,s⟩
theorem Sub.newK (s:Sub B0 K) {q:Nat} (hq:K q=none) (o:DObj): ∃K',upd K q (some o)=K'/\Sub B0 K'/\Sub K K'/\K' q=some o:=⟨_,rfl,s.up (s.lo hq) _,(Sub.refl K).up hq _,Ac _ _ _⟩
end
end
end Go.Dl

-- Chapter 4: the writer of package shape: values given, bounds, indications, discrete ranges (printed by gen_tc.py).
namespace Go.Dl
open Go Go.Proofs
set_option maxRecDepth 100000
theorem Fq3 {x:Ex}:noE x=true↔stE x=ex0:=by
 unfold noE;rw[Ba8];rfl
theorem Dc3 {x:Ex} (h:Cl x=true):noE x=false:=by
 cases c:noE x with
 | false=>rfl
 | true=>
  exfalso;have hk:x.kind=0:=by rw[<-Ed8,Fq3.1 c];rfl
  have hv:=(Jq (Uc h)).1;unfold Ca at hv;simp [hk] at hv
theorem Ef2 (e:Ex):(Ai e).length<=(Ay e 2).length:=by
 rw[Ay,Xk];split<;>omega
section
variable {G:Nat->DVal}
set_option maxHeartbeats 4000000 in
theorem Jk (hG:GX G) (e:Ex) (hm:Gx e=true) (he:Ef 1048576 e):SrC Tryz.prog G 145 [.agg (dEx e)] (Li e):=by
 intro B0 r ts H hB hlen hw;refine Aa Tryz.func145 Tryz.call145 rfl (by kernel_rfl) ?_;simp(disch:=omega)only[go_sem,DVal.cells];intro r3 hr3;dsimp only at hr3;have hwr3:=hw.frame hr3 (.cells (dEx e) 27);have zr3:B0 r3=none:=(hw.lo hr3).1;have nr3:r3≠r:=(hw.lo hr3).2;obtain⟨B1,hXB1⟩: ∃X,X=upd B0 r3 (some (.cells (dEx e) 27)):=⟨_,rfl⟩;have br3:B1 r3=some (.cells (dEx e) 27):=by rw[hXB1];exact Ac _ _ _
 have sB1:Sub B0 B1:=by rw[hXB1];exact(Sub.refl _).up zr3 _
 have rB1:B1 r=none:=by rw[hXB1,Em _ _ _ _ nr3.symm];exact hB
 obtain⟨K1,hXK1⟩: ∃X,X=upd H r3 (some (.cells (dEx e) 27)):=⟨_,rfl⟩;rw[<-hXB1,<-hXK1] at hwr3;rw[<-hXK1];have gr3:K1 r3=some (.cells (dEx e) 27):=by rw[hXK1];exact Ac _ _ _
 clear hXB1 hXK1;simp(disch:=omega)only[go_sem,gr3,Ah (Ad _)];intro q hq;dsimp only at hq;simp(disch:=omega)only[go_sem];refine Ae.monoR (Aq5 G K1 [e] q _ _ (by simp) hq (by simp) (by intro x hx;simp at hx;subst hx;assumption) rfl) ?_;rw[show [e].all noE=noE e by simp];cases h0:noE e
 ·have hme:Cl e=true:=by rw[Gx,h0,Bool.false_or] at hm;exact hm
  have ht:Li e=Aj Qi::Ai e:=by rw[Li,h0];rfl
  rw[ht] at hlen⊢
  simp(disch:=omega)only[go_sem];refine Ak (by kernel_rfl) pL66 (by kernel_rfl) ?_;simp(disch:=omega)only[go_sem,gr3];have h0:St B0 B1 r ts K1:=⟨hwr3,rB1,sB1⟩;intro qa hqa;dsimp only at hqa;obtain⟨B11,K11,e11,h11,s11,bqa⟩:=h0.new hqa (.cells [.str [58,61]] 9);rw[e11];have br3_11:=s11 _ _ br3;have gr3_11:=h11.g br3_11;try simp(disch:=omega)only[go_sem,gr3,gr3_11]
  refine(h11.put hG [Qi] bqa (by(try simp only[jC,jA,jB,jK,jN,jP,List.length_flatMap] at hlen⊢)<;>omega)).mono ?_;rintro _ K12 ⟨rfl,h12⟩;have gr3_12:=h12.g br3_11;try simp(disch:=omega)only[go_sem,gr3,gr3_11,gr3_12]
  refine(h12.call (Dn hG e hme he.fitx) (by(try simp only[jC,jA,jB,jK,jN,jP,List.length_flatMap] at hlen⊢)<;>omega)).mono ?_;rintro _ K13 ⟨rfl,h13⟩;have gr3_13:=h13.g br3_11;try simp(disch:=omega)only[go_sem,gr3,gr3_11,gr3_12,gr3_13]
  exact Wj.refl ⟨rfl,by simpa using h13.hw.less h13.hs⟩
 ·simp(disch:=omega)only[go_sem];exact Wj.refl ⟨rfl,by rw[Li,h0];simpa using hwr3.less sB1⟩
set_option maxHeartbeats 4000000 in
theorem Ss (hG:GX G) (e:Ex) (hm:Cl e=true) (he:Ef 1048576 e):SrC Tryz.prog G 244 [.agg (dEx e)] (Ay e 2):=by
 intro B0 r ts H hB hlen hw;have hbl:=Ef2 e;refine Aa Tryz.func244 Tryz.call244 rfl (by kernel_rfl) ?_;simp(disch:=omega)only[go_sem,DVal.cells];intro r3 hr3;dsimp only at hr3;have hwr3:=hw.frame hr3 (.cells (dEx e) 27);have zr3:B0 r3=none:=(hw.lo hr3).1;have nr3:r3≠r:=(hw.lo hr3).2;obtain⟨B1,hXB1⟩: ∃X,X=upd B0 r3 (some (.cells (dEx e) 27)):=⟨_,rfl⟩;have br3:B1 r3=some (.cells (dEx e) 27):=by rw[hXB1];exact Ac _ _ _
 have sB1:Sub B0 B1:=by rw[hXB1];exact(Sub.refl _).up zr3 _
 have rB1:B1 r=none:=by rw[hXB1,Em _ _ _ _ nr3.symm];exact hB
 obtain⟨K1,hXK1⟩: ∃X,X=upd H r3 (some (.cells (dEx e) 27)):=⟨_,rfl⟩;rw[<-hXB1,<-hXK1] at hwr3;rw[<-hXK1];have gr3:K1 r3=some (.cells (dEx e) 27):=by rw[hXK1];exact Ac _ _ _
 clear hXB1 hXK1;simp(disch:=omega)only[go_sem,gr3];refine Ae.monoR (Vi G K1 e) ?_;by_cases c:Bo e<2
 ·have hp:Ay e 2=Aj By::(Ai e++ [Aj Cb]):=by rw[Ay,decide_eq_true c];rfl
  rw[hp] at hlen⊢
  simp(disch:=omega)only[go_sem,c];refine Ak (by kernel_rfl) pL22 (by kernel_rfl) ?_;simp(disch:=omega)only[go_sem,gr3];have h0:St B0 B1 r ts K1:=⟨hwr3,rB1,sB1⟩;refine⟨?_, ?_⟩
  ·intro qb hqb;dsimp only at hqb;obtain⟨B14,K14,e14,h14,s14,bqb⟩:=h0.new hqb (.cells [.str [41]] 9);rw[e14];have br3_14:=s14 _ _ br3;have gr3_14:=h14.g br3_14;try simp(disch:=omega)only[go_sem,gr3,gr3_14]
   intro qa hqa;dsimp only at hqa;obtain⟨B15,K15,e15,h15,s15,bqa⟩:=h14.new hqa (.cells [.str [40]] 9);rw[e15];have br3_15:=s15 _ _ br3_14;have bqb_15:=s15 _ _ bqb;have gr3_15:=h15.g br3_15;try simp(disch:=omega)only[go_sem,gr3,gr3_14,gr3_15]
   refine(h15.put hG [By] bqa (by(try simp only[jC,jA,jB,jK,jN,jP,List.length_flatMap] at hlen⊢)<;>omega)).mono ?_;rintro _ K16 ⟨rfl,h16⟩;have gr3_16:=h16.g br3_15;try simp(disch:=omega)only[go_sem,gr3,gr3_14,gr3_15,gr3_16]
   refine(h16.call (Dn hG e hm he.fitx) (by(try simp only[jC,jA,jB,jK,jN,jP,List.length_flatMap] at hlen⊢)<;>omega)).mono ?_;rintro _ K17 ⟨rfl,h17⟩;have gr3_17:=h17.g br3_15;try simp(disch:=omega)only[go_sem,gr3,gr3_14,gr3_15,gr3_16,gr3_17]
   refine(h17.put hG [Cb] bqb_15 (by(try simp only[jC,jA,jB,jK,jN,jP,List.length_flatMap] at hlen⊢)<;>omega)).mono ?_;rintro _ K18 ⟨rfl,h18⟩;have gr3_18:=h18.g br3_15;try simp(disch:=omega)only[go_sem,gr3,gr3_14,gr3_15,gr3_16,gr3_17,gr3_18]
   exact Wj.refl ⟨rfl,by simpa using h18.hw.less h18.hs⟩
  ·intro qa hqa;dsimp only at hqa;obtain⟨B19,K19,e19,h19,s19,bqa⟩:=h0.new hqa (.cells [.str [40]] 9);rw[e19];have br3_19:=s19 _ _ br3;have gr3_19:=h19.g br3_19;try simp(disch:=omega)only[go_sem,gr3,gr3_19]
   refine⟨?_, ?_⟩
   ·intro qb hqb;dsimp only at hqb;obtain⟨B20,K20,e20,h20,s20,bqb⟩:=h19.new hqb (.cells [.str [41]] 9);rw[e20];have br3_20:=s20 _ _ br3_19;have bqa_20:=s20 _ _ bqa;have gr3_20:=h20.g br3_20;try simp(disch:=omega)only[go_sem,gr3,gr3_19,gr3_20]
    refine(h20.put hG [By] bqa_20 (by(try simp only[jC,jA,jB,jK,jN,jP,List.length_flatMap] at hlen⊢)<;>omega)).mono ?_;rintro _ K21 ⟨rfl,h21⟩;have gr3_21:=h21.g br3_20;try simp(disch:=omega)only[go_sem,gr3,gr3_19,gr3_20,gr3_21]
    refine(h21.call (Dn hG e hm he.fitx) (by(try simp only[jC,jA,jB,jK,jN,jP,List.length_flatMap] at hlen⊢)<;>omega)).mono ?_;rintro _ K22 ⟨rfl,h22⟩;have gr3_22:=h22.g br3_20;try simp(disch:=omega)only[go_sem,gr3,gr3_19,gr3_20,gr3_21,gr3_22]
    refine(h22.put hG [Cb] bqb (by(try simp only[jC,jA,jB,jK,jN,jP,List.length_flatMap] at hlen⊢)<;>omega)).mono ?_;rintro _ K23 ⟨rfl,h23⟩;have gr3_23:=h23.g br3_20;try simp(disch:=omega)only[go_sem,gr3,gr3_19,gr3_20,gr3_21,gr3_22,gr3_23]
    exact Wj.refl ⟨rfl,by simpa using h23.hw.less h23.hs⟩
   ·refine(h19.put hG [By] bqa (by(try simp only[jC,jA,jB,jK,jN,jP,List.length_flatMap] at hlen⊢)<;>omega)).mono ?_;rintro _ K24 ⟨rfl,h24⟩;have gr3_24:=h24.g br3_19;try simp(disch:=omega)only[go_sem,gr3,gr3_19,gr3_24]
    refine⟨?_, ?_⟩
    ·intro qb hqb;dsimp only at hqb;obtain⟨B25,K25,e25,h25,s25,bqb⟩:=h24.new hqb (.cells [.str [41]] 9);rw[e25];have br3_25:=s25 _ _ br3_19;have bqa_25:=s25 _ _ bqa;have gr3_25:=h25.g br3_25;try simp(disch:=omega)only[go_sem,gr3,gr3_19,gr3_24,gr3_25]
     refine(h25.call (Dn hG e hm he.fitx) (by(try simp only[jC,jA,jB,jK,jN,jP,List.length_flatMap] at hlen⊢)<;>omega)).mono ?_;rintro _ K26 ⟨rfl,h26⟩;have gr3_26:=h26.g br3_25;try simp(disch:=omega)only[go_sem,gr3,gr3_19,gr3_24,gr3_25,gr3_26]
     refine(h26.put hG [Cb] bqb (by(try simp only[jC,jA,jB,jK,jN,jP,List.length_flatMap] at hlen⊢)<;>omega)).mono ?_;rintro _ K27 ⟨rfl,h27⟩;have gr3_27:=h27.g br3_25;try simp(disch:=omega)only[go_sem,gr3,gr3_19,gr3_24,gr3_25,gr3_26,gr3_27]
     exact Wj.refl ⟨rfl,by simpa using h27.hw.less h27.hs⟩
    ·refine(h24.call (Dn hG e hm he.fitx) (by(try simp only[jC,jA,jB,jK,jN,jP,List.length_flatMap] at hlen⊢)<;>omega)).mono ?_;rintro _ K28 ⟨rfl,h28⟩;have gr3_28:=h28.g br3_19;try simp(disch:=omega)only[go_sem,gr3,gr3_19,gr3_24,gr3_28]
     intro qb hqb;dsimp only at hqb;obtain⟨B29,K29,e29,h29,s29,bqb⟩:=h28.new hqb (.cells [.str [41]] 9);rw[e29];have br3_29:=s29 _ _ br3_19;have bqa_29:=s29 _ _ bqa;have gr3_29:=h29.g br3_29;try simp(disch:=omega)only[go_sem,gr3,gr3_19,gr3_24,gr3_28,gr3_29]
     refine(h29.put hG [Cb] bqb (by(try simp only[jC,jA,jB,jK,jN,jP,List.length_flatMap] at hlen⊢)<;>omega)).mono ?_;rintro _ K30 ⟨rfl,h30⟩;have gr3_30:=h30.g br3_29;try simp(disch:=omega)only[go_sem,gr3,gr3_19,gr3_24,gr3_28,gr3_29,gr3_30]
     exact Wj.refl ⟨rfl,by simpa using h30.hw.less h30.hs⟩
 ·have hp:Ay e 2=Ai e:=by rw[Ay,decide_eq_false c];rfl
  rw[hp] at hlen⊢
  simp(disch:=omega)only[go_sem,c,gr3];have h0:St B0 B1 r ts K1:=⟨hwr3,rB1,sB1⟩;refine(h0.call (Dn hG e hm he.fitx) (by(try simp only[jC,jA,jB,jK,jN,jP,List.length_flatMap] at hlen⊢)<;>omega)).mono ?_;rintro _ K31 ⟨rfl,h31⟩;have gr3_31:=h31.g br3;simp(disch:=omega)only[go_sem,gr3,gr3_31];exact Wj.refl ⟨rfl,by simpa using h31.hw.less h31.hs⟩
set_option maxHeartbeats 4000000 in
theorem Qk (hG:GX G) (a b:Ex) (ha:Cl a=true) (hb:Cl b=true) (fa:Ef 1048576 a) (fb:Ef 1048576 b):SrC Tryz.prog G 116 [.agg (dEx a), .agg (dEx b)] (Eu a b):=by
 intro B0 r ts H hB hlen hw;rw[Eu] at hlen⊢
 refine Aa Tryz.func116 Tryz.call116 rfl (by kernel_rfl) ?_;simp(disch:=omega)only[go_sem,DVal.cells];intro r4 hr4;dsimp only at hr4;have hwr4:=hw.frame hr4 (.cells (dEx a) 27);have zr4:B0 r4=none:=(hw.lo hr4).1;have nr4:r4≠r:=(hw.lo hr4).2;obtain⟨B1,hXB1⟩: ∃X,X=upd B0 r4 (some (.cells (dEx a) 27)):=⟨_,rfl⟩;have br4:B1 r4=some (.cells (dEx a) 27):=by rw[hXB1];exact Ac _ _ _
 have sB1:Sub B0 B1:=by rw[hXB1];exact(Sub.refl _).up zr4 _
 have rB1:B1 r=none:=by rw[hXB1,Em _ _ _ _ nr4.symm];exact hB
 obtain⟨K1,hXK1⟩: ∃X,X=upd H r4 (some (.cells (dEx a) 27)):=⟨_,rfl⟩;rw[<-hXB1,<-hXK1] at hwr4;rw[<-hXK1];have gr4:K1 r4=some (.cells (dEx a) 27):=by rw[hXK1];exact Ac _ _ _
 clear hXB1 hXK1;simp(disch:=omega)only[go_sem,DVal.cells];intro r5 hr5;dsimp only at hr5;have hwr5:=hwr4.frame hr5 (.cells (dEx b) 27);have zr5:B1 r5=none:=(hwr4.lo hr5).1;have nr5:r5≠r:=(hwr4.lo hr5).2;obtain⟨B2,hXB2⟩: ∃X,X=upd B1 r5 (some (.cells (dEx b) 27)):=⟨_,rfl⟩;have br5:B2 r5=some (.cells (dEx b) 27):=by rw[hXB2];exact Ac _ _ _
 have sB2:Sub B1 B2:=by rw[hXB2];exact(Sub.refl _).up zr5 _
 have rB2:B2 r=none:=by rw[hXB2,Em _ _ _ _ nr5.symm];exact rB1
 obtain⟨K2,hXK2⟩: ∃X,X=upd K1 r5 (some (.cells (dEx b) 27)):=⟨_,rfl⟩;rw[<-hXB2,<-hXK2] at hwr5;rw[<-hXK2];have gr5:K2 r5=some (.cells (dEx b) 27):=by rw[hXK2];exact Ac _ _ _
 clear hXB2 hXK2;have sB2':Sub B0 B2:=sB1.trans sB2;have br4':B2 r4=some (.cells (dEx a) 27):=sB2 _ _ br4;have gr4':=hwr5.keep br4' nr4;simp(disch:=omega)only[go_sem,gr4',gr5];refine Ak (by kernel_rfl) pL43 (by kernel_rfl) ?_;simp(disch:=omega)only[go_sem,gr4',gr5];have h0:St B0 B2 r ts K2:=⟨hwr5,rB2,sB2'⟩;refine⟨?_, ?_⟩
 ·intro qa hqa;dsimp only at hqa;obtain⟨B32,K32,e32,h32,s32,bqa⟩:=h0.new hqa (.cells [.str [46,46]] 9);rw[e32];have br4_32:=s32 _ _ br4';have br5_32:=s32 _ _ br5;have gr4_32:=h32.g br4_32;have gr5_32:=h32.g br5_32;try simp(disch:=omega)only[go_sem,gr4',gr5,gr4_32,gr5_32]
  refine(h32.call (Ss hG a ha fa) (by(try simp only[jC,jA,jB,jK,jN,jP,List.length_flatMap] at hlen⊢)<;>omega)).mono ?_;rintro _ K33 ⟨rfl,h33⟩;have gr4_33:=h33.g br4_32;have gr5_33:=h33.g br5_32;try simp(disch:=omega)only[go_sem,gr4',gr5,gr4_32,gr5_32,gr4_33,gr5_33]
  refine(h33.put hG [Ep] bqa (by(try simp only[jC,jA,jB,jK,jN,jP,List.length_flatMap] at hlen⊢)<;>omega)).mono ?_;rintro _ K34 ⟨rfl,h34⟩;have gr4_34:=h34.g br4_32;have gr5_34:=h34.g br5_32;try simp(disch:=omega)only[go_sem,gr4',gr5,gr4_32,gr5_32,gr4_33,gr5_33,gr4_34,gr5_34]
  refine(h34.call (Ss hG b hb fb) (by(try simp only[jC,jA,jB,jK,jN,jP,List.length_flatMap] at hlen⊢)<;>omega)).mono ?_;rintro _ K35 ⟨rfl,h35⟩;have gr4_35:=h35.g br4_32;have gr5_35:=h35.g br5_32;try simp(disch:=omega)only[go_sem,gr4',gr5,gr4_32,gr5_32,gr4_33,gr5_33,gr4_34,gr5_34,gr4_35,gr5_35]
  exact Wj.refl ⟨rfl,by simpa using h35.hw.less h35.hs⟩
 ·refine(h0.call (Ss hG a ha fa) (by(try simp only[jC,jA,jB,jK,jN,jP,List.length_flatMap] at hlen⊢)<;>omega)).mono ?_;rintro _ K36 ⟨rfl,h36⟩;have gr4_36:=h36.g br4';have gr5_36:=h36.g br5;try simp(disch:=omega)only[go_sem,gr4',gr5,gr4_36,gr5_36]
  intro qa hqa;dsimp only at hqa;obtain⟨B37,K37,e37,h37,s37,bqa⟩:=h36.new hqa (.cells [.str [46,46]] 9);rw[e37];have br4_37:=s37 _ _ br4';have br5_37:=s37 _ _ br5;have gr4_37:=h37.g br4_37;have gr5_37:=h37.g br5_37;try simp(disch:=omega)only[go_sem,gr4',gr5,gr4_36,gr5_36,gr4_37,gr5_37]
  refine(h37.put hG [Ep] bqa (by(try simp only[jC,jA,jB,jK,jN,jP,List.length_flatMap] at hlen⊢)<;>omega)).mono ?_;rintro _ K38 ⟨rfl,h38⟩;have gr4_38:=h38.g br4_37;have gr5_38:=h38.g br5_37;try simp(disch:=omega)only[go_sem,gr4',gr5,gr4_36,gr5_36,gr4_37,gr5_37,gr4_38,gr5_38]
  refine(h38.call (Ss hG b hb fb) (by(try simp only[jC,jA,jB,jK,jN,jP,List.length_flatMap] at hlen⊢)<;>omega)).mono ?_;rintro _ K39 ⟨rfl,h39⟩;have gr4_39:=h39.g br4_37;have gr5_39:=h39.g br5_37;try simp(disch:=omega)only[go_sem,gr4',gr5,gr4_36,gr5_36,gr4_37,gr5_37,gr4_38,gr5_38,gr4_39,gr5_39]
  exact Wj.refl ⟨rfl,by simpa using h39.hw.less h39.hs⟩
theorem Bu8 {s:Ind} (hm:Cm s=true):Cl s.name=true/\(noE s.value=false->Cl s.value=true)/\(noE s.value=true->noE s.lo=false->Cl s.lo=true/\Cl s.hi=true):=by
 rw[Cm,jF] at hm;obtain⟨h1,h2⟩:=hm;refine⟨by rw[Jh,jF] at h1;exact h1.1,fun c=> ?_,fun c d=> ?_⟩
 ·rw[c] at h2;simp at h2;exact h2.2
 ·rw[c,d] at h2;simp at h2;exact h2
set_option maxHeartbeats 8000000 in
theorem Mz (hG:GX G) (s:Ind) (hm:Cm s=true) (hs:Uf 1048576 s):SrC Tryz.prog G 117 [.agg (Er s)] (Im s):=by
 intro B0 r ts H hB hlen hw;obtain⟨m1,m2,m3⟩:=Bu8 hm;obtain⟨f0,f1,f2,f3⟩:=hs;have hl0:ts.length+(Ai s.name).length<=1000000000:=by rw[Im,jC] at hlen;omega
 refine Aa Tryz.func117 Tryz.call117 rfl (by kernel_rfl) ?_;simp(disch:=omega)only[go_sem,DVal.cells];intro r3 hr3;dsimp only at hr3;have hwr3:=hw.frame hr3 (.cells (Er s) 56);have zr3:B0 r3=none:=(hw.lo hr3).1;have nr3:r3≠r:=(hw.lo hr3).2;obtain⟨B1,hXB1⟩: ∃X,X=upd B0 r3 (some (.cells (Er s) 56)):=⟨_,rfl⟩;have br3:B1 r3=some (.cells (Er s) 56):=by rw[hXB1];exact Ac _ _ _
 have sB1:Sub B0 B1:=by rw[hXB1];exact(Sub.refl _).up zr3 _
 have rB1:B1 r=none:=by rw[hXB1,Em _ _ _ _ nr3.symm];exact hB
 obtain⟨K1,hXK1⟩: ∃X,X=upd H r3 (some (.cells (Er s) 56)):=⟨_,rfl⟩;rw[<-hXB1,<-hXK1] at hwr3;rw[<-hXK1];have gr3:K1 r3=some (.cells (Er s) 56):=by rw[hXK1];exact Ac _ _ _
 clear hXB1 hXK1;simp(disch:=omega)only[go_sem,gr3,Ag,Bi,Bj,Bk,Bl];refine(Dn hG s.name m1 f0.fitx B1 r _ _ rB1 (by omega) hwr3).mono ?_;rintro _ K2 ⟨rfl,hw2⟩;have g2:=hw2.keep br3 nr3;simp(disch:=omega)only[go_sem,g2,Ag,Bi,Bj,Bk,Bl,Ah (Ad _)];intro p1 hp1;dsimp only at hp1;simp(disch:=omega)only[go_sem];refine Ae.monoR (Aq5 G K2 [s.value] p1 _ _ (by simp) hp1 (by simp) (by intro x hx;simp at hx;subst hx;assumption) rfl) ?_;rw[show [s.value].all noE=noE s.value by simp];cases h0:noE s.value
 ·have ht:Im s=Ai s.name++(Aj By::(Ai s.value++ [Aj Cb])):=by rw[Im,h0];rfl
  rw[ht] at hlen⊢
  have mv:=m2 h0;simp(disch:=omega)only[go_sem];refine Ak (by kernel_rfl) pL7 (by kernel_rfl) ?_;simp(disch:=omega)only[go_sem,g2,Ag,Bi,Bj,Bk,Bl];have h0:St B0 B1 r _ K2:=⟨hw2,rB1,sB1⟩;refine⟨?_, ?_⟩
  ·intro qb hqb;dsimp only at hqb;obtain⟨B40,K40,e40,h40,s40,bqb⟩:=h0.new hqb (.cells [.str [41]] 9);rw[e40];have br3_40:=s40 _ _ br3;have gr3_40:=h40.g br3_40;try simp(disch:=omega)only[go_sem,g2,gr3_40,Ag,Bi,Bj,Bk,Bl]
   intro qa hqa;dsimp only at hqa;obtain⟨B41,K41,e41,h41,s41,bqa⟩:=h40.new hqa (.cells [.str [40]] 9);rw[e41];have br3_41:=s41 _ _ br3_40;have bqb_41:=s41 _ _ bqb;have gr3_41:=h41.g br3_41;try simp(disch:=omega)only[go_sem,g2,gr3_40,gr3_41,Ag,Bi,Bj,Bk,Bl]
   refine(h41.put hG [By] bqa (by(try simp only[jC,jA,jB,jK,jN,jP,List.length_flatMap] at hlen⊢)<;>omega)).mono ?_;rintro _ K42 ⟨rfl,h42⟩;have gr3_42:=h42.g br3_41;try simp(disch:=omega)only[go_sem,g2,gr3_40,gr3_41,gr3_42,Ag,Bi,Bj,Bk,Bl]
   refine(h42.call (Dn hG s.value mv f3.fitx) (by(try simp only[jC,jA,jB,jK,jN,jP,List.length_flatMap] at hlen⊢)<;>omega)).mono ?_;rintro _ K43 ⟨rfl,h43⟩;have gr3_43:=h43.g br3_41;try simp(disch:=omega)only[go_sem,g2,gr3_40,gr3_41,gr3_42,gr3_43,Ag,Bi,Bj,Bk,Bl]
   refine(h43.put hG [Cb] bqb_41 (by(try simp only[jC,jA,jB,jK,jN,jP,List.length_flatMap] at hlen⊢)<;>omega)).mono ?_;rintro _ K44 ⟨rfl,h44⟩;have gr3_44:=h44.g br3_41;try simp(disch:=omega)only[go_sem,g2,gr3_40,gr3_41,gr3_42,gr3_43,gr3_44,Ag,Bi,Bj,Bk,Bl]
   exact Wj.refl ⟨rfl,by simpa using h44.hw.less h44.hs⟩
  ·intro qa hqa;dsimp only at hqa;obtain⟨B45,K45,e45,h45,s45,bqa⟩:=h0.new hqa (.cells [.str [40]] 9);rw[e45];have br3_45:=s45 _ _ br3;have gr3_45:=h45.g br3_45;try simp(disch:=omega)only[go_sem,g2,gr3_45,Ag,Bi,Bj,Bk,Bl]
   refine⟨?_, ?_⟩
   ·intro qb hqb;dsimp only at hqb;obtain⟨B46,K46,e46,h46,s46,bqb⟩:=h45.new hqb (.cells [.str [41]] 9);rw[e46];have br3_46:=s46 _ _ br3_45;have bqa_46:=s46 _ _ bqa;have gr3_46:=h46.g br3_46;try simp(disch:=omega)only[go_sem,g2,gr3_45,gr3_46,Ag,Bi,Bj,Bk,Bl]
    refine(h46.put hG [By] bqa_46 (by(try simp only[jC,jA,jB,jK,jN,jP,List.length_flatMap] at hlen⊢)<;>omega)).mono ?_;rintro _ K47 ⟨rfl,h47⟩;have gr3_47:=h47.g br3_46;try simp(disch:=omega)only[go_sem,g2,gr3_45,gr3_46,gr3_47,Ag,Bi,Bj,Bk,Bl]
    refine(h47.call (Dn hG s.value mv f3.fitx) (by(try simp only[jC,jA,jB,jK,jN,jP,List.length_flatMap] at hlen⊢)<;>omega)).mono ?_;rintro _ K48 ⟨rfl,h48⟩;have gr3_48:=h48.g br3_46;try simp(disch:=omega)only[go_sem,g2,gr3_45,gr3_46,gr3_47,gr3_48,Ag,Bi,Bj,Bk,Bl]
    refine(h48.put hG [Cb] bqb (by(try simp only[jC,jA,jB,jK,jN,jP,List.length_flatMap] at hlen⊢)<;>omega)).mono ?_;rintro _ K49 ⟨rfl,h49⟩;have gr3_49:=h49.g br3_46;try simp(disch:=omega)only[go_sem,g2,gr3_45,gr3_46,gr3_47,gr3_48,gr3_49,Ag,Bi,Bj,Bk,Bl]
    exact Wj.refl ⟨rfl,by simpa using h49.hw.less h49.hs⟩
   ·refine(h45.put hG [By] bqa (by(try simp only[jC,jA,jB,jK,jN,jP,List.length_flatMap] at hlen⊢)<;>omega)).mono ?_;rintro _ K50 ⟨rfl,h50⟩;have gr3_50:=h50.g br3_45;try simp(disch:=omega)only[go_sem,g2,gr3_45,gr3_50,Ag,Bi,Bj,Bk,Bl]
    refine⟨?_, ?_⟩
    ·intro qb hqb;dsimp only at hqb;obtain⟨B51,K51,e51,h51,s51,bqb⟩:=h50.new hqb (.cells [.str [41]] 9);rw[e51];have br3_51:=s51 _ _ br3_45;have bqa_51:=s51 _ _ bqa;have gr3_51:=h51.g br3_51;try simp(disch:=omega)only[go_sem,g2,gr3_45,gr3_50,gr3_51,Ag,Bi,Bj,Bk,Bl]
     refine(h51.call (Dn hG s.value mv f3.fitx) (by(try simp only[jC,jA,jB,jK,jN,jP,List.length_flatMap] at hlen⊢)<;>omega)).mono ?_;rintro _ K52 ⟨rfl,h52⟩;have gr3_52:=h52.g br3_51;try simp(disch:=omega)only[go_sem,g2,gr3_45,gr3_50,gr3_51,gr3_52,Ag,Bi,Bj,Bk,Bl]
     refine(h52.put hG [Cb] bqb (by(try simp only[jC,jA,jB,jK,jN,jP,List.length_flatMap] at hlen⊢)<;>omega)).mono ?_;rintro _ K53 ⟨rfl,h53⟩;have gr3_53:=h53.g br3_51;try simp(disch:=omega)only[go_sem,g2,gr3_45,gr3_50,gr3_51,gr3_52,gr3_53,Ag,Bi,Bj,Bk,Bl]
     exact Wj.refl ⟨rfl,by simpa using h53.hw.less h53.hs⟩
    ·refine(h50.call (Dn hG s.value mv f3.fitx) (by(try simp only[jC,jA,jB,jK,jN,jP,List.length_flatMap] at hlen⊢)<;>omega)).mono ?_;rintro _ K54 ⟨rfl,h54⟩;have gr3_54:=h54.g br3_45;try simp(disch:=omega)only[go_sem,g2,gr3_45,gr3_50,gr3_54,Ag,Bi,Bj,Bk,Bl]
     intro qb hqb;dsimp only at hqb;obtain⟨B55,K55,e55,h55,s55,bqb⟩:=h54.new hqb (.cells [.str [41]] 9);rw[e55];have br3_55:=s55 _ _ br3_45;have bqa_55:=s55 _ _ bqa;have gr3_55:=h55.g br3_55;try simp(disch:=omega)only[go_sem,g2,gr3_45,gr3_50,gr3_54,gr3_55,Ag,Bi,Bj,Bk,Bl]
     refine(h55.put hG [Cb] bqb (by(try simp only[jC,jA,jB,jK,jN,jP,List.length_flatMap] at hlen⊢)<;>omega)).mono ?_;rintro _ K56 ⟨rfl,h56⟩;have gr3_56:=h56.g br3_55;try simp(disch:=omega)only[go_sem,g2,gr3_45,gr3_50,gr3_54,gr3_55,gr3_56,Ag,Bi,Bj,Bk,Bl]
     exact Wj.refl ⟨rfl,by simpa using h56.hw.less h56.hs⟩
 ·simp(disch:=omega)only[go_sem,g2,Ag,Bi,Bj,Bk,Bl,Ah (Ad _)];intro p2 hp2;dsimp only at hp2;simp(disch:=omega)only[go_sem];refine Ae.monoR (Aq5 G K2 [s.lo] p2 _ _ (by simp) hp2 (by simp) (by intro x hx;simp at hx;subst hx;assumption) rfl) ?_;rw[show [s.lo].all noE=noE s.lo by simp];cases h1:noE s.lo
  ·have ht:Im s=Ai s.name++(Aj Gy::Eu s.lo s.hi):=by rw[Im,h0,h1];rfl
   rw[ht] at hlen⊢
   obtain⟨ml,mh⟩:=m3 h0 h1;simp(disch:=omega)only[go_sem];refine Ak (by kernel_rfl) pL38 (by kernel_rfl) ?_;simp(disch:=omega)only[go_sem,g2,Ag,Bi,Bj,Bk,Bl];have h0:St B0 B1 r _ K2:=⟨hw2,rB1,sB1⟩;intro qa hqa;dsimp only at hqa;obtain⟨B57,K57,e57,h57,s57,bqa⟩:=h0.new hqa (.cells [.str [114,97,110,103,101]] 9);rw[e57];have br3_57:=s57 _ _ br3;have gr3_57:=h57.g br3_57;try simp(disch:=omega)only[go_sem,g2,gr3_57,Ag,Bi,Bj,Bk,Bl]
   refine(h57.put hG [Gy] bqa (by(try simp only[jC,jA,jB,jK,jN,jP,List.length_flatMap] at hlen⊢)<;>omega)).mono ?_;rintro _ K58 ⟨rfl,h58⟩;have gr3_58:=h58.g br3_57;try simp(disch:=omega)only[go_sem,g2,gr3_57,gr3_58,Ag,Bi,Bj,Bk,Bl]
   refine(h58.call (Qk hG s.lo s.hi ml mh f1 f2) (by(try simp only[jC,jA,jB,jK,jN,jP,List.length_flatMap] at hlen⊢)<;>omega)).mono ?_;rintro _ K59 ⟨rfl,h59⟩;have gr3_59:=h59.g br3_57;try simp(disch:=omega)only[go_sem,g2,gr3_57,gr3_58,gr3_59,Ag,Bi,Bj,Bk,Bl]
   exact Wj.refl ⟨rfl,by simpa using h59.hw.less h59.hs⟩
  ·have ht:Im s=Ai s.name:=by rw[Im,h0,h1];simp
   rw[ht];simp(disch:=omega)only[go_sem];exact Wj.refl ⟨rfl,by simpa using hw2.less sB1⟩
end
end Go.Dl

-- Chapter 4: the writer of package shape: discrete ranges, pages, components (printed by gen_td.py).
namespace Go.Dl
open Go Go.Proofs
set_option maxRecDepth 100000
theorem Bu9 {d:Dis} (hm:Fk d=true):(noE d.lo=true->Cl d.name=true)/\(noE d.lo=false->Cl d.lo=true/\Cl d.hi=true/\(noE d.name=false->Cl d.name=true)):=by
 rw[Fk] at hm;by_cases c:(noE d.lo&&noE d.hi)=true
 ·rw[if_pos c] at hm;rw[jF] at c;refine⟨fun _=> ?_,fun h=>(by rw[c.1] at h;cases h)⟩;rw[Bool.or_eq_true,jF] at hm;rcases hm with h | h
  ·rw[Jh,jF] at h;exact h.1
  ·exact h.2
 ·rw[if_neg c] at hm;rw[jF,jF] at hm;obtain⟨⟨h1,h2⟩,h3⟩:=hm;refine⟨fun h=>(by rw[Dc3 h1] at h;cases h),fun _=>⟨h1,h2,fun h=> ?_⟩⟩;rw[h,Bool.false_or,Jh,jF] at h3;exact h3.1
theorem Bb6 {e:Ex} (h:Cl e=true):(Ay e 2).length<=5002:=by
 have:=Hw h;rw[Ay,Xk];split<;>omega
theorem Oo {a b:Ex} (ha:Cl a=true) (hb:Cl b=true):(Eu a b).length<=10005:=by
 have h1:=Bb6 ha;have h2:=Bb6 hb;rw[Eu,jC,jA];omega
theorem Su {e:Ex} (h:Gx e=true):(Li e).length<=5001:=by
 rw[Li];cases c:noE e
 ·rw[Gx,c,Bool.false_or] at h;have:=Hw h;simp;omega
 ·simp
theorem Js {s:Ind} (hm:Cm s=true):(Im s).length<=20000:=by
 obtain⟨m1,m2,m3⟩:=Bu8 hm;have h1:=Hw m1;rw[Im,jC];cases h0:noE s.value
 ·have:=Hw (m2 h0);simp;omega
 ·cases h2:noE s.lo
  ·have:=Oo (m3 h0 h2).1 (m3 h0 h2).2;simp;omega
  ·simp;omega
theorem Ys {d:Dis} (hm:Fk d=true):(Pt d).length<=20000:=by
 obtain⟨m1,m2⟩:=Bu9 hm;rw[Pt];cases h1:noE d.lo
 ·obtain⟨ml,mh,mn⟩:=m2 h1;have hb:=Oo ml mh;cases h0:noE d.name
  ·have:=Hw (mn h0);simp;omega
  ·simp;omega
 ·have:=Hw (m1 h1);simp;omega
theorem Iy {ws:List (List UInt8)} {m:Nat} (h:Fb ws m=true):ws.length<=m/\(Bv ws).length<=2*m:=by
 rw[Fb,jF,jF,decide_eq_true_eq,decide_eq_true_eq] at h;have h1:=Mf (ws:=ws) ws.length (Nat.le_refl _);rw[List.take_length] at h1;omega
theorem Dc4 {c:Cmp} (h:Fc c=true):(Ch7 c).length<=30000:=by
 rw[Fc,jF,jF] at h;have h1:=Iy h.1.1;have h2:=Js h.1.2;have h3:=Su h.2;rw[Ch7];simp;omega
section
variable {G:Nat->DVal}
set_option maxHeartbeats 8000000 in
theorem Bb7 (hG:GX G) (d:Dis) (hm:Fk d=true) (hs:Wf 1048576 d):SrC Tryz.prog G 118 [.agg (Fj d)] (Pt d):=by
 intro B0 r ts H hB hlen hw;obtain⟨m1,m2⟩:=Bu9 hm;obtain⟨f0,f1,f2⟩:=hs;refine Aa Tryz.func118 Tryz.call118 rfl (by kernel_rfl) ?_;simp(disch:=omega)only[go_sem,DVal.cells];intro r3 hr3;dsimp only at hr3;have hwr3:=hw.frame hr3 (.cells (Fj d) 58);have zr3:B0 r3=none:=(hw.lo hr3).1;have nr3:r3≠r:=(hw.lo hr3).2;obtain⟨B1,hXB1⟩: ∃X,X=upd B0 r3 (some (.cells (Fj d) 58)):=⟨_,rfl⟩;have br3:B1 r3=some (.cells (Fj d) 58):=by rw[hXB1];exact Ac _ _ _
 have sB1:Sub B0 B1:=by rw[hXB1];exact(Sub.refl _).up zr3 _
 have rB1:B1 r=none:=by rw[hXB1,Em _ _ _ _ nr3.symm];exact hB
 obtain⟨K1,hXK1⟩: ∃X,X=upd H r3 (some (.cells (Fj d) 58)):=⟨_,rfl⟩;rw[<-hXB1,<-hXK1] at hwr3;rw[<-hXK1];have gr3:K1 r3=some (.cells (Fj d) 58):=by rw[hXK1];exact Ac _ _ _
 clear hXB1 hXK1;simp(disch:=omega)only[go_sem,gr3,Ax,Dc,Dd,De,Ah (Ad _)];intro p1 hp1;dsimp only at hp1;simp(disch:=omega)only[go_sem];refine Ae.monoR (Aq5 G K1 [d.name] p1 _ _ (by simp) hp1 (by simp) (by intro x hx;simp at hx;subst hx;assumption) rfl) ?_;rw[show [d.name].all noE=noE d.name by simp];cases h0:noE d.name
 ·have mn:Cl d.name=true:=by
   cases h1:noE d.lo
   ·exact(m2 h1).2.2 h0
   ·exact m1 h1
  have hl0:ts.length+(Ai d.name).length<=1000000000:=by
   rw[Pt] at hlen;cases h1:noE d.lo
   ·rw[h1,h0] at hlen;simp at hlen;omega
   ·rw[h1] at hlen;simp at hlen;omega
  simp(disch:=omega)only[go_sem,gr3,Ax,Dc,Dd,De];refine(Dn hG d.name mn f0.fitx B1 r _ _ rB1 hl0 hwr3).mono ?_;rintro _ K2 ⟨rfl,hw2⟩;have g2:=hw2.keep br3 nr3;simp(disch:=omega)only[go_sem,g2,Ax,Dc,Dd,De,Ah (Ad _)];intro p2 hp2;dsimp only at hp2;simp(disch:=omega)only[go_sem];refine Ae.monoR (Aq5 G K2 [d.lo] p2 _ _ (by simp) hp2 (by simp) (by intro x hx;simp at hx;subst hx;assumption) rfl) ?_;rw[show [d.lo].all noE=noE d.lo by simp];cases h1:noE d.lo
  ·obtain⟨ml,mh,-⟩:=m2 h1;have ht:Pt d=Ai d.name++(Aj Gy::Eu d.lo d.hi):=by rw[Pt,h1,h0];rfl
   rw[ht] at hlen⊢
   simp(disch:=omega)only[go_sem];intro q hq;dsimp only at hq;simp(disch:=omega)only[go_sem];refine(Wg hG Gy hq rB1 (by(try simp only[jC,jA,jB,jK,jN,jP,List.length_flatMap] at hlen⊢)<;>omega) hw2).mono ?_;rintro _ K3 ⟨rfl,hw3⟩;have g3:=hw3.keep br3 nr3;simp(disch:=omega)only[go_sem,g3,Ax,Dc,Dd,De];refine(Qk hG d.lo d.hi ml mh f1 f2 B1 r _ _ rB1 (by(try simp only[jC,jA,jB,jK,jN,jP,List.length_flatMap] at hlen⊢)<;>omega) hw3).mono ?_;rintro _ K4 ⟨rfl,hw4⟩;simp(disch:=omega)only[go_sem];exact Wj.refl ⟨rfl,by simpa using hw4.less sB1⟩
  ·have ht:Pt d=Ai d.name:=by rw[Pt,h1];rfl
   rw[ht];simp(disch:=omega)only[go_sem];exact Wj.refl ⟨rfl,by simpa using hw2.less sB1⟩
 ·cases h1:noE d.lo
  ·obtain⟨ml,mh,-⟩:=m2 h1;have ht:Pt d=Eu d.lo d.hi:=by rw[Pt,h1,h0];rfl
   rw[ht] at hlen⊢
   simp(disch:=omega)only[go_sem,gr3,Ax,Dc,Dd,De];refine(Qk hG d.lo d.hi ml mh f1 f2 B1 r _ _ rB1 (by(try simp only[jC,jA,jB,jK,jN,jP,List.length_flatMap] at hlen⊢)<;>omega) hwr3).mono ?_;rintro _ K4 ⟨rfl,hw4⟩;simp(disch:=omega)only[go_sem];exact Wj.refl ⟨rfl,by simpa using hw4.less sB1⟩
  ·exfalso;rw[Dc3 (m1 h1)] at h0;cases h0
end
def PAt (B:Ab) (r:Nat) (ls:List Lin) (H:Ab):Prop:= ∃v,Df (upd B r (some (.cells [v] 147))) 158 2 ls.length (ls.flatMap Eg) v H
def PrC (P:Program) (G:Nat->DVal) (f:FuncId) (args:List DVal) (t:List Lin):Prop:=
 ∀B r ls H,B r=none->ls.length+t.length<=1000000->PAt B r ls H->Ae P G f (.optr r 0::args) H (fun e H'=>e= .ret (.tuple [])/\PAt B r (ls++t) H')
section
variable {B B1 H H':Ab} {r x:Nat} {ls:List Lin}
theorem PAt.new (h:PAt B r ls H) (hx:H x=none) (o:Option DObj):PAt B r ls (upd H x o):=by
 obtain⟨v,h⟩:=h;exact⟨v,h.new hx o⟩
theorem PAt.more (h:PAt B r ls H) (s:Sub H H'):PAt B r ls H':=by
 obtain⟨v,h⟩:=h;exact⟨v,h.more s⟩
theorem PAt.less (h:PAt B r ls H) (s:Sub B1 B):PAt B1 r ls H:=by
 obtain⟨v,h⟩:=h;exact⟨v,h.less (s.both r _)⟩
theorem PAt.keep (h:PAt B r ls H) {o:DObj} (hx:B x=some o) (n:x≠r):H x=some o:=by
 obtain⟨v,h⟩:=h;exact h.keep (by rw[Em _ _ _ _ n];exact hx)
theorem PAt.lo (h:PAt B r ls H) (hx:H x=none):B x=none/\x≠r:=by
 obtain⟨v,h⟩:=h;have:=h.sub.lo hx;simp only[upd] at this;split at this
 ·cases this
 ·exact⟨this,‹_›⟩
theorem PAt.frame (h:PAt B r ls H) (hx:H x=none) (o:DObj):PAt (upd B x (some o)) r ls (upd H x (some o)):=by
 have n:=(h.lo hx).2;obtain⟨v,h⟩:=h;refine⟨v, ?_⟩;rw[Ay6 n.symm];exact h.frame hx o
theorem PAt.start {B:Ab} {r:Nat} (hr:B r=none):PAt B r [] (upd B r (some (.cells [.nilSlice] 147))):=⟨_, .inl ⟨rfl,rfl,rfl,Sub.refl _⟩⟩
theorem PAt.cell (h:PAt B r ls H) (hr:B r=none): ∃v,H r=some (.cells [v] 147)/\Qg H v B (.vslice (ls.flatMap Eg) ls.length):=by
 obtain⟨v,h⟩:=h;exact⟨v,h.keep (Ac _ _ _),Qg.own (h.less ((Sub.refl B).up hr _))⟩
theorem PAt.sub (h:PAt B r ls H) (hr:B r=none):Sub B H:=by
 obtain⟨v,h⟩:=h;exact((Sub.refl B).up hr _).trans h.sub
theorem Ok.cellF {K B:Ab} {q:Nat} {cs cs':List DVal} {e:TypeId} (h4:K q=some (.cells cs e)) (hB:Sub B K) (hs:Px K cs (upd B q (some (.cells cs' e))) cs') (v:DVal):Ok K v (upd B q (some (.cells cs' e))) v:=fun w hH=>by
 have hd: ∀b,K b=none->(upd B q (some (.cells cs' e))) b=none:=fun b hb=>by
  simp only[upd];split
  ·rename_i e1;rw[e1,h4] at hb;cases hb
  ·exact hB.lo hb
 refine⟨fun b o hb=> ?_,fun b hb h=>hb (hd b h),fun x hx=>Rel.lasts (Bt4 hd w) _ _ hx⟩;simp only[upd] at hb;split at hb
 ·rename_i e1
  subst e1;cases hb;obtain⟨xs,c,fz,g1,g2,g3,g5⟩:=hH _ _ h4;exact⟨xs,c,fz,g1,g2,hs w hH xs g3,g5⟩
 ·exact(hH b o (hB b o hb)).lasts (Bt4 hd w)
end
theorem Gp (ls:List Lin) (x:Lin):(ls++ [x]).flatMap Eg=ls.flatMap Eg++Eg x:=by simp
section
variable {G:Nat->DVal}
set_option maxHeartbeats 8000000 in
theorem Fs (G:Nat->DVal) {B H1 H2:Ab} {r rw:Nat} {ls:List Lin} {ts:List Tok} (d:Int) (hp:PAt B r ls H1) (hr:H1 rw=none) (hw:SAt H1 rw ts H2) (hl:ls.length<=1000000):
  Ae Tryz.prog G 120 [.optr r 0,dI d, .optr rw 0] H2 (fun e H'=>e= .ret (.tuple [])/\PAt B r (ls++ [⟨d,ts⟩]) H'):=by
 obtain⟨u,hu⟩:=hw;have gu:=hu.keep (Ac _ _ _);have hs:Sub H1 H2:=((Sub.refl H1).up hr _).trans hu.sub;refine Ae.pre (Ok.cellF (B:=H1) (cs':= [Aq ts]) gu hs (.cons (Qg.ownD (fun b hb=> ?_) (fun b hb=> ?_) hu) .nil) _) ?_
 ·have h1:=hu.sub.lo hb;simp only[upd] at h1⊢
  split at h1
  ·cases h1
  ·rw[if_neg ‹_›];exact h1
 ·simp only[upd] at hb⊢
  split at hb
  ·cases hb
  ·rw[if_neg ‹_›];exact hb
 obtain⟨v,hv⟩:=hp;have gv:=hv.keep (Ac _ _ _);have n:r≠rw:=Am hr gv;have hv3:=hv.new hr (some (.cells [Aq ts] 150));obtain⟨H3,hH3⟩: ∃X,X=upd H1 rw (some (.cells [Aq ts] 150)):=⟨_,rfl⟩;rw[<-hH3] at hv3⊢
 have g3:H3 rw=some (.cells [Aq ts] 150):=by rw[hH3];exact Ac _ _ _
 have g4:H3 r=some (.cells [v] 147):=by rw[hH3];exact Ph gv n
 clear hH3;refine Aa Tryz.func120 Tryz.call120 rfl (by kernel_rfl) ?_;simp(disch:=omega)only[go_sem];refine Ak (by kernel_rfl) pL40 (by kernel_rfl) ?_;simp(disch:=omega)only[go_sem,g3,g4,Aq];intro q hq;dsimp only at hq;have n1:r≠q:=Am hq g4;have n2:rw≠q:=Am hq g3;have m1:=n1.symm;have hv6:=hv3.new hq (some (.cells (Eg ⟨d,ts⟩) 158));simp(disch:=omega)only[go_sem,g3,g4,n1,n2,m1];refine Df.append (m:=1) hv6 rfl (by omega) fun v2 H6 hv2=> ?_;have g6:=hv2.keep (Ac _ _ _);obtain⟨j1,j2⟩:=hv2.cell1;simp(disch:=omega)only[go_sem,g6,j1,j2];refine Wj.refl ⟨rfl,v2, ?_⟩;have hv7:=hv2.at (Ac _ _ _) (some (.cells [v2] 147));rw[Ht] at hv7;rw[Gp,jC,jQ];exact hv7
theorem Cv0 (hG:GX G) (d:Int) (ws:List (List UInt8)) (hws:ws.length<=1000000):PrC Tryz.prog G 245 [dI d,dW ws] [⟨d,ws.map Aj⟩]:=by
 intro B r ls H hB hlen hp;rw[jQ] at hlen;refine Aa Tryz.func245 Tryz.call245 rfl (by kernel_rfl) ?_;simp(disch:=omega)only[go_sem];intro rw hrw;dsimp only at hrw;simp(disch:=omega)only[go_sem];refine(Yr hG ws H rw [] _ hrw (by simp;omega) (SAt.start hrw)).mono ?_;rintro _ K2 ⟨rfl,hw2⟩;rw[jG] at hw2;simp(disch:=omega)only[go_sem];refine(Fs G d hp hrw hw2 (by omega)).mono ?_;rintro _ K3 ⟨rfl,hp3⟩;simp(disch:=omega)only[go_sem];exact Wj.refl ⟨rfl,hp3⟩
theorem Xu (hG:GX G) (d:Int) (ws:List (List UInt8)) {B H:Ab} {r q:Nat} {ls:List Lin} (cs:List DVal) (hcs:ws.map .str=cs) (hq:H q=none) (hws:ws.length<=1000000) (hB:B r=none) (hlen:ls.length+1<=1000000) (hp:PAt B r ls H):
  Ae Tryz.prog G 245 [.optr r 0,dI d, .oslice 1 q 0 ws.length ws.length] (upd H q (some (.cells cs 9))) (fun e H'=>e= .ret (.tuple [])/\PAt B r (ls++ [⟨d,ws.map Aj⟩]) H'):=by
 subst hcs;refine Ae.fzA q hq ?_;have n:r≠q:=fun e=>(hp.lo hq).2 e.symm;simp only[fzs,fz,if_neg n,if_pos,jJ,Nat.mul_one];rw[List.take_of_length_le (by simp)];exact Cv0 hG d ws hws B r ls H hB hlen hp
def Iz (d:Int) (c:Cmp):Lin:=⟨d,Ch7 c⟩
set_option maxHeartbeats 40000000 in
theorem Sv (hG:GX G) (l:List Cmp) (d:Int) (hm: ∀c∈l,Fc c=true) (hl:Hf Oc 1048576 l) (hl9:l.length<=900000):PrC Tryz.prog G 177 [Cv l,dI d] (Hz l d):=by
 intro B r ls H hB hlen hp;have hlc:l.length<=(Hz l d).length/\(l.length=0->(Hz l d).length=1):=by
  rw[Hz];cases l<;>simp
 refine Aa Tryz.func177 Tryz.call177 rfl (by kernel_rfl) ?_;by_cases h0:l.length=0
 ·have h0':(l.length:Int)=0:=by omega
  have hl0:l= []:=List.length_eq_zero_iff.1 h0;simp(disch:=omega)only[go_sem,Cv,h0'];intro q hq;dsimp only at hq;simp(disch:=omega)only[go_sem];refine(Xu hG d [Hu,Ew] _ rfl hq (by simp) hB (by omega) hp).mono ?_;rintro _ K0 ⟨rfl,hp0⟩;have hcl:ls++Hz l d=ls++ [⟨d,[Hu,Ew].map Aj⟩]:=by rw[hl0];rfl
  obtain⟨ls0,hls0⟩: ∃ls0,ls0=ls++ [⟨d,[Hu,Ew].map Aj⟩]:=⟨_,rfl⟩;rw[<-hls0] at hp0 hcl;have hcm:ls++Hz l d=ls0++l.map (Iz d):=by rw[hcl,hl0];simp
  have hlz:ls0.length+l.length<=1000000:=by rw[hls0,jC,jQ];omega
  clear hls0 hcl;simp(disch:=omega)only[go_sem,Cv];obtain⟨I,hI⟩: ∃I:Nat->(Nat->DVal)->Ab->Prop,∀k env heap,I k env heap↔(env 0= .optr r 0/\env 2=dI d/\env 15=Cv l/\env 16=dI l.length/\env 17=dI k/\k<=l.length/\PAt B r (ls0++(l.take k).map (Iz d)) heap):=⟨_,fun _ _ _=>Iff.rfl⟩;refine Dt1.run I (fun k=>l.length-k) 0 ((hI _ _ _).2 ?_) ?_
  ·simp(disch:=omega)only[go_sem,Cv];(repeat' apply And.intro)<;>(try first | rfl | assumption | omega);simpa using hp0
  ·try clear h0'
   try clear h0
   intro k env heap hi;obtain⟨e0,e2,e15,e16,e17,hk,hpk⟩:=(hI _ _ _).1 hi;by_cases hlt:k<l.length
   ·have hlt':(k:Int)<(l.length:Int):=by omega
    have hw1:IntKind.i64.wrap ((k:Int)+1)=((k+1:Nat):Int):=by rw[IntKind.wrap_i64];omega
    have Aw:=Bu Bm l k hlt;have hfl:=Al Bm l;have mx:=List.getElem_mem hlt;have htk:(l.take (k+1)).map (Iz d)=(l.take k).map (Iz d)++ [Iz d l[k]]:=by rw[Hl hlt,List.map_append,List.map_singleton]
    obtain⟨x,hx⟩: ∃x,x=l[k]:=⟨_,rfl⟩;rw[<-hx] at Aw mx htk;have hok:=hm x mx;rw[Fc,jF,jF] at hok;obtain⟨⟨o1,o2⟩,o3⟩:=hok;obtain⟨f0,f1,f2⟩:=hl.2 x mx;have hn1:=Iy o1;have hn2:=Js o2;have hn3:=Su o3;have hll:(ls0++(l.take k).map (Iz d)).length<=1000000:=by rw[jC,jK,List.length_take];omega
    simp(disch:=omega)only[go_sem,e0,e2,e15,e16,e17,Cv,hlt',Aw,hfl,jD];intro r7 hr7;dsimp only at hr7;have hpB:=hpk.new hr7 (some (.cells (Lj x) 99));obtain⟨B0,hB0⟩: ∃X,X=upd heap r7 (some (.cells (Lj x) 99)):=⟨_,rfl⟩;rw[<-hB0] at hpB;simp(disch:=omega)only[go_sem,e0,e2,e15,e16,e17];rw[<-hB0];have gr7:B0 r7=some (.cells (Lj x) 99):=by rw[hB0];exact Ac _ _ _
    clear hB0;refine Ak (by kernel_rfl) pL2 (by kernel_rfl) ?_;simp(disch:=omega)only[go_sem,gr7,e0,e2,e15,e16,e17,Bm,Fo,Fp,Eb];have tA:=Sub.refl B0;have br7:=gr7
    repeat'
     first
     | with_reducible apply And.intro
     |with_reducible show Ae _ _ 115 _ _ _
      have pr7:=h.g br7;refine(h.call (Ia hG x.names (by omega)) (by(try simp only[jC,jA,jB,jK,jN,jP,List.length_flatMap] at hlen⊢)<;>omega)).mono ?_;rintro _ K ⟨rfl,h⟩;try simp(disch:=omega)only[go_sem,pr7,h.g br7,e0,e2,e15,e16,e17,Bm,Fo,Fp,Eb]
     |with_reducible show Ae _ _ 117 _ _ _
      have pr7:=h.g br7;refine(h.call (Mz hG x.sub o2 f1) (by(try simp only[jC,jA,jB,jK,jN,jP,List.length_flatMap] at hlen⊢)<;>omega)).mono ?_;rintro _ K ⟨rfl,h⟩;try simp(disch:=omega)only[go_sem,pr7,h.g br7,e0,e2,e15,e16,e17,Bm,Fo,Fp,Eb]
     |with_reducible show Ae _ _ 145 _ _ _
      have pr7:=h.g br7;refine(h.call (Jk hG x.e o3 f2) (by(try simp only[jC,jA,jB,jK,jN,jP,List.length_flatMap] at hlen⊢)<;>omega)).mono ?_;rintro _ K ⟨rfl,h⟩;try simp(disch:=omega)only[go_sem,pr7,h.g br7,e0,e2,e15,e16,e17,Bm,Fo,Fp,Eb]
     |with_reducible show Ae _ _ 114 _ _ _
      have pr7:=h.g br7;refine(h.put hG [Dr] bqa (by(try simp only[jC,jA,jB,jK,jN,jP,List.length_flatMap] at hlen⊢)<;>omega)).mono ?_;rintro _ K ⟨rfl,h⟩;try simp(disch:=omega)only[go_sem,pr7,h.g br7,e0,e2,e15,e16,e17,Bm,Fo,Fp,Eb]
     |with_reducible show Ae _ _ 114 _ _ _
      have pr7:=h.g br7;refine(h.put hG [Ew] bqb (by(try simp only[jC,jA,jB,jK,jN,jP,List.length_flatMap] at hlen⊢)<;>omega)).mono ?_;rintro _ K ⟨rfl,h⟩;try simp(disch:=omega)only[go_sem,pr7,h.g br7,e0,e2,e15,e16,e17,Bm,Fo,Fp,Eb]
     |with_reducible show Ae _ _ 120 _ _ _
      refine(Fs G d (hpB.more h.hs) h.hr h.hw hll).mono ?_;rintro _ KZ ⟨rfl,hpZ⟩;simp(disch:=omega)only[go_sem,e0,e2,e15,e16,e17,Bm,Fo,Fp,Eb];refine⟨k+1,_,Ws.refl _,(hI _ _ _).2 ?_,by omega⟩;simp(disch:=omega)only[go_sem,e0,e2,e15,e16,e17,hw1];(repeat' apply And.intro)<;>(try first | rfl | assumption | omega);rw[htk,<-jO];simpa [Iz,Ch7] using hpZ
     |intro qa hqa;dsimp only at hqa
      have pr7:=h.g br7;obtain⟨B,K,e,h,s,bqa⟩:=h.new hqa (.cells [.str [58]] 9);rw[e];replace br7:=s _ _ br7;try replace bqb:=s _ _ bqb
      try simp(disch:=omega)only[go_sem,pr7,h.g br7,e0,e2,e15,e16,e17,Bm,Fo,Fp,Eb]
     |intro qa hqa;dsimp only at hqa
      have pr7:=br7;obtain⟨K,e,tA,s,bqa⟩:=tA.newK hqa (.cells [.str [58]] 9);rw[e];replace br7:=s _ _ br7;try replace bqb:=s _ _ bqb
      try simp(disch:=omega)only[go_sem,pr7,br7,e0,e2,e15,e16,e17,Bm,Fo,Fp,Eb]
     |intro qb hqb;dsimp only at hqb
      have pr7:=h.g br7;obtain⟨B,K,e,h,s,bqb⟩:=h.new hqb (.cells [.str [59]] 9);rw[e];replace br7:=s _ _ br7;try replace bqa:=s _ _ bqa
      try simp(disch:=omega)only[go_sem,pr7,h.g br7,e0,e2,e15,e16,e17,Bm,Fo,Fp,Eb]
     |intro qb hqb;dsimp only at hqb
      have pr7:=br7;obtain⟨K,e,tA,s,bqb⟩:=tA.newK hqb (.cells [.str [59]] 9);rw[e];replace br7:=s _ _ br7;try replace bqa:=s _ _ bqa
      try simp(disch:=omega)only[go_sem,pr7,br7,e0,e2,e15,e16,e17,Bm,Fo,Fp,Eb]
     |intro rw hrw;dsimp only at hrw
      have pr7:=br7;obtain⟨K,e,h⟩:=St.start tA hrw;rw[e];try simp(disch:=omega)only[go_sem,pr7,h.g br7,e0,e2,e15,e16,e17,Bm,Fo,Fp,Eb]
   ·have:k=l.length:=by omega
    subst this;have hlt': ¬(l.length:Int)<(l.length:Int):=by omega
    rw[List.take_length] at hpk;simp(disch:=omega)only[go_sem,e0,e2,e15,e16,e17,Cv,hlt'];exact Wj.refl ⟨rfl,by rw[hcm];exact hpk⟩
 ·have h0': ¬(l.length:Int)=0:=by omega
  have hl0:l≠ []:=fun e=>h0 (by rw[e];rfl);simp(disch:=omega)only[go_sem,Cv,h0'];obtain⟨ls0,hls0⟩: ∃ls0,ls0=ls:=⟨_,rfl⟩;have hcm:ls++Hz l d=ls0++l.map (Iz d):=by
   rw[Hz,if_neg (by simpa using hl0),hls0];rfl
  have hlz:ls0.length+l.length<=1000000:=by rw[hls0];omega
  have hp0:PAt B r ls0 H:=by rw[hls0];exact hp
  clear hls0;obtain⟨I,hI⟩: ∃I:Nat->(Nat->DVal)->Ab->Prop,∀k env heap,I k env heap↔(env 0= .optr r 0/\env 2=dI d/\env 15=Cv l/\env 16=dI l.length/\env 17=dI k/\k<=l.length/\PAt B r (ls0++(l.take k).map (Iz d)) heap):=⟨_,fun _ _ _=>Iff.rfl⟩;refine Dt1.run I (fun k=>l.length-k) 0 ((hI _ _ _).2 ?_) ?_
  ·simp(disch:=omega)only[go_sem,Cv];(repeat' apply And.intro)<;>(try first | rfl | assumption | omega);simpa using hp0
  ·try clear h0'
   try clear h0
   intro k env heap hi;obtain⟨e0,e2,e15,e16,e17,hk,hpk⟩:=(hI _ _ _).1 hi;by_cases hlt:k<l.length
   ·have hlt':(k:Int)<(l.length:Int):=by omega
    have hw1:IntKind.i64.wrap ((k:Int)+1)=((k+1:Nat):Int):=by rw[IntKind.wrap_i64];omega
    have Aw:=Bu Bm l k hlt;have hfl:=Al Bm l;have mx:=List.getElem_mem hlt;have htk:(l.take (k+1)).map (Iz d)=(l.take k).map (Iz d)++ [Iz d l[k]]:=by rw[Hl hlt,List.map_append,List.map_singleton]
    obtain⟨x,hx⟩: ∃x,x=l[k]:=⟨_,rfl⟩;rw[<-hx] at Aw mx htk;have hok:=hm x mx;rw[Fc,jF,jF] at hok;obtain⟨⟨o1,o2⟩,o3⟩:=hok;obtain⟨f0,f1,f2⟩:=hl.2 x mx;have hn1:=Iy o1;have hn2:=Js o2;have hn3:=Su o3;have hll:(ls0++(l.take k).map (Iz d)).length<=1000000:=by rw[jC,jK,List.length_take];omega
    simp(disch:=omega)only[go_sem,e0,e2,e15,e16,e17,Cv,hlt',Aw,hfl,jD];intro r7 hr7;dsimp only at hr7;have hpB:=hpk.new hr7 (some (.cells (Lj x) 99));obtain⟨B0,hB0⟩: ∃X,X=upd heap r7 (some (.cells (Lj x) 99)):=⟨_,rfl⟩;rw[<-hB0] at hpB;simp(disch:=omega)only[go_sem,e0,e2,e15,e16,e17];rw[<-hB0];have gr7:B0 r7=some (.cells (Lj x) 99):=by rw[hB0];exact Ac _ _ _
    clear hB0;refine Ak (by kernel_rfl) pL2 (by kernel_rfl) ?_;simp(disch:=omega)only[go_sem,gr7,e0,e2,e15,e16,e17,Bm,Fo,Fp,Eb];have tA:=Sub.refl B0;have br7:=gr7
    repeat'
     first
     | with_reducible apply And.intro
     |with_reducible show Ae _ _ 115 _ _ _
      have pr7:=h.g br7;refine(h.call (Ia hG x.names (by omega)) (by(try simp only[jC,jA,jB,jK,jN,jP,List.length_flatMap] at hlen⊢)<;>omega)).mono ?_;rintro _ K ⟨rfl,h⟩;try simp(disch:=omega)only[go_sem,pr7,h.g br7,e0,e2,e15,e16,e17,Bm,Fo,Fp,Eb]
     |with_reducible show Ae _ _ 117 _ _ _
      have pr7:=h.g br7;refine(h.call (Mz hG x.sub o2 f1) (by(try simp only[jC,jA,jB,jK,jN,jP,List.length_flatMap] at hlen⊢)<;>omega)).mono ?_;rintro _ K ⟨rfl,h⟩;try simp(disch:=omega)only[go_sem,pr7,h.g br7,e0,e2,e15,e16,e17,Bm,Fo,Fp,Eb]
     |with_reducible show Ae _ _ 145 _ _ _
      have pr7:=h.g br7;refine(h.call (Jk hG x.e o3 f2) (by(try simp only[jC,jA,jB,jK,jN,jP,List.length_flatMap] at hlen⊢)<;>omega)).mono ?_;rintro _ K ⟨rfl,h⟩;try simp(disch:=omega)only[go_sem,pr7,h.g br7,e0,e2,e15,e16,e17,Bm,Fo,Fp,Eb]
     |with_reducible show Ae _ _ 114 _ _ _
      have pr7:=h.g br7;refine(h.put hG [Dr] bqa (by(try simp only[jC,jA,jB,jK,jN,jP,List.length_flatMap] at hlen⊢)<;>omega)).mono ?_;rintro _ K ⟨rfl,h⟩;try simp(disch:=omega)only[go_sem,pr7,h.g br7,e0,e2,e15,e16,e17,Bm,Fo,Fp,Eb]
     |with_reducible show Ae _ _ 114 _ _ _
      have pr7:=h.g br7;refine(h.put hG [Ew] bqb (by(try simp only[jC,jA,jB,jK,jN,jP,List.length_flatMap] at hlen⊢)<;>omega)).mono ?_;rintro _ K ⟨rfl,h⟩;try simp(disch:=omega)only[go_sem,pr7,h.g br7,e0,e2,e15,e16,e17,Bm,Fo,Fp,Eb]
     |with_reducible show Ae _ _ 120 _ _ _
      refine(Fs G d (hpB.more h.hs) h.hr h.hw hll).mono ?_;rintro _ KZ ⟨rfl,hpZ⟩;simp(disch:=omega)only[go_sem,e0,e2,e15,e16,e17,Bm,Fo,Fp,Eb];refine⟨k+1,_,Ws.refl _,(hI _ _ _).2 ?_,by omega⟩;simp(disch:=omega)only[go_sem,e0,e2,e15,e16,e17,hw1];(repeat' apply And.intro)<;>(try first | rfl | assumption | omega);rw[htk,<-jO];simpa [Iz,Ch7] using hpZ
     |intro qa hqa;dsimp only at hqa
      have pr7:=h.g br7;obtain⟨B,K,e,h,s,bqa⟩:=h.new hqa (.cells [.str [58]] 9);rw[e];replace br7:=s _ _ br7;try replace bqb:=s _ _ bqb
      try simp(disch:=omega)only[go_sem,pr7,h.g br7,e0,e2,e15,e16,e17,Bm,Fo,Fp,Eb]
     |intro qa hqa;dsimp only at hqa
      have pr7:=br7;obtain⟨K,e,tA,s,bqa⟩:=tA.newK hqa (.cells [.str [58]] 9);rw[e];replace br7:=s _ _ br7;try replace bqb:=s _ _ bqb
      try simp(disch:=omega)only[go_sem,pr7,br7,e0,e2,e15,e16,e17,Bm,Fo,Fp,Eb]
     |intro qb hqb;dsimp only at hqb
      have pr7:=h.g br7;obtain⟨B,K,e,h,s,bqb⟩:=h.new hqb (.cells [.str [59]] 9);rw[e];replace br7:=s _ _ br7;try replace bqa:=s _ _ bqa
      try simp(disch:=omega)only[go_sem,pr7,h.g br7,e0,e2,e15,e16,e17,Bm,Fo,Fp,Eb]
     |intro qb hqb;dsimp only at hqb
      have pr7:=br7;obtain⟨K,e,tA,s,bqb⟩:=tA.newK hqb (.cells [.str [59]] 9);rw[e];replace br7:=s _ _ br7;try replace bqa:=s _ _ bqa
      try simp(disch:=omega)only[go_sem,pr7,br7,e0,e2,e15,e16,e17,Bm,Fo,Fp,Eb]
     |intro rw hrw;dsimp only at hrw
      have pr7:=br7;obtain⟨K,e,h⟩:=St.start tA hrw;rw[e];try simp(disch:=omega)only[go_sem,pr7,h.g br7,e0,e2,e15,e16,e17,Bm,Fo,Fp,Eb]
   ·have:k=l.length:=by omega
    subst this;have hlt': ¬(l.length:Int)<(l.length:Int):=by omega
    rw[List.take_length] at hpk;simp(disch:=omega)only[go_sem,e0,e2,e15,e16,e17,Cv,hlt'];exact Wj.refl ⟨rfl,by rw[hcm];exact hpk⟩
end
end Go.Dl

-- Chapter 3: the reference's tokens: arguments.
namespace Go.Dl
open Go Go.Proofs
set_option maxRecDepth 100000
section
variable {G:Nat->DVal}
set_option maxHeartbeats 8000000 in
theorem Bm4 (G:Nat->DVal) (K:Ab) (l:List As) (hll:l.length<=1000000) (hr: ∀a∈l,(a.c.isEmpty || Ct a.c)=true) (ho: ∀a∈l,Zd Tryz.prog G 290 a.e/\ ∀c∈a.c,∀x∈c.l,Zd Tryz.prog G 290 x) (hlen:(Et Cx (l.map Gt)).length<=10000000):
  Ae Tryz.prog G 356 [dAl l] K (fun e H'=> ∃v,e= .ret v/\Df K 31 4 (Et Cx (l.map Gt)).length ((Et Cx (l.map Gt)).flatMap Af) v H'):=by
 refine Aa Tryz.func356 Tryz.call356 rfl (by kernel_rfl) ?_;simp(disch:=omega)only[go_sem];obtain⟨I,hI⟩: ∃I:Nat->(Nat->DVal)->Ab->Prop,∀j env heap,I j env heap↔(env 0=dAl l/\env 4=dI j/\j<=l.length/\Df K 31 4 (Et Cx ((l.take j).map Gt)).length ((Et Cx ((l.take j).map Gt)).flatMap Af) (env 3) heap):=⟨_,fun _ _ _=>Iff.rfl⟩;refine Dt1.run I (fun j=>l.length-j) 0 ((hI _ _ _).2 ?_) ?_
 ·simp(disch:=omega)only[go_sem];(repeat' apply And.intro)<;>(try first | rfl | assumption | omega);exact Df.nil _ _ (Sub.refl K)
 ·intro j env heap hi;obtain⟨e0,e4,hj,hv⟩:=(hI _ _ _).1 hi;by_cases hlt:j<l.length
  ·have hlt':(j:Int)<(l.length:Int):=by omega
   have hw1:IntKind.i64.wrap ((j:Int)+1)=((j+1:Nat):Int):=by rw[IntKind.wrap_i64];omega
   have hfl:=Al Cr l;have htk:=Ub Gt Cx l j hlt;have hle:=Au5 Gt Cx l (j+1) hlt;have hrc:=hr l[j] (List.getElem_mem hlt);obtain⟨hoe,hokc⟩:=ho l[j] (List.getElem_mem hlt);have hget0:=Bu Cr l j hlt;have gk:=Ck Cr l j hlt 0 (by decide);obtain⟨a,hae⟩: ∃a,a=l[j]:=⟨_,rfl⟩;rw[<-hae] at htk hrc hoe hokc gk hget0;obtain⟨ho1,ho2⟩:=hoe;rw[htk,jC,jC] at hle;have hgl:(l.flatMap dAs)[j*10]? =some (.vslice (a.c.flatMap dCh) a.c.length):=by rw[Nat.add_zero] at gk;rw[gk,Xd];rfl
   have Aw:((l.flatMap dAs).drop (j*10+1)).take 9=dEx a.e:=by
    have:((l.flatMap dAs).drop (j*10+1)).take 9=(((l.flatMap dAs).drop (j*10)).take 10).drop 1:=by rw[List.drop_take,List.drop_drop]
    rw[this,hget0,Xd];rfl
   have ht4:=fun ts:List Tok=>Al Gc ts;have hcl:(dAl l)= .vslice (l.flatMap dAs) l.length:=rfl;clear hget0 gk;obtain⟨v,hve⟩: ∃v,v=env 3:=⟨_,rfl⟩;rw[<-hve] at hv;simp(disch:=omega)only[go_sem,e0,e4,<-hve,hlt',hcl];by_cases c0:j=0
   ·have c0'': ¬(0:Int)<(j:Int):=by omega
    rw[if_pos c0,jG] at htk;rw[if_pos c0,jB] at hle;obtain⟨pre,hpre⟩: ∃pre,pre=Et Cx ((l.take j).map Gt):=⟨_,rfl⟩;rw[<-hpre] at hv htk hle;have hpv:=hv;rw[hve] at hpv;simp(disch:=omega)only[go_sem,e0,e4,c0''];by_cases kc:a.c= []
    ·have ht:Gt a=Ai a.e:=by rw[Pj,kc];rfl
     have hnc:a.c.length=0:=by rw[kc];rfl
     have hnc': ¬(0:Int)<(a.c.length:Int):=by omega
     rw[ht] at htk hle;simp(disch:=omega)only[go_sem,e0,e4,hcl,Aw,hfl,hgl,jD,hnc'];refine Ae.monoR (ho2 _) ?_;simp(disch:=omega)only[go_sem,Aq,Fx,Ha,ht4];refine Df.append (n:=(pre).length) (bytes:=40) (m:=(Ai a.e).length) (news:=(Ai a.e).flatMap Af) hpv (Al Gc _) (by first | omega | (simp only[jC,jQ];omega)) fun v3 H3 hv3=> ?_;simp(disch:=omega)only[go_sem,e0,e4];refine⟨j+1,_,Ws.refl _,(hI _ _ _).2 ?_,by omega⟩;simp(disch:=omega)only[go_sem,e0,e4,hw1];(repeat' apply And.intro)<;>(try first | rfl | assumption | omega);rw[<-List.flatMap_append,<-jC] at hv3;rw[htk];exact hv3
    ·have ht:Gt a=(Et Mb (a.c.map Es)++ [Bb Cc])++Ai a.e:=by
      have hb2:Aj Cc=Bb Cc:=by rw[Aj,show Dz Cc=4 by decide+kernel];rfl
      rw[Pj,if_neg (by simpa using kc),hb2];simp
     have hne:0<a.c.length:=List.length_pos_iff.2 kc;have hnc:(0:Int)<(a.c.length:Int):=by omega
     have hcs:Ct a.c=true:=by
      rcases Bool.or_eq_true _ _▸hrc with h | h
      ·exact absurd (by simpa using h) kc
      ·exact h
     obtain⟨hc16,hcr⟩:a.c.length<=16/\ ∀c∈a.c,Cs a.c.length c=true:=by
      unfold Ct at hcs;simp only[jF,decide_eq_true_eq,List.all_eq_true] at hcs;exact⟨hcs.1.2,hcs.2⟩
     rw[ht,<-jO] at htk;rw[ht,jC,jC,jQ] at hle;simp(disch:=omega)only[go_sem,e0,e4,hcl,Aw,hfl,hgl,jD,hnc];refine Ae.monoR ((Vn G _ a.c (n:=a.c.length) (by omega) hcr hokc (by omega)).frozenJ) ?_;try simp(disch:=omega)only[go_sem,e0,e4,hcl,Aw,hfl,hgl,jD,hnc,Af]
     refine Ae.monoR (Cn G _ Cc) ?_;try simp(disch:=omega)only[go_sem,e0,e4,hcl,Aw,hfl,hgl,jD,hnc,Af]
     intro q1 hq1;dsimp only at hq1;try simp(disch:=omega)only[go_sem,e0,e4,Ap,jE,jJ,jL,jH]
     refine Ae.monoR (Rt G _ (Bb Cc) hq1) ?_;try simp(disch:=omega)only[go_sem,e0,e4,hcl,Aw,hfl,hgl,jD,hnc,Af]
     obtain⟨hc1,-⟩:=hpv.cell1;simp(disch:=omega)only[go_sem,hc1,Aq,Ap,Ar,Au,jA,jB,jE,jJ,jL,jH,jI,jG];intro q2 hq2;dsimp only at hq2;try simp(disch:=omega)only[go_sem,e0,e4,hcl,Aw,hfl,hgl,jD,hnc]
     have hpv2:=fun z=>hpv.new hq2 z;obtain⟨cs,hcsd⟩: ∃cs,cs=Et Mb (a.c.map Es):=⟨_,rfl⟩;rw[<-hcsd] at htk hle⊢
     have hj: [pre,cs,[Bb Cc]].flatten.length<=100000000:=by
      simp only[List.flatten_cons,List.flatten_nil,jC,jA,jB];omega
     have hk0:K q2=none:=by
      rcases hkq:K q2 with _ | o
      ·rfl
      ·have:=hpv.keep hkq;rw[hq2] at this;cases this
     refine(Px.call (hpv2 _).sub (.cons (Qg.cells (e:=32) (size:=1) (n:=3) (cs':= [Aq pre,Aq cs,Aq [Bb Cc]]) (hpv2 _).sub hk0 (Ac _ _ _) rfl (.cons (.own (hpv2 _)) (.keep (hpv2 _).sub _))) .nil) (Uh G K [pre,cs,[Bb Cc]] (by simp) hj)).mono ?_;rintro _ H9 ⟨v2,rfl,hv2⟩;simp(disch:=omega)only[go_sem,e0,e4,hcl,Aw,hfl,hgl,jD,hnc];have hf3: [pre,cs,[Bb Cc]].flatten=pre++(cs++ [Bb Cc]):=by simp
     rw[hf3] at hv2;refine Ae.monoR (ho2 _) ?_;simp(disch:=omega)only[go_sem,Aq,Fx,Ha,ht4];refine Df.append (n:=(pre++(cs++ [Bb Cc])).length) (bytes:=40) (m:=(Ai a.e).length) (news:=(Ai a.e).flatMap Af) hv2 (Al Gc _) (by first | omega | (simp only[jC,jQ];omega)) fun v3 H3 hv3=> ?_;simp(disch:=omega)only[go_sem,e0,e4];refine⟨j+1,_,Ws.refl _,(hI _ _ _).2 ?_,by omega⟩;simp(disch:=omega)only[go_sem,e0,e4,hw1];(repeat' apply And.intro)<;>(try first | rfl | assumption | omega);rw[<-List.flatMap_append,<-jC] at hv3;rw[htk];exact hv3
   ·have c0'':(0:Int)<(j:Int):=by omega
    rw[if_neg c0,<-jO] at htk;rw[if_neg c0,jQ] at hle;simp(disch:=omega)only[go_sem,e0,e4,<-hve,c0''];refine Ae.monoR (Cn G _ Cx) ?_;simp(disch:=omega)only[go_sem,Af];intro r15 hr15;dsimp only at hr15;try simp(disch:=omega)only[go_sem,Ap,jE,jJ,jL,jH]
    refine Df.append (m:=1) (news:=Af (Bb Cx)) (hv.new hr15 _) rfl (by omega) fun v1 H1 hv1=> ?_;obtain⟨pre,hpre⟩: ∃pre,pre=Et Cx ((l.take j).map Gt)++ [Bb Cx]:=⟨_,rfl⟩;have hpv:Df K 31 4 pre.length (pre.flatMap Af) v1 H1:=by
     rw[hpre,jC,List.flatMap_append];exact hv1
    have hpl:pre.length=(Et Cx ((l.take j).map Gt)).length+1:=by rw[hpre,jC];rfl
    have hb1:Aj Cx=Bb Cx:=by rw[Aj,show Dz Cx=4 by decide+kernel];rfl
    rw[hb1,<-hpre] at htk;simp(disch:=omega)only[go_sem,e0,e4];by_cases kc:a.c= []
    ·have ht:Gt a=Ai a.e:=by rw[Pj,kc];rfl
     have hnc:a.c.length=0:=by rw[kc];rfl
     have hnc': ¬(0:Int)<(a.c.length:Int):=by omega
     rw[ht] at htk hle;simp(disch:=omega)only[go_sem,e0,e4,hcl,Aw,hfl,hgl,jD,hnc'];refine Ae.monoR (ho2 _) ?_;simp(disch:=omega)only[go_sem,Aq,Fx,Ha,ht4];refine Df.append (n:=(pre).length) (bytes:=40) (m:=(Ai a.e).length) (news:=(Ai a.e).flatMap Af) hpv (Al Gc _) (by first | omega | (simp only[jC,jQ];omega)) fun v3 H3 hv3=> ?_;simp(disch:=omega)only[go_sem,e0,e4];refine⟨j+1,_,Ws.refl _,(hI _ _ _).2 ?_,by omega⟩;simp(disch:=omega)only[go_sem,e0,e4,hw1];(repeat' apply And.intro)<;>(try first | rfl | assumption | omega);rw[<-List.flatMap_append,<-jC] at hv3;rw[htk];exact hv3
    ·have ht:Gt a=(Et Mb (a.c.map Es)++ [Bb Cc])++Ai a.e:=by
      have hb2:Aj Cc=Bb Cc:=by rw[Aj,show Dz Cc=4 by decide+kernel];rfl
      rw[Pj,if_neg (by simpa using kc),hb2];simp
     have hne:0<a.c.length:=List.length_pos_iff.2 kc;have hnc:(0:Int)<(a.c.length:Int):=by omega
     have hcs:Ct a.c=true:=by
      rcases Bool.or_eq_true _ _▸hrc with h | h
      ·exact absurd (by simpa using h) kc
      ·exact h
     obtain⟨hc16,hcr⟩:a.c.length<=16/\ ∀c∈a.c,Cs a.c.length c=true:=by
      unfold Ct at hcs;simp only[jF,decide_eq_true_eq,List.all_eq_true] at hcs;exact⟨hcs.1.2,hcs.2⟩
     rw[ht,<-jO] at htk;rw[ht,jC,jC,jQ] at hle;simp(disch:=omega)only[go_sem,e0,e4,hcl,Aw,hfl,hgl,jD,hnc];refine Ae.monoR ((Vn G _ a.c (n:=a.c.length) (by omega) hcr hokc (by omega)).frozenJ) ?_;try simp(disch:=omega)only[go_sem,e0,e4,hcl,Aw,hfl,hgl,jD,hnc,Af]
     refine Ae.monoR (Cn G _ Cc) ?_;try simp(disch:=omega)only[go_sem,e0,e4,hcl,Aw,hfl,hgl,jD,hnc,Af]
     intro q1 hq1;dsimp only at hq1;try simp(disch:=omega)only[go_sem,e0,e4,Ap,jE,jJ,jL,jH]
     refine Ae.monoR (Rt G _ (Bb Cc) hq1) ?_;try simp(disch:=omega)only[go_sem,e0,e4,hcl,Aw,hfl,hgl,jD,hnc,Af]
     obtain⟨hc1,-⟩:=hpv.cell1;simp(disch:=omega)only[go_sem,hc1,Aq,Ap,Ar,Au,jA,jB,jE,jJ,jL,jH,jI,jG];intro q2 hq2;dsimp only at hq2;try simp(disch:=omega)only[go_sem,e0,e4,hcl,Aw,hfl,hgl,jD,hnc]
     have hpv2:=fun z=>hpv.new hq2 z;obtain⟨cs,hcsd⟩: ∃cs,cs=Et Mb (a.c.map Es):=⟨_,rfl⟩;rw[<-hcsd] at htk hle⊢
     have hj: [pre,cs,[Bb Cc]].flatten.length<=100000000:=by
      simp only[List.flatten_cons,List.flatten_nil,jC,jA,jB];omega
     have hk0:K q2=none:=by
      rcases hkq:K q2 with _ | o
      ·rfl
      ·have:=hpv.keep hkq;rw[hq2] at this;cases this
     refine(Px.call (hpv2 _).sub (.cons (Qg.cells (e:=32) (size:=1) (n:=3) (cs':= [Aq pre,Aq cs,Aq [Bb Cc]]) (hpv2 _).sub hk0 (Ac _ _ _) rfl (.cons (.own (hpv2 _)) (.keep (hpv2 _).sub _))) .nil) (Uh G K [pre,cs,[Bb Cc]] (by simp) hj)).mono ?_;rintro _ H9 ⟨v2,rfl,hv2⟩;simp(disch:=omega)only[go_sem,e0,e4,hcl,Aw,hfl,hgl,jD,hnc];have hf3: [pre,cs,[Bb Cc]].flatten=pre++(cs++ [Bb Cc]):=by simp
     rw[hf3] at hv2;refine Ae.monoR (ho2 _) ?_;simp(disch:=omega)only[go_sem,Aq,Fx,Ha,ht4];refine Df.append (n:=(pre++(cs++ [Bb Cc])).length) (bytes:=40) (m:=(Ai a.e).length) (news:=(Ai a.e).flatMap Af) hv2 (Al Gc _) (by first | omega | (simp only[jC,jQ];omega)) fun v3 H3 hv3=> ?_;simp(disch:=omega)only[go_sem,e0,e4];refine⟨j+1,_,Ws.refl _,(hI _ _ _).2 ?_,by omega⟩;simp(disch:=omega)only[go_sem,e0,e4,hw1];(repeat' apply And.intro)<;>(try first | rfl | assumption | omega);rw[<-List.flatMap_append,<-jC] at hv3;rw[htk];exact hv3
  ·have:j=l.length:=by omega
   subst this;have hlt': ¬(l.length:Int)<(l.length:Int):=by omega
   rw[List.take_length] at hv;simp(disch:=omega)only[go_sem,e0,e4,hlt',dAl];exact Wj.refl ⟨_,rfl,hv⟩
end
end Go.Dl
