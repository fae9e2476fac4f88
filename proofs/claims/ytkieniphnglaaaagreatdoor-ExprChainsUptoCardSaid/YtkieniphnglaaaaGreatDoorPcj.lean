/- The data level and the contracts of the functions that are reached (part 10). -/
import Derived.Test.YtkieniphnglaaaaGreatDoorPci
set_option linter.unusedSimpArgs false
set_option linter.unusedVariables false
set_option linter.unusedSectionVars false
-- Chapter 3: ExprChains: the plain law, part 2: how chains are read.
namespace Go.Dl
open Go Go.Proofs
set_option maxRecDepth 10000
theorem Av6 (l:List Tok) (k j:Nat):tk l (k+j)=tk (l.drop k) j:=by
 simp [tk,List.getD,List.getElem?_drop]
theorem Bf7 (l:List Tok) (k:Nat): ∀(ws:List (List UInt8)) (j:Nat),isW l (k+j) ws=isW (l.drop k) j ws
 | [],_=>rfl
 | s::r,j=>by rw[isW,isW,Av6,Nat.add_assoc,Bf7 l k r (j+1)]
theorem Ai7 (l:List Tok) (want k:Nat): ∀os:List Nat,(opF l want k os).1=(opF (l.drop k) want 0 os).1
 | []=>rfl
 | o::r=>by
  have h:=Bf7 l k (Al o) 0;rw[Nat.add_zero] at h;rw[opF,opF,h];split
  ·split<;>rfl
  ·exact Ai7 l want k r
theorem Rq {l rest:List Tok} {e:Ex} (hl:l=Ag e++rest):l.drop (Ag e).length=rest:=by rw[hl,List.drop_left]
theorem Cx9 {l rest:List Tok} {p:PS} [hr:Rdr l p] {e:Ex} {o:Nat} (hv:Cv 1 e=true) (hz: ∀k,(tk l k).line=0) (h0:Ak e=0) (heo:e.oper=(o:Int)) (hl:l=Ag e++rest) (hn:nof w1 (tk l (Ag e).length)) (hq:(opF rest o 0 Ci).1=0):p.expr 0= .ok (stE e) (Ag e).length:=by
 have r:=Bp7 (p:=p) hz e 1 hv 0 ⟨Nat.zero_le _,rest,by rw[List.drop_zero,hl]⟩;rw[Nat.zero_add] at r;have hk:(Ag e).length<=l.length:=r.le.2;have hq':(opF l o (Ag e).length Ci).1=0:=by rw[Ai7,Rq hl,hq]
 rw[r.exp h0 hn,heo,Int.toNat_natCast,Vb _ _ hk,hq'];simp
theorem Cy0 {l rest:List Tok} {p:PS} [hr:Rdr l p] {e:Ex} (hv:Cv 1 e=true) (hz: ∀k,(tk l k).line=0) (h1:Ak e=1) (hl:l=Ag e++rest) (hn:nof w2d (tk l (Ag e).length)) (hq:(opF rest 0 0 Ci).1=0):p.expr 0= .ok (stE e) (Ag e).length:=by
 have r:=Bp7 (p:=p) hz e 1 hv 0 ⟨Nat.zero_le _,rest,by rw[List.drop_zero,hl]⟩;rw[Nat.zero_add] at r;have hk:(Ag e).length<=l.length:=r.le.2;have hq':(opF l 0 (Ag e).length Ci).1=0:=by rw[Ai7,Rq hl,hq]
 rw[Vd (Nat.zero_le _),r.rel (by omega) hn (fun h=>absurd h1 h)];show p.restL _ _ _=_;rw[hq',Vb _ _ hk,if_pos rfl]
theorem Bf8 {l:List Tok} {e:Ex} {k:Nat} (hm:Ko e=true) (h:(Q (l.map stT)).expr 0= .ok (stE e) k): ∃x,Du l 0=(x,(k:Int),0)/\stE x=stE e:=by
 obtain⟨x,g1,g2⟩:=Bw6 (Bw7 0) (show Ox (l.map stT) 0=_ from h);refine⟨x,?_,g2⟩;have hf:Du l (0:Nat)=(x,(k:Int),0):=by
  rw[Du,if_neg (by omega),Int.toNat_natCast,g1];show(if Ko x=true then _ else _)=_;rw[if_pos (by rw[Be4 g2,hm])]
 exact hf
def nmX:Tok:=Hs [120]
def Ji (o:Nat):List Tok:=(Al o).map Am++ [nmX]
def Hz (o n:Nat):List Tok:=nmX::(List.replicate n (Ji o)).flatten
theorem Bf9 {o n:Nat} {l:List Tok} (ho:(1<=o/\o<=6)\/(13<=o/\o<=17)) (hn:n<=30) (hl:l.map stT=Hz o n): ∃x,Du l 0=(x,((Hz o n).length:Int),0)/\stE x=stE (Bi o n):=by
 have ht:Ag (Bi o n)=Hz o n:=Tn ho n;have hlen:l.length=(Hz o n).length:=by rw[<-hl,List.length_map]
 rw[<-ht] at hl hlen⊢
 exact Br0 (rest:= []) (Xq (by omega) hn) (by rw[hl,List.append_nil]) (by rw[Bu4 (by omega)];exact Cv4 _) 0 (.inl (Kk _).1)
theorem Bg0 {o:Nat} (ho:7<=o/\o<=12):Ag (Bi o 1)=Hz o 1:=by
 have hl:Ak (both o (Bi o 0) exX)=1:=by rw[Jb,if_neg (by omega),if_pos ho]
 rw[Bi,Ao3,Eb,Cw,if_pos hl,if_pos hl];rw[show Aw (Bi o 0) 2= [Hs [120]] from Ai4 (by decide),Ai4 (by decide)];simp [Hz,Ji,nmX]
theorem Dh9: ∀i:Fin 18,7<=i.1->i.1<=12->(nof w2d (tk (Ji i.1) 0)/\nof [Ak6,wOr,Ce1] (tk (Ji i.1) 0)/\(Ji i.1).length=2):=by decide+kernel
theorem Cy1: ∀i j:Fin 18,13<=i.1->13<=j.1->i≠j->((opF (Ji j.1) i.1 0 Ci).1=0/\nof w1 (tk (Ji j.1) 0)):=by decide+kernel
theorem Ci5 {o n:Nat} {l:List Tok} (ho:7<=o/\o<=12) (hl:l.map stT=Hz o (n+1)): ∃x,Du l 0=(x,3,0)/\stE x=stE (Bi o 1):=by
 obtain⟨h1,h2,h3⟩:=Dh9 ⟨o,by omega⟩ ho.1 ho.2;dsimp only at h1 h2 h3;have hm:=Xq (o:=o) (n:=1) (by omega) (by omega);have hsp:l.map stT=Ag (Bi o 1)++(List.replicate n (Ji o)).flatten:=by
  rw[hl,Bg0 ho,Hz,Hz,List.replicate_succ,List.flatten_cons];simp
 have hlen:(Ag (Bi o 1)).length=3:=by rw[Bg0 ho];simp [Hz,h3]
 have htk:tk (l.map stT) (Ag (Bi o 1)).length=tk (List.replicate n (Ji o)).flatten 0:=by
  have:=Av6 (l.map stT) (Ag (Bi o 1)).length 0;rw[Nat.add_zero,Rq hsp] at this;exact this
 have hr0:nof w2d (tk (List.replicate n (Ji o)).flatten 0)/\nof [Ak6,wOr,Ce1] (tk (List.replicate n (Ji o)).flatten 0):=by
  cases n with
  | zero=>exact⟨Cv4 _,Cv4 _⟩
  | succ m=>
   have:tk (List.replicate (m+1) (Ji o)).flatten 0=tk (Ji o) 0:=by
    rw[List.replicate_succ,List.flatten_cons];unfold tk;cases hs:Ji o with
    | nil=>rw[hs] at h3;cases h3
    | cons a b=>rfl
   rw[this];exact⟨h1,h2⟩
 have hq:(opF (List.replicate n (Ji o)).flatten 0 0 Ci).1=0:=by rw[Va hr0.2 (by decide)]
 have hl1:Ak (Bi o 1)=1:=by rw[Bi,Jb,if_neg (by omega),if_pos ho]
 have:=Bf8 hm (Cy0 (p:=Q (l.map stT)) (Rp hm) (fun k=>Gg k) hl1 hsp (by rw[htk];exact hr0.1) hq);rw[hlen] at this;exact this
theorem Ci6 {o o2 n:Nat} {l:List Tok} (ho:13<=o/\o<=17) (ho2:13<=o2/\o2<=17) (hne:o≠o2) (hn:n<=29) (hl:l.map stT=Hz o (n+1)++Ji o2): ∃x,Du l 0=(x,((Hz o (n+1)).length:Int),0)/\stE x=stE (Bi o (n+1)):=by
 obtain⟨h1,h2⟩:=Cy1 ⟨o,by omega⟩ ⟨o2,by omega⟩ ho.1 ho2.1 (fun h=>hne (congrArg Fin.val h));dsimp only at h1 h2;have hm:=Xq (o:=o) (n:=n+1) (by omega) (by omega);have ht:Ag (Bi o (n+1))=Hz o (n+1):=Tn (.inr ho) (n+1);rw[<-ht] at hl⊢
 have htk:tk (l.map stT) (Ag (Bi o (n+1))).length=tk (Ji o2) 0:=by
  have:=Av6 (l.map stT) (Ag (Bi o (n+1))).length 0;rw[Nat.add_zero,Rq hl] at this;exact this
 have hl0:Ak (Bi o (n+1))=0:=by rw[Bi,Jb,if_pos ho]
 exact Bf8 hm (Cx9 (p:=Q (l.map stT)) (Rp hm) (fun k=>Gg k) hl0 rfl hl (by rw[htk];exact h2) h1)
end Go.Dl

-- Chapter 3: ExprChains: the tokens that the law puts together.
namespace Go.Dl
open Go Go.Proofs
set_option maxRecDepth 10000
def Gk (o:Nat):List Tok:=(Al o).flatMap fun s=>(Bg s).1
theorem Ai8: ∀i:Fin 18,(Gk i.1).map stT=(Al i.1).map Am/\(Gk i.1).length<=2:=by decide+kernel
theorem Cy2: ∀i:Fin 18,∀t∈Gk i.1,t.text.length<=9223372036854775807:=by decide+kernel
def Qw (o:Nat):List Tok:=Gk o++ [nmX]
def Ip (o n:Nat):List Tok:=nmX::(List.replicate n (Qw o)).flatten
theorem Bg1 {o:Nat} (ho:o<18):(Qw o).map stT=Ji o:=by
 rw[Qw,Ji,List.map_append,(Ai8 ⟨o,ho⟩).1];rfl
theorem Di0 {o:Nat} (ho:o<18) (n:Nat):(Ip o n).map stT=Hz o n:=by
 rw[Ip,Hz,List.map_cons];congr 1
 induction n with
 | zero=>rfl
 | succ n ih=>rw[List.replicate_succ,List.replicate_succ,List.flatten_cons,List.flatten_cons,List.map_append,Bg1 ho,ih]
theorem Xr (o n:Nat):Ip o (n+1)=Ip o n++Qw o:=by
 rw[Ip,Ip,List.replicate_succ',List.flatten_append];simp
end Go.Dl

-- Chapter 3: the reference's Words (printed by gen_w7.py).
namespace Go.Dl
open Go Go.Proofs
set_option maxRecDepth 100000
section
variable {G:Nat->DVal} {H0 H:Ab}
set_option maxHeartbeats 4000000 in
theorem Bg2 (G:Nat->DVal) (H:Ab) (o:Nat) (ho:o<22):Ah Tryz.prog G 14 [.int .u8 o] H (Bp (dW (Al o)) H):=by
 refine Ac Tryz.func14 Tryz.call14 rfl (by kernel_rfl) ?_;simp(disch:=omega) only[go_sem,↓reduceIte];intro b1 hb1;dsimp only at hb1;obtain⟨K1,hK1⟩: ∃K,K=upd H b1 (some (.cells [.str [43]] 9)):=⟨_,rfl⟩;rw[<-hK1];simp(disch:=omega) only[go_sem,↓reduceIte];intro b2 hb2;dsimp only at hb2;obtain⟨K2,hK2⟩: ∃K,K=upd K1 b2 (some (.cells [.str [45]] 9)):=⟨_,rfl⟩;rw[<-hK2];simp(disch:=omega) only[go_sem,↓reduceIte];intro b3 hb3;dsimp only at hb3;obtain⟨K3,hK3⟩: ∃K,K=upd K2 b3 (some (.cells [.str [42]] 9)):=⟨_,rfl⟩;rw[<-hK3];simp(disch:=omega) only[go_sem,↓reduceIte];intro b4 hb4;dsimp only at hb4;obtain⟨K4,hK4⟩: ∃K,K=upd K3 b4 (some (.cells [.str [47]] 9)):=⟨_,rfl⟩;rw[<-hK4];simp(disch:=omega) only[go_sem,↓reduceIte];intro b5 hb5;dsimp only at hb5;obtain⟨K5,hK5⟩: ∃K,K=upd K4 b5 (some (.cells [.str [109,111,100]] 9)):=⟨_,rfl⟩;rw[<-hK5];simp(disch:=omega) only[go_sem,↓reduceIte];intro b6 hb6;dsimp only at hb6;obtain⟨K6,hK6⟩: ∃K,K=upd K5 b6 (some (.cells [.str [114,101,109]] 9)):=⟨_,rfl⟩;rw[<-hK6];simp(disch:=omega) only[go_sem,↓reduceIte];intro b7 hb7;dsimp only at hb7;obtain⟨K7,hK7⟩: ∃K,K=upd K6 b7 (some (.cells [.str [61]] 9)):=⟨_,rfl⟩;rw[<-hK7];simp(disch:=omega) only[go_sem,↓reduceIte];intro b8 hb8;dsimp only at hb8;obtain⟨K8,hK8⟩: ∃K,K=upd K7 b8 (some (.cells [.str [47,61]] 9)):=⟨_,rfl⟩;rw[<-hK8];simp(disch:=omega) only[go_sem,↓reduceIte];intro b9 hb9;dsimp only at hb9;obtain⟨K9,hK9⟩: ∃K,K=upd K8 b9 (some (.cells [.str [60]] 9)):=⟨_,rfl⟩;rw[<-hK9];simp(disch:=omega) only[go_sem,↓reduceIte];intro b10 hb10;dsimp only at hb10;obtain⟨K10,hK10⟩: ∃K,K=upd K9 b10 (some (.cells [.str [60,61]] 9)):=⟨_,rfl⟩;rw[<-hK10];simp(disch:=omega) only[go_sem,↓reduceIte];intro b11 hb11;dsimp only at hb11;obtain⟨K11,hK11⟩: ∃K,K=upd K10 b11 (some (.cells [.str [62]] 9)):=⟨_,rfl⟩;rw[<-hK11];simp(disch:=omega) only[go_sem,↓reduceIte];intro b12 hb12;dsimp only at hb12;obtain⟨K12,hK12⟩: ∃K,K=upd K11 b12 (some (.cells [.str [62,61]] 9)):=⟨_,rfl⟩;rw[<-hK12];simp(disch:=omega) only[go_sem,↓reduceIte];intro b13 hb13;dsimp only at hb13;obtain⟨K13,hK13⟩: ∃K,K=upd K12 b13 (some (.cells [.str [97,110,100]] 9)):=⟨_,rfl⟩;rw[<-hK13];simp(disch:=omega) only[go_sem,↓reduceIte];intro b14 hb14;dsimp only at hb14;obtain⟨K14,hK14⟩: ∃K,K=upd K13 b14 (some (.cells [.str [111,114]] 9)):=⟨_,rfl⟩;rw[<-hK14];simp(disch:=omega) only[go_sem,↓reduceIte];intro b15 hb15;dsimp only at hb15;obtain⟨K15,hK15⟩: ∃K,K=upd K14 b15 (some (.cells [.str [120,111,114]] 9)):=⟨_,rfl⟩;rw[<-hK15];simp(disch:=omega) only[go_sem,↓reduceIte];intro b16 hb16;dsimp only at hb16;obtain⟨K16,hK16⟩: ∃K,K=upd K15 b16 (some (.cells [.str [97,110,100], .str [116,104,101,110]] 9)):=⟨_,rfl⟩;rw[<-hK16];simp(disch:=omega) only[go_sem,↓reduceIte];intro b17 hb17;dsimp only at hb17;obtain⟨K17,hK17⟩: ∃K,K=upd K16 b17 (some (.cells [.str [111,114], .str [101,108,115,101]] 9)):=⟨_,rfl⟩;rw[<-hK17];simp(disch:=omega) only[go_sem,↓reduceIte];intro b18 hb18;dsimp only at hb18;obtain⟨K18,hK18⟩: ∃K,K=upd K17 b18 (some (.cells [.str [43]] 9)):=⟨_,rfl⟩;rw[<-hK18];simp(disch:=omega) only[go_sem,↓reduceIte];intro b19 hb19;dsimp only at hb19;obtain⟨K19,hK19⟩: ∃K,K=upd K18 b19 (some (.cells [.str [45]] 9)):=⟨_,rfl⟩;rw[<-hK19];simp(disch:=omega) only[go_sem,↓reduceIte];intro b20 hb20;dsimp only at hb20;obtain⟨K20,hK20⟩: ∃K,K=upd K19 b20 (some (.cells [.str [97,98,115]] 9)):=⟨_,rfl⟩;rw[<-hK20];simp(disch:=omega) only[go_sem,↓reduceIte];intro b21 hb21;dsimp only at hb21;obtain⟨K21,hK21⟩: ∃K,K=upd K20 b21 (some (.cells [.str [110,111,116]] 9)):=⟨_,rfl⟩;rw[<-hK21];simp(disch:=omega) only[go_sem,↓reduceIte];intro b22 hb22;dsimp only at hb22;obtain⟨K22,hK22⟩: ∃K,K=upd K21 b22 (some (.cells [.nilSlice, .oslice 1 b1 0 1 1, .oslice 1 b2 0 1 1, .oslice 1 b3 0 1 1, .oslice 1 b4 0 1 1, .oslice 1 b5 0 1 1, .oslice 1 b6 0 1 1, .oslice 1 b7 0 1 1, .oslice 1 b8 0 1 1, .oslice 1 b9 0 1 1, .oslice 1 b10 0 1 1, .oslice 1 b11 0 1 1, .oslice 1 b12 0 1 1, .oslice 1 b13 0 1 1, .oslice 1 b14 0 1 1, .oslice 1 b15 0 1 1, .oslice 1 b16 0 2 2, .oslice 1 b17 0 2 2, .oslice 1 b18 0 1 1, .oslice 1 b19 0 1 1, .oslice 1 b20 0 1 1, .oslice 1 b21 0 1 1] 26)):=⟨_,rfl⟩;rw[<-hK22];have s1:Sub H K1:=by rw[hK1];exact(Sub.refl _).new hb1 _
 have s2:Sub K1 K2:=by rw[hK2];exact(Sub.refl _).new hb2 _
 have s3:Sub K2 K3:=by rw[hK3];exact(Sub.refl _).new hb3 _
 have s4:Sub K3 K4:=by rw[hK4];exact(Sub.refl _).new hb4 _
 have s5:Sub K4 K5:=by rw[hK5];exact(Sub.refl _).new hb5 _
 have s6:Sub K5 K6:=by rw[hK6];exact(Sub.refl _).new hb6 _
 have s7:Sub K6 K7:=by rw[hK7];exact(Sub.refl _).new hb7 _
 have s8:Sub K7 K8:=by rw[hK8];exact(Sub.refl _).new hb8 _
 have s9:Sub K8 K9:=by rw[hK9];exact(Sub.refl _).new hb9 _
 have s10:Sub K9 K10:=by rw[hK10];exact(Sub.refl _).new hb10 _
 have s11:Sub K10 K11:=by rw[hK11];exact(Sub.refl _).new hb11 _
 have s12:Sub K11 K12:=by rw[hK12];exact(Sub.refl _).new hb12 _
 have s13:Sub K12 K13:=by rw[hK13];exact(Sub.refl _).new hb13 _
 have s14:Sub K13 K14:=by rw[hK14];exact(Sub.refl _).new hb14 _
 have s15:Sub K14 K15:=by rw[hK15];exact(Sub.refl _).new hb15 _
 have s16:Sub K15 K16:=by rw[hK16];exact(Sub.refl _).new hb16 _
 have s17:Sub K16 K17:=by rw[hK17];exact(Sub.refl _).new hb17 _
 have s18:Sub K17 K18:=by rw[hK18];exact(Sub.refl _).new hb18 _
 have s19:Sub K18 K19:=by rw[hK19];exact(Sub.refl _).new hb19 _
 have s20:Sub K19 K20:=by rw[hK20];exact(Sub.refl _).new hb20 _
 have s21:Sub K20 K21:=by rw[hK21];exact(Sub.refl _).new hb21 _
 have s22:Sub K21 K22:=by rw[hK22];exact(Sub.refl _).new hb22 _
 have t22:Sub K22 K22:=Sub.refl _;have t21:Sub K21 K22:=s22.trans t22;have t20:Sub K20 K22:=s21.trans t21;have t19:Sub K19 K22:=s20.trans t20;have t18:Sub K18 K22:=s19.trans t19;have t17:Sub K17 K22:=s18.trans t18;have t16:Sub K16 K22:=s17.trans t17;have t15:Sub K15 K22:=s16.trans t16;have t14:Sub K14 K22:=s15.trans t15;have t13:Sub K13 K22:=s14.trans t14;have t12:Sub K12 K22:=s13.trans t13;have t11:Sub K11 K22:=s12.trans t12;have t10:Sub K10 K22:=s11.trans t11;have t9:Sub K9 K22:=s10.trans t10;have t8:Sub K8 K22:=s9.trans t9;have t7:Sub K7 K22:=s8.trans t8;have t6:Sub K6 K22:=s7.trans t7;have t5:Sub K5 K22:=s6.trans t6;have t4:Sub K4 K22:=s5.trans t5;have t3:Sub K3 K22:=s4.trans t4;have t2:Sub K2 K22:=s3.trans t3;have t1:Sub K1 K22:=s2.trans t2;have t0:Sub H K22:=s1.trans t1;have u1:Sub H H:=Sub.refl H;have u2:Sub H K1:=u1.trans s1;have u3:Sub H K2:=u2.trans s2;have u4:Sub H K3:=u3.trans s3;have u5:Sub H K4:=u4.trans s4;have u6:Sub H K5:=u5.trans s5;have u7:Sub H K6:=u6.trans s6;have u8:Sub H K7:=u7.trans s7;have u9:Sub H K8:=u8.trans s8;have u10:Sub H K9:=u9.trans s9;have u11:Sub H K10:=u10.trans s10;have u12:Sub H K11:=u11.trans s11;have u13:Sub H K12:=u12.trans s12;have u14:Sub H K13:=u13.trans s13;have u15:Sub H K14:=u14.trans s14;have u16:Sub H K15:=u15.trans s15;have u17:Sub H K16:=u16.trans s16;have u18:Sub H K17:=u17.trans s17;have u19:Sub H K18:=u18.trans s18;have u20:Sub H K19:=u19.trans s19;have u21:Sub H K20:=u20.trans s20;have u22:Sub H K21:=u21.trans s21;have hsT:Sub H K22:=u22.trans s22;have c1:K22 b1=some (.cells [.str [43]] 9):=t1 _ _ (by rw[hK1];exact Aa _ _ _);have c2:K22 b2=some (.cells [.str [45]] 9):=t2 _ _ (by rw[hK2];exact Aa _ _ _);have c3:K22 b3=some (.cells [.str [42]] 9):=t3 _ _ (by rw[hK3];exact Aa _ _ _);have c4:K22 b4=some (.cells [.str [47]] 9):=t4 _ _ (by rw[hK4];exact Aa _ _ _);have c5:K22 b5=some (.cells [.str [109,111,100]] 9):=t5 _ _ (by rw[hK5];exact Aa _ _ _);have c6:K22 b6=some (.cells [.str [114,101,109]] 9):=t6 _ _ (by rw[hK6];exact Aa _ _ _);have c7:K22 b7=some (.cells [.str [61]] 9):=t7 _ _ (by rw[hK7];exact Aa _ _ _);have c8:K22 b8=some (.cells [.str [47,61]] 9):=t8 _ _ (by rw[hK8];exact Aa _ _ _);have c9:K22 b9=some (.cells [.str [60]] 9):=t9 _ _ (by rw[hK9];exact Aa _ _ _);have c10:K22 b10=some (.cells [.str [60,61]] 9):=t10 _ _ (by rw[hK10];exact Aa _ _ _);have c11:K22 b11=some (.cells [.str [62]] 9):=t11 _ _ (by rw[hK11];exact Aa _ _ _);have c12:K22 b12=some (.cells [.str [62,61]] 9):=t12 _ _ (by rw[hK12];exact Aa _ _ _);have c13:K22 b13=some (.cells [.str [97,110,100]] 9):=t13 _ _ (by rw[hK13];exact Aa _ _ _);have c14:K22 b14=some (.cells [.str [111,114]] 9):=t14 _ _ (by rw[hK14];exact Aa _ _ _);have c15:K22 b15=some (.cells [.str [120,111,114]] 9):=t15 _ _ (by rw[hK15];exact Aa _ _ _);have c16:K22 b16=some (.cells [.str [97,110,100], .str [116,104,101,110]] 9):=t16 _ _ (by rw[hK16];exact Aa _ _ _);have c17:K22 b17=some (.cells [.str [111,114], .str [101,108,115,101]] 9):=t17 _ _ (by rw[hK17];exact Aa _ _ _);have c18:K22 b18=some (.cells [.str [43]] 9):=t18 _ _ (by rw[hK18];exact Aa _ _ _);have c19:K22 b19=some (.cells [.str [45]] 9):=t19 _ _ (by rw[hK19];exact Aa _ _ _);have c20:K22 b20=some (.cells [.str [97,98,115]] 9):=t20 _ _ (by rw[hK20];exact Aa _ _ _);have c21:K22 b21=some (.cells [.str [110,111,116]] 9):=t21 _ _ (by rw[hK21];exact Aa _ _ _);have c22:K22 b22=some (.cells [.nilSlice, .oslice 1 b1 0 1 1, .oslice 1 b2 0 1 1, .oslice 1 b3 0 1 1, .oslice 1 b4 0 1 1, .oslice 1 b5 0 1 1, .oslice 1 b6 0 1 1, .oslice 1 b7 0 1 1, .oslice 1 b8 0 1 1, .oslice 1 b9 0 1 1, .oslice 1 b10 0 1 1, .oslice 1 b11 0 1 1, .oslice 1 b12 0 1 1, .oslice 1 b13 0 1 1, .oslice 1 b14 0 1 1, .oslice 1 b15 0 1 1, .oslice 1 b16 0 2 2, .oslice 1 b17 0 2 2, .oslice 1 b18 0 1 1, .oslice 1 b19 0 1 1, .oslice 1 b20 0 1 1, .oslice 1 b21 0 1 1] 26):=t22 _ _ (by rw[hK22];exact Aa _ _ _);obtain⟨cs,hcs⟩: ∃cs:List DVal,cs= [.nilSlice, .oslice 1 b1 0 1 1, .oslice 1 b2 0 1 1, .oslice 1 b3 0 1 1, .oslice 1 b4 0 1 1, .oslice 1 b5 0 1 1, .oslice 1 b6 0 1 1, .oslice 1 b7 0 1 1, .oslice 1 b8 0 1 1, .oslice 1 b9 0 1 1, .oslice 1 b10 0 1 1, .oslice 1 b11 0 1 1, .oslice 1 b12 0 1 1, .oslice 1 b13 0 1 1, .oslice 1 b14 0 1 1, .oslice 1 b15 0 1 1, .oslice 1 b16 0 2 2, .oslice 1 b17 0 2 2, .oslice 1 b18 0 1 1, .oslice 1 b19 0 1 1, .oslice 1 b20 0 1 1, .oslice 1 b21 0 1 1]:=⟨_,rfl⟩;rw[<-hcs] at c22;have hl:cs.length=22:=by rw[hcs];rfl
 obtain⟨d,hd⟩: ∃d,cs[o]? =some d:=⟨_,List.getElem?_eq_getElem (by omega)⟩;have hs:Fv K22 d H (dW (Al o)):=by
  rw[hcs] at hd;have hcas:o=0\/o=1\/o=2\/o=3\/o=4\/o=5\/o=6\/o=7\/o=8\/o=9\/o=10\/o=11\/o=12\/o=13\/o=14\/o=15\/o=16\/o=17\/o=18\/o=19\/o=20\/o=21:=by omega
  rcases hcas with rfl | rfl | rfl | rfl | rfl | rfl | rfl | rfl | rfl | rfl | rfl | rfl | rfl | rfl | rfl | rfl | rfl | rfl | rfl | rfl | rfl | rfl
  ·cases hd;exact Fv.nil hsT
  ·cases hd;exact Fv.block hsT (u1.lo hb1) c1 rfl
  ·cases hd;exact Fv.block hsT (u2.lo hb2) c2 rfl
  ·cases hd;exact Fv.block hsT (u3.lo hb3) c3 rfl
  ·cases hd;exact Fv.block hsT (u4.lo hb4) c4 rfl
  ·cases hd;exact Fv.block hsT (u5.lo hb5) c5 rfl
  ·cases hd;exact Fv.block hsT (u6.lo hb6) c6 rfl
  ·cases hd;exact Fv.block hsT (u7.lo hb7) c7 rfl
  ·cases hd;exact Fv.block hsT (u8.lo hb8) c8 rfl
  ·cases hd;exact Fv.block hsT (u9.lo hb9) c9 rfl
  ·cases hd;exact Fv.block hsT (u10.lo hb10) c10 rfl
  ·cases hd;exact Fv.block hsT (u11.lo hb11) c11 rfl
  ·cases hd;exact Fv.block hsT (u12.lo hb12) c12 rfl
  ·cases hd;exact Fv.block hsT (u13.lo hb13) c13 rfl
  ·cases hd;exact Fv.block hsT (u14.lo hb14) c14 rfl
  ·cases hd;exact Fv.block hsT (u15.lo hb15) c15 rfl
  ·cases hd;exact Fv.block hsT (u16.lo hb16) c16 rfl
  ·cases hd;exact Fv.block hsT (u17.lo hb17) c17 rfl
  ·cases hd;exact Fv.block hsT (u18.lo hb18) c18 rfl
  ·cases hd;exact Fv.block hsT (u19.lo hb19) c19 rfl
  ·cases hd;exact Fv.block hsT (u20.lo hb20) c20 rfl
  ·cases hd;exact Fv.block hsT (u21.lo hb21) c21 rfl
 have h22: ¬(22:Int)<=(o:Int):=by omega
 have h22b:(o:Int)<22:=by omega
 have hwr:IntKind.i64.wrap (o:Int)=(o:Int):=by rw[IntKind.wrap_i64];omega
 clear s1 s2 s3 s4 s5 s6 s7 s8 s9 s10 s11 s12 s13 s14 s15 s16 s17 s18 s19 s20 s21 s22 t0 t1 t2 t3 t4 t5 t6 t7 t8 t9 t10 t11 t12 t13 t14 t15 t16 t17 t18 t19 t20 t21 t22;simp(disch:=omega) only[go_sem,↓reduceIte,hwr,h22,h22b,c22,hd,Int.toNat_natCast];exact Fv.fin hsT hs ⟨rfl,rfl⟩
end
end Go.Dl

-- Chapter 3: the reference's tokens: choices, arguments.
namespace Go.Dl
open Go Go.Proofs
set_option maxRecDepth 100000
theorem Vo (ts:List Tok):(ts.flatMap Dd).all (fun d=>d.one)=true:=by
 rw[List.all_eq_true];intro d hd;obtain⟨t,_,hd⟩:=List.mem_flatMap.1 hd;exact List.all_eq_true.1 (Ft t) d hd
theorem Sb (ts:List Tok):(ts.flatMap Dd).take (ts.length*4)=ts.flatMap Dd:=List.take_of_length_le (by rw[Bj Bu];omega)
section
end
end Go.Dl

-- Chapter 3: slices.Grow and slices.Concat at tokens.
namespace Go.Dl
open Go Go.Proofs
set_option maxRecDepth 100000
def Dr4:List DVal:= [.int .u8 0, .int .i64 0, .str [], .int .i64 0]
theorem Ci7 (G:Nat->DVal) (n:Nat) (H:Ab) (hn:n<=1000000000):Ah Tryz.prog G 104 [.nilSlice,dI n] H fun e H'=>
  (n=0/\e= .ret .nilSlice/\H'=H)\/(n≠0/\ ∃r,H r=none/\e= .ret (.oslice 4 r 0 0 n)/\H'=upd H r (some (.cells (Cm n Dr4) 31))):=by
 refine Ac Tryz.func104 Tryz.call104 rfl (by kernel_rfl) ?_;by_cases h0:n=0
 ·subst h0;simp(disch:=omega) only[go_sem,↓reduceIte];exact Pm.refl (.inl ⟨rfl,rfl⟩)
 ·simp(disch:=omega) only[go_sem,↓reduceIte];intro _;intro r hr;dsimp only at hr;simp(disch:=omega) only[go_sem,↓reduceIte];exact Pm.refl (.inr ⟨r,hr,by simp,rfl⟩)
theorem Ai9 (q:List (List Tok)) (k:Nat) (h:k<q.length):(q.take (k+1)).flatten=(q.take k).flatten++q[k]:=by
 rw[List.take_add_one,List.getElem?_eq_getElem h,List.flatten_append];simp
theorem Sc (q:List (List Tok)) (k:Nat):(q.take k).flatten.length<=q.flatten.length:=by
 have:q.flatten=(q.take k).flatten++(q.drop k).flatten:=by rw[<-List.flatten_append,List.take_append_drop]
 rw[this];simp
theorem Ci8 (m t:Nat) (z:List DVal):(Cm m z).drop (t*z.length)=Cm (m-t) z:=by
 by_cases h:t<=m
 ·obtain⟨k,rfl⟩:=Nat.exists_eq_add_of_le h;have:Cm (t+k) z=Cm t z++Cm k z:=by unfold Cm;rw[<-List.replicate_append_replicate,List.flatten_append]
  rw[this,List.drop_left' (Fx t z),Nat.add_sub_cancel_left]
 ·rw[List.drop_of_length_le (by rw[Fx];exact Nat.mul_le_mul_right _ (by omega)),Nat.sub_eq_zero_of_le (by omega)];rfl
theorem Br2 (a R b:List DVal):Ck (a++R) a.length b=(a++b)++R.drop b.length:=by
 unfold Ck;rw[List.take_left,List.drop_append,List.drop_of_length_le (by omega)];simp
def Dl4 (H:Ab) (T:Nat) (ts:List Tok) (v:DVal) (heap:Ab):Prop:=
 (T=0/\v= .nilSlice/\heap=H)\/(T≠0/\ ∃r,H r=none/\v= .oslice 4 r 0 ts.length T/\heap=upd H r (some (.cells (ts.flatMap Dd++Cm (T-ts.length) Dr4) 31)))
set_option maxHeartbeats 4000000 in
theorem Vp (G:Nat->DVal) (q:List (List Tok)) (H:Ab) (hq:q.length<=1000000) (hl:q.flatten.length<=100000000):Ah Tryz.prog G 17 [Yy q] H fun e H'=> ∃v,e= .ret v/\Cc3 H 31 4 q.flatten.length (q.flatten.flatMap Dd) v H':=by
 refine Ac Tryz.func17 Tryz.call17 rfl (by kernel_rfl) ?_;simp(disch:=omega) only[go_sem,↓reduceIte];obtain⟨I,hI⟩: ∃I:Nat->(Nat->DVal)->Ab->Prop,∀k env heap,I k env heap↔(H=heap/\env 0=Yy q/\env 9=Yy q/\env 10=dI q.length/\env 11=dI k/\env 3=dI (q.take k).flatten.length/\k<=q.length):=⟨_,fun _ _ _=>Iff.rfl⟩;refine Bs7.run I (fun k=>q.length-k) 0 ((hI _ _ _).2 ?_) ?_
 ·simp(disch:=omega) only[go_sem,↓reduceIte,Yy];simp
 ·intro k env heap hk;obtain⟨rfl,h0,h9,h10,h11,h3,hk⟩:=(hI _ _ _).1 hk;have hml:(q.map Bv).length=q.length:=List.length_map _;by_cases hlt:k<q.length
  ·have hlt':(k:Int)<(q.length:Int):=by omega
   have h1:=Ai9 q k hlt;have h2:=Sc q (k+1);have hget:(q.map Bv)[k]? =some (Bv q[k]):=by rw[List.getElem?_map,List.getElem?_eq_getElem hlt];rfl
   have hw1:IntKind.i64.wrap ((k:Int)+1)=((k+1:Nat):Int):=by rw[IntKind.wrap_i64];omega
   rw[h1,List.length_append] at h2;have hw2:IntKind.i64.wrap (((q.take k).flatten.length:Int)+(q[k].length:Int))=((q.take k).flatten.length:Int)+(q[k].length:Int):=by rw[IntKind.wrap_i64];omega
   have hw3: ¬(((q.take k).flatten.length:Int)+(q[k].length:Int))<0:=by omega
   simp(disch:=omega) only[go_sem,↓reduceIte,h0,h9,h10,h11,h3,hlt',Yy,hget,hml,Int.toNat_natCast,Bv,hw2,hw3];refine⟨k+1,_,Ik.refl _,(hI _ _ _).2 ?_,by omega⟩;simp(disch:=omega) only[go_sem,↓reduceIte,h0,h9,h10,h11,h3,hw1];(repeat' apply And.intro)<;>(try first | rfl | assumption | omega);rw[h1,List.length_append,Int.natCast_add]
  ·have hkq:k=q.length:=by omega
   subst hkq;have hlt': ¬(q.length:Int)<(q.length:Int):=by omega
   rw[List.take_length] at h3;simp(disch:=omega) only[go_sem,↓reduceIte,h0,h9,h10,h11,h3,hlt'];refine(Ci7 G q.flatten.length H (by omega)).mono ?_;rintro e H1 hg;obtain⟨v,rfl,hv⟩: ∃v,e= .ret v/\Dl4 H q.flatten.length [] v H1:=by
    rcases hg with⟨a,b,c⟩ | ⟨a,r,b,c,d⟩
    ·exact⟨_,b, .inl ⟨a,rfl,c⟩⟩
    ·exact⟨_,c, .inr ⟨a,r,b,rfl,by rw[d];rfl⟩⟩
   clear hg;simp(disch:=omega) only[go_sem,↓reduceIte,h0,h9,h10,h11,h3];obtain⟨J,hJ⟩: ∃J:Nat->(Nat->DVal)->Ab->Prop,∀k env heap,J k env heap↔(env 0=Yy q/\env 25=Yy q/\env 26=dI q.length/\env 27=dI k/\k<=q.length/\Dl4 H q.flatten.length (q.take k).flatten (env 6) heap):=⟨_,fun _ _ _=>Iff.rfl⟩;refine Bs7.run J (fun k=>q.length-k) 0 ((hJ _ _ _).2 ?_) ?_
   ·simp(disch:=omega) only[go_sem,↓reduceIte,h0,Yy];(repeat' apply And.intro)<;>(try first | rfl | assumption | omega)
   ·intro k env H1 hk;obtain⟨h0,h25,h26,h27,hk,hv⟩:=(hJ _ _ _).1 hk;by_cases hlt:k<q.length
    ·have hlt':(k:Int)<(q.length:Int):=by omega
     have h1:=Ai9 q k hlt;have h2:=Sc q (k+1);have hget:(q.map Bv)[k]? =some (Bv q[k]):=by rw[List.getElem?_map,List.getElem?_eq_getElem hlt];rfl
     have hw1:IntKind.i64.wrap ((k:Int)+1)=((k+1:Nat):Int):=by rw[IntKind.wrap_i64];omega
     rw[h1,List.length_append] at h2;obtain⟨ts,hts⟩: ∃ts,ts=q[k]:=⟨_,rfl⟩;rw[<-hts] at hget h1 h2;have hnl:=Bj Bu ts;have hft:=Sb ts;have hone:=Vo ts;rcases hv with⟨hT,h6,rfl⟩ | ⟨hT,r,hr,h6,rfl⟩
     ·have h5:ts.length=0:=by omega
      simp(disch:=omega) only[go_sem,↓reduceIte,h0,h25,h26,h27,h6,h5,hlt',Yy,hget,hml,Int.toNat_natCast,Bv,hft,hone,hnl];refine⟨k+1,_,Ik.refl _,(hJ _ _ _).2 ?_,by omega⟩;simp(disch:=omega) only[go_sem,↓reduceIte,h0,h25,h26,h27,h6,h5,hw1];(repeat' apply And.intro)<;>(try first | rfl | assumption | omega);exact .inl ⟨hT,rfl,rfl⟩
     ·simp(disch:=omega) only[go_sem,↓reduceIte,h0,h25,h26,h27,h6,hlt',Yy,hget,hml,Int.toNat_natCast,Bv,hft,hone,hnl];refine⟨by rw[List.length_append,Bj Bu,Fx];show _<=_+_*4;omega,k+1,_,Ik.refl _,(hJ _ _ _).2 ?_,by omega⟩;simp(disch:=omega) only[go_sem,↓reduceIte,h0,h25,h26,h27,h6,hw1];(repeat' apply And.intro)<;>(try first | rfl | assumption | omega);refine .inr ⟨hT,r,hr,by rw[h1,List.length_append],?_⟩;have hsp:=Br2 ((q.take k).flatten.flatMap Dd) (Cm (q.flatten.length-(q.take k).flatten.length) Dr4) (ts.flatMap Dd);rw[Bj Bu,hnl,show ts.length*4=ts.length*Dr4.length from rfl,Ci8] at hsp;rw[hsp,h1,List.flatMap_append,List.length_append,Nat.sub_add_eq]
    ·have hkq:k=q.length:=by omega
     subst hkq;have hlt': ¬(q.length:Int)<(q.length:Int):=by omega
     rw[List.take_length] at hv;simp(disch:=omega) only[go_sem,↓reduceIte,h0,h25,h26,h27,hlt'];rcases hv with⟨hT,h6,rfl⟩ | ⟨hT,r,hr,h6,rfl⟩
     ·simp(disch:=omega) only[go_sem,↓reduceIte,h6];have:q.flatten= []:=List.length_eq_zero_iff.1 hT;exact Pm.refl ⟨_,rfl,by rw[this];exact .inl ⟨rfl,rfl,rfl,rfl⟩⟩
     ·simp(disch:=omega) only[go_sem,↓reduceIte,h6];refine Pm.refl ⟨_,rfl, .inr ⟨r,hr,Bj Bu _,rfl,?_⟩⟩;rw[Nat.sub_self];simp [Cm]
theorem Aj0 (ts:List Tok):loose.looses (ts.flatMap Dd)=true:=by
 rw[Bl7];intro d hd;obtain⟨t,_,hd⟩:=List.mem_flatMap.1 hd;have: ∀d∈Dd t,loose d=true:=by
  rw[show Dd t= [.int .u8 t.kind, .int .i64 t.line, .str t.text, .int .i64 t.n] from rfl];intro d hd;simp only[List.mem_cons,List.not_mem_nil,or_false] at hd;rcases hd with rfl | rfl | rfl | rfl<;>rfl
 exact this d hd
theorem Cc3.looseT {e:TypeId} {size n:Nat} {cs:List DVal} {v:DVal} {X:Ab} (h:Cc3 h0 e size n cs v X) (hl:loose.looses cs=true):Dl.loose v=true/\Az9 h0 X:=by
 rcases h with⟨_,_,rfl,rfl⟩ | ⟨r,_,_,rfl,rfl⟩
 ·exact⟨rfl,Az9.refl _⟩
 ·exact⟨rfl,(Az9.refl h0).upd hl⟩
theorem Cc3.over0 {e:TypeId} {size n:Nat} {cs:List DVal} {v:DVal} {H X:Ab} (h:Cc3 h0 e size n cs v X) (hd:Db1 H X):Ea H e size n cs v (Ak4 H X):=by
 have key:Sub H (Ak4 H X):=fun b o hb=>by rw[As9 (hd.x (by rw[hb];simp))];exact hb
 rcases h with⟨rfl,rfl,rfl,rfl⟩ | ⟨r,_,hl,rfl,rfl⟩
 ·exact .inl ⟨rfl,rfl,rfl,key⟩
 ·exact .inr ⟨r,hd r (by rw[Aa];simp),hl,rfl,by rw[Cn4 (Aa _ _ _)],key⟩
theorem Dp.lentA {P:Program} {G:Nat->DVal} {f:FuncId} {args args':List DVal} {H':Ab} {ty:TypeId} {size n:Nat} {cs:List DVal} (h:Dp H' args h0 args') (k:Ah P G f args' h0 fun e X=> ∃v,e= .ret v/\Cc3 h0 ty size n cs v X) (hl:loose.looses cs=true):
  Ah P G f args H' fun e H2=> ∃v,e= .ret v/\Ea H' ty size n cs v H2:=
 (k.frame (fun w vs hw hr=>h w hw vs hr) (fun e X ⟨v,hv,ho⟩=>⟨v,hv,(ho.looseT hl).1,(ho.looseT hl).2⟩)).mono fun e H2 ⟨X,⟨v,hv,ho⟩,hd,hH⟩=>⟨v,hv,by rw[hH];exact ho.over0 hd⟩
end Go.Dl

-- Chapter 3: ExprChains.
namespace Go.Dl
open Go Go.Proofs
set_option maxRecDepth 100000
theorem Fv.ownT {B C K T:Ab} {e:TypeId} {size n:Nat} {cs:List DVal} {v:DVal} (hv:Ea B e size n cs v C) (hs:Sub C K) (hd: ∀b,K b=none->T b=none) (hT: ∀b,B b=none->C b≠none->T b=none):Fv K v T (.vslice cs n):=by
 rcases hv with⟨rfl,rfl,rfl,_⟩ | ⟨q,h1,h2,rfl,h4,_⟩
 ·exact fun w _ x hx=>Rel.lasts (Ov hd w) _ _ (DLe.nil w K x hx)
 ·exact Fv.cellsD (hT q h1 (by rw[h4];simp)) (hs _ _ h4) h2 (Dp.keepD hd _)
theorem Ea.off {K H:Ab} {e:TypeId} {size n:Nat} {cs:List DVal} {v:DVal} (h:Ea K e size n cs v H) {r:Nat} {o:DObj} (hr:K r=some o):Ea (upd K r none) e size n cs v (upd H r none):=by
 rcases h with⟨a,b,c,d⟩ | ⟨q,a,b,c,d,f⟩
 ·exact .inl ⟨a,b,c,d.both _ _⟩
 ·have hq:q≠r:=fun e=>by rw[e,hr] at a;cases a
  exact .inr ⟨q,by rw[Aq _ _ _ _ hq];exact a,b,c,by rw[Aq _ _ _ _ hq];exact d,f.both _ _⟩
theorem Bw9 (H:Ab) (r:Nat):Sub (upd H r none) H:=fun b o hb=>by
 by_cases e:b=r
 ·subst e;rw[Aa] at hb;cases hb
 ·rw[Aq _ _ _ _ e] at hb;exact hb
def Dc (o k:Nat):Ex:=if 7<=o/\o<=12 then Bi o (min k 1) else Bi o k
theorem Bg3: ∀i:Fin 18,∀s∈Al i.1,s.length<=100:=by decide
theorem Br3 {o k:Nat} (h:k<(Al o).length):((Al o).take (k+1)).flatMap (fun s=>(Bg s).1)=((Al o).take k).flatMap (fun s=>(Bg s).1)++(Bg (Al o)[k]).1:=by
 rw[List.take_add_one,List.getElem?_eq_getElem h,Option.toList_some,List.flatMap_append,List.flatMap_cons,List.flatMap_nil,List.append_nil]
theorem Aj1: ∀i:Fin 18,∀s∈Al i.1,(Bg s).1.length<=4:=by decide+kernel
theorem Ci9 {o k:Nat} (ho:o<18):(((Al o).take k).flatMap (fun s=>(Bg s).1)).length<=4*k:=by
 induction k with
 | zero=>simp
 | succ k ih=>
  by_cases h:k<(Al o).length
  ·rw[Br3 h,List.length_append];have:=Aj1 ⟨o,ho⟩ _ (List.getElem_mem h);omega
  ·rw[List.take_of_length_le (by omega)] at ih⊢;omega
theorem Dv7 {o:Nat} {n:Nat}:Nv (o:Int) (Bi o n) (nmE [120])=Bi o (n+1):=by
 show _=Ex.mk 12 o 0 [] [Bi o n,exX] [] (Bi o n).line 0 0;rw[Ai6];rfl
theorem Bg4 {o:Nat} (ho:o<18):fT (Qw o):=Xp (Cy2 ⟨o,ho⟩) (Bw8 (by decide) (fun t h=>by cases h))
theorem Av7 {o:Nat} (ho:o<18): ∀n,fT (Ip o n)
 | 0=>Bw8 (by decide) (fun t h=>by cases h)
 | n+1=>by rw[Xr];exact Xp (Av7 ho n) (Bg4 ho)
theorem Aj2 {o:Nat} (ho:o<18): ∀n,(Ip o n).length<=1+3*n
 | 0=>by simp [Ip]
 | n+1=>by
  rw[Xr,List.length_append];have h1:=Aj2 ho n;have h2:=(Ai8 ⟨o,ho⟩).2;have h3:(Qw o).length=(Gk o).length+1:=by rw[Qw,List.length_append];rfl
  dsimp only at h2;omega
def wsL (o p i:Nat):List DVal:=([Gk o,Gk p].take i).map Bv
theorem Xs {o k:Nat} (h:k=0\/o<7\/12<o):Dc o (k+1)=Nv o (Dc o k) (nmE [120]):=by
 rw[Dc,Dc];by_cases c:7<=o/\o<=12
 ·have h0:k=0:=by omega
  subst h0;rw[if_pos c,if_pos c];exact Dv7.symm
 ·rw[if_neg c,if_neg c];exact Dv7.symm
theorem Br4 {o k:Nat} (h:k≠0) (c:7<=o/\o<=12):Dc o (k+1)=Dc o k:=by
 rw[Dc,Dc,if_pos c,if_pos c,Nat.min_eq_right (by omega),Nat.min_eq_right (by omega)]
theorem Cj0: ∀(o:Fin 18) (k:Fin 21),Cp (Dc o.1 k.1)<=1000000:=by decide+kernel
def Dr5 (H:Ab) (e:TypeId) (cs:List DVal) (v:DVal) (X:Ab):Prop:= ∃r,H r=none/\v= .oslice 1 r 0 cs.length cs.length/\X=upd H r (some (.cells cs e))
section
variable {G:Nat->DVal}
set_option maxHeartbeats 8000000 in
theorem Yz (hG:GX G) (H:Ab) (o p w:Nat) (ho:o<256) (hp:p<256) (hw:w<256):
  Ah Tryz.prog G 3 [.int .u8 o, .int .u8 p, .int .u8 w] H (Bp (.bool true) H):=by
 have hw0:IntKind.i64.wrap (w:Int)=w:=by rw[IntKind.wrap_i64];omega
 obtain⟨n,hn⟩: ∃n,n=2+w%20:=⟨_,rfl⟩;obtain⟨o1,ho1⟩: ∃o1,o1=1+o%17:=⟨_,rfl⟩;obtain⟨p1,hp1⟩: ∃p1,p1=1+p%17:=⟨_,rfl⟩;have hn1:IntKind.i64.wrap (2+(w:Int).tmod 20)=n:=by rw[Int.tmod_eq_emod_of_nonneg (by omega),IntKind.wrap_i64];omega
 have ho2:IntKind.u8.wrap (1+(o:Int).tmod 17)=o1:=by rw[Int.tmod_eq_emod_of_nonneg (by omega),IntKind.wrap_u8];omega
 have hp2:IntKind.u8.wrap (1+(p:Int).tmod 17)=p1:=by rw[Int.tmod_eq_emod_of_nonneg (by omega),IntKind.wrap_u8];omega
 refine Ac Tryz.func3 Tryz.call3 rfl (by kernel_rfl) ?_;simp(disch:=omega) only[go_sem,↓reduceIte,hw0,hn1,ho2,hp2];intro r34 hr34;dsimp only at hr34;obtain⟨H1,hH1⟩: ∃K',K'=upd H r34 (some (.cells [] 25)):=⟨_,rfl⟩;rw[<-hH1];have gr34:H1 r34=some (.cells [] 25):=by rw[hH1];exact Aa _ _ _
 have sH1:Sub H H1:=by rw[hH1];exact(Sub.refl _).new hr34 _
 simp(disch:=omega) only[go_sem,↓reduceIte,hw0,hn1,ho2,hp2];intro r37 hr37;dsimp only at hr37;obtain⟨H2,hH2⟩: ∃K',K'=upd H1 r37 (some (.cells [.int .u8 o1, .int .u8 p1] 22)):=⟨_,rfl⟩;rw[<-hH2];have gr37:H2 r37=some (.cells [.int .u8 o1, .int .u8 p1] 22):=by rw[hH2];exact Aa _ _ _
 have sH2:Sub H1 H2:=by rw[hH2];exact(Sub.refl _).new hr37 _
 simp(disch:=omega) only[go_sem,↓reduceIte,hw0,hn1,ho2,hp2];have hv37:Ea H1 22 1 2 [.int .u8 o1, .int .u8 p1] (.oslice 1 r37 0 2 2) H2:= .inr ⟨r37,hr37,rfl,rfl,gr37,sH2⟩;obtain⟨I,hI⟩: ∃I:Nat->(Nat->DVal)->Ab->Prop,∀i env heap,I i env heap↔(env 7=dI n/\env 8= .int .u8 o1/\env 9= .int .u8 p1/\env 37= .vslice [.int .u8 o1, .int .u8 p1] 2/\env 38=dI 2/\env 39=dI i/\i<=2/\Dr5 H 25 (wsL o1 p1 i) (env 10) heap):=⟨_,fun _ _ _=>Iff.rfl⟩;refine Bs7.runG I (fun i=>2-i) 0 _ (Ik.fzSlot (k:=37) hv37) ((hI _ _ _).2 ?_) ?_
 ·simp(disch:=omega) only[go_sem,↓reduceIte];(repeat' apply And.intro)<;>(try first | rfl | assumption | omega);exact⟨r34,hr34,rfl,hH1⟩
 ·intro i E K hi;obtain⟨e7,e8,e9,e37,e38,e39,hi2,r10,hr10,e10,hK⟩:=(hI _ _ _).1 hi;have hlen:(wsL o1 p1 i).length=i:=by
   have:i=0\/i=1\/i=2:=by omega
   rcases this with rfl | rfl | rfl<;>rfl
  rw[hlen] at e10;have gK:K r10=some (.cells (wsL o1 p1 i) 25):=by rw[hK];exact Aa _ _ _
  have sK:Sub H K:=by rw[hK];exact(Sub.refl H).new hr10 _
  by_cases hlt:i<2
  ·have hlt':(i:Int)<2:=by omega
   obtain⟨q,hq⟩: ∃q,q=if i=0 then o1 else p1:=⟨_,rfl⟩
   have hq18:q<18:=by rw[hq];split<;>omega
   have hi01:i=0\/i=1:=by omega
   have hget:([DVal.int .u8 o1, .int .u8 p1]:List DVal)[i]? =some (.int .u8 q):=by
    rcases hi01 with rfl | rfl<;>rw[hq]<;>rfl
   have hqs:wsL o1 p1 (i+1)=wsL o1 p1 i++ [Bv (Gk q)]:=by
    rcases hi01 with rfl | rfl<;>rw[hq]<;>rfl
   have hwi:IntKind.i64.wrap ((i:Int)+1)=((i+1:Nat):Int):=by rw[IntKind.wrap_i64];omega
   obtain⟨cs10,hcs10⟩: ∃c,c=wsL o1 p1 i:=⟨_,rfl⟩;rw[<-hcs10] at gK hlen hqs;simp(disch:=omega) only[go_sem,↓reduceIte,e7,e8,e9,e37,e38,e39,hlt',hget,Int.toNat_natCast,List.length_cons,List.length_nil];refine Ah.monoR (Bg2 G K q (by omega)) ?_;have hwl2:=Ae8 q;obtain⟨ws,hws⟩: ∃ws,ws=Al q:=⟨_,rfl⟩;rw[<-hws] at hwl2⊢
   simp(disch:=omega) only[go_sem,↓reduceIte,e7,e8,e9,e37,e38,e39,dW];obtain⟨J,hJ⟩: ∃J:Nat->(Nat->DVal)->Ab->Prop,∀k env heap,J k env heap↔(env 7=dI n/\env 8= .int .u8 o1/\env 9= .int .u8 p1/\env 37= .vslice [.int .u8 o1, .int .u8 p1] 2/\env 38=dI 2/\env 39=dI i/\env 10= .oslice 1 r10 0 i i/\env 44=dW ws/\env 45=dI ws.length/\env 46=dI k/\k<=ws.length/\Ea K 31 4 ((ws.take k).flatMap fun s=>(Bg s).1).length (((ws.take k).flatMap fun s=>(Bg s).1).flatMap Dd) (env 13) heap):=⟨_,fun _ _ _=>Iff.rfl⟩;refine Bs7.run J (fun k=>ws.length-k) 0 ((hJ _ _ _).2 ?_) ?_
   ·simp(disch:=omega) only[go_sem,↓reduceIte,e7,e8,e9,e37,e38,e39,e10,dW];(repeat' apply And.intro)<;>(try first | rfl | assumption | omega);exact Ea.nil _ _ (Sub.refl K)
   ·intro k F X hk;obtain⟨f7,f8,f9,f37,f38,f39,f10,f44,f45,f46,hk2,hv⟩:=(hJ _ _ _).1 hk;obtain⟨v13,e13⟩: ∃v,F 13=v:=⟨_,rfl⟩;rw[e13] at hv;by_cases hlk:k<ws.length
    ·have hlk':(k:Int)<(ws.length:Int):=by omega
     have hget2:(ws.map DVal.str)[k]? =some (.str ws[k]):=by rw[List.getElem?_map,List.getElem?_eq_getElem hlk];rfl
     have hml:(ws.map DVal.str).length=ws.length:=List.length_map _;have hwk:IntKind.i64.wrap ((k:Int)+1)=((k+1:Nat):Int):=by rw[IntKind.wrap_i64];omega
     have hwT:=Ci9 (o:=q) (k:=k) hq18;have htk:(ws.take (k+1)).flatMap (fun s=>(Bg s).1)=(ws.take k).flatMap (fun s=>(Bg s).1)++(Bg ws[k]).1:=by
      rw[List.take_add_one,List.getElem?_eq_getElem hlk,Option.toList_some,List.flatMap_append,List.flatMap_cons,List.flatMap_nil,List.append_nil]
     have hmem:ws[k]∈Al q:=by rw[<-hws];exact List.getElem_mem hlk
     have hss:=Bg3 ⟨q,hq18⟩ _ hmem;have htl:=Aj1 ⟨q,hq18⟩ _ hmem;rw[<-hws] at hwT;obtain⟨s,hs⟩: ∃s,s=ws[k]:=⟨_,rfl⟩;rw[<-hs] at hget2 htk hss htl;obtain⟨ts,hts⟩: ∃ts,ts=(Bg s).1:=⟨_,rfl⟩;have htk0:Ah Tryz.prog G 15 [.str s] X (Bp (Bv ts) X):=by rw[hts];exact Jz G X s (by omega)
     rw[<-hts] at htl htk;have ht4:=Bj Bu ts;simp(disch:=omega) only[go_sem,↓reduceIte,f7,f8,f9,f37,f38,f39,f10,f44,f45,f46,e13,dW,hlk',hget2,hml,Int.toNat_natCast];refine Ah.monoR htk0 ?_;simp(disch:=omega) only[go_sem,↓reduceIte,f7,f8,f9,f37,f38,f39,f10,f44,f45,f46,e13,Bv,Sb,Vo,ht4,Int.toNat_natCast];refine Ea.append (m:=ts.length) hv ht4 (by omega) fun v2 X2 hv2=> ?_;simp(disch:=omega) only[go_sem,↓reduceIte,f7,f8,f9,f37,f38,f39,f10,f44,f45,f46];refine⟨k+1,_,Ik.refl _,(hJ _ _ _).2 ?_,by omega⟩;simp(disch:=omega) only[go_sem,↓reduceIte,f7,f8,f9,f37,f38,f39,f10,f44,f45,f46,hwk,dW];(repeat' apply And.intro)<;>(try first | rfl | assumption | omega);rw[htk,List.length_append,List.flatMap_append];exact hv2
    ·have hkw:k=ws.length:=by omega
     subst hkw;have hlk': ¬(ws.length:Int)<(ws.length:Int):=by omega
     rw[List.take_length] at hv;have hwq:(ws.flatMap fun s=>(Bg s).1)=Gk q:=by rw[hws];rfl
     rw[hwq] at hv;obtain⟨c1,c2⟩:=hv.cell1;simp(disch:=omega) only[go_sem,↓reduceIte,f7,f8,f9,f37,f38,f39,f10,f44,f45,f46,e13,hlk',c1,c2];intro r57 hr57;dsimp only at hr57;obtain⟨X1,hX1⟩: ∃K',K'=upd X r57 (some (.cells [v13] 25)):=⟨_,rfl⟩;rw[<-hX1];have gr57:X1 r57=some (.cells [v13] 25):=by rw[hX1];exact Aa _ _ _
     have sX1:Sub X X1:=by rw[hX1];exact(Sub.refl _).new hr57 _
     have gX:=hv.sub _ _ gK;have gX1:=sX1 _ _ gX;obtain⟨B,hB⟩: ∃B,B=upd X1 r10 none:=⟨_,rfl⟩;have b10:B r10=none:=by rw[hB];exact Aa _ _ _
     have hv10:Ea B 25 1 i cs10 (.oslice 1 r10 0 i i) X1:= .inr ⟨r10,b10,by rw[hlen,Nat.mul_one],rfl,gX1,by rw[hB];exact Bw9 _ _⟩;have n57:r10≠r57:=Af hr57 gX;simp(disch:=omega) only[go_sem,↓reduceIte,f7,f8,f9,f37,f38,f39,f10,gX1,gX,gr57,n57,c1,c2,List.take_succ_cons,List.take_zero,List.all_cons,List.all_nil];intro r2 hr2';rw[List.take_of_length_le (by omega),<-hB];have hr2:B r2=none:=by rw[hB];exact hr2'
     obtain⟨X2,hX2⟩: ∃X2,X2=upd B r2 (some (.cells (cs10++ [v13]) 25)):=⟨_,rfl⟩;rw[<-hX2];have hc2:X2 r2=some (.cells (cs10++ [v13]) 25):=by rw[hX2];exact Aa _ _ _
     have hs2:Sub B X2:=by rw[hX2];exact(Sub.refl B).new hr2 _
     have hvB:Ea (upd K r10 none) 31 4 (Gk q).length ((Gk q).flatMap Dd) v13 B:=by
      rw[hB];exact(hv.more sX1).off gK
     have hH2:H r2=none:=by
      have hsB:Sub H B:=by
       rw[hB];exact(sK.trans (hv.sub.trans sX1)).up hr10 _
      exact hsB.lo hr2
     have hd: ∀y b,X2 b=none->(upd H r2 (some y)) b=none:=fun y b hb=>by
      have hne:b≠r2:=fun e=>by rw[e,hc2] at hb;cases hb
      rw[Aq _ _ _ _ hne];have hsH:Sub H X2:=by
       refine Sub.trans ?_ hs2;rw[hB];exact(sK.trans (hv.sub.trans sX1)).up hr10 _
      exact hsH.lo hb
     refine⟨i+1,_,Ik.cell (cs':=wsL o1 p1 (i+1)) (B:=H) hc2 ?_ ?_,(hI _ _ _).2 ?_,by omega⟩
     ·refine Sub.trans ?_ hs2;rw[hB];exact(sK.trans (hv.sub.trans sX1)).up hr10 _
     ·rw[hqs];refine Dp.append (Dp.keepD (hd _) _) (.cons ?_ .nil);refine Fv.ownT hvB hs2 (hd _) fun b hb1 hb2=> ?_;have hne:b≠r2:=fun e=>by rw[e] at hb2;exact hb2 hr2
      rw[Aq _ _ _ _ hne];by_cases e:b=r10
      ·rw[e];exact hr10
      ·rw[Aq _ _ _ _ e] at hb1;exact sK.lo hb1
     ·simp(disch:=omega) only[go_sem,↓reduceIte,f7,f8,f9,f37,f38,f39,f10,hwi];(repeat' apply And.intro)<;>(try first | rfl | assumption | omega);refine⟨r2,hH2,?_,rfl⟩;rw[hqs,List.length_append,hlen];rfl
  ·have hi2:i=2:=by omega
   subst hi2;have hws2:wsL o1 p1 2= [Bv (Gk o1),Bv (Gk p1)]:=rfl;have hdc: ∀l:List Tok,(Bv l).cells= [Bv l]:=fun _=>rfl;have hdo: ∀l:List Tok,(Bv l).one=true:=fun _=>rfl;have h18:o1<18:=by omega
   have hz: ∀X:Ab,Sub h0 X:=fun X r o h=>by cases h
   simp(disch:=omega) only[go_sem,↓reduceIte,e7,e8,e9,e37,e38,e39,e10,Cj,List.length_cons,List.length_nil,List.drop_succ_cons,List.drop_zero,List.drop_nil,List.append_nil,List.cons_append,List.nil_append,List.getElem?_cons_zero,List.getElem?_cons_succ];intro r61 hr61;dsimp only at hr61;obtain⟨K1,hK1⟩: ∃K',K'=upd K r61 (some (.cells [.int .u8 1, .int .i64 0, .str [120], .int .i64 0] 31)):=⟨_,rfl⟩;rw[<-hK1];have gr61:K1 r61=some (.cells [.int .u8 1, .int .i64 0, .str [120], .int .i64 0] 31):=by rw[hK1];exact Aa _ _ _
   have sK1:Sub K K1:=by rw[hK1];exact(Sub.refl _).new hr61 _
   simp(disch:=omega) only[go_sem,↓reduceIte,e7,e8,e9,e37,e38,e39,e10,Cj,List.length_cons,List.length_nil,List.drop_succ_cons,List.drop_zero,List.drop_nil,List.append_nil,List.cons_append,List.nil_append,List.getElem?_cons_zero,List.getElem?_cons_succ];refine Ah.monoR (Ep G K1 [120]) ?_;have hlx:=Aj (nmE [120]);have hox:=Ba (nmE [120]);simp(disch:=omega) only[go_sem,↓reduceIte,e7,e8,e9,e37,e38,e39,e10,dE,hlx,hox];intro r17 hr17;dsimp only at hr17;simp(disch:=omega) only[go_sem,↓reduceIte,e7,e8,e9,e37,e38,e39,e10,hlx,hox];obtain⟨K2,hK2⟩: ∃C,C=upd K1 r17 (some (.cells (dEx (nmE [120])) 36)):=⟨_,rfl⟩;rw[<-hK2];have k17:K r17=none:=sK1.lo hr17;have h17:H r17=none:=sK.lo k17;have n1017:r10≠r17:=Af k17 gK;have n6117:r61≠r17:=Af hr17 gr61;have hv16:Ea (upd K r17 (some (.cells (dEx (nmE [120])) 36))) 31 4 1 (Dd nmX) (.oslice 4 r61 0 1 1) K2:= .inr ⟨r61,by rw[Aq _ _ _ _ n6117];exact hr61,rfl,rfl,by rw[hK2];exact Ai gr61 n6117,by rw[hK2];exact sK1.both _ _⟩;have hv10:Ea (upd H r17 (some (.cells (dEx (nmE [120])) 36))) 25 1 2 (wsL o1 p1 2) (E 10) (upd K r17 (some (.cells (dEx (nmE [120])) 36))):=by
    rw[e10];exact .inr ⟨r10,by rw[Aq _ _ _ _ n1017];exact hr10,rfl,rfl,Ai gK n1017,sK.both _ _⟩
   obtain⟨L,hL⟩: ∃L:Nat->(Nat->DVal)->Ab->Prop,∀k env heap,L k env heap↔(env 7=dI n/\env 8= .int .u8 o1/\env 9= .int .u8 p1/\env 10= .vslice (wsL o1 p1 2) 2/\env 16=Bv (Ip o1 k)/\env 17= .optr r17 0/\env 18=dI (k+1:Nat)/\k+1<=n/\heap=upd H r17 (some (.cells (dEx (Dc o1 k)) 36))):=⟨_,fun _ _ _=>Iff.rfl⟩;refine Bs7.runG L (fun k=>n-k) 0 _ (Ik.trans (Ik.fzSlot (k:=16) hv16) (Ik.fzSlot (k:=10) hv10)) ((hL _ _ _).2 ?_) ?_
   ·simp(disch:=omega) only[go_sem,↓reduceIte,e7,e8,e9,e37,e38,e39,e10];(repeat' apply And.intro)<;>(try first | rfl | assumption | omega)
    ·rw[Dc];split<;>rfl
   ·intro k F X hk;obtain⟨f7,f8,f9,f10,f16,f17,f18,hk2,hX⟩:=(hL _ _ _).1 hk;have gX17:X r17=some (.cells (dEx (Dc o1 k)) 36):=by rw[hX];exact Aa _ _ _
    have sX:Sub H X:=by rw[hX];exact(Sub.refl H).new h17 _
    have hlw:=Aj (Dc o1 k);have how:=Ba (Dc o1 k);by_cases hlt:k+1<n
    ·have hlt':((k+1:Nat):Int)<(n:Int):=by omega
     have hwk:IntKind.i64.wrap (((k+1:Nat):Int)+1)=((k+1+1:Nat):Int):=by rw[IntKind.wrap_i64];omega
     simp(disch:=omega) only[go_sem,↓reduceIte,f7,f8,f9,f10,f16,f17,f18,hlt',hws2,hdc,hdo,Cj,List.length_cons,List.length_nil,List.drop_succ_cons,List.drop_zero,List.drop_nil,List.append_nil,List.cons_append,List.nil_append,List.getElem?_cons_zero,List.getElem?_cons_succ];intro r73 hr73;dsimp only at hr73;obtain⟨M1,hM1⟩: ∃K',K'=upd X r73 (some (.cells [.int .u8 1, .int .i64 0, .str [120], .int .i64 0] 31)):=⟨_,rfl⟩;rw[<-hM1];have gr73:M1 r73=some (.cells [.int .u8 1, .int .i64 0, .str [120], .int .i64 0] 31):=by rw[hM1];exact Aa _ _ _
     have sM1:Sub X M1:=by rw[hM1];exact(Sub.refl _).new hr73 _
     simp(disch:=omega) only[go_sem,↓reduceIte,f7,f8,f9,f10,f16,f17,f18,hws2,hdc,hdo,Cj,List.length_cons,List.length_nil,List.drop_succ_cons,List.drop_zero,List.drop_nil,List.append_nil,List.cons_append,List.nil_append,List.getElem?_cons_zero,List.getElem?_cons_succ];intro r74 hr74;dsimp only at hr74;obtain⟨M,hM⟩: ∃K',K'=upd M1 r74 (some (.cells [Bv (Ip o1 k),Bv (Gk o1), .oslice 4 r73 0 1 1] 25)):=⟨_,rfl⟩;rw[<-hM];have gr74:M r74=some (.cells [Bv (Ip o1 k),Bv (Gk o1), .oslice 4 r73 0 1 1] 25):=by rw[hM];exact Aa _ _ _
     have sM:Sub M1 M:=by rw[hM];exact(Sub.refl _).new hr74 _
     simp(disch:=omega) only[go_sem,↓reduceIte,f7,f8,f9,f10,f16,f17,f18,hws2,hdc,hdo,Cj,List.length_cons,List.length_nil,List.drop_succ_cons,List.drop_zero,List.drop_nil,List.append_nil,List.cons_append,List.nil_append,List.getElem?_cons_zero,List.getElem?_cons_succ];have x73:=sM _ _ gr73;have hcat: [Ip o1 k,Gk o1,[nmX]].flatten=Ip o1 (k+1):=by rw[Xr];simp [Qw]
     have hll:=Aj2 h18 (k+1);refine(Dp.lentA (args':= [Yy [Ip o1 k,Gk o1,[nmX]]]) (.cons (Fv.cells (e:=25) (size:=1) (n:=3) (cs':= [Bv (Ip o1 k),Bv (Gk o1),Bv [nmX]]) (hz M) rfl gr74 rfl (.cons (.keep (hz M) _) (.cons (.keep (hz M) _) (.cons (Fv.block (hz M) rfl x73 rfl) .nil)))) .nil) (Vp G [Ip o1 k,Gk o1,[nmX]] h0 (by simp) (by rw[hcat];omega)) (Aj0 _)).mono ?_;rintro _ N ⟨v3,rfl,hv3⟩;rw[hcat] at hv3;have m17:M r17=some (.cells (dEx (Dc o1 k)) 36):=sM _ _ (sM1 _ _ gX17);have g17:=hv3.sub _ _ m17;have sHM:Sub H M:=sX.trans (sM1.trans sM);by_cases c0:k=0
     ·simp(disch:=omega) only[go_sem,↓reduceIte,f7,f8,f9,f10,f16,f17,f18];refine An (by kernel_rfl) (.take 0 (.take 1 (.go 2 [1] (.go 3 [] (.go 4 [] .done))))) (by kernel_rfl) ?_;simp(disch:=omega) only[go_sem,↓reduceIte,f7,f8,f9,f10,f16,f17,f18,g17,hlw,how];refine Ah.monoR (Ep G N [120]) ?_;simp(disch:=omega) only[go_sem,↓reduceIte,f7,f8,f9,f10,f16,f17,f18,g17,hlw,how,dE];refine Ah.monoR (Gn G N o1 (Dc o1 k) (nmE [120])) ?_;have hly:=Aj (Nv o1 (Dc o1 k) (nmE [120]));have hoy:=Ba (Nv o1 (Dc o1 k) (nmE [120]));simp(disch:=omega) only[go_sem,↓reduceIte,f7,f8,f9,f10,f16,f17,f18,g17,hlw,how,dE,hly,hoy,hwk];refine⟨k+1,_,Ik.trans (Ik.fzSlot (k:=16) (hv3.at m17 (some (.cells (dEx (Nv o1 (Dc o1 k) (nmE [120]))) 36)))) (Ik.sub (sHM.both r17 _)),(hL _ _ _).2 ?_,by omega⟩;simp(disch:=omega) only[go_sem,↓reduceIte,f7,f8,f9,f10,f16,f17,f18,hwk];(repeat' apply And.intro)<;>(try first | rfl | assumption | omega);rw[Xs (by omega)]
     ·by_cases c1:o1<7
      ·simp(disch:=omega) only[go_sem,↓reduceIte,f7,f8,f9,f10,f16,f17,f18];refine An (by kernel_rfl) (.take 0 (.take 1 (.go 2 [1] (.go 3 [] (.go 4 [] .done))))) (by kernel_rfl) ?_;simp(disch:=omega) only[go_sem,↓reduceIte,f7,f8,f9,f10,f16,f17,f18,g17,hlw,how];refine Ah.monoR (Ep G N [120]) ?_;simp(disch:=omega) only[go_sem,↓reduceIte,f7,f8,f9,f10,f16,f17,f18,g17,hlw,how,dE];refine Ah.monoR (Gn G N o1 (Dc o1 k) (nmE [120])) ?_;have hly:=Aj (Nv o1 (Dc o1 k) (nmE [120]));have hoy:=Ba (Nv o1 (Dc o1 k) (nmE [120]));simp(disch:=omega) only[go_sem,↓reduceIte,f7,f8,f9,f10,f16,f17,f18,g17,hlw,how,dE,hly,hoy,hwk];refine⟨k+1,_,Ik.trans (Ik.fzSlot (k:=16) (hv3.at m17 (some (.cells (dEx (Nv o1 (Dc o1 k) (nmE [120]))) 36)))) (Ik.sub (sHM.both r17 _)),(hL _ _ _).2 ?_,by omega⟩;simp(disch:=omega) only[go_sem,↓reduceIte,f7,f8,f9,f10,f16,f17,f18,hwk];(repeat' apply And.intro)<;>(try first | rfl | assumption | omega);rw[Xs (by omega)]
      ·by_cases c2:12<o1
       ·simp(disch:=omega) only[go_sem,↓reduceIte,f7,f8,f9,f10,f16,f17,f18];refine An (by kernel_rfl) (.take 0 (.take 1 (.go 2 [1] (.go 3 [] (.go 4 [] .done))))) (by kernel_rfl) ?_;simp(disch:=omega) only[go_sem,↓reduceIte,f7,f8,f9,f10,f16,f17,f18,g17,hlw,how];refine Ah.monoR (Ep G N [120]) ?_;simp(disch:=omega) only[go_sem,↓reduceIte,f7,f8,f9,f10,f16,f17,f18,g17,hlw,how,dE];refine Ah.monoR (Gn G N o1 (Dc o1 k) (nmE [120])) ?_;have hly:=Aj (Nv o1 (Dc o1 k) (nmE [120]));have hoy:=Ba (Nv o1 (Dc o1 k) (nmE [120]));simp(disch:=omega) only[go_sem,↓reduceIte,f7,f8,f9,f10,f16,f17,f18,g17,hlw,how,dE,hly,hoy,hwk];refine⟨k+1,_,Ik.trans (Ik.fzSlot (k:=16) (hv3.at m17 (some (.cells (dEx (Nv o1 (Dc o1 k) (nmE [120]))) 36)))) (Ik.sub (sHM.both r17 _)),(hL _ _ _).2 ?_,by omega⟩;simp(disch:=omega) only[go_sem,↓reduceIte,f7,f8,f9,f10,f16,f17,f18,hwk];(repeat' apply And.intro)<;>(try first | rfl | assumption | omega);rw[Xs (by omega)]
       ·simp(disch:=omega) only[go_sem,↓reduceIte,f7,f8,f9,f10,f16,f17,f18,hwk];refine⟨k+1,_,Ik.trans (Ik.fzSlot (k:=16) hv3) (Ik.sub (H':=upd H r17 (some (.cells (dEx (Dc o1 k)) 36))) (by rw[<-hX];exact sM1.trans sM)),(hL _ _ _).2 ?_,by omega⟩;simp(disch:=omega) only[go_sem,↓reduceIte,f7,f8,f9,f10,f16,f17,f18,hwk];(repeat' apply And.intro)<;>(try first | rfl | assumption | omega);rw[Br4 (by omega) (by omega)]
    ·have hkn:k+1=n:=by omega
     have hlt': ¬((k+1:Nat):Int)<(n:Int):=by omega
     have hlen8:=Aj2 h18 k;have hfit:=Cx8 (Av7 h18 k);have hst:=Di0 h18 k;have hk20:k<=20:=by omega
     have hlk:(Hz o1 k).length=(Ip o1 k).length:=by rw[<-hst,List.length_map]
     obtain⟨x,hfr,hsx⟩: ∃x,Du (Ip o1 k) 0=(x,(if 7<=o1/\o1<=12 then 3 else((Ip o1 k).length:Int)),0)/\stE x=stE (Dc o1 k):=by
      by_cases c:7<=o1/\o1<=12
      ·rw[if_pos c];obtain⟨k',rfl⟩: ∃k',k=k'+1:=⟨k-1,by omega⟩;obtain⟨x,h1,h2⟩:=Ci5 c hst;exact⟨x,h1,by rw[h2,Dc,if_pos c,Nat.min_eq_right (by omega)]⟩
      ·rw[if_neg c,<-hlk];obtain⟨x,h1,h2⟩:=Bf9 (n:=k) (by omega) (by omega) hst;exact⟨x,h1,by rw[h2,Dc,if_neg c]⟩
     have hbig:=Cj0 ⟨o1,h18⟩ ⟨k,by omega⟩;dsimp only at hbig;by_cases c:7<=o1/\o1<=12
     ·rw[if_pos c] at hfr;simp(disch:=omega) only[go_sem,↓reduceIte,f7,f8,f9,f10,f16,f17,f18,hlt',Bv];refine Ah.monoR (Jx (l:=Ip o1 k) hG X 0 (by omega) hfit) ?_;rw[hfr];have hlx2:=Aj x;have hox2:=Ba x;simp(disch:=omega) only[go_sem,↓reduceIte,f7,f8,f9,f10,f16,f17,f18,Td,dE];intro r20 hr20;dsimp only at hr20;have n20:r17≠r20:=Af hr20 gX17;have m20:=n20.symm;simp(disch:=omega) only[go_sem,↓reduceIte,f7,f8,f9,f10,f16,f17,f18,hlx2,hox2,n20,m20,gX17,hlw,how];obtain⟨Q,hQ⟩: ∃Q,Q=upd X r20 (some (.cells (dEx x) 36)):=⟨_,rfl⟩;rw[<-hQ];have q17:Q r17=some (.cells (dEx (Dc o1 k)) 36):=by rw[hQ];exact Ai gX17 n20
      have sQ:Sub X Q:=by rw[hQ];exact(Sub.refl X).new hr20 _
      refine Ah.monoR (Li G _ x (Dc o1 k) (by rw[Vn hsx];omega)) ?_;rw[Vm hsx];simp(disch:=omega) only[go_sem,↓reduceIte,f7,f8,f9,f10,f16,f17,f18];try simp(disch:=omega) only[go_sem,↓reduceIte,f7,f8,f9,f10,f16,f17,f18]
      refine Ah.monoR (Mh hG _) ?_;try simp(disch:=omega) only[go_sem,↓reduceIte]
      exact Pm.sub (sX.trans sQ) (.refl ⟨rfl,rfl⟩)
     ·rw[if_neg c] at hfr;by_cases c7:o1<7
      ·simp(disch:=omega) only[go_sem,↓reduceIte,f7,f8,f9,f10,f16,f17,f18,hlt',Bv];refine Ah.monoR (Jx (l:=Ip o1 k) hG X 0 (by omega) hfit) ?_;rw[hfr];have hlx2:=Aj x;have hox2:=Ba x;simp(disch:=omega) only[go_sem,↓reduceIte,f7,f8,f9,f10,f16,f17,f18,Td,dE];intro r20 hr20;dsimp only at hr20;have n20:r17≠r20:=Af hr20 gX17;have m20:=n20.symm;simp(disch:=omega) only[go_sem,↓reduceIte,f7,f8,f9,f10,f16,f17,f18,hlx2,hox2,n20,m20,gX17,hlw,how];obtain⟨Q,hQ⟩: ∃Q,Q=upd X r20 (some (.cells (dEx x) 36)):=⟨_,rfl⟩;rw[<-hQ];have q17:Q r17=some (.cells (dEx (Dc o1 k)) 36):=by rw[hQ];exact Ai gX17 n20
       have sQ:Sub X Q:=by rw[hQ];exact(Sub.refl X).new hr20 _
       refine Ah.monoR (Li G _ x (Dc o1 k) (by rw[Vn hsx];omega)) ?_;rw[Vm hsx];simp(disch:=omega) only[go_sem,↓reduceIte,f7,f8,f9,f10,f16,f17,f18];try simp(disch:=omega) only[go_sem,↓reduceIte,f7,f8,f9,f10,f16,f17,f18]
       refine Ah.monoR (Mh hG _) ?_;try simp(disch:=omega) only[go_sem,↓reduceIte]
       exact Pm.sub (sX.trans sQ) (.refl ⟨rfl,rfl⟩)
      ·simp(disch:=omega) only[go_sem,↓reduceIte,f7,f8,f9,f10,f16,f17,f18,hlt',Bv];refine Ah.monoR (Jx (l:=Ip o1 k) hG X 0 (by omega) hfit) ?_;rw[hfr];have hlx2:=Aj x;have hox2:=Ba x;simp(disch:=omega) only[go_sem,↓reduceIte,f7,f8,f9,f10,f16,f17,f18,Td,dE];intro r20 hr20;dsimp only at hr20;have n20:r17≠r20:=Af hr20 gX17;have m20:=n20.symm;simp(disch:=omega) only[go_sem,↓reduceIte,f7,f8,f9,f10,f16,f17,f18,hlx2,hox2,n20,m20,gX17,hlw,how];obtain⟨Q,hQ⟩: ∃Q,Q=upd X r20 (some (.cells (dEx x) 36)):=⟨_,rfl⟩;rw[<-hQ];have q17:Q r17=some (.cells (dEx (Dc o1 k)) 36):=by rw[hQ];exact Ai gX17 n20
       have sQ:Sub X Q:=by rw[hQ];exact(Sub.refl X).new hr20 _
       refine Ah.monoR (Li G _ x (Dc o1 k) (by rw[Vn hsx];omega)) ?_;rw[Vm hsx];simp(disch:=omega) only[go_sem,↓reduceIte,f7,f8,f9,f10,f16,f17,f18];by_cases cp:p1<13
       ·try simp(disch:=omega) only[go_sem,↓reduceIte,f7,f8,f9,f10,f16,f17,f18]
        refine Ah.monoR (Mh hG _) ?_;try simp(disch:=omega) only[go_sem,↓reduceIte]
        exact Pm.sub (sX.trans sQ) (.refl ⟨rfl,rfl⟩)
       ·by_cases ce:o1=p1
        ·try simp(disch:=omega) only[go_sem,↓reduceIte,f7,f8,f9,f10,f16,f17,f18]
         refine Ah.monoR (Mh hG _) ?_;try simp(disch:=omega) only[go_sem,↓reduceIte]
         exact Pm.sub (sX.trans sQ) (.refl ⟨rfl,rfl⟩)
        ·simp(disch:=omega) only[go_sem,↓reduceIte,f7,f8,f9,f10,f16,f17,f18,hws2,hdc,hdo,Cj,List.length_cons,List.length_nil,List.drop_succ_cons,List.drop_zero,List.drop_nil,List.append_nil,List.cons_append,List.nil_append,List.getElem?_cons_zero,List.getElem?_cons_succ];intro r135 hr135;dsimp only at hr135;obtain⟨Q1,hQ1⟩: ∃K',K'=upd Q r135 (some (.cells [.int .u8 1, .int .i64 0, .str [120], .int .i64 0] 31)):=⟨_,rfl⟩;rw[<-hQ1];have gr135:Q1 r135=some (.cells [.int .u8 1, .int .i64 0, .str [120], .int .i64 0] 31):=by rw[hQ1];exact Aa _ _ _
         have sQ1:Sub Q Q1:=by rw[hQ1];exact(Sub.refl _).new hr135 _
         simp(disch:=omega) only[go_sem,↓reduceIte,f7,f8,f9,f10,f16,f17,f18,hws2,hdc,hdo,Cj,List.length_cons,List.length_nil,List.drop_succ_cons,List.drop_zero,List.drop_nil,List.append_nil,List.cons_append,List.nil_append,List.getElem?_cons_zero,List.getElem?_cons_succ];intro r136 hr136;dsimp only at hr136;obtain⟨Q2,hQ2⟩: ∃K',K'=upd Q1 r136 (some (.cells [Bv (Ip o1 k),Bv (Gk p1), .oslice 4 r135 0 1 1] 25)):=⟨_,rfl⟩;rw[<-hQ2];have gr136:Q2 r136=some (.cells [Bv (Ip o1 k),Bv (Gk p1), .oslice 4 r135 0 1 1] 25):=by rw[hQ2];exact Aa _ _ _
         have sQ2:Sub Q1 Q2:=by rw[hQ2];exact(Sub.refl _).new hr136 _
         simp(disch:=omega) only[go_sem,↓reduceIte,f7,f8,f9,f10,f16,f17,f18,hws2,hdc,hdo,Cj,List.length_cons,List.length_nil,List.drop_succ_cons,List.drop_zero,List.drop_nil,List.append_nil,List.cons_append,List.nil_append,List.getElem?_cons_zero,List.getElem?_cons_succ];have x135:=sQ2 _ _ gr135;obtain⟨il,hie⟩: ∃il,il= [Ip o1 k,Gk p1,[nmX]].flatten:=⟨_,rfl⟩;have hie':il=Ip o1 k++Qw p1:=by rw[hie];simp [Qw]
         have hil:il.length<=800000:=by
          have h2:=(Ai8 ⟨p1,by omega⟩).2;dsimp only at h2;rw[hie',Qw,List.length_append,List.length_append,List.length_singleton];omega
         refine(Dp.lentA (args':= [Yy [Ip o1 k,Gk p1,[nmX]]]) (.cons (Fv.cells (e:=25) (size:=1) (n:=3) (cs':= [Bv (Ip o1 k),Bv (Gk p1),Bv [nmX]]) (hz Q2) rfl gr136 rfl (.cons (.keep (hz Q2) _) (.cons (.keep (hz Q2) _) (.cons (Fv.block (hz Q2) rfl x135 rfl) .nil)))) .nil) (Vp G [Ip o1 k,Gk p1,[nmX]] h0 (by simp) (by rw[<-hie];omega)) (Aj0 _)).mono ?_;rintro _ N ⟨v4,rfl,hv4⟩;rw[<-hie] at hv4;rcases hv4 with⟨h,_⟩ | ⟨rv,hrv,hlv,rfl,hcv,hsv⟩
         ·exfalso;rw[hie'] at h;simp [Ip] at h
         have y17:=hsv _ _ (sQ2 _ _ (sQ1 _ _ q17));have n17v:r17≠rv:=Af hrv (sQ2 _ _ (sQ1 _ _ q17));obtain⟨B,hBe⟩: ∃B,B=upd N rv none:=⟨_,rfl⟩;have hB:Sub B N:=by rw[hBe];exact Bw9 _ _
         have bv:B rv=none:=by rw[hBe];exact Aa _ _ _
         have b17:B r17=some (.cells (dEx (Dc o1 k)) 36):=by rw[hBe,Aq _ _ _ _ n17v];exact y17
         have sHQ:Sub H Q2:=sX.trans (sQ.trans (sQ1.trans sQ2));have sB:Sub H B:=by rw[hBe];exact(sHQ.trans hsv).up (sHQ.lo hrv) _
         obtain⟨k',rfl⟩: ∃k',k=k'+1:=⟨k-1,by omega⟩;obtain⟨y,hf2,hs2⟩:=Ci6 (l:=il) (o:=o1) (o2:=p1) (n:=k') (by omega) (by omega) ce (by omega) (by rw[hie',List.map_append,hst,Bg1 (by omega)]);have hwn:Dc o1 (k'+1)=Bi o1 (k'+1):=by rw[Dc,if_neg c]
         rw[<-hwn] at hs2;have hfi:fT il:=by rw[hie'];exact Xp (Av7 h18 _) (Bg4 (by omega))
         simp(disch:=omega) only[go_sem,↓reduceIte];refine(Dp.call hB (.cons (Fv.block hB bv hcv hlv) (.cons (.keep hB _) .nil)) (Jx (l:=il) hG B 0 hil (Cx8 hfi))).mono ?_;rintro _ H5 ⟨rfl,rfl⟩;rw[hf2,hlk];have hly:=Aj y;have hoy:=Ba y;simp(disch:=omega) only[go_sem,↓reduceIte,Td,dE,f7,f8,f9,f10,f16,f17,f18];intro r23 hr23;dsimp only at hr23;have n23:r17≠r23:=Af hr23 b17;have m23:=n23.symm;simp(disch:=omega) only[go_sem,↓reduceIte,f7,f8,f9,f10,f16,f17,f18,hly,hoy,n23,m23,b17,hlw,how];refine Ah.monoR (Li G _ y (Dc o1 (k'+1)) (by rw[Vn hs2];omega)) ?_;rw[Vm hs2];simp(disch:=omega) only[go_sem,↓reduceIte,f7,f8,f9,f10,f16,f17,f18];refine Ah.monoR (Mh hG _) ?_;try simp(disch:=omega) only[go_sem,↓reduceIte]
         exact Pm.sub (sB.new hr23 _) (.refl ⟨rfl,rfl⟩)
end
end Go.Dl
