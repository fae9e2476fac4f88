/- The data level and the contracts of the functions that are reached (part 6). -/
import Derived.RecoverIn
import Derived.Test.YtpkdkhoeaibpaaaGreatDoorPde
set_option linter.unusedSimpArgs false
set_option linter.unusedVariables false
set_option linter.unusedSectionVars false
-- Chapter 3: the reference: associations, fields (printed by gen_ud.py).
namespace Go.Dl
open Go Go.Proofs
set_option maxRecDepth 100000
section
variable {G:Nat->DVal} {H:Bb}
theorem Ue (G:Nat->DVal) (H:Bb) (l:List As) (hl:l.length<=1099511627776) (hb: ∀a∈l,a.c.length<=1099511627776):Bh Tryz.prog G 206 [.vslice (l.flatMap dAs) l.length] H (Bt (.bool (Gd l)) H):=by
 refine Bc Tryz.func206 Tryz.call206 rfl (by kernel_rfl) ?_;by_cases h1:l.length=0
 ·have h1':(l.length:Int)<1:=by omega
  simp(disch:=omega) only[go_sem,↓reduceIte,h1'];exact Rm.refl ⟨by rw[Gd,decide_eq_false (show¬0<l.length by omega),Bool.false_and,Bool.false_and,Bool.false_and,Bool.false_and],rfl⟩
 have h1': ¬(l.length:Int)<1:=by omega
 have hpos:0<l.length:=by omega
 by_cases h2:32<l.length
 ·have h2':(32:Int)<(l.length:Int):=by omega
  simp(disch:=omega) only[go_sem,↓reduceIte,h1',h2'];exact Rm.refl ⟨by rw[Gd,decide_eq_false (show¬l.length<=32 by omega),Bool.and_false,Bool.false_and,Bool.false_and,Bool.false_and],rfl⟩
 have h2': ¬(32:Int)<(l.length:Int):=by omega
 simp(disch:=omega) only[go_sem,↓reduceIte,h1',h2'];refine(Ym G _ l hl).mono ?_;rintro _ H1 ⟨rfl,rfl⟩;have hd:Gd l=(Kv l&&(!(decide (l.length=1)&&(l.getD 0 default).c.isEmpty)&&Fg l)):=by
  rw[Gd,decide_eq_true hpos,decide_eq_true (show l.length<=32 by omega),Bool.true_and,Bool.true_and,Yj,Bool.and_assoc]
 rw[hd];cases h3:Kv l with
 | false=>
  simp(disch:=omega) only[go_sem,↓reduceIte];exact Rm.refl ⟨rfl,rfl⟩
 | true=>
  have hg0:=as0 hpos;have hgd:l.getD 0 default=l[0]:=by rw[List.getD,List.getElem?_eq_getElem hpos];rfl
  have hfl:=Bq Cr l;rw[hgd];by_cases h4:l.length=1/\l[0].c.length=0
  ·have h4a:(l.length:Int)=1:=by omega
   have h4b:(l[0].c.length:Int)=0:=by omega
   have e4:l[0].c.isEmpty=true:=by rw[Aq];exact decide_eq_true h4.2
   simp(disch:=omega) only[go_sem,↓reduceIte,h4a,h4b,hg0,hfl];exact Rm.refl ⟨by simp [e4],rfl⟩
  ·have e4:(decide (l.length=1)&&l[0].c.isEmpty)=false:=by
    rw[Aq,<-Bool.decide_and];exact decide_eq_false h4
   rw[e4];by_cases h5:l.length=1
   ·have h5':((l.length:Int)=1)=True:=eq_true (by omega);have h6': ¬(l[0].c.length:Int)=0:=by omega
    simp(disch:=omega) only[go_sem,↓reduceIte,h5',h6',hg0,hfl];obtain⟨I,hI⟩: ∃I:Nat->(Nat->DVal)->Bb->Prop,∀k env heap,I k env heap↔(env 0= .vslice (l.flatMap dAs) l.length/\env 3=dI k/\k<=l.length/\Fg l=Fg (l.drop k)/\heap=H1):=⟨_,fun _ _ _=>Iff.rfl⟩;refine Cn3.run I (fun k=>l.length-k) 0 ((hI _ _ _).2 ?_) ?_
    ·simp(disch:=omega) only[go_sem,↓reduceIte];(repeat' apply And.intro)<;>(try first | rfl | assumption | omega)
    ·intro k env heap hi;obtain⟨e0,e3,hk,hall,rfl⟩:=(hI _ _ _).1 hi;by_cases hlt:k<l.length
     ·have hlt':(k:Int)<(l.length:Int):=by omega
      have gk:=Cy Cr l k hlt 0 (by decide);rw[Yi,Nat.add_zero] at gk;have hwd:IntKind.i64.wrap ((k:Int)+1)=((k+1:Nat):Int):=by rw[IntKind.wrap_i64];omega
      have hwl:IntKind.i64.wrap ((l.length:Int)-1)=(l.length:Int)-1:=by rw[IntKind.wrap_i64];omega
      have hba:=hb l[k] (List.getElem_mem hlt);rw[Pn hlt] at hall;by_cases q1:0<l[k].c.length
      ·have q1':(0:Int)<(l[k].c.length:Int):=by omega
       have e1:l[k].c.isEmpty=false:=by rw[Aq];exact decide_eq_false (by omega)
       rw[e1,Bool.false_or] at hall;simp(disch:=omega) only[go_sem,↓reduceIte,e0,e3,hlt',hfl,gk,q1',Int.toNat_natCast];refine(Np G _ l[k].c hba).mono ?_;rintro _ H2 ⟨rfl,rfl⟩;cases q2:Fh l[k].c with
       | false=>
        rw[q2,Bool.false_and,Bool.false_and] at hall;simp(disch:=omega) only[go_sem,↓reduceIte,e0,e3];exact Rm.refl ⟨by rw[hall],rfl⟩
       | true=>
        obtain⟨g0,_⟩:=ch0 q1;have hfc:=Bq Cu l[k].c;rw[q2,Bool.true_and,Jk q1] at hall;by_cases q3:l[k].c[0].kind=3
        ·rw[decide_eq_true q3,Bool.not_true,Bool.false_or] at hall;by_cases q4:k+1=l.length
         ·have q4': ¬(k:Int)<(l.length:Int)-1:=by omega
          rw[decide_eq_true q4,Bool.true_and] at hall;simp(disch:=omega) only[go_sem,↓reduceIte,e0,e3,g0,hfc,q1',q3,q4',hwl];refine⟨k+1,_,Rd.refl _,(hI _ _ _).2 ?_,by omega⟩;simp(disch:=omega) only[go_sem,↓reduceIte,e0,e3,hwd];(repeat' apply And.intro)<;>(try first | rfl | assumption | omega)
         ·have q4':(k:Int)<(l.length:Int)-1:=by omega
          rw[decide_eq_false q4,Bool.false_and] at hall;simp(disch:=omega) only[go_sem,↓reduceIte,e0,e3,g0,hfc,q1',q3,q4',hwl];exact Rm.refl ⟨by rw[hall],rfl⟩
        ·rw[decide_eq_false q3,Bool.not_false,Bool.true_or,Bool.true_and] at hall;simp(disch:=omega) only[go_sem,↓reduceIte,e0,e3,g0,hfc,q1',q3];refine⟨k+1,_,Rd.refl _,(hI _ _ _).2 ?_,by omega⟩;simp(disch:=omega) only[go_sem,↓reduceIte,e0,e3,hwd];(repeat' apply And.intro)<;>(try first | rfl | assumption | omega)
      ·have q1': ¬(0:Int)<(l[k].c.length:Int):=by omega
       have e1:l[k].c.isEmpty=true:=by rw[Aq];exact decide_eq_true (by omega)
       rw[e1,Bool.true_or,Bool.true_and] at hall;simp(disch:=omega) only[go_sem,↓reduceIte,e0,e3,hlt',hfl,gk,q1',Int.toNat_natCast];refine⟨k+1,_,Rd.refl _,(hI _ _ _).2 ?_,by omega⟩;simp(disch:=omega) only[go_sem,↓reduceIte,e0,e3,hwd];(repeat' apply And.intro)<;>(try first | rfl | assumption | omega)
     ·have:k=l.length:=by omega
      subst this;rw[List.drop_length] at hall;simp(disch:=omega) only[go_sem,↓reduceIte,e0,e3];exact Rm.refl ⟨by rw[hall];rfl,rfl⟩
   ·have h5': ¬(l.length:Int)=1:=by omega
    simp(disch:=omega) only[go_sem,↓reduceIte,h5'];obtain⟨I,hI⟩: ∃I:Nat->(Nat->DVal)->Bb->Prop,∀k env heap,I k env heap↔(env 0= .vslice (l.flatMap dAs) l.length/\env 3=dI k/\k<=l.length/\Fg l=Fg (l.drop k)/\heap=H1):=⟨_,fun _ _ _=>Iff.rfl⟩;refine Cn3.run I (fun k=>l.length-k) 0 ((hI _ _ _).2 ?_) ?_
    ·simp(disch:=omega) only[go_sem,↓reduceIte];(repeat' apply And.intro)<;>(try first | rfl | assumption | omega)
    ·intro k env heap hi;obtain⟨e0,e3,hk,hall,rfl⟩:=(hI _ _ _).1 hi;by_cases hlt:k<l.length
     ·have hlt':(k:Int)<(l.length:Int):=by omega
      have gk:=Cy Cr l k hlt 0 (by decide);rw[Yi,Nat.add_zero] at gk;have hwd:IntKind.i64.wrap ((k:Int)+1)=((k+1:Nat):Int):=by rw[IntKind.wrap_i64];omega
      have hwl:IntKind.i64.wrap ((l.length:Int)-1)=(l.length:Int)-1:=by rw[IntKind.wrap_i64];omega
      have hba:=hb l[k] (List.getElem_mem hlt);rw[Pn hlt] at hall;by_cases q1:0<l[k].c.length
      ·have q1':(0:Int)<(l[k].c.length:Int):=by omega
       have e1:l[k].c.isEmpty=false:=by rw[Aq];exact decide_eq_false (by omega)
       rw[e1,Bool.false_or] at hall;simp(disch:=omega) only[go_sem,↓reduceIte,e0,e3,hlt',hfl,gk,q1',Int.toNat_natCast];refine(Np G _ l[k].c hba).mono ?_;rintro _ H2 ⟨rfl,rfl⟩;cases q2:Fh l[k].c with
       | false=>
        rw[q2,Bool.false_and,Bool.false_and] at hall;simp(disch:=omega) only[go_sem,↓reduceIte,e0,e3];exact Rm.refl ⟨by rw[hall],rfl⟩
       | true=>
        obtain⟨g0,_⟩:=ch0 q1;have hfc:=Bq Cu l[k].c;rw[q2,Bool.true_and,Jk q1] at hall;by_cases q3:l[k].c[0].kind=3
        ·rw[decide_eq_true q3,Bool.not_true,Bool.false_or] at hall;by_cases q4:k+1=l.length
         ·have q4': ¬(k:Int)<(l.length:Int)-1:=by omega
          rw[decide_eq_true q4,Bool.true_and] at hall;simp(disch:=omega) only[go_sem,↓reduceIte,e0,e3,g0,hfc,q1',q3,q4',hwl];refine⟨k+1,_,Rd.refl _,(hI _ _ _).2 ?_,by omega⟩;simp(disch:=omega) only[go_sem,↓reduceIte,e0,e3,hwd];(repeat' apply And.intro)<;>(try first | rfl | assumption | omega)
         ·have q4':(k:Int)<(l.length:Int)-1:=by omega
          rw[decide_eq_false q4,Bool.false_and] at hall;simp(disch:=omega) only[go_sem,↓reduceIte,e0,e3,g0,hfc,q1',q3,q4',hwl];exact Rm.refl ⟨by rw[hall],rfl⟩
        ·rw[decide_eq_false q3,Bool.not_false,Bool.true_or,Bool.true_and] at hall;simp(disch:=omega) only[go_sem,↓reduceIte,e0,e3,g0,hfc,q1',q3];refine⟨k+1,_,Rd.refl _,(hI _ _ _).2 ?_,by omega⟩;simp(disch:=omega) only[go_sem,↓reduceIte,e0,e3,hwd];(repeat' apply And.intro)<;>(try first | rfl | assumption | omega)
      ·have q1': ¬(0:Int)<(l[k].c.length:Int):=by omega
       have e1:l[k].c.isEmpty=true:=by rw[Aq];exact decide_eq_true (by omega)
       rw[e1,Bool.true_or,Bool.true_and] at hall;simp(disch:=omega) only[go_sem,↓reduceIte,e0,e3,hlt',hfl,gk,q1',Int.toNat_natCast];refine⟨k+1,_,Rd.refl _,(hI _ _ _).2 ?_,by omega⟩;simp(disch:=omega) only[go_sem,↓reduceIte,e0,e3,hwd];(repeat' apply And.intro)<;>(try first | rfl | assumption | omega)
     ·have:k=l.length:=by omega
      subst this;rw[List.drop_length] at hall;simp(disch:=omega) only[go_sem,↓reduceIte,e0,e3];exact Rm.refl ⟨by rw[hall];rfl,rfl⟩
theorem Ev {e:Ex} (h:Bj e false false false false=true):e.oper=0/\e.n=0/\e.s= []/\e.a.length=0:=by
 simpa [Bj,zO,zN,zS,zA,Aq,and_assoc] using h
theorem Pp {e:Ex} (h:Bj e false false false true=true):e.oper=0/\e.n=0/\e.s= []:=by
 simpa [Bj,zO,zN,zS,zA,Aq,and_assoc] using h
theorem Kf {e:Ex} (h:Bj e false false true false=true):e.oper=0/\e.n=0/\e.a.length=0:=by
 simpa [Bj,zO,zN,zS,zA,Aq,and_assoc] using h
theorem Af3 {e:Ex} (h:Bj e false true false false=true):e.oper=0/\e.s= []/\e.a.length=0:=by
 simpa [Bj,zO,zN,zS,zA,Aq,and_assoc] using h
theorem Pq {e:Ex} (h:Bj e true false false false=true):e.n=0/\e.s= []/\e.a.length=0:=by
 simpa [Bj,zO,zN,zS,zA,Aq,and_assoc] using h
theorem Af4 {e:Ex} (hk:e.kind=1) (h:Bj e false true false false=false):Bf e=false:=by
 cases hf:Bf e with
 | false=>rfl
 | true=>
  exfalso;unfold Bf at hf;simp only[hk,reduceIte,Int.reduceEq,or_false,or_true,false_or,true_or,Bool.and_eq_true] at hf;simp only[Bj,Bool.false_or,Bool.true_or,Bool.true_and,Bool.and_true] at h;simp [hf] at h
theorem Af5 {e:Ex} (hk:e.kind=2) (h:Bj e false false false false=false):Bf e=false:=by
 cases hf:Bf e with
 | false=>rfl
 | true=>
  exfalso;unfold Bf at hf;simp only[hk,reduceIte,Int.reduceEq,or_false,or_true,false_or,true_or,Bool.and_eq_true] at hf;simp only[Bj,Bool.false_or,Bool.true_or,Bool.true_and,Bool.and_true] at h;simp [hf] at h
theorem Af6 {e:Ex} (hk:e.kind=3) (h:Bj e false false true false=false):Bf e=false:=by
 cases hf:Bf e with
 | false=>rfl
 | true=>
  exfalso;unfold Bf at hf;simp only[hk,reduceIte,Int.reduceEq,or_false,or_true,false_or,true_or,Bool.and_eq_true] at hf;simp only[Bj,Bool.false_or,Bool.true_or,Bool.true_and,Bool.and_true] at h;simp [hf] at h
theorem Af7 {e:Ex} (hk:e.kind=4) (h:Bj e false false true false=false):Bf e=false:=by
 cases hf:Bf e with
 | false=>rfl
 | true=>
  exfalso;unfold Bf at hf;simp only[hk,reduceIte,Int.reduceEq,or_false,or_true,false_or,true_or,Bool.and_eq_true] at hf;simp only[Bj,Bool.false_or,Bool.true_or,Bool.true_and,Bool.and_true] at h;simp [hf] at h
theorem Af8 {e:Ex} (hk:e.kind=6) (h:Bj e false false true false=false):Bf e=false:=by
 cases hf:Bf e with
 | false=>rfl
 | true=>
  exfalso;unfold Bf at hf;simp only[hk,reduceIte,Int.reduceEq,or_false,or_true,false_or,true_or,Bool.and_eq_true] at hf;simp only[Bj,Bool.false_or,Bool.true_or,Bool.true_and,Bool.and_true] at h;simp [hf] at h
theorem Af9 {e:Ex} (hk:e.kind=5) (h:Bj e false false false false=false):Bf e=false:=by
 cases hf:Bf e with
 | false=>rfl
 | true=>
  exfalso;unfold Bf at hf;simp only[hk,reduceIte,Int.reduceEq,or_false,or_true,false_or,true_or,Bool.and_eq_true] at hf;simp only[Bj,Bool.false_or,Bool.true_or,Bool.true_and,Bool.and_true] at h;simp [hf] at h
theorem Ag0 {e:Ex} (hk:e.kind=7) (h:Bj e false false false true=false):Bf e=false:=by
 cases hf:Bf e with
 | false=>rfl
 | true=>
  exfalso;unfold Bf at hf;simp only[hk,reduceIte,Int.reduceEq,or_false,or_true,false_or,true_or,Bool.and_eq_true] at hf;simp only[Bj,Bool.false_or,Bool.true_or,Bool.true_and,Bool.and_true] at h;simp [hf] at h
theorem Ag1 {e:Ex} (hk:e.kind=8) (h:Bj e false false false false=false):Bf e=false:=by
 cases hf:Bf e with
 | false=>rfl
 | true=>
  exfalso;unfold Bf at hf;simp only[hk,reduceIte,Int.reduceEq,or_false,or_true,false_or,true_or,Bool.and_eq_true] at hf;simp only[Bj,Bool.false_or,Bool.true_or,Bool.true_and,Bool.and_true] at h;simp [hf] at h
theorem Ag2 {e:Ex} (hk:e.kind=9) (h:Bj e false false false true=false):Bf e=false:=by
 cases hf:Bf e with
 | false=>rfl
 | true=>
  exfalso;unfold Bf at hf;simp only[hk,reduceIte,Int.reduceEq,or_false,or_true,false_or,true_or,Bool.and_eq_true] at hf;simp only[Bj,Bool.false_or,Bool.true_or,Bool.true_and,Bool.and_true] at h;simp [hf] at h
theorem Yn {e:Ex} (hk:e.kind=10) (h:Bj e false false false false=false):Bf e=false:=by
 cases hf:Bf e with
 | false=>rfl
 | true=>
  exfalso;unfold Bf at hf;simp only[hk,reduceIte,Int.reduceEq,or_false,or_true,false_or,true_or,Bool.and_eq_true] at hf;simp only[Bj,Bool.false_or,Bool.true_or,Bool.true_and,Bool.and_true] at h;simp [hf] at h
theorem Yo {e:Ex} (hk:e.kind=11) (h:Bj e true false false false=false):Bf e=false:=by
 cases hf:Bf e with
 | false=>rfl
 | true=>
  exfalso;unfold Bf at hf;simp only[hk,reduceIte,Int.reduceEq,or_false,or_true,false_or,true_or,Bool.and_eq_true] at hf;simp only[Bj,Bool.false_or,Bool.true_or,Bool.true_and,Bool.and_true] at h;simp [hf] at h
theorem Yp {e:Ex} (hk:e.kind=12) (h:Bj e true false false false=false):Bf e=false:=by
 cases hf:Bf e with
 | false=>rfl
 | true=>
  exfalso;unfold Bf at hf;simp only[hk,reduceIte,Int.reduceEq,or_false,or_true,false_or,true_or,Bool.and_eq_true] at hf;simp only[Bj,Bool.false_or,Bool.true_or,Bool.true_and,Bool.and_true] at h;simp [hf] at h
theorem Yq {e:Ex} (hk:e.kind=13) (h:Bj e false false false false=false):Bf e=false:=by
 cases hf:Bf e with
 | false=>rfl
 | true=>
  exfalso;unfold Bf at hf;simp only[hk,reduceIte,Int.reduceEq,or_false,or_true,false_or,true_or,Bool.and_eq_true] at hf;simp only[Bj,Bool.false_or,Bool.true_or,Bool.true_and,Bool.and_true] at h;simp [hf] at h
theorem Yr {e:Ex} (hk:e.kind=14) (h:Bj e false false false false=false):Bf e=false:=by
 cases hf:Bf e with
 | false=>rfl
 | true=>
  exfalso;unfold Bf at hf;simp only[hk,reduceIte,Int.reduceEq,or_false,or_true,false_or,true_or,Bool.and_eq_true] at hf;simp only[Bj,Bool.false_or,Bool.true_or,Bool.true_and,Bool.and_true] at h;simp [hf] at h
set_option maxHeartbeats 4000000 in
theorem Av1 (G:Nat->DVal) (H:Bb) (e:Ex) (hb:Hu e<=1099511627776):Bh Tryz.prog G 143 [.agg (dEx e)] H (Bt (.bool (Bf e)) H):=by
 have hal:= @Bx5 e;have hll:= @Bx4 e;have hfl:=Bq Aa e.l;have hac: ∀a∈e.a,a.c.length<=1099511627776:=fun a ha=>by
  have h1:=Ae7 ha;have h2:=Ho a.c;rw[Na] at h1;omega
 obtain⟨nz,hnz⟩: ∃nz,nz=Gc (e.l.getD 0 ex0):=⟨_,rfl⟩;have nn: ∀k,Jh e k=(decide (e.l.length=k)&&nz):=fun k=>by rw[hnz];rfl
 obtain⟨form,hform⟩: ∃form,form=(decide (0<e.l.length)&&nz):=⟨_,rfl⟩;refine Bc Tryz.func143 Tryz.call143 rfl (by kernel_rfl) ?_;simp(disch:=omega) only[go_sem,↓reduceIte,DVal.cells];intro r1 hr1;dsimp only at hr1;by_cases hp:0<e.l.length
 ·have hp':(0:Int)<(e.l.length:Int):=by omega
  have hg:=Cm Aa e.l 0 hp;have hgd:e.l.getD 0 ex0=e.l[0]:=by rw[List.getD,List.getElem?_eq_getElem hp];rfl
  rw[Nat.zero_mul,List.drop_zero] at hg;simp(disch:=omega) only[go_sem,↓reduceIte,hp',hg,hfl];refine(Rt G _ e.l[0]).mono ?_;rintro _ H1 ⟨rfl,rfl⟩;rw[show Gc e.l[0]=form by rw[hform,decide_eq_true hp,Bool.true_and,hnz,hgd]];clear hg hgd;by_cases k1:e.kind=1
  ·skip
   simp(disch:=omega) only[go_sem,↓reduceIte,k1];refine(By G _ e false true false false).mono ?_;rintro _ H1 ⟨rfl,rfl⟩;cases pl:Bj e false true false false with
   | true=>
    have pl2:=Af3 pl;obtain⟨z1,z3,z4⟩:=pl2;by_cases clen0:e.l.length=0
    ·exfalso;omega
    ·have clen0': ¬(e.l.length:Int)=0:=by omega
     simp(disch:=omega) only[go_sem,↓reduceIte,k1,clen0'];exact Rm.dropA r1 hr1 (Rm.refl ⟨by simp [Bf,zO,zN,zS,zA,Aq,nn,Bj,k1,z1,z3,z4,clen0],rfl⟩)
   | false=>
    simp(disch:=omega) only[go_sem,↓reduceIte,k1];exact Rm.dropA r1 hr1 (Rm.refl ⟨by rw[Af4 k1 pl],rfl⟩)
  by_cases k2:e.kind=2
  ·skip
   simp(disch:=omega) only[go_sem,↓reduceIte,k2];refine(By G _ e false false false false).mono ?_;rintro _ H1 ⟨rfl,rfl⟩;cases pl:Bj e false false false false with
   | true=>
    have pl2:=Ev pl;obtain⟨z1,z2,z3,z4⟩:=pl2;by_cases clen0:e.l.length=0
    ·exfalso;omega
    ·have clen0': ¬(e.l.length:Int)=0:=by omega
     simp(disch:=omega) only[go_sem,↓reduceIte,k2,clen0'];exact Rm.dropA r1 hr1 (Rm.refl ⟨by simp [Bf,zO,zN,zS,zA,Aq,nn,Bj,k2,z1,z2,z3,z4,clen0],rfl⟩)
   | false=>
    simp(disch:=omega) only[go_sem,↓reduceIte,k2];exact Rm.dropA r1 hr1 (Rm.refl ⟨by rw[Af5 k2 pl],rfl⟩)
  by_cases k3:e.kind=3
  ·skip
   simp(disch:=omega) only[go_sem,↓reduceIte,k3];refine(By G _ e false false true false).mono ?_;rintro _ H1 ⟨rfl,rfl⟩;cases pl:Bj e false false true false with
   | true=>
    have pl2:=Kf pl;obtain⟨z1,z2,z4⟩:=pl2;by_cases clen0:e.l.length=0
    ·exfalso;omega
    ·have clen0': ¬(e.l.length:Int)=0:=by omega
     simp(disch:=omega) only[go_sem,↓reduceIte,k3,clen0'];exact Rm.dropA r1 hr1 (Rm.refl ⟨by simp [Bf,zO,zN,zS,zA,Aq,nn,Bj,k3,z1,z2,z4,clen0],rfl⟩)
   | false=>
    simp(disch:=omega) only[go_sem,↓reduceIte,k3];exact Rm.dropA r1 hr1 (Rm.refl ⟨by rw[Af6 k3 pl],rfl⟩)
  by_cases k4:e.kind=4
  ·skip
   simp(disch:=omega) only[go_sem,↓reduceIte,k4];refine(By G _ e false false true false).mono ?_;rintro _ H1 ⟨rfl,rfl⟩;cases pl:Bj e false false true false with
   | true=>
    have pl2:=Kf pl;obtain⟨z1,z2,z4⟩:=pl2;by_cases clen1:e.l.length=1
    ·have clen1':(e.l.length:Int)=1:=by omega
     cases hn0:nz with
     | true=>
      have hfm:form=true:=by rw[hform,hn0,Bool.and_true];exact decide_eq_true (by omega)
      simp(disch:=omega) only[go_sem,↓reduceIte,k4,clen1',hfm];refine(Kc G _ e.s).mono ?_;rintro _ H1 ⟨rfl,rfl⟩;cases vname:Gk e.s with
      | true=>
       simp(disch:=omega) only[go_sem,↓reduceIte,k4,clen1',hfm];exact Rm.dropA r1 hr1 (Rm.refl ⟨by simp [Bf,zO,zN,zS,zA,Aq,nn,Bj,k4,z1,z2,z4,clen1,hn0,vname],rfl⟩)
      | false=>
       simp(disch:=omega) only[go_sem,↓reduceIte,k4,clen1',hfm];exact Rm.dropA r1 hr1 (Rm.refl ⟨by simp [Bf,zO,zN,zS,zA,Aq,nn,Bj,k4,z1,z2,z4,clen1,hn0,vname],rfl⟩)
     | false=>
      have hfm:form=false:=by rw[hform,hn0,Bool.and_false]
      simp(disch:=omega) only[go_sem,↓reduceIte,k4,clen1',hfm];exact Rm.dropA r1 hr1 (Rm.refl ⟨by simp [Bf,zO,zN,zS,zA,Aq,nn,Bj,k4,z1,z2,z4,clen1,hn0],rfl⟩)
    ·have clen1': ¬(e.l.length:Int)=1:=by omega
     simp(disch:=omega) only[go_sem,↓reduceIte,k4,clen1'];exact Rm.dropA r1 hr1 (Rm.refl ⟨by simp [Bf,zO,zN,zS,zA,Aq,nn,Bj,k4,z1,z2,z4,clen1],rfl⟩)
   | false=>
    simp(disch:=omega) only[go_sem,↓reduceIte,k4];exact Rm.dropA r1 hr1 (Rm.refl ⟨by rw[Af7 k4 pl],rfl⟩)
  by_cases k6:e.kind=6
  ·skip
   simp(disch:=omega) only[go_sem,↓reduceIte,k6];refine(By G _ e false false true false).mono ?_;rintro _ H1 ⟨rfl,rfl⟩;cases pl:Bj e false false true false with
   | true=>
    have pl2:=Kf pl;obtain⟨z1,z2,z4⟩:=pl2;by_cases clen1:e.l.length=1
    ·have clen1':(e.l.length:Int)=1:=by omega
     cases hn0:nz with
     | true=>
      have hfm:form=true:=by rw[hform,hn0,Bool.and_true];exact decide_eq_true (by omega)
      simp(disch:=omega) only[go_sem,↓reduceIte,k6,clen1',hfm];refine(Kc G _ e.s).mono ?_;rintro _ H1 ⟨rfl,rfl⟩;cases vname:Gk e.s with
      | true=>
       simp(disch:=omega) only[go_sem,↓reduceIte,k6,clen1',hfm];exact Rm.dropA r1 hr1 (Rm.refl ⟨by simp [Bf,zO,zN,zS,zA,Aq,nn,Bj,k6,z1,z2,z4,clen1,hn0,vname],rfl⟩)
      | false=>
       simp(disch:=omega) only[go_sem,↓reduceIte,k6,clen1',hfm];exact Rm.dropA r1 hr1 (Rm.refl ⟨by simp [Bf,zO,zN,zS,zA,Aq,nn,Bj,k6,z1,z2,z4,clen1,hn0,vname],rfl⟩)
     | false=>
      have hfm:form=false:=by rw[hform,hn0,Bool.and_false]
      simp(disch:=omega) only[go_sem,↓reduceIte,k6,clen1',hfm];exact Rm.dropA r1 hr1 (Rm.refl ⟨by simp [Bf,zO,zN,zS,zA,Aq,nn,Bj,k6,z1,z2,z4,clen1,hn0],rfl⟩)
    ·have clen1': ¬(e.l.length:Int)=1:=by omega
     simp(disch:=omega) only[go_sem,↓reduceIte,k6,clen1'];exact Rm.dropA r1 hr1 (Rm.refl ⟨by simp [Bf,zO,zN,zS,zA,Aq,nn,Bj,k6,z1,z2,z4,clen1],rfl⟩)
   | false=>
    simp(disch:=omega) only[go_sem,↓reduceIte,k6];exact Rm.dropA r1 hr1 (Rm.refl ⟨by rw[Af8 k6 pl],rfl⟩)
  by_cases k5:e.kind=5
  ·skip
   simp(disch:=omega) only[go_sem,↓reduceIte,k5];refine(By G _ e false false false false).mono ?_;rintro _ H1 ⟨rfl,rfl⟩;cases pl:Bj e false false false false with
   | true=>
    have pl2:=Ev pl;obtain⟨z1,z2,z3,z4⟩:=pl2;by_cases clen1:e.l.length=1
    ·have clen1':(e.l.length:Int)=1:=by omega
     cases hn0:nz with
     | true=>
      have hfm:form=true:=by rw[hform,hn0,Bool.and_true];exact decide_eq_true (by omega)
      simp(disch:=omega) only[go_sem,↓reduceIte,k5,clen1',hfm];exact Rm.dropA r1 hr1 (Rm.refl ⟨by simp [Bf,zO,zN,zS,zA,Aq,nn,Bj,k5,z1,z2,z3,z4,clen1,hn0],rfl⟩)
     | false=>
      have hfm:form=false:=by rw[hform,hn0,Bool.and_false]
      simp(disch:=omega) only[go_sem,↓reduceIte,k5,clen1',hfm];exact Rm.dropA r1 hr1 (Rm.refl ⟨by simp [Bf,zO,zN,zS,zA,Aq,nn,Bj,k5,z1,z2,z3,z4,clen1,hn0],rfl⟩)
    ·have clen1': ¬(e.l.length:Int)=1:=by omega
     simp(disch:=omega) only[go_sem,↓reduceIte,k5,clen1'];exact Rm.dropA r1 hr1 (Rm.refl ⟨by simp [Bf,zO,zN,zS,zA,Aq,nn,Bj,k5,z1,z2,z3,z4,clen1],rfl⟩)
   | false=>
    simp(disch:=omega) only[go_sem,↓reduceIte,k5];exact Rm.dropA r1 hr1 (Rm.refl ⟨by rw[Af9 k5 pl],rfl⟩)
  by_cases k7:e.kind=7
  ·skip
   simp(disch:=omega) only[go_sem,↓reduceIte,k7];refine(By G _ e false false false true).mono ?_;rintro _ H1 ⟨rfl,rfl⟩;cases pl:Bj e false false false true with
   | true=>
    have pl2:=Pp pl;obtain⟨z1,z2,z3⟩:=pl2;by_cases clen1:e.l.length=1
    ·have clen1':(e.l.length:Int)=1:=by omega
     cases hn0:nz with
     | true=>
      have hfm:form=true:=by rw[hform,hn0,Bool.and_true];exact decide_eq_true (by omega)
      simp(disch:=omega) only[go_sem,↓reduceIte,k7,clen1',hfm];refine(Zm G _ e.a (by omega)).mono ?_;rintro _ H1 ⟨rfl,rfl⟩;cases vargs:Kd e.a with
      | true=>
       simp(disch:=omega) only[go_sem,↓reduceIte,k7,clen1',hfm];exact Rm.dropA r1 hr1 (Rm.refl ⟨by simp [Bf,zO,zN,zS,zA,Aq,nn,Bj,k7,z1,z2,z3,clen1,hn0,vargs],rfl⟩)
      | false=>
       simp(disch:=omega) only[go_sem,↓reduceIte,k7,clen1',hfm];exact Rm.dropA r1 hr1 (Rm.refl ⟨by simp [Bf,zO,zN,zS,zA,Aq,nn,Bj,k7,z1,z2,z3,clen1,hn0,vargs],rfl⟩)
     | false=>
      have hfm:form=false:=by rw[hform,hn0,Bool.and_false]
      simp(disch:=omega) only[go_sem,↓reduceIte,k7,clen1',hfm];exact Rm.dropA r1 hr1 (Rm.refl ⟨by simp [Bf,zO,zN,zS,zA,Aq,nn,Bj,k7,z1,z2,z3,clen1,hn0],rfl⟩)
    ·have clen1': ¬(e.l.length:Int)=1:=by omega
     simp(disch:=omega) only[go_sem,↓reduceIte,k7,clen1'];exact Rm.dropA r1 hr1 (Rm.refl ⟨by simp [Bf,zO,zN,zS,zA,Aq,nn,Bj,k7,z1,z2,z3,clen1],rfl⟩)
   | false=>
    simp(disch:=omega) only[go_sem,↓reduceIte,k7];exact Rm.dropA r1 hr1 (Rm.refl ⟨by rw[Ag0 k7 pl],rfl⟩)
  by_cases k8:e.kind=8
  ·skip
   simp(disch:=omega) only[go_sem,↓reduceIte,k8];refine(By G _ e false false false false).mono ?_;rintro _ H1 ⟨rfl,rfl⟩;cases pl:Bj e false false false false with
   | true=>
    have pl2:=Ev pl;obtain⟨z1,z2,z3,z4⟩:=pl2;by_cases clen2:e.l.length=2
    ·have clen2':(e.l.length:Int)=2:=by omega
     cases hn0:nz with
     | true=>
      have hfm:form=true:=by rw[hform,hn0,Bool.and_true];exact decide_eq_true (by omega)
      simp(disch:=omega) only[go_sem,↓reduceIte,k8,clen2',hfm];exact Rm.dropA r1 hr1 (Rm.refl ⟨by simp [Bf,zO,zN,zS,zA,Aq,nn,Bj,k8,z1,z2,z3,z4,clen2,hn0],rfl⟩)
     | false=>
      have hfm:form=false:=by rw[hform,hn0,Bool.and_false]
      simp(disch:=omega) only[go_sem,↓reduceIte,k8,clen2',hfm];exact Rm.dropA r1 hr1 (Rm.refl ⟨by simp [Bf,zO,zN,zS,zA,Aq,nn,Bj,k8,z1,z2,z3,z4,clen2,hn0],rfl⟩)
    ·have clen2': ¬(e.l.length:Int)=2:=by omega
     simp(disch:=omega) only[go_sem,↓reduceIte,k8,clen2'];exact Rm.dropA r1 hr1 (Rm.refl ⟨by simp [Bf,zO,zN,zS,zA,Aq,nn,Bj,k8,z1,z2,z3,z4,clen2],rfl⟩)
   | false=>
    simp(disch:=omega) only[go_sem,↓reduceIte,k8];exact Rm.dropA r1 hr1 (Rm.refl ⟨by rw[Ag1 k8 pl],rfl⟩)
  by_cases k9:e.kind=9
  ·skip
   simp(disch:=omega) only[go_sem,↓reduceIte,k9];refine(By G _ e false false false true).mono ?_;rintro _ H1 ⟨rfl,rfl⟩;cases pl:Bj e false false false true with
   | true=>
    have pl2:=Pp pl;obtain⟨z1,z2,z3⟩:=pl2;by_cases clen0:e.l.length=0
    ·exfalso;omega
    ·have clen0': ¬(e.l.length:Int)=0:=by omega
     simp(disch:=omega) only[go_sem,↓reduceIte,k9,clen0'];exact Rm.dropA r1 hr1 (Rm.refl ⟨by simp [Bf,zO,zN,zS,zA,Aq,nn,Bj,k9,z1,z2,z3,clen0],rfl⟩)
   | false=>
    simp(disch:=omega) only[go_sem,↓reduceIte,k9];exact Rm.dropA r1 hr1 (Rm.refl ⟨by rw[Ag2 k9 pl],rfl⟩)
  by_cases k10:e.kind=10
  ·skip
   simp(disch:=omega) only[go_sem,↓reduceIte,k10];refine(By G _ e false false false false).mono ?_;rintro _ H1 ⟨rfl,rfl⟩;cases pl:Bj e false false false false with
   | true=>
    have pl2:=Ev pl;obtain⟨z1,z2,z3,z4⟩:=pl2;by_cases clen3:e.l.length=3
    ·have clen3':(e.l.length:Int)=3:=by omega
     simp(disch:=omega) only[go_sem,↓reduceIte,k10,clen3'];exact Rm.dropA r1 hr1 (Rm.refl ⟨by simp [Bf,zO,zN,zS,zA,Aq,nn,Bj,k10,z1,z2,z3,z4,clen3],rfl⟩)
    ·have clen3': ¬(e.l.length:Int)=3:=by omega
     simp(disch:=omega) only[go_sem,↓reduceIte,k10,clen3'];exact Rm.dropA r1 hr1 (Rm.refl ⟨by simp [Bf,zO,zN,zS,zA,Aq,nn,Bj,k10,z1,z2,z3,z4,clen3],rfl⟩)
   | false=>
    simp(disch:=omega) only[go_sem,↓reduceIte,k10];exact Rm.dropA r1 hr1 (Rm.refl ⟨by rw[Yn k10 pl],rfl⟩)
  by_cases k11:e.kind=11
  ·skip
   simp(disch:=omega) only[go_sem,↓reduceIte,k11];refine(By G _ e true false false false).mono ?_;rintro _ H1 ⟨rfl,rfl⟩;cases pl:Bj e true false false false with
   | true=>
    have pl2:=Pq pl;obtain⟨z2,z3,z4⟩:=pl2;by_cases clen1:e.l.length=1
    ·have clen1':(e.l.length:Int)=1:=by omega
     simp(disch:=omega) only[go_sem,↓reduceIte,k11,clen1'];refine(Ak9 G _ e.oper).mono ?_;rintro _ H1 ⟨rfl,rfl⟩;by_cases ca:18<=e.oper
     ·by_cases cb:e.oper<=21
      ·skip
       simp(disch:=omega) only[go_sem,↓reduceIte,k11,clen1',ca,cb];exact Rm.dropA r1 hr1 (Rm.refl ⟨by simp [Bf,zO,zN,zS,zA,Aq,nn,Bj,k11,z2,z3,z4,clen1,ca,cb],rfl⟩)
      ·skip
       simp(disch:=omega) only[go_sem,↓reduceIte,k11,clen1',ca,cb];exact Rm.dropA r1 hr1 (Rm.refl ⟨by simp [Bf,zO,zN,zS,zA,Aq,nn,Bj,k11,z2,z3,z4,clen1,ca,cb],rfl⟩)
     ·skip
      simp(disch:=omega) only[go_sem,↓reduceIte,k11,clen1',ca];exact Rm.dropA r1 hr1 (Rm.refl ⟨by simp [Bf,zO,zN,zS,zA,Aq,nn,Bj,k11,z2,z3,z4,clen1,ca],rfl⟩)
    ·have clen1': ¬(e.l.length:Int)=1:=by omega
     simp(disch:=omega) only[go_sem,↓reduceIte,k11,clen1'];exact Rm.dropA r1 hr1 (Rm.refl ⟨by simp [Bf,zO,zN,zS,zA,Aq,nn,Bj,k11,z2,z3,z4,clen1],rfl⟩)
   | false=>
    simp(disch:=omega) only[go_sem,↓reduceIte,k11];exact Rm.dropA r1 hr1 (Rm.refl ⟨by rw[Yo k11 pl],rfl⟩)
  by_cases k12:e.kind=12
  ·skip
   simp(disch:=omega) only[go_sem,↓reduceIte,k12];refine(By G _ e true false false false).mono ?_;rintro _ H1 ⟨rfl,rfl⟩;cases pl:Bj e true false false false with
   | true=>
    have pl2:=Pq pl;obtain⟨z2,z3,z4⟩:=pl2;by_cases clen2:e.l.length=2
    ·have clen2':(e.l.length:Int)=2:=by omega
     simp(disch:=omega) only[go_sem,↓reduceIte,k12,clen2'];refine(Av0 G _ e.oper).mono ?_;rintro _ H1 ⟨rfl,rfl⟩;by_cases ca:1<=e.oper
     ·by_cases cb:e.oper<=17
      ·skip
       simp(disch:=omega) only[go_sem,↓reduceIte,k12,clen2',ca,cb];exact Rm.dropA r1 hr1 (Rm.refl ⟨by simp [Bf,zO,zN,zS,zA,Aq,nn,Bj,k12,z2,z3,z4,clen2,ca,cb],rfl⟩)
      ·skip
       simp(disch:=omega) only[go_sem,↓reduceIte,k12,clen2',ca,cb];exact Rm.dropA r1 hr1 (Rm.refl ⟨by simp [Bf,zO,zN,zS,zA,Aq,nn,Bj,k12,z2,z3,z4,clen2,ca,cb],rfl⟩)
     ·skip
      simp(disch:=omega) only[go_sem,↓reduceIte,k12,clen2',ca];exact Rm.dropA r1 hr1 (Rm.refl ⟨by simp [Bf,zO,zN,zS,zA,Aq,nn,Bj,k12,z2,z3,z4,clen2,ca],rfl⟩)
    ·have clen2': ¬(e.l.length:Int)=2:=by omega
     simp(disch:=omega) only[go_sem,↓reduceIte,k12,clen2'];exact Rm.dropA r1 hr1 (Rm.refl ⟨by simp [Bf,zO,zN,zS,zA,Aq,nn,Bj,k12,z2,z3,z4,clen2],rfl⟩)
   | false=>
    simp(disch:=omega) only[go_sem,↓reduceIte,k12];exact Rm.dropA r1 hr1 (Rm.refl ⟨by rw[Yp k12 pl],rfl⟩)
  by_cases k13:e.kind=13
  ·skip
   simp(disch:=omega) only[go_sem,↓reduceIte,k13];refine(By G _ e false false false false).mono ?_;rintro _ H1 ⟨rfl,rfl⟩;cases pl:Bj e false false false false with
   | true=>
    have pl2:=Ev pl;obtain⟨z1,z2,z3,z4⟩:=pl2;by_cases c2:e.l.length=2
    ·have c2':(e.l.length:Int)=2:=by omega
     have c3': ¬(e.l.length:Int)=3:=by omega
     have c3: ¬e.l.length=3:=by omega
     have hp1:1<e.l.length:=by omega
     have hg1:=Cm Aa e.l 1 hp1;have hgd1:e.l.getD 1 ex0=e.l[1]:=by rw[List.getD,List.getElem?_eq_getElem hp1];rfl
     rw[Nat.one_mul] at hg1;simp(disch:=omega) only[go_sem,↓reduceIte,k13,c2',hg1,hfl];refine(Rt G _ e.l[1]).mono ?_;rintro _ H1 ⟨rfl,rfl⟩;cases ct:Gc e.l[1] with
     | true=>
      simp(disch:=omega) only[go_sem,↓reduceIte,k13,c2'];exact Rm.dropA r1 hr1 (Rm.refl ⟨by simp [Bf,zO,zN,zS,zA,Aq,nn,Bj,k13,z1,z2,z3,z4,c3,c2,hgd1,ct],rfl⟩)
     | false=>
      simp(disch:=omega) only[go_sem,↓reduceIte,k13,c2',c3'];exact Rm.dropA r1 hr1 (Rm.refl ⟨by simp [Bf,zO,zN,zS,zA,Aq,nn,Bj,k13,z1,z2,z3,z4,c3,c2,hgd1,ct],rfl⟩)
    ·have c2': ¬(e.l.length:Int)=2:=by omega
     by_cases c3:e.l.length=3
     ·have c3':(e.l.length:Int)=3:=by omega
      simp(disch:=omega) only[go_sem,↓reduceIte,k13,c2',c3'];exact Rm.dropA r1 hr1 (Rm.refl ⟨by simp [Bf,zO,zN,zS,zA,Aq,nn,Bj,k13,z1,z2,z3,z4,c2,c3],rfl⟩)
     ·have c3': ¬(e.l.length:Int)=3:=by omega
      simp(disch:=omega) only[go_sem,↓reduceIte,k13,c2',c3'];exact Rm.dropA r1 hr1 (Rm.refl ⟨by simp [Bf,zO,zN,zS,zA,Aq,nn,Bj,k13,z1,z2,z3,z4,c2,c3],rfl⟩)
   | false=>
    simp(disch:=omega) only[go_sem,↓reduceIte,k13];exact Rm.dropA r1 hr1 (Rm.refl ⟨by rw[Yq k13 pl],rfl⟩)
  by_cases k14:e.kind=14
  ·skip
   simp(disch:=omega) only[go_sem,↓reduceIte,k14];refine(By G _ e false false false false).mono ?_;rintro _ H1 ⟨rfl,rfl⟩;cases pl:Bj e false false false false with
   | true=>
    have pl2:=Ev pl;obtain⟨z1,z2,z3,z4⟩:=pl2;by_cases c2:e.l.length=2
    ·have c2':(e.l.length:Int)=2:=by omega
     have c3': ¬(e.l.length:Int)=3:=by omega
     have c3: ¬e.l.length=3:=by omega
     have hp1:1<e.l.length:=by omega
     have hg1:=Cm Aa e.l 1 hp1;have hgd1:e.l.getD 1 ex0=e.l[1]:=by rw[List.getD,List.getElem?_eq_getElem hp1];rfl
     rw[Nat.one_mul] at hg1;simp(disch:=omega) only[go_sem,↓reduceIte,k14,c2',hg1,hfl];refine(Rt G _ e.l[1]).mono ?_;rintro _ H1 ⟨rfl,rfl⟩;cases ct:Gc e.l[1] with
     | true=>
      simp(disch:=omega) only[go_sem,↓reduceIte,k14,c2'];exact Rm.dropA r1 hr1 (Rm.refl ⟨by simp [Bf,zO,zN,zS,zA,Aq,nn,Bj,k14,z1,z2,z3,z4,c3,c2,hgd1,ct],rfl⟩)
     | false=>
      simp(disch:=omega) only[go_sem,↓reduceIte,k14,c2',c3'];exact Rm.dropA r1 hr1 (Rm.refl ⟨by simp [Bf,zO,zN,zS,zA,Aq,nn,Bj,k14,z1,z2,z3,z4,c3,c2,hgd1,ct],rfl⟩)
    ·have c2': ¬(e.l.length:Int)=2:=by omega
     by_cases c3:e.l.length=3
     ·have c3':(e.l.length:Int)=3:=by omega
      simp(disch:=omega) only[go_sem,↓reduceIte,k14,c2',c3'];exact Rm.dropA r1 hr1 (Rm.refl ⟨by simp [Bf,zO,zN,zS,zA,Aq,nn,Bj,k14,z1,z2,z3,z4,c2,c3],rfl⟩)
     ·have c3': ¬(e.l.length:Int)=3:=by omega
      simp(disch:=omega) only[go_sem,↓reduceIte,k14,c2',c3'];exact Rm.dropA r1 hr1 (Rm.refl ⟨by simp [Bf,zO,zN,zS,zA,Aq,nn,Bj,k14,z1,z2,z3,z4,c2,c3],rfl⟩)
   | false=>
    simp(disch:=omega) only[go_sem,↓reduceIte,k14];exact Rm.dropA r1 hr1 (Rm.refl ⟨by rw[Yr k14 pl],rfl⟩)
  simp(disch:=omega) only[go_sem,↓reduceIte,k1,k2,k3,k4,k6,k5,k7,k8,k9,k10,k11,k12,k13,k14];exact Rm.dropA r1 hr1 (Rm.refl ⟨by simp [Bf,k1,k2,k3,k4,k6,k5,k7,k8,k9,k10,k11,k12,k13,k14],rfl⟩)
 ·have hp': ¬(0:Int)<(e.l.length:Int):=by omega
  have hfm0:form=false:=by rw[hform,decide_eq_false hp,Bool.false_and]
  simp(disch:=omega) only[go_sem,↓reduceIte,hp'];by_cases k1:e.kind=1
  ·skip
   simp(disch:=omega) only[go_sem,↓reduceIte,k1];refine(By G _ e false true false false).mono ?_;rintro _ H1 ⟨rfl,rfl⟩;cases pl:Bj e false true false false with
   | true=>
    have pl2:=Af3 pl;obtain⟨z1,z3,z4⟩:=pl2;by_cases clen0:e.l.length=0
    ·have clen0':(e.l.length:Int)=0:=by omega
     by_cases ca:0<=e.n
     ·by_cases cb:e.n<=2147483647
      ·skip
       simp(disch:=omega) only[go_sem,↓reduceIte,k1,clen0',ca,cb];exact Rm.dropA r1 hr1 (Rm.refl ⟨by simp [Bf,zO,zN,zS,zA,Aq,nn,Bj,k1,z1,z3,z4,clen0,ca,cb],rfl⟩)
      ·skip
       simp(disch:=omega) only[go_sem,↓reduceIte,k1,clen0',ca,cb];exact Rm.dropA r1 hr1 (Rm.refl ⟨by simp [Bf,zO,zN,zS,zA,Aq,nn,Bj,k1,z1,z3,z4,clen0,ca,cb],rfl⟩)
     ·skip
      simp(disch:=omega) only[go_sem,↓reduceIte,k1,clen0',ca];exact Rm.dropA r1 hr1 (Rm.refl ⟨by simp [Bf,zO,zN,zS,zA,Aq,nn,Bj,k1,z1,z3,z4,clen0,ca],rfl⟩)
    ·exfalso;omega
   | false=>
    simp(disch:=omega) only[go_sem,↓reduceIte,k1];exact Rm.dropA r1 hr1 (Rm.refl ⟨by rw[Af4 k1 pl],rfl⟩)
  by_cases k2:e.kind=2
  ·skip
   simp(disch:=omega) only[go_sem,↓reduceIte,k2];refine(By G _ e false false false false).mono ?_;rintro _ H1 ⟨rfl,rfl⟩;cases pl:Bj e false false false false with
   | true=>
    have pl2:=Ev pl;obtain⟨z1,z2,z3,z4⟩:=pl2;by_cases clen0:e.l.length=0
    ·have clen0':(e.l.length:Int)=0:=by omega
     simp(disch:=omega) only[go_sem,↓reduceIte,k2,clen0'];exact Rm.dropA r1 hr1 (Rm.refl ⟨by simp [Bf,zO,zN,zS,zA,Aq,nn,Bj,k2,z1,z2,z3,z4,clen0],rfl⟩)
    ·exfalso;omega
   | false=>
    simp(disch:=omega) only[go_sem,↓reduceIte,k2];exact Rm.dropA r1 hr1 (Rm.refl ⟨by rw[Af5 k2 pl],rfl⟩)
  by_cases k3:e.kind=3
  ·skip
   simp(disch:=omega) only[go_sem,↓reduceIte,k3];refine(By G _ e false false true false).mono ?_;rintro _ H1 ⟨rfl,rfl⟩;cases pl:Bj e false false true false with
   | true=>
    have pl2:=Kf pl;obtain⟨z1,z2,z4⟩:=pl2;by_cases clen0:e.l.length=0
    ·have clen0':(e.l.length:Int)=0:=by omega
     simp(disch:=omega) only[go_sem,↓reduceIte,k3,clen0'];refine(Kc G _ e.s).mono ?_;rintro _ H1 ⟨rfl,rfl⟩;cases vname:Gk e.s with
     | true=>
      simp(disch:=omega) only[go_sem,↓reduceIte,k3,clen0'];exact Rm.dropA r1 hr1 (Rm.refl ⟨by simp [Bf,zO,zN,zS,zA,Aq,nn,Bj,k3,z1,z2,z4,clen0,vname],rfl⟩)
     | false=>
      simp(disch:=omega) only[go_sem,↓reduceIte,k3,clen0'];exact Rm.dropA r1 hr1 (Rm.refl ⟨by simp [Bf,zO,zN,zS,zA,Aq,nn,Bj,k3,z1,z2,z4,clen0,vname],rfl⟩)
    ·exfalso;omega
   | false=>
    simp(disch:=omega) only[go_sem,↓reduceIte,k3];exact Rm.dropA r1 hr1 (Rm.refl ⟨by rw[Af6 k3 pl],rfl⟩)
  by_cases k4:e.kind=4
  ·skip
   simp(disch:=omega) only[go_sem,↓reduceIte,k4];refine(By G _ e false false true false).mono ?_;rintro _ H1 ⟨rfl,rfl⟩;cases pl:Bj e false false true false with
   | true=>
    have pl2:=Kf pl;obtain⟨z1,z2,z4⟩:=pl2;by_cases clen1:e.l.length=1
    ·exfalso;omega
    ·have clen1': ¬(e.l.length:Int)=1:=by omega
     simp(disch:=omega) only[go_sem,↓reduceIte,k4,clen1'];exact Rm.dropA r1 hr1 (Rm.refl ⟨by simp [Bf,zO,zN,zS,zA,Aq,nn,Bj,k4,z1,z2,z4,clen1],rfl⟩)
   | false=>
    simp(disch:=omega) only[go_sem,↓reduceIte,k4];exact Rm.dropA r1 hr1 (Rm.refl ⟨by rw[Af7 k4 pl],rfl⟩)
  by_cases k6:e.kind=6
  ·skip
   simp(disch:=omega) only[go_sem,↓reduceIte,k6];refine(By G _ e false false true false).mono ?_;rintro _ H1 ⟨rfl,rfl⟩;cases pl:Bj e false false true false with
   | true=>
    have pl2:=Kf pl;obtain⟨z1,z2,z4⟩:=pl2;by_cases clen1:e.l.length=1
    ·exfalso;omega
    ·have clen1': ¬(e.l.length:Int)=1:=by omega
     simp(disch:=omega) only[go_sem,↓reduceIte,k6,clen1'];exact Rm.dropA r1 hr1 (Rm.refl ⟨by simp [Bf,zO,zN,zS,zA,Aq,nn,Bj,k6,z1,z2,z4,clen1],rfl⟩)
   | false=>
    simp(disch:=omega) only[go_sem,↓reduceIte,k6];exact Rm.dropA r1 hr1 (Rm.refl ⟨by rw[Af8 k6 pl],rfl⟩)
  by_cases k5:e.kind=5
  ·skip
   simp(disch:=omega) only[go_sem,↓reduceIte,k5];refine(By G _ e false false false false).mono ?_;rintro _ H1 ⟨rfl,rfl⟩;cases pl:Bj e false false false false with
   | true=>
    have pl2:=Ev pl;obtain⟨z1,z2,z3,z4⟩:=pl2;by_cases clen1:e.l.length=1
    ·exfalso;omega
    ·have clen1': ¬(e.l.length:Int)=1:=by omega
     simp(disch:=omega) only[go_sem,↓reduceIte,k5,clen1'];exact Rm.dropA r1 hr1 (Rm.refl ⟨by simp [Bf,zO,zN,zS,zA,Aq,nn,Bj,k5,z1,z2,z3,z4,clen1],rfl⟩)
   | false=>
    simp(disch:=omega) only[go_sem,↓reduceIte,k5];exact Rm.dropA r1 hr1 (Rm.refl ⟨by rw[Af9 k5 pl],rfl⟩)
  by_cases k7:e.kind=7
  ·skip
   simp(disch:=omega) only[go_sem,↓reduceIte,k7];refine(By G _ e false false false true).mono ?_;rintro _ H1 ⟨rfl,rfl⟩;cases pl:Bj e false false false true with
   | true=>
    have pl2:=Pp pl;obtain⟨z1,z2,z3⟩:=pl2;by_cases clen1:e.l.length=1
    ·exfalso;omega
    ·have clen1': ¬(e.l.length:Int)=1:=by omega
     simp(disch:=omega) only[go_sem,↓reduceIte,k7,clen1'];exact Rm.dropA r1 hr1 (Rm.refl ⟨by simp [Bf,zO,zN,zS,zA,Aq,nn,Bj,k7,z1,z2,z3,clen1],rfl⟩)
   | false=>
    simp(disch:=omega) only[go_sem,↓reduceIte,k7];exact Rm.dropA r1 hr1 (Rm.refl ⟨by rw[Ag0 k7 pl],rfl⟩)
  by_cases k8:e.kind=8
  ·skip
   simp(disch:=omega) only[go_sem,↓reduceIte,k8];refine(By G _ e false false false false).mono ?_;rintro _ H1 ⟨rfl,rfl⟩;cases pl:Bj e false false false false with
   | true=>
    have pl2:=Ev pl;obtain⟨z1,z2,z3,z4⟩:=pl2;by_cases clen2:e.l.length=2
    ·exfalso;omega
    ·have clen2': ¬(e.l.length:Int)=2:=by omega
     simp(disch:=omega) only[go_sem,↓reduceIte,k8,clen2'];exact Rm.dropA r1 hr1 (Rm.refl ⟨by simp [Bf,zO,zN,zS,zA,Aq,nn,Bj,k8,z1,z2,z3,z4,clen2],rfl⟩)
   | false=>
    simp(disch:=omega) only[go_sem,↓reduceIte,k8];exact Rm.dropA r1 hr1 (Rm.refl ⟨by rw[Ag1 k8 pl],rfl⟩)
  by_cases k9:e.kind=9
  ·skip
   simp(disch:=omega) only[go_sem,↓reduceIte,k9];refine(By G _ e false false false true).mono ?_;rintro _ H1 ⟨rfl,rfl⟩;cases pl:Bj e false false false true with
   | true=>
    have pl2:=Pp pl;obtain⟨z1,z2,z3⟩:=pl2;by_cases clen0:e.l.length=0
    ·have clen0':(e.l.length:Int)=0:=by omega
     simp(disch:=omega) only[go_sem,↓reduceIte,k9,clen0'];refine(Ue G _ e.a (by omega) hac).mono ?_;rintro _ H1 ⟨rfl,rfl⟩;cases vassocs:Gd e.a with
     | true=>
      simp(disch:=omega) only[go_sem,↓reduceIte,k9,clen0'];exact Rm.dropA r1 hr1 (Rm.refl ⟨by simp [Bf,zO,zN,zS,zA,Aq,nn,Bj,k9,z1,z2,z3,clen0,vassocs],rfl⟩)
     | false=>
      simp(disch:=omega) only[go_sem,↓reduceIte,k9,clen0'];exact Rm.dropA r1 hr1 (Rm.refl ⟨by simp [Bf,zO,zN,zS,zA,Aq,nn,Bj,k9,z1,z2,z3,clen0,vassocs],rfl⟩)
    ·exfalso;omega
   | false=>
    simp(disch:=omega) only[go_sem,↓reduceIte,k9];exact Rm.dropA r1 hr1 (Rm.refl ⟨by rw[Ag2 k9 pl],rfl⟩)
  by_cases k10:e.kind=10
  ·skip
   simp(disch:=omega) only[go_sem,↓reduceIte,k10];refine(By G _ e false false false false).mono ?_;rintro _ H1 ⟨rfl,rfl⟩;cases pl:Bj e false false false false with
   | true=>
    have pl2:=Ev pl;obtain⟨z1,z2,z3,z4⟩:=pl2;by_cases clen3:e.l.length=3
    ·exfalso;omega
    ·have clen3': ¬(e.l.length:Int)=3:=by omega
     simp(disch:=omega) only[go_sem,↓reduceIte,k10,clen3'];exact Rm.dropA r1 hr1 (Rm.refl ⟨by simp [Bf,zO,zN,zS,zA,Aq,nn,Bj,k10,z1,z2,z3,z4,clen3],rfl⟩)
   | false=>
    simp(disch:=omega) only[go_sem,↓reduceIte,k10];exact Rm.dropA r1 hr1 (Rm.refl ⟨by rw[Yn k10 pl],rfl⟩)
  by_cases k11:e.kind=11
  ·skip
   simp(disch:=omega) only[go_sem,↓reduceIte,k11];refine(By G _ e true false false false).mono ?_;rintro _ H1 ⟨rfl,rfl⟩;cases pl:Bj e true false false false with
   | true=>
    have pl2:=Pq pl;obtain⟨z2,z3,z4⟩:=pl2;by_cases clen1:e.l.length=1
    ·exfalso;omega
    ·have clen1': ¬(e.l.length:Int)=1:=by omega
     simp(disch:=omega) only[go_sem,↓reduceIte,k11,clen1'];exact Rm.dropA r1 hr1 (Rm.refl ⟨by simp [Bf,zO,zN,zS,zA,Aq,nn,Bj,k11,z2,z3,z4,clen1],rfl⟩)
   | false=>
    simp(disch:=omega) only[go_sem,↓reduceIte,k11];exact Rm.dropA r1 hr1 (Rm.refl ⟨by rw[Yo k11 pl],rfl⟩)
  by_cases k12:e.kind=12
  ·skip
   simp(disch:=omega) only[go_sem,↓reduceIte,k12];refine(By G _ e true false false false).mono ?_;rintro _ H1 ⟨rfl,rfl⟩;cases pl:Bj e true false false false with
   | true=>
    have pl2:=Pq pl;obtain⟨z2,z3,z4⟩:=pl2;by_cases clen2:e.l.length=2
    ·exfalso;omega
    ·have clen2': ¬(e.l.length:Int)=2:=by omega
     simp(disch:=omega) only[go_sem,↓reduceIte,k12,clen2'];exact Rm.dropA r1 hr1 (Rm.refl ⟨by simp [Bf,zO,zN,zS,zA,Aq,nn,Bj,k12,z2,z3,z4,clen2],rfl⟩)
   | false=>
    simp(disch:=omega) only[go_sem,↓reduceIte,k12];exact Rm.dropA r1 hr1 (Rm.refl ⟨by rw[Yp k12 pl],rfl⟩)
  by_cases k13:e.kind=13
  ·skip
   simp(disch:=omega) only[go_sem,↓reduceIte,k13];refine(By G _ e false false false false).mono ?_;rintro _ H1 ⟨rfl,rfl⟩;cases pl:Bj e false false false false with
   | true=>
    have pl2:=Ev pl;obtain⟨z1,z2,z3,z4⟩:=pl2;by_cases c2:e.l.length=2
    ·exfalso;omega
    ·have c2': ¬(e.l.length:Int)=2:=by omega
     by_cases c3:e.l.length=3
     ·exfalso;omega
     ·have c3': ¬(e.l.length:Int)=3:=by omega
      simp(disch:=omega) only[go_sem,↓reduceIte,k13,c2',c3'];exact Rm.dropA r1 hr1 (Rm.refl ⟨by simp [Bf,zO,zN,zS,zA,Aq,nn,Bj,k13,z1,z2,z3,z4,c2,c3],rfl⟩)
   | false=>
    simp(disch:=omega) only[go_sem,↓reduceIte,k13];exact Rm.dropA r1 hr1 (Rm.refl ⟨by rw[Yq k13 pl],rfl⟩)
  by_cases k14:e.kind=14
  ·skip
   simp(disch:=omega) only[go_sem,↓reduceIte,k14];refine(By G _ e false false false false).mono ?_;rintro _ H1 ⟨rfl,rfl⟩;cases pl:Bj e false false false false with
   | true=>
    have pl2:=Ev pl;obtain⟨z1,z2,z3,z4⟩:=pl2;by_cases c2:e.l.length=2
    ·exfalso;omega
    ·have c2': ¬(e.l.length:Int)=2:=by omega
     by_cases c3:e.l.length=3
     ·exfalso;omega
     ·have c3': ¬(e.l.length:Int)=3:=by omega
      simp(disch:=omega) only[go_sem,↓reduceIte,k14,c2',c3'];exact Rm.dropA r1 hr1 (Rm.refl ⟨by simp [Bf,zO,zN,zS,zA,Aq,nn,Bj,k14,z1,z2,z3,z4,c2,c3],rfl⟩)
   | false=>
    simp(disch:=omega) only[go_sem,↓reduceIte,k14];exact Rm.dropA r1 hr1 (Rm.refl ⟨by rw[Yr k14 pl],rfl⟩)
  simp(disch:=omega) only[go_sem,↓reduceIte,k1,k2,k3,k4,k6,k5,k7,k8,k9,k10,k11,k12,k13,k14];exact Rm.dropA r1 hr1 (Rm.refl ⟨by simp [Bf,k1,k2,k3,k4,k6,k5,k7,k8,k9,k10,k11,k12,k13,k14],rfl⟩)
end
end Go.Dl

-- Chapter 3: the reference: Parts, room, May, Size, Lines.
namespace Go.Dl
open Go Go.Proofs
set_option maxRecDepth 100000
theorem Nf (l m:List Ex):Kw (l++m)=Kw l+Kw m:=by
 induction l with
 | nil=>simp [Kw]
 | cons x l ih=>rw[List.cons_append,Kw,Kw,ih];omega
theorem Bf9 (a:As):Kw (Dh a)<=Zj a:=by
 rw[Dh,Nf,Na];have h: ∀l:List Ch,Kw (l.flatMap Ch.l)<=Jr l:=by
  intro l
  induction l with
  | nil=>simp [Kw]
  | cons c l ih=>rw[List.flatMap_cons,Nf,Jr,Nb];omega
 have:=h a.c;simp only[Kw];omega
theorem Br3 (e:Ex):Kw (parts e)<=Hu e:=by
 rw[parts,Nf,Pm];have h: ∀l:List As,Kw (l.flatMap Dh)<=Mb l:=by
  intro l
  induction l with
  | nil=>simp [Kw]
  | cons c l ih=>have:=Bf9 c;rw[List.flatMap_cons,Nf,Mb];omega
 have:=h e.a;omega
theorem Ao1 (e:Ex):(parts e).length<=Hu e:=by
 have:=Hd (parts e);have:=Br3 e;omega
section
variable {G:Nat->DVal} {H:Bb}
def Cw0 (H:Bb) (l:List Ex) (v:DVal) (H':Bb):Prop:=Qr H 29 9 l.length (l.flatMap dEx) v H'
set_option maxHeartbeats 4000000 in
theorem Br4 (G:Nat->DVal) (H:Bb) (e:Ex) (hb:Hu e<=100000000000):Bh Tryz.prog G 144 [.agg (dEx e)] H (Bt (dXs (parts e)) H):=by
 have hal:= @Bx5 e;have hll:= @Bx4 e;have hfl:=Bq Aa e.l;have hfa:=Bq Cr e.a;have hpl:=Ao1 e;refine Bc Tryz.func144 Tryz.call144 rfl (by kernel_rfl) ?_;simp(disch:=omega) only[go_sem,↓reduceIte,DVal.cells];intro r1 hr1;dsimp only at hr1;simp(disch:=omega) only[go_sem,↓reduceIte];intro r6 hr6;dsimp only at hr6;obtain⟨m1,m2,hr6'⟩:=Dl9.1 hr6;have ht:(e.l.flatMap dEx).take (e.l.length*9)=e.l.flatMap dEx:=List.take_of_length_le (by omega);have ho:((e.l.flatMap dEx).all (fun d=>d.one))=true:=by
  rw[List.all_eq_true];intro d hd;obtain⟨x,_,hd⟩:=List.mem_flatMap.1 hd;exact List.all_eq_true.1 (Jj x) d hd
 simp(disch:=omega) only[go_sem,↓reduceIte,m1,m2,hfl,ht,ho];have hv0:Qr (upd H r1 (some (.cells (dEx e) 29))) 29 9 0 [] (.oslice 9 r6 0 0 0) (upd (upd H r1 (some (.cells (dEx e) 29))) r6 (some (.cells [] 29))):= .inr ⟨r6,hr6,rfl,rfl,Bp _ _ _,(Sub.refl _).new hr6 _⟩;refine Qr.appendO hv0 hfl (by omega) fun v1 H1 hv1=> ?_;change Qr _ _ _ (0+e.l.length) ([]++e.l.flatMap dEx) v1 H1 at hv1;rw[List.nil_append,Nat.zero_add] at hv1;obtain⟨H0,hH0⟩: ∃H0,H0=upd H r1 (some (.cells (dEx e) 29)):=⟨_,rfl⟩;have h01:H0 r1=some (.cells (dEx e) 29):=by rw[hH0];exact Bp _ _ _
 have hs0:Sub H H0:=by rw[hH0];exact(Sub.refl H).new hr1 _
 rw[<-hH0] at hv1;have htk: ∀j (hj:j<e.a.length),(e.a.take (j+1)).flatMap Dh=(e.a.take j).flatMap Dh++Dh e.a[j]:=fun j hj=>by
  rw[List.take_add_one,List.getElem?_eq_getElem hj,List.flatMap_append];simp
 have hple: ∀(l:List Ex) (t:List Ex),l++t=parts e->l.length<=100000000000:=fun l t h=>by
  have:=congrArg List.length h;rw[List.length_append] at this;omega
 simp(disch:=omega) only[go_sem,↓reduceIte];obtain⟨I,hI⟩: ∃I:Nat->(Nat->DVal)->Bb->Prop,∀j env heap,I j env heap↔(env 1= .optr r1 0/\env 4=dI j/\j<=e.a.length/\Cw0 H0 (e.l++(e.a.take j).flatMap Dh) (env 3) heap):=⟨_,fun _ _ _=>Iff.rfl⟩;refine Cn3.run I (fun j=>e.a.length-j) 0 ((hI _ _ _).2 ?_) ?_
 ·simp(disch:=omega) only[go_sem,↓reduceIte];(repeat' apply And.intro)<;>(try first | rfl | assumption | omega);unfold Cw0;rw[List.flatMap_nil,List.append_nil];exact hv1
 ·intro j env heap hi;obtain⟨e1,e4,hj,hv⟩:=(hI _ _ _).1 hi;obtain⟨v,e3⟩: ∃v,env 3=v:=⟨_,rfl⟩;rw[e3] at hv;have g1:heap r1=some (.cells (dEx e) 29):=Qr.keep hv h01;by_cases hjl:j<e.a.length
  ·have hjl':(j:Int)<(e.a.length:Int):=by omega
   have Cc:=Cm Cr e.a j hjl;have gc:=Cy Cr e.a j hjl 0 (by decide);rw[Yi,Nat.add_zero] at gc;have hwj:IntKind.i64.wrap ((j:Int)+1)=((j+1:Nat):Int):=by rw[IntKind.wrap_i64];omega
   have hba:=Ae7 (List.getElem_mem hjl);have htj:=htk j hjl;have hpre:e.l++(e.a.take (j+1)).flatMap Dh++(e.a.drop (j+1)).flatMap Dh=parts e:=by
    rw[List.append_assoc,<-List.flatMap_append,List.take_append_drop];rfl
   have gE:((e.a.flatMap dAs).drop (j*10+1)).take 9=dEx e.a[j].e:=by
    rw[<-Ae6,<-Cc,List.drop_take,List.take_take,List.drop_drop];rfl
   obtain⟨a,ha⟩: ∃a,a=e.a[j]:=⟨_,rfl⟩;rw[<-ha] at gc hba htj gE;have hbc:=Ho a.c;have hfc:=Bq Cu a.c;rw[Na] at hba;obtain⟨L,hL⟩: ∃L,L=e.l++(e.a.take j).flatMap Dh:=⟨_,rfl⟩;rw[<-hL] at hv;rw[htj,<-List.append_assoc,<-hL] at hpre;simp(disch:=omega) only[go_sem,↓reduceIte,e1,e3,e4,g1,hjl'];obtain⟨J,hJ⟩: ∃J:Nat->(Nat->DVal)->Bb->Prop,∀m env heap,J m env heap↔(env 1= .optr r1 0/\env 4=dI j/\env 5=dI m/\m<=a.c.length/\Cw0 H0 (L++(a.c.take m).flatMap Ch.l) (env 3) heap):=⟨_,fun _ _ _=>Iff.rfl⟩;refine Cn3.run J (fun m=>a.c.length-m) 0 ((hJ _ _ _).2 ?_) ?_
   ·simp(disch:=omega) only[go_sem,↓reduceIte,e1,e3,e4];(repeat' apply And.intro)<;>(try first | rfl | assumption | omega);rw[List.flatMap_nil,List.append_nil];exact hv
   ·intro m env heap hi;obtain⟨e1,e4,e5,hm,hv⟩:=(hJ _ _ _).1 hi;obtain⟨v,e3⟩: ∃v,env 3=v:=⟨_,rfl⟩;rw[e3] at hv;have g1:heap r1=some (.cells (dEx e) 29):=Qr.keep hv h01;by_cases hml:m<a.c.length
    ·have hml':(m:Int)<(a.c.length:Int):=by omega
     have hwm:IntKind.i64.wrap ((m:Int)+1)=((m+1:Nat):Int):=by rw[IntKind.wrap_i64];omega
     have gl:=Cy Cu a.c m hml 1 (by decide);rw[An8] at gl;have hbm:=Is (List.getElem_mem hml);obtain⟨c,hc⟩: ∃c,c=a.c[m]:=⟨_,rfl⟩;rw[<-hc] at gl hbm;have hbl:=Hd c.l;have hfx:=Bq Aa c.l;rw[Nb] at hbm;have htm:(a.c.take (m+1)).flatMap Ch.l=(a.c.take m).flatMap Ch.l++c.l:=by
      rw[List.take_add_one,List.getElem?_eq_getElem hml,List.flatMap_append,hc];simp
     have htx:(c.l.flatMap dEx).take (c.l.length*9)=c.l.flatMap dEx:=List.take_of_length_le (by omega);have hox:((c.l.flatMap dEx).all (fun d=>d.one))=true:=by
      rw[List.all_eq_true];intro d hd;obtain⟨x,_,hd⟩:=List.mem_flatMap.1 hd;exact List.all_eq_true.1 (Jj x) d hd
     have hll2:(L++(a.c.take m).flatMap Ch.l).length<=100000000000:=by
      refine hple _ ((a.c.drop m).flatMap Ch.l++([a.e]++(e.a.drop (j+1)).flatMap Dh)) ?_;rw[<-hpre,Dh];simp only[List.append_assoc];rw[<-List.append_assoc ((a.c.take m).flatMap Ch.l),<-List.flatMap_append,List.take_append_drop]
     simp(disch:=omega) only[go_sem,↓reduceIte,e1,e3,e4,e5,g1,hjl',hfa,gc,hml',hfc,gl,hfx,htx,hox,Int.toNat_natCast];refine Qr.append (m:=c.l.length) hv hfx (by omega) fun v2 H2 hv2=> ?_;simp(disch:=omega) only[go_sem,↓reduceIte,e1,e3,e4,e5];refine⟨m+1,_,Rd.refl _,(hJ _ _ _).2 ?_,by omega⟩;simp(disch:=omega) only[go_sem,↓reduceIte,e1,e3,e4,e5,hwm];(repeat' apply And.intro)<;>(try first | rfl | assumption | omega);unfold Cw0;rw[htm,<-List.append_assoc,List.length_append,List.flatMap_append];exact hv2
    ·have:m=a.c.length:=by omega
     subst this;rw[List.take_length] at hv;have hll2:(L++a.c.flatMap Ch.l).length<=100000000000:=by
      refine hple _ ([a.e]++(e.a.drop (j+1)).flatMap Dh) ?_;rw[<-hpre,Dh];simp only[List.append_assoc]
     have hlt': ¬(a.c.length:Int)<(a.c.length:Int):=by omega
     have hrep:repl 1 [DVal.int .u8 0,DVal.int .u8 0,DVal.int .i64 0,DVal.str [],DVal.nilSlice,DVal.nilSlice,DVal.int .i64 0,DVal.int .i64 0,DVal.int .i64 0]= [DVal.int .u8 0,DVal.int .u8 0,DVal.int .i64 0,DVal.str [],DVal.nilSlice,DVal.nilSlice,DVal.int .i64 0,DVal.int .i64 0,DVal.int .i64 0]:=rfl;simp(disch:=omega) only[go_sem,↓reduceIte,e1,e3,e4,e5,g1,hjl',hfa,gc,gE,Int.toNat_natCast,hrep,List.length_cons,List.length_nil,List.drop_succ_cons,List.drop_zero];intro ns hns;dsimp only at hns;simp(disch:=omega) only[go_sem,↓reduceIte,e1,e3,e4,e5];refine Qr.append (m:=1) (Qr.new hv hns _) (by rw[Aa]) (by omega) fun v2 H2 hv2=> ?_;simp(disch:=omega) only[go_sem,↓reduceIte,e1,e3,e4,e5];refine⟨j+1,_,Rd.refl _,(hI _ _ _).2 ?_,by omega⟩;simp(disch:=omega) only[go_sem,↓reduceIte,e1,e3,e4,hwj];(repeat' apply And.intro)<;>(try first | rfl | assumption | omega);unfold Cw0;rw[htj,<-List.append_assoc,<-hL,Dh,<-List.append_assoc,List.length_append (bs:= [a.e]),List.length_singleton,List.flatMap_append (ys:= [a.e]),List.flatMap_singleton];exact hv2
  ·have:j=e.a.length:=by omega
   subst this;rw[List.take_length] at hv;have hlt': ¬(e.a.length:Int)<(e.a.length:Int):=by omega
   simp(disch:=omega) only[go_sem,↓reduceIte,e1,e3,e4,g1,hlt'];exact Qr.fin (hv.less hs0) ⟨rfl,rfl⟩
def Me (e:Ex) (d:Nat) (n:Int):Int:=if Ef d e=true/\(Fa e:Int)<=n then n-Fa e else-1
def Ag3 (l:List Ex) (d:Nat) (n:Int):Int:=if l.all (Ef d)=true/\(Ih l:Int)<=n then n-Ih l else-1
theorem Br5 {l:List Ex} {d k:Nat} {n:Int} (hk:k<l.length) (h0:0<=n):(if 0<=Me l[k] d n then Ag3 (l.drop (k+1)) d (Me l[k] d n) else-1)=Ag3 (l.drop k) d n:=by
 rw[List.drop_eq_getElem_cons hk];have hs:Ih (l[k]::l.drop (k+1))=Fa l[k]+Ih (l.drop (k+1)):=by rw[Ih,List.map_cons,List.sum_cons];rfl
 unfold Me Ag3;rw[List.all_cons,hs];by_cases h1:Ef d l[k]=true/\(Fa l[k]:Int)<=n
 ·rw[if_pos h1,if_pos (by omega)];by_cases h2:(l.drop (k+1)).all (Ef d)=true/\(Ih (l.drop (k+1)):Int)<=n-Fa l[k]
  ·rw[if_pos h2,if_pos ⟨by rw[h1.1,h2.1];rfl,by omega⟩];omega
  ·rw[if_neg h2,if_neg];rintro⟨h3,h4⟩;rw[Bool.and_eq_true] at h3;exact h2 ⟨h3.2,by omega⟩
 ·rw[if_neg h1,if_neg (by omega),if_neg];rintro⟨h3,h4⟩;rw[Bool.and_eq_true] at h3;exact h1 ⟨h3.1,by omega⟩
theorem Cj3 (G:Nat->DVal): ∀(e:Ex) (H:Bb) (d:Nat) (n:Int),Hu e<=100000000000->d<=1000000->0<=n->n<=256->Bh Tryz.prog G 67 [.agg (dEx e), .int .i64 d, .int .i64 n] H (Bt (dI (Me e d n)) H):=by
 intro e
 induction e using Ex.ind with
 | h e ih=>
  intro H d n hb hd h0 h1;have hpl:=Ao1 e;have hsz:=Oe e;have hve:=Of d e;refine Bc Tryz.func67 Tryz.call67 rfl (by kernel_rfl) ?_;simp(disch:=omega) only[go_sem,↓reduceIte,DVal.cells];intro r3 hr3;dsimp only at hr3;by_cases c1:32<d
  ·have c1':(32:Int)<(d:Int):=by omega
   simp(disch:=omega) only[go_sem,↓reduceIte,c1'];refine Rm.dropA r3 hr3 (Rm.refl ⟨?_,rfl⟩);rw[Me,if_neg];rintro⟨hv,_⟩;rw[hve,decide_eq_false (by omega),Bool.false_and,Bool.false_and] at hv;cases hv
  have c1': ¬(32:Int)<(d:Int):=by omega
  simp(disch:=omega) only[go_sem,↓reduceIte,c1'];refine(Av1 G _ e (by omega)).mono ?_;rintro _ H1 ⟨rfl,rfl⟩;cases hf:Bf e with
  | false=>
   simp(disch:=omega) only[go_sem,↓reduceIte];refine Rm.dropA r3 hr3 (Rm.refl ⟨?_,rfl⟩);rw[Me,if_neg];rintro⟨hv,_⟩;rw[hve,hf,Bool.and_false,Bool.false_and] at hv;cases hv
  | true=>
   have hwn:IntKind.i64.wrap (n-1)=n-1:=by rw[IntKind.wrap_i64];omega
   have hwd:IntKind.i64.wrap ((d:Int)+1)=((d+1:Nat):Int):=by rw[IntKind.wrap_i64];omega
   rw[hf,decide_eq_true (show d<=32 by omega),Bool.true_and,Bool.true_and] at hve;have hroom:Me e d n=if 0<=n-1 then Ag3 (parts e) (d+1) (n-1) else-1:=by
    unfold Me Ag3;rw[hve,hsz];by_cases h2:0<=n-1
    ·rw[if_pos h2];by_cases h3:(parts e).all (Ef (d+1))=true/\(Ih (parts e):Int)<=n-1
     ·rw[if_pos h3,if_pos ⟨h3.1,by omega⟩];omega
     ·rw[if_neg h3,if_neg (fun h4=>h3 ⟨h4.1,by omega⟩)]
    ·rw[if_neg h2,if_neg (fun h4=>by omega)]
   simp(disch:=omega) only[go_sem,↓reduceIte,hwn];refine(Br4 G _ e hb).mono ?_;rintro _ H1 ⟨rfl,rfl⟩;have hfp:=Bq Aa (parts e);simp(disch:=omega) only[go_sem,↓reduceIte,dXs];obtain⟨I,hI⟩: ∃I:Nat×Int->(Nat->DVal)->Bb->Prop,∀kn env heap,I kn env heap↔(env 1= .int .i64 d/\env 2= .int .i64 kn.2/\env 7= .vslice ((parts e).flatMap dEx) (parts e).length/\env 8=dI kn.1/\kn.1<=(parts e).length/\ -1<=kn.2/\kn.2<=256/\Me e d n=(if 0<=kn.2 then Ag3 ((parts e).drop kn.1) (d+1) kn.2 else-1)/\heap=upd H r3 (some (.cells (dEx e) 29))):=⟨_,fun _ _ _=>Iff.rfl⟩;refine Cn3.run I (fun kn=>(parts e).length-kn.1) (0,n-1) ((hI _ _ _).2 ?_) ?_
   ·simp(disch:=omega) only[go_sem,↓reduceIte];(repeat' apply And.intro)<;>(try first | rfl | assumption | omega)
   ·rintro⟨k,m⟩ env heap hi;obtain⟨e1,e2,e7,e8,hk,hm0,hm1,hr,rfl⟩:=(hI _ _ _).1 hi;dsimp only at e2 e8 hk hm0 hm1 hr;by_cases hlt:k<(parts e).length
    ·have hlt':(k:Int)<((parts e).length:Int):=by omega
     have Cc:=Cm Aa (parts e) k hlt;have hwk:IntKind.i64.wrap ((k:Int)+1)=((k+1:Nat):Int):=by rw[IntKind.wrap_i64];omega
     have hmem:=List.getElem_mem hlt;by_cases hm:0<=m
     ·rw[if_pos hm,<-Br5 hlt hm] at hr;have hrr: -1<=Me (parts e)[k] (d+1) m/\Me (parts e)[k] (d+1) m<=256:=by unfold Me;split<;>omega
      simp(disch:=omega) only[go_sem,↓reduceIte,e1,e2,e7,e8,hlt',hm,Cc,hfp,hwd,Int.toNat_natCast];refine(ih _ hmem _ (d+1) m (by have:=Po hmem;omega) (by omega) hm (by omega)).mono ?_;rintro _ H2 ⟨rfl,rfl⟩;simp(disch:=omega) only[go_sem,↓reduceIte,e1,e2,e7,e8];refine⟨(k+1,Me (parts e)[k] (d+1) m),_,Rd.refl _,(hI _ _ _).2 ?_,by dsimp only;omega⟩;simp(disch:=omega) only[go_sem,↓reduceIte,e1,e2,e7,e8,hwk];(repeat' apply And.intro)<;>(try first | rfl | assumption | omega)
     ·rw[if_neg hm] at hr;have hm2:m= -1:=by omega
      simp(disch:=omega) only[go_sem,↓reduceIte,e1,e2,e7,e8,hlt',hm];refine Rm.dropA r3 hr3 (Rm.refl ⟨?_,rfl⟩);rw[hr,hm2]
    ·have:k=(parts e).length:=by omega
     subst this;have hlt': ¬((parts e).length:Int)<((parts e).length:Int):=by omega
     simp(disch:=omega) only[go_sem,↓reduceIte,e1,e2,e7,e8,hlt'];refine Rm.dropA r3 hr3 (Rm.refl ⟨?_,rfl⟩);rw[hr,List.drop_length];split
     ·simp [Ag3,Ih];omega
     ·congr 2;omega
theorem It (G:Nat->DVal) (H:Bb) (e:Ex) (hb:Hu e<=100000000000):Bh Tryz.prog G 13 [.agg (dEx e)] H (Bt (.bool (Cp e)) H):=by
 refine Bc Tryz.func13 Tryz.call13 rfl (by kernel_rfl) ?_;simp(disch:=omega) only[go_sem,↓reduceIte,DVal.cells];intro r hr;dsimp only at hr;simp(disch:=omega) only[go_sem,↓reduceIte];refine(Cj3 G e _ 1 256 hb (by decide) (by decide) (by decide)).mono ?_;rintro _ H1 ⟨rfl,rfl⟩;simp(disch:=omega) only[go_sem,↓reduceIte];refine Rm.dropA r hr (Rm.refl ⟨?_,rfl⟩);have:(0<=Me e 1 256)↔(Ef 1 e=true/\Fa e<=256):=by
  unfold Me;split
  ·constructor
   ·intro _;exact⟨by simp_all,by omega⟩
   ·intro _;omega
  ·rename_i h
   constructor
   ·intro h2;omega
   ·rintro⟨h2,h3⟩;exact absurd ⟨h2,by omega⟩ h
 rw[Cp];cases hv:Ef 1 e with
 | true=>
  rw[hv] at this;simp [this]
 | false=>
  rw[hv] at this;simp [this]
end
end Go.Dl

-- Chapter 3: the reference: MayArgs, MayChoices, Size, Lines.
namespace Go.Dl
open Go Go.Proofs
set_option maxRecDepth 100000
section
variable {G:Nat->DVal} {H:Bb}
theorem Oi (G:Nat->DVal) (H:Bb) (l:List Ch) (hb:Jr l<=90000000000):Bh Tryz.prog G 166 [dCl l] H (Bt (.bool (Og l)) H):=by
 have hll:=Ho l;have hfl:=Bq Cu l;refine Bc Tryz.func166 Tryz.call166 rfl (by kernel_rfl) ?_;simp(disch:=omega) only[go_sem,↓reduceIte,dCl];refine(Np G _ l (by omega)).mono ?_;rintro _ H1 ⟨rfl,rfl⟩;cases h:Fh l with
 | false=>
  simp(disch:=omega) only[go_sem,↓reduceIte];exact Rm.refl ⟨by rw[Og,h,Bool.false_and],rfl⟩
 | true=>
  simp(disch:=omega) only[go_sem,↓reduceIte];obtain⟨I,hI⟩: ∃I:Nat->(Nat->DVal)->Bb->Prop,∀k env heap,I k env heap↔(env 0= .vslice (l.flatMap dCh) l.length/\env 3=dI k/\k<=l.length/\Og l=(l.drop k).all (fun c=>c.l.all Cp)/\heap=H1):=⟨_,fun _ _ _=>Iff.rfl⟩;refine Cn3.run I (fun k=>l.length-k) 0 ((hI _ _ _).2 ?_) ?_
  ·simp(disch:=omega) only[go_sem,↓reduceIte];(repeat' apply And.intro)<;>(try first | rfl | assumption | omega);rw[Og,h,Bool.true_and]
  ·intro k env heap hi;obtain⟨e0,e3,hk,hm,rfl⟩:=(hI _ _ _).1 hi;obtain⟨H2,hH2⟩: ∃H2,H2=heap:=⟨_,rfl⟩;subst hH2;by_cases hlt:k<l.length
   ·have hlt':(k:Int)<(l.length:Int):=by omega
    have hwk:IntKind.i64.wrap ((k:Int)+1)=((k+1:Nat):Int):=by rw[IntKind.wrap_i64];omega
    have gl:=Cy Cu l k hlt 1 (by decide);rw[An8] at gl;have hbm:=Is (List.getElem_mem hlt);rw[List.drop_eq_getElem_cons hlt,List.all_cons] at hm;obtain⟨c,hc⟩: ∃c,c=l[k]:=⟨_,rfl⟩;rw[<-hc] at gl hbm hm;have hbl:=Hd c.l;have hfx:=Bq Aa c.l;rw[Nb] at hbm;simp(disch:=omega) only[go_sem,↓reduceIte,e0,e3,hlt'];obtain⟨J,hJ⟩: ∃J:Nat->(Nat->DVal)->Bb->Prop,∀m env heap,J m env heap↔(env 0= .vslice (l.flatMap dCh) l.length/\env 3=dI k/\env 4=dI m/\m<=c.l.length/\Og l=((c.l.drop m).all Cp&&(l.drop (k+1)).all (fun c=>c.l.all Cp))/\heap=H2):=⟨_,fun _ _ _=>Iff.rfl⟩;refine Cn3.run J (fun m=>c.l.length-m) 0 ((hJ _ _ _).2 ?_) ?_
    ·simp(disch:=omega) only[go_sem,↓reduceIte,e0,e3];(repeat' apply And.intro)<;>(try first | rfl | assumption | omega)
    ·intro m env heap hi;obtain⟨e0,e3,e4,hmm,hma,rfl⟩:=(hJ _ _ _).1 hi;by_cases hml:m<c.l.length
     ·have hml':(m:Int)<(c.l.length:Int):=by omega
      have hwm:IntKind.i64.wrap ((m:Int)+1)=((m+1:Nat):Int):=by rw[IntKind.wrap_i64];omega
      have Cc:=Cm Aa c.l m hml;have hbx:=Ru (List.getElem_mem hml);rw[List.drop_eq_getElem_cons hml,List.all_cons] at hma;simp(disch:=omega) only[go_sem,↓reduceIte,e0,e3,e4,hlt',hfl,gl,hml',hfx,Cc,Int.toNat_natCast];refine(It G _ c.l[m] (by omega)).mono ?_;rintro _ H2 ⟨rfl,rfl⟩;cases hb1:Cp c.l[m] with
      | false=>
       simp(disch:=omega) only[go_sem,↓reduceIte,e0,e3,e4];exact Rm.refl ⟨by rw[hma,hb1];rfl,rfl⟩
      | true=>
       rw[hb1,Bool.true_and] at hma;simp(disch:=omega) only[go_sem,↓reduceIte,e0,e3,e4];refine⟨m+1,_,Rd.refl _,(hJ _ _ _).2 ?_,by omega⟩;simp(disch:=omega) only[go_sem,↓reduceIte,e0,e3,e4,hwm];(repeat' apply And.intro)<;>(try first | rfl | assumption | omega)
     ·have:m=c.l.length:=by omega
      subst this;rw[List.drop_length,List.all_nil,Bool.true_and] at hma;have hml': ¬(c.l.length:Int)<(c.l.length:Int):=by omega
      simp(disch:=omega) only[go_sem,↓reduceIte,e0,e3,e4,hlt',hfl,gl,hml',Int.toNat_natCast];refine⟨k+1,_,Rd.refl _,(hI _ _ _).2 ?_,by omega⟩;simp(disch:=omega) only[go_sem,↓reduceIte,e0,e3,e4,hwk];(repeat' apply And.intro)<;>(try first | rfl | assumption | omega)
   ·have:k=l.length:=by omega
    subst this;have hlt': ¬(l.length:Int)<(l.length:Int):=by omega
    simp(disch:=omega) only[go_sem,↓reduceIte,e0,e3,hlt'];exact Rm.refl ⟨by rw[hm,List.drop_length];rfl,rfl⟩
end
end Go.Dl

-- THE DATA LEVEL, PART N: a call that is put off to the end, and takes up a panic there.
namespace Go.Dl
open Go
set_option maxRecDepth 10000
section
variable {P:Program} {G:Nat->DVal}
theorem Ao2 {fn:Func} {args:List DVal} {H:Bb} {vs:List Value} {w:World} {T:List Deferred} {st:Bool} (hA:args.length<=fn.ntmps) (hv:Br w H args vs) (hH:Bw w H) (hG:GOk G w H):
  Sim G ⟨fn.ntmps,⟨w.heap.size,T,st⟩⟩ ⟨Iq args 0,H⟩ { tmps:=vs.toArray++Array.replicate (fn.ntmps-vs.toArray.size) undef,defers:=T } w:=by
 have hl:=hv.length;refine⟨by simp;omega,⟨[],rfl,List.nodup_nil,by simp⟩,fun i hi=> ?_,hH,hG,Nat.le_refl _⟩;have h0:=Wu args 0 i;rw[Nat.zero_add] at h0;show Rel w H (Iq args 0 i) _;rw[h0];by_cases hlt:i<args.length
 ·have h1:args[i]? =some (args.getD i Di):=by simp [List.getD,List.getElem?_eq_getElem hlt]
  obtain⟨x,hx,hr⟩:=hv.get h1;have:(vs.toArray++Array.replicate (fn.ntmps-vs.toArray.size) undef).getD i undef=x:=by
   have hlt':i<vs.length:=by omega
   rw[Array.getD_eq_getD_getElem?,Array.getElem?_append_left (by simpa using hlt')];simp [hx]
  rw[this];exact hr
 ·have h1:args.getD i Di=Di:=by simp [List.getD,List.getElem?_eq_none (Nat.le_of_not_lt hlt)]
  have:(vs.toArray++Array.replicate (fn.ntmps-vs.toArray.size) undef).getD i undef=undef:=by
   rw[Array.getD_eq_getD_getElem?,Array.getElem?_append_right (by simp;omega)];simp only[Array.getElem?_replicate];split<;>rfl
  rw[h1,this];exact Ov w H
def Xd (R:Bb->Prop):DExit->DS->Prop
 | .normal,s=>R s.heap
 | .ret,s=>R s.heap
 | _,_=>False
def Rv (t ty:Nat) (ps:String) (af:Array Edge):Oper:= { dst:=some t,op:= .call { callee:= .builtin .recover,args:= #[],argTypes:= #[] },type:=ty,pos:=ps,after:=af,guard:=none }
def Vm (t t' ty:Nat) (ps:String) (af:Array Edge):Oper:= { dst:=some t',op:= .assign (.tmp t),type:=ty,pos:=ps,after:=af,guard:=none }
theorem Pr {N:Fr} {s:DS} {a:Act} {w:World} (hS:Sim G N s a w) (h:N.base.still=true):a.defers=N.base.late:=by
 obtain⟨Ds,h1,_,h3⟩:=hS.defers;cases Ds with
 | nil=>exact h1
 | cons D Ds=>have:=(h3 D (by simp)).1.2;rw[h] at this;cases this
theorem Cj4 {n:Nat} {ops:Array Oper} {Q:Exit->Act->List Frame->World->Prop} {i:Nat} {rest:List Nat} {a:Act} {cs:List Frame} {w:World} {o:Oper} (ho:ops[i]? =some o) (hg:o.guard=none) (hr:(execOp a.eval o).run P w= .ok .recover w) (hc:recoverD cs=none)
  (h:wpOpsSIn Fence.wide n P ops Q rest (a.put o.dst .nilIface) cs w):wpOpsSIn Fence.wide n P ops Q (i::rest) a cs w:=by
 unfold wpOpsSIn;rw[ho];refine⟨fun _ _=>trivial, ?_⟩;rw[if_pos (by simp [Region.wanted,hg]),hr,hc];exact h
theorem Cw1 {n:Nat} {ops:Array Oper} {Q:Exit->Act->List Frame->World->Prop} {i:Nat} {rest:List Nat} {a:Act} {cs cs':List Frame} {w:World} {o:Oper} {v:Value} (ho:ops[i]? =some o) (hg:o.guard=none) (hr:(execOp a.eval o).run P w= .ok .recover w) (hc:recoverD cs=some (v,cs'))
  (h:wpOpsSIn Fence.wide n P ops Q rest (a.put o.dst v) cs' w):wpOpsSIn Fence.wide n P ops Q (i::rest) a cs w:=by
 unfold wpOpsSIn;rw[ho];refine⟨fun _ _=>trivial, ?_⟩;rw[if_pos (by simp [Region.wanted,hg]),hr,hc];exact h
theorem Bg0 {n:Nat} {ops:Array Oper} {Q:Exit->Act->List Frame->World->Prop} {i:Nat} {rest:List Nat} {a:Act} {cs:List Frame} {w:World} {o:Oper} {v:Value} (ho:ops[i]? =some o) (hg:o.guard=none) (hr:(execOp a.eval o).run P w= .ok (.value v) w)
  (h:wpOpsSIn Fence.wide n P ops Q rest (a.put o.dst v) cs w):wpOpsSIn Fence.wide n P ops Q (i::rest) a cs w:=by
 unfold wpOpsSIn;rw[ho];refine⟨fun _ _=>trivial, ?_⟩;rw[if_pos (by simp [Region.wanted,hg]),hr];exact h
theorem Bg1 {f:FuncId} {fn:Func} {id:Nat} {t1 t2 y1 y2:Nat} {p1 p2:String} {af1 af2:Array Edge} {c:Code} {caps:List DVal} {H:Bb} {R:Bb->Prop} {n:Nat} {vs:List Value} {w:World} {u:FrameMode} {x:DVal}
  (hf:P.funcs[f]? =some fn) (hb:fn.body=some (.seq (.region id #[Rv t1 y1 p1 af1,Vm t1 t2 y2 p2 af2] false) c))
  (hk:(decide (caps.length<=fn.ntmps)&&El fn.ntmps c&&Mk c&&decide (t1<fn.ntmps)&&decide (t2<fn.ntmps))=true) (hres:fn.results= #[])
  (hv:Br w H caps vs) (hH:Bw w H) (hG:GOk G w H)
  (hu:(u= .returning/\x= .nilIface)\/ ∃v,u= .panicking [{ v,recovered:=false }]/\Rel w H x v)
  (h:dwp P G fn.ntmps c (Xd R) ⟨upd (upd (Iq caps 0) t1 x) t2 x,H⟩):
  CallsDIn Fence.wide n P f vs.toArray u w fun e u' w'=> ∃v H',e= .returned v/\settle u'= .returning/\R H'/\Bw w' H'/\Ext H w H' w':=by
 simp only[Bool.and_eq_true,decide_eq_true_eq] at hk;obtain⟨⟨⟨⟨hA,hok⟩,hfl⟩,ht1⟩,ht2⟩:=hk;refine callsDIn_of_wpSIn hf hb trivial fun c₀ cs hm=>wpSIn_seq (wpSIn_region ?_);have hS:=Ao2 (G:=G) (T:= []) (st:=true) hA hv hH hG;have key: ∀(v:Value) (u':FrameMode),settle u'= .returning->Rel w H x v->
   c.wpSIn Fence.wide n P (bodyPostS P fn c₀ cs fun e u' w'=> ∃v H',e= .returned v/\settle u'= .returning/\R H'/\Bw w' H'/\Ext H w H' w')
    (({ tmps:=vs.toArray++Array.replicate (fn.ntmps-vs.toArray.size) undef,defers:= [] }:Act).put (some t1) v |>.put (some t2) v) ({ c₀ with mode:=u' }::cs) w:=by
  intro v u' hs hx;refine wpSIn_of_wpIn rfl ?_;have hS1:=(hS.put (dst:=some t1) (by simpa [Cq] using ht1) hx).put (dst:=some t2) (by simpa [Cq] using ht2) hx;refine wpIn_mono (Eu (.inl rfl) c hok (.inr hfl) _ _ h _ w hS1) ?_;rintro e a' w1 ⟨e',s',hQ,hX,hS',hE⟩;have hd:=Pr hS' rfl;have hr:(results fn a'.tmps).run P w1= .ok (.tuple #[]) w1:=by
   unfold results;rw[hres];simp [Sem.run_pure]
  cases hX with
  | normal=>exact⟨hd,u',rfl,_,hr,_,s'.heap,rfl,hs,hQ,hS'.heap,hE⟩
  | ret=>exact⟨hd,u',rfl,_,hr,_,s'.heap,rfl,hs,hQ,hS'.heap,hE⟩
  | exit id=>exact hQ.elim
  | goto l=>exact hQ.elim
  | panic d v hv=>exact hQ.elim
 have hrange:List.range (#[Rv t1 y1 p1 af1,Vm t1 t2 y2 p2 af2]:Array Oper).size= [0,1]:=rfl;have e0:(#[Rv t1 y1 p1 af1,Vm t1 t2 y2 p2 af2]:Array Oper)[0]? =some (Rv t1 y1 p1 af1):=rfl;have e1:(#[Rv t1 y1 p1 af1,Vm t1 t2 y2 p2 af2]:Array Oper)[1]? =some (Vm t1 t2 y2 p2 af2):=rfl;have r0: ∀ρ w,(execOp ρ (Rv t1 y1 p1 af1)).run P w= .ok .recover w:=fun ρ w=>by
  simp [execOp,Rv,resolve,invoke,builtin,Sem.run_pure]
 have r1: ∀ρ w,(execOp ρ (Vm t1 t2 y2 p2 af2)).run P w= .ok (.value (ρ (.tmp t1))) w:=fun ρ w=>by
  simp [execOp,Vm,Sem.run_pure]
 have Cc: ∀v,(({ tmps:=vs.toArray++Array.replicate (fn.ntmps-vs.toArray.size) undef,defers:= [] }:Act).put (some t1) v).eval (.tmp t1)=v:=fun v=>by
  have hsz:=hS.size;dsimp only at hsz;simp [Act.eval,Act.put,Array.getD,hsz,ht1];intro hle;simp at hsz;omega
 rw[hrange];rcases hu with⟨rfl,rfl⟩ | ⟨v,rfl,hx⟩
 ·have hr:recoverD (c₀::cs)=none:=by simp [recoverD,hm]
  have hc: { c₀ with mode:= .returning }=c₀:=by cases c₀;simp at hm;simp [hm]
  refine Cj4 e0 rfl (r0 _ _) hr (Bg0 e1 rfl (r1 _ _) ?_);rw[show(Rv t1 y1 p1 af1).dst=some t1 from rfl,Cc];have:=key .nilIface .returning rfl (by simp [Rel]);rw[hc] at this;exact this
 ·have hr:recoverD (c₀::cs)=some (v,{ c₀ with mode:= .panicking [{ v,recovered:=true }] }::cs):=by simp [recoverD,hm]
  refine Cw1 e0 rfl (r0 _ _) hr (Bg0 e1 rfl (r1 _ _) ?_);rw[show(Rv t1 y1 p1 af1).dst=some t1 from rfl,Cc];exact key v _ rfl hx
theorem Bg2 (env:Nat->DVal): ∀l:List Operand,(Ei G env l).length=l.length
 | []=>rfl
 | x::l=>by rw[Ei,List.length_cons,Bg2 env l,List.length_cons]
def Bg3 (d:Nat) (g:FuncId) (caps:Array Operand) (ty:Nat) (ps:String) (af:Array Edge):Oper:= { dst:=some d,op:= .makeFunc (.func g) #[] caps,type:=ty,pos:=ps,after:=af,guard:=none }
def Cj5 (d ty:Nat) (ps:String) (af:Array Edge):Oper:= { dst:=none,op:= .defer { callee:= .value (.tmp d),args:= #[],argTypes:= #[] },type:=ty,pos:=ps,after:=af,guard:=none }
def Cw2 (P:Program) (G:Nat->DVal) (rs:List ResultVar) (R:DEnd->Bb->Prop) (m t1 t2:Nat) (cc:Code) (caps:List DVal):DExit->DS->Prop
 | .normal,s=>dwp P G m cc (Xd fun H'=>Xx R H' (Fw (Hw P ⟨s.env,H'⟩ rs))) ⟨upd (upd (Iq caps 0) t1 .nilIface) t2 .nilIface,s.heap⟩
 | .ret,s=>dwp P G m cc (Xd fun H'=>Xx R H' (Fw (Hw P ⟨s.env,H'⟩ rs))) ⟨upd (upd (Iq caps 0) t1 .nilIface) t2 .nilIface,s.heap⟩
 | .panic v,s=>dwp P G m cc (Xd fun H'=>Xx R H' (Fw (Hw P ⟨s.env,H'⟩ rs))) ⟨upd (upd (Iq caps 0) t1 v) t2 v,s.heap⟩
 | _,_=>False
theorem Bg4 {f g:FuncId} {fn fg:Func} {A1 A2 C cc:Code} {id id2 d t1 t2 y1 y2 y3 y4:Nat} {p1 p2 p3 p4:String} {af1 af2 af3 af4:Array Edge} {caps:Array Operand} {args:List DVal} {H:Bb} {R:DEnd->Bb->Prop}
  (hf:P.funcs[f]? =some fn) (hg:P.funcs[g]? =some fg) (hcall: ∀vs w,(callFunc f vs).run P w= .ok (.enter f vs) w) (hcallg: ∀vs w,(callFunc g vs).run P w= .ok (.enter g vs) w)
  (hb:fn.body=some (.seq A1 (.seq A2 (.seq (.region id #[Bg3 d g caps y1 p1 af1,Cj5 d y2 p2 af2] false) C))))
  (hbg:fg.body=some (.seq (.region id2 #[Rv t1 y3 p3 af3,Vm t1 t2 y4 p4 af4] false) cc))
  (hk:(decide (args.length<=fn.ntmps)&&(El fn.ntmps A1&&Mk A1)&&(El fn.ntmps A2&&Mk A2)&&(El fn.ntmps C&&Mk C)&&decide (d<fn.ntmps)&&caps.toList.all (Cd fn.ntmps)&&fn.results.toList.all (Xy fn.ntmps))=true)
  (hkg:(decide (caps.toList.length<=fg.ntmps)&&El fg.ntmps cc&&Mk cc&&decide (t1<fg.ntmps)&&decide (t2<fg.ntmps))=true) (hrg:fg.results= #[])
  (h:dwp P G fn.ntmps A1 (Ff (fun s=>dwp P G fn.ntmps A2 (Ff (fun s1=>dwp P G fn.ntmps C (Cw2 P G fn.results.toList R fg.ntmps t1 t2 cc (Ei G s1.env caps.toList)) ⟨upd s1.env d (.func (.func g) [] (Ei G s1.env caps.toList)),s1.heap⟩) fun _ _=>False) s) fun _ _=>False) ⟨Iq args 0,H⟩):Bh P G f args H R:=by
 simp only[Bool.and_eq_true,decide_eq_true_eq] at hk;obtain⟨⟨⟨⟨⟨⟨hA,hok1,hfl1⟩,hok2,hfl2⟩,hok3,hfl3⟩,hd⟩,hcp⟩,hres⟩:=hk;refine⟨hcall,fun vs w hv hH hG=> ?_⟩;refine(callsIn_wide (n:=0)).1 (callsIn_of_wp_marks hf hb trivial ?_);have hS:=Ao2 (G:=G) (T:= []) (st:=true) hA hv hH hG;refine wpIn_seq (wpIn_mono (Eu (.inl rfl) A1 hok1 (.inr hfl1) _ _ h _ w hS) ?_);rintro e a0 w0 ⟨e',s0,hQ,hX,hS0,hE0⟩;cases hX<;>first | exact hQ.elim | skip
 refine wpIn_seq (wpIn_mono (Eu (.inl rfl) A2 hok2 (.inr hfl2) _ _ hQ _ w0 hS0) ?_);rintro e a1 w1 ⟨e',s1,hQ1,hX,hS1,hE1⟩;cases hX<;>first | exact hQ1.elim | skip
 have hE1:=hE0.trans hE1;have hd1:a1.defers= []:=Pr hS1 rfl;have hrc:=Lv hS1 hcp;obtain⟨cv,hcv⟩: ∃cv:List Value,cv=caps.toList.map a1.eval:=⟨_,rfl⟩;have hcv2:caps.map a1.eval=cv.toArray:=by rw[hcv,<-Array.toList_map]
 rw[<-hcv] at hrc;have hfv:Rel w1 s1.heap (.func (.func g) [] (Ei G s1.env caps.toList)) (.func (.func g) #[] cv.toArray):=by
  simp only[Rel];refine⟨#[],cv.toArray,rfl, ?_, ?_⟩
  ·simp [Br]
  ·simpa using hrc
 obtain⟨D,hD⟩: ∃D:Deferred,D= { target:= .fn (.func g) cv.toArray,args:= #[] }:=⟨_,rfl⟩;have hS2:Sim G ⟨fn.ntmps,⟨w.heap.size,[D],true⟩⟩ ⟨upd s1.env d (.func (.func g) [] (Ei G s1.env caps.toList)),s1.heap⟩ ({ (a1.put (some d) (.func (.func g) #[] cv.toArray)) with defers:= [D] }) w1:=by
  have:=hS1.put (dst:=some d) (by simpa [Cq] using hd) hfv;exact⟨this.size,⟨[],rfl,List.nodup_nil,by simp⟩,this.tmps,this.heap,this.glob,this.base⟩
 refine wpIn_seq ?_;have hreg: #[Bg3 d g caps y1 p1 af1,Cj5 d y2 p2 af2]= [Bg3 d g caps y1 p1 af1,Cj5 d y2 p2 af2].toArray:=rfl;rw[hreg];refine wpIn_region_lit (wpListIn_plain rfl fun K hK=> ?_);have rm:(execOp a1.eval (Bg3 d g caps y1 p1 af1)).run P w1= .ok (.value (.func (.func g) #[] cv.toArray)) w1:=by
  simp [execOp,Bg3,Instr.makeFunc,Sem.run_pure,hcv2]
 have hsz:=hS1.size;have Cc:(a1.put (some d) (.func (.func g) #[] cv.toArray)).eval (.tmp d)= .func (.func g) #[] cv.toArray:=by
  simp [Act.eval,Act.put,Array.getD,hsz,hd]
 have rd:(execOp (a1.put (some d) (.func (.func g) #[] cv.toArray)).eval (Cj5 d y2 p2 af2)).run P w1= .ok (.defer D) w1:=by
  simp [execOp,Cj5,resolve,Cc,Deferred.ofValue,Sem.run_pure,hD]
 unfold Oper.wpIn;refine⟨fun _ _=>trivial, ?_⟩;rw[Oper.semAt_eq _ _ _ (by intro c;simp [Bg3]),rm];refine hK _ _ (wpListIn_plain rfl fun K2 hK2=> ?_);unfold Oper.wpIn;refine⟨fun _ _=>trivial, ?_⟩;rw[show Fence.wide.round=none from rfl,Oper.semAt_none,show(Bg3 d g caps y1 p1 af1).dst=some d from rfl,rd];refine hK2 _ _ (wpListIn_nil ?_);have hdp:(a1.put (some d) (.func (.func g) #[] cv.toArray)).defers= []:=hd1;rw[hdp];show C.wpIn _ _ _ _ _ _;refine wpIn_mono (Eu (.inl rfl) C hok3 (.inr hfl3) _ _ hQ1 _ w1 hS2) ?_;rintro e a3 w3 ⟨e',s3,hQ3,hX3,hS3,hE3⟩;have hE3':=hE1.trans hE3;have hd3:a3.defers= [D]:=Pr hS3 rfl;have hrc3:Br w3 s3.heap (Ei G s1.env caps.toList) cv:=hrc.lasts hE3.lasts;have hinv:(invoke D.target D.args).run P w3= .ok (.enter g cv.toArray) w3:=by
  rw[hD];simp [invoke,hcallg]
 have key: ∀(u:FrameMode) (x:DVal),u≠ .run->((u= .returning/\x= .nilIface)\/ ∃v,u= .panicking [{ v,recovered:=false }]/\Rel w3 s3.heap x v)->
   dwp P G fg.ntmps cc (Xd fun H'=>Xx R H' (Fw (Hw P ⟨s3.env,H'⟩ fn.results.toList))) ⟨upd (upd (Iq (Ei G s1.env caps.toList) 0) t1 x) t2 x,s3.heap⟩->
   LeavesInM Fence.wide 0 P fn a3.tmps (fun e w'=> ∃e' H',R e' H'/\RelE w' H' e' e/\Bw w' H'/\Ext H w H' w') a3.defers u w3:=by
  intro u x hu0 hu hc;rw[hd3];refine⟨hu0, .inr ⟨(fun h=>by cases h), .func g,cv.toArray,g,cv.toArray,(by rw[hD]),hinv,fun _ _=>trivial, ?_⟩⟩;refine(Bg1 hg hbg (by rw[Bg2];exact(by simp only[Bool.and_eq_true,decide_eq_true_eq] at hkg⊢;exact hkg)) hrg hrc3 hS3.heap hS3.glob hu hc).mono ?_;rintro e4 u4 w4 ⟨v4,H4,rfl,hset,hfin,hH4,hE4⟩;dsimp only;rw[hset];have hS4:=hS3.ext hE4 hH4;cases hdt:Fw (Hw P ⟨s3.env,H4⟩ fn.results.toList) with
  | none=>rw[hdt] at hfin;exact hfin.elim
  | some v=>
   rw[hdt] at hfin;obtain⟨x,hx,hr⟩:=Xz (P:=P) hS4 hres hdt;obtain⟨v',H',hgg,hR⟩:=hfin;obtain⟨g1,g2,g3⟩:=hgg w4 hS4.heap;exact⟨x,hx, .ret v',H',hR, .ret v' x (g3 x hr),g1,(hE3'.trans hE4).trans ⟨rfl,rfl,rfl,Nat.le_refl _,fun _ _ _=>rfl,fun b hb=> .inl (g2 b hb),fun _ _=>rfl,fun _ _ _=>rfl⟩⟩
 cases hX3 with
 | normal=>exact key .returning .nilIface (by simp) (.inl ⟨rfl,rfl⟩) hQ3
 | ret=>exact key .returning .nilIface (by simp) (.inl ⟨rfl,rfl⟩) hQ3
 | exit id=>exact hQ3.elim
 | goto l=>exact hQ3.elim
 | panic d v hv=>exact key _ d (by simp) (.inr ⟨v,rfl,hv⟩) hQ3
end
attribute [go_sem] Xd.eq_1 Xd.eq_2 Cw2.eq_1 Cw2.eq_2 Cw2.eq_3
end Go.Dl

-- Chapter 3: the package's reader: tokens, words.
namespace Go.Dl
open Go Go.Proofs
set_option maxRecDepth 100000
section
variable {G:Nat->DVal} {H0 H:Bb} {r k:Nat} {l:List Tok}
def dW (ws:List (List UInt8)):DVal:= .vslice (ws.map .str) ws.length
end
end Go.Dl

-- Chapter 3: the operators' words; operators (printed by gen_uh.py).
namespace Go.Dl
open Go Go.Proofs
set_option maxRecDepth 100000
section
variable {G:Nat->DVal} {H0 H:Bb} {r k:Nat} {l:List Tok}
theorem Ak {x y:List DVal} (hx:x.length=9) (hy:y.length=9):
  (if 9<=(repl 2 [DVal.int .u8 0,DVal.int .u8 0,DVal.int .i64 0,DVal.str [],DVal.nilSlice,DVal.nilSlice,DVal.int .i64 0,DVal.int .i64 0,DVal.int .i64 0]).length then
   if 18<=(x++List.drop 9 (repl 2 [DVal.int .u8 0,DVal.int .u8 0,DVal.int .i64 0,DVal.str [],DVal.nilSlice,DVal.nilSlice,DVal.int .i64 0,DVal.int .i64 0,DVal.int .i64 0])).length then
    some (List.take 9 (x++List.drop 9 (repl 2 [DVal.int .u8 0,DVal.int .u8 0,DVal.int .i64 0,DVal.str [],DVal.nilSlice,DVal.nilSlice,DVal.int .i64 0,DVal.int .i64 0,DVal.int .i64 0]))++y++
     List.drop 18 (x++List.drop 9 (repl 2 [DVal.int .u8 0,DVal.int .u8 0,DVal.int .i64 0,DVal.str [],DVal.nilSlice,DVal.nilSlice,DVal.int .i64 0,DVal.int .i64 0,DVal.int .i64 0])))
   else none
  else none)=some (x++y):=by
 have e: ∀u:List DVal,repl 2 u=u++u:=fun u=>by simp [repl]
 rw[e];rw[if_pos (by simp),if_pos (by simp [hx]),List.take_left' hx,List.drop_eq_nil_of_le (by simp [hx]),List.append_nil]
end
end Go.Dl

-- Chapter 3: the package's reader: factors, terms, simples.
namespace Go.Dl
open Go Go.Proofs
set_option maxRecDepth 100000
section
variable {G:Nat->DVal} {H0 H:Bb} {r k:Nat} {l:List Tok}
theorem Aj {x:List DVal} (hx:x.length=9):
  (if 9<=(repl 1 [DVal.int .u8 0,DVal.int .u8 0,DVal.int .i64 0,DVal.str [],DVal.nilSlice,DVal.nilSlice,DVal.int .i64 0,DVal.int .i64 0,DVal.int .i64 0]).length then
   some (x++List.drop 9 (repl 1 [DVal.int .u8 0,DVal.int .u8 0,DVal.int .i64 0,DVal.str [],DVal.nilSlice,DVal.nilSlice,DVal.int .i64 0,DVal.int .i64 0,DVal.int .i64 0]))
  else none)=some x:=by
 have e: ∀u:List DVal,repl 1 u=u:=fun u=>by simp [repl]
 rw[e,if_pos (by simp),List.drop_eq_nil_of_le (by simp),List.append_nil]
end
end Go.Dl

-- Chapter 3: expressions: the plain laws, part 4: with enough fuel reading comes to an answer; then it needs no fuel.
namespace Go.Dl
open Go
set_option maxRecDepth 10000
section
variable {l:List Tok}
def Cw (l:List Tok):Nat:=8*l.length+20
def Q (l:List Tok):PS:=P l (Cw l)
end
end Go.Dl

-- Chapter 3: expressions: the plain laws, part 10: what reading asks of the first token, and of the one behind.
namespace Go.Dl
open Go
set_option maxRecDepth 10000
def w5:List (List UInt8):= [Dt5,Be5,Cv1]
def w3:List (List UInt8):=w5++ [[42],[47],Ea4,Ea5]
def w2:List (List UInt8):=w3++ [[43],[45]]
def w2d:List (List UInt8):=w2++ [Cv0]
def w1:List (List UInt8):=w2d++ [[61],[47,61],[60],[60,61],[62],[62,61],wIn,Dt3]
def w0:List (List UInt8):=w1++ [Dt4,wOr,Ea3]
def nof (ws:List (List UInt8)) (t:Tok):Prop:= ∀s∈ws,¬(t.kind=Cv3 s/\t.text=s)
instance (ws:List (List UInt8)) (t:Tok):Decidable (nof ws t):=inferInstanceAs (Decidable (∀s∈ws,¬(t.kind=Cv3 s/\t.text=s)))
section
end
end Go.Dl

-- Chapter 3: expressions: the plain laws, part 11: reading the tokens of an expression.
namespace Go.Dl
open Go
set_option maxRecDepth 10000
def At (l:List Tok) (k:Nat) (ts:List Tok):Prop:=k<=l.length/\ts<+:l.drop k
section
section
end
end
end Go.Dl

-- Chapter 3: expressions: the plain laws, part 14: the tokens of an expression are read as that expression: operators, membership; all.
namespace Go.Dl
open Go
set_option maxRecDepth 10000
section
end
theorem Ps {d:Nat} {e:Ex} (h:Ef d e=true):Bf e=true/\ ∀x∈parts e,Ef (d+1) x=true:=by
 rw[Of,Bool.and_eq_true,Bool.and_eq_true,List.all_eq_true] at h;exact⟨h.1.2,h.2⟩
end Go.Dl

-- Chapter 4: forms: the plain laws, part 1: what is valid, what is the same, tokens and lines.
namespace Go.Dl
open Go
set_option maxRecDepth 10000
structure Ind where
 name:Ex
 lo:Ex
 hi:Ex
 value:Ex
structure Dis where
 name:Ex
 lo:Ex
 hi:Ex
structure Par where
 names:List (List UInt8)
 mode:Int
 type:Ex
 e:Ex
 line:Int
structure Asp where
 name:List UInt8
 e:Ex
structure Cmp where
 names:List (List UInt8)
 sub:Ind
 e:Ex
 line:Int
structure Arm where
 c:List Ch
 comps:List Cmp
structure Typ where
 kind:Int
 names:List (List UInt8)
 lo:Ex
 hi:Ex
 sub:Ind
 disc:Dis
 comps:List Cmp
 var:List UInt8
 arms:List Arm
 limited:Bool
def noE (e:Ex):Bool:=Ji e ex0
def Td:Nat->Ex->Bool
 | 0,_=>false
 | n+1,e=>if e.kind=4 then Td n (e.l.getD 0 ex0) else decide (e.kind=3)
def Hs (e:Ex):Bool:=Cp e&&Td (Fa e) e
def Ce (s:Ind):Bool:=
 Hs s.name&&(if noE s.value then noE s.lo&&noE s.hi || Cp s.lo&&Cp s.hi else noE s.lo&&noE s.hi&&Cp s.value)
def Fd (d:Dis):Bool:=
 if noE d.lo&&noE d.hi then Hs d.name || decide (d.name.kind=6)&&Cp d.name else Cp d.lo&&Cp d.hi&&(noE d.name || Hs d.name)
def Cs (l:List (List UInt8)) (most:Nat):Bool:=l.all Gk&&decide (1<=l.length)&&decide (l.length<=most)
def He (e:Ex):Bool:=noE e || Cp e
def Ge (p:Par):Bool:=Cs p.names 8&&Hs p.type&&He p.e&&decide (1<=p.mode)&&decide (p.mode<=3)&&(decide (p.mode=1) || noE p.e)
def Rw (l:List Par):Nat:=(l.map fun p=>p.names.length).sum
def Jl (l:List Par):Bool:=l.all Ge&&decide (Rw l<=8)
def Rx (a:Asp):Bool:=Gk a.name&&Cp a.e
def Pt (l:List Asp):Bool:=l.all Rx&&decide (l.length<=8)
def Gf (c:Cmp):Bool:=Cs c.names 8&&Ce c.sub&&He c.e
def Dk (l:List Cmp):Nat:=(l.map fun c=>c.names.length).sum
def St (l:List Cmp):Bool:=l.all Gf&&decide (Dk l<=32)
def Fq (a:Arm):Bool:=a.comps.all Gf&&Og a.c
def Mf (l:List Arm):Nat:=(l.map fun a=>Dk a.comps).sum
def Gg (t:Typ):Bool:=
 t.comps.all Gf&&decide ((t.var= [])↔(t.arms.length=0))&&decide (t.arms.length<=16)&&(decide (t.var= []) || Gk t.var)&&t.arms.all Fq&&decide (Dk t.comps+Mf t.arms<=32)
def Df (s:Ind):Bool:=noE s.name&&noE s.lo&&noE s.hi&&noE s.value
def Cn (d:Dis):Bool:=noE d.name&&noE d.lo&&noE d.hi
def Bd (t:Typ):Bool:=decide (t.comps.length=0)&&decide (t.var= [])&&decide (t.arms.length=0)
def Bg (t:Typ):Bool:=noE t.lo&&noE t.hi
def Be (t:Typ):Bool:=decide (t.names.length=0)
def Ba (t:Typ):Bool:=
 if t.kind=1 then Cs t.names 64&&Bg t&&Df t.sub&&Cn t.disc&&Bd t&&!t.limited
 else if t.kind=2 then Be t&&(Cp t.lo&&Cp t.hi)&&Df t.sub&&Cn t.disc&&Bd t&&!t.limited
 else if t.kind=3\/t.kind=6 then Be t&&Bg t&&Ce t.sub&&Cn t.disc&&Bd t&&!t.limited
 else if t.kind=4 then Be t&&Bg t&&Ce t.sub&&Fd t.disc&&Bd t&&!t.limited
 else if t.kind=5 then Be t&&Bg t&&Df t.sub&&Cn t.disc&&Gg t&&!t.limited
 else decide (t.kind=7)&&Be t&&Bg t&&Df t.sub&&Cn t.disc&&Bd t
end Go.Dl

-- Chapter 3: the law's helpers.
namespace Go.Dl
open Go Go.Proofs
set_option maxRecDepth 100000
theorem Bh.monoR {P:Program} {G:Nat->DVal} {f:FuncId} {args:List DVal} {H H2:Bb} {v:DVal} {R:DEnd->Bb->Prop} (h:Bh P G f args H (Bt v H2)) (k:R (.ret v) H2):Bh P G f args H R:=h.mono (by rintro _ _ ⟨rfl,rfl⟩;exact k)
section
end
end Go.Dl

-- Chapter 3: awake (printed by gen_v8.py).
namespace Go.Dl
open Go Go.Proofs
set_option maxRecDepth 100000
theorem Di8 (c:List Ch) (e:Ex):dAs (.mk c e)= .vslice (c.flatMap dCh) c.length::dEx e:=Ae4 _
section
end
end Go.Dl

-- Chapter 4: forms as data of the program.
namespace Go.Dl
open Go Go.Proofs
set_option maxRecDepth 100000
def Fb (s:Ind):List DVal:=dEx s.name++(dEx s.lo++(dEx s.hi++dEx s.value))
def Gh (d:Dis):List DVal:=dEx d.name++(dEx d.lo++dEx d.hi)
def Iy (p:Par):List DVal:=dW p.names:: .int .u8 p.mode::(dEx p.type++(dEx p.e++ [dI p.line]))
def Qt (a:Asp):List DVal:= .str a.name::dEx a.e
def Kg (c:Cmp):List DVal:=dW c.names::(Fb c.sub++(dEx c.e++ [dI c.line]))
def Ry (l:List Par):DVal:= .vslice (l.flatMap Iy) l.length
def Qj (l:List Asp):DVal:= .vslice (l.flatMap Qt) l.length
def Bk (l:List Cmp):DVal:= .vslice (l.flatMap Kg) l.length
def Zn (a:Arm):List DVal:= [dCl a.c,Bk a.comps]
def Bo (l:List Arm):DVal:= .vslice (l.flatMap Zn) l.length
def Dr (t:Typ):List DVal:= .int .u8 t.kind::dW t.names::(dEx t.lo++(dEx t.hi++(Fb t.sub++(Gh t.disc++ [Bk t.comps, .str t.var,Bo t.arms, .bool t.limited]))))
structure Fms where
 e:Ex
 s:Ind
 d:Dis
 p:List Par
 a:List Asp
 c:List Cmp
 t:Typ
def Mm (x:Fms):List DVal:=dEx x.e++(Fb x.s++(Gh x.d++(Ry x.p::Qj x.a::Bk x.c::Dr x.t)))
theorem Bl (s:Ind):(Fb s).length=36:=by simp [Fb,Aa]
theorem Bs (s:Dis):(Gh s).length=27:=by simp [Gh,Aa]
theorem Ck (s:Par):(Iy s).length=21:=by simp [Iy,Aa]
theorem Hf (s:Asp):(Qt s).length=10:=by simp [Qt,Aa]
theorem Ea (s:Cmp):(Kg s).length=47:=by simp [Kg,Aa,Bl]
theorem Dm (s:Arm):(Zn s).length=2:=rfl
theorem Ab (s:Typ):(Dr s).length=87:=by simp [Dr,Aa,Bl,Bs]
theorem Ee (s:Fms):(Mm s).length=162:=by simp [Mm,Aa,Bl,Bs,Ab]
theorem Vn (s:Ind):((Fb s).all fun x=>x.one)=true:=by simp [Fb,List.all_append,Jj]
theorem Vo (s:Dis):((Gh s).all fun x=>x.one)=true:=by simp [Gh,List.all_append,Jj]
theorem Cw3 (s:Par):((Iy s).all fun x=>x.one)=true:=by simp only[Iy,List.all_cons,List.all_append,Jj,Vn,Vo,List.all_nil,Bool.and_true,Bool.true_and];rfl
theorem Cw4 (s:Cmp):((Kg s).all fun x=>x.one)=true:=by simp only[Kg,List.all_cons,List.all_append,Jj,Vn,Vo,List.all_nil,Bool.and_true,Bool.true_and];rfl
theorem Cw5 (s:Arm):((Zn s).all fun x=>x.one)=true:=by simp only[Zn,List.all_cons,List.all_append,Jj,Vn,Vo,List.all_nil,Bool.and_true,Bool.true_and];rfl
theorem Du4 (s:Par):(Iy s).take 21=Iy s:=by rw[<-Ck s,List.take_length]
theorem Du5 (s:Cmp):(Kg s).take 47=Kg s:=by rw[<-Ea s,List.take_length]
theorem Du6 (s:Typ):(Dr s).take 87=Dr s:=by rw[<-Ab s,List.take_length]
attribute [go_sem] Du4 Du5 Du6 Bl Bs Ck Hf Ea Dm Ab Vn Vo Cw3 Cw4 Cw5
def Dn (n:Nat) (e:Ex):Prop:=Hu e<=n/\okE e
def Ys (n:Nat) (l:List (List UInt8)):Prop:=l.length<=n/\ ∀s∈l,s.length<=9223372036854775807
def Vp (n:Nat) (s:Ind):Prop:=Dn n s.name/\Dn n s.lo/\Dn n s.hi/\Dn n s.value
def Yt (n:Nat) (s:Dis):Prop:=Dn n s.name/\Dn n s.lo/\Dn n s.hi
def Yu (n:Nat) (p:Par):Prop:=Ys n p.names/\Dn n p.type/\Dn n p.e
def Yv (n:Nat) (a:Asp):Prop:=a.name.length<=9223372036854775807/\Dn n a.e
def Ng (n:Nat) (c:Cmp):Prop:=Ys n c.names/\Vp n c.sub/\Dn n c.e
def Ht {α:Type} (f:Nat->α->Prop) (n:Nat) (l:List α):Prop:=l.length<=n/\ ∀x∈l,f n x
def Br6 (n:Nat) (l:List Ch):Prop:=Jr l<=n/\Ak8 l
def Bg5 (n:Nat) (a:Arm):Prop:=Br6 n a.c/\Ht Ng n a.comps
def Nh (n:Nat) (t:Typ):Prop:=Ys n t.names/\Dn n t.lo/\Dn n t.hi/\Vp n t.sub/\Yt n t.disc/\Ht Ng n t.comps/\(t.var.length<=9223372036854775807/\0<=t.kind/\t.kind<=255)/\Ht Bg5 n t.arms
def Bx9 (n:Nat) (x:Fms):Prop:=Dn n x.e/\Vp n x.s/\Yt n x.d/\Ht Yu n x.p/\Ht Yv n x.a/\Ht Ng n x.c/\Nh n x.t
section
variable {n m:Nat}
theorem Dn.up {e:Ex} (h:Dn n e) (hm:n<=m):Dn m e:=⟨Nat.le_trans h.1 hm,h.2⟩
theorem Ys.up {l:List (List UInt8)} (h:Ys n l) (hm:n<=m):Ys m l:=⟨Nat.le_trans h.1 hm,h.2⟩
theorem Vp.up {s:Ind} (h:Vp n s) (hm:n<=m):Vp m s:=⟨h.1.up hm,h.2.1.up hm,h.2.2.1.up hm,h.2.2.2.up hm⟩
theorem Yt.up {s:Dis} (h:Yt n s) (hm:n<=m):Yt m s:=⟨h.1.up hm,h.2.1.up hm,h.2.2.up hm⟩
theorem Yu.up {s:Par} (h:Yu n s) (hm:n<=m):Yu m s:=⟨h.1.up hm,h.2.1.up hm,h.2.2.up hm⟩
theorem Yv.up {s:Asp} (h:Yv n s) (hm:n<=m):Yv m s:=⟨h.1,h.2.up hm⟩
theorem Ng.up {s:Cmp} (h:Ng n s) (hm:n<=m):Ng m s:=⟨h.1.up hm,h.2.1.up hm,h.2.2.up hm⟩
theorem Ht.up {α:Type} {f:Nat->α->Prop} {l:List α} (h:Ht f n l) (hf: ∀(n m:Nat) (x:α),f n x->n<=m->f m x) (hm:n<=m):Ht f m l:=⟨Nat.le_trans h.1 hm,fun x hx=>hf _ _ _ (h.2 x hx) hm⟩
theorem Br6.up {l:List Ch} (h:Br6 n l) (hm:n<=m):Br6 m l:=⟨Nat.le_trans h.1 hm,h.2⟩
theorem Bg5.up {s:Arm} (h:Bg5 n s) (hm:n<=m):Bg5 m s:=⟨h.1.up hm,h.2.up (fun _ _ _=>Ng.up) hm⟩
theorem Nh.up {t:Typ} (h:Nh n t) (hm:n<=m):Nh m t:=
 ⟨h.1.up hm,h.2.1.up hm,h.2.2.1.up hm,h.2.2.2.1.up hm,h.2.2.2.2.1.up hm,h.2.2.2.2.2.1.up (fun _ _ _=>Ng.up) hm,h.2.2.2.2.2.2.1,h.2.2.2.2.2.2.2.up (fun _ _ _=>Bg5.up) hm⟩
theorem Bx9.up {x:Fms} (h:Bx9 n x) (hm:n<=m):Bx9 m x:=
 ⟨h.1.up hm,h.2.1.up hm,h.2.2.1.up hm,h.2.2.2.1.up (fun _ _ _=>Yu.up) hm,h.2.2.2.2.1.up (fun _ _ _=>Yv.up) hm,h.2.2.2.2.2.1.up (fun _ _ _=>Ng.up) hm,h.2.2.2.2.2.2.up hm⟩
end
end Go.Dl

-- Chapter 4: what is valid: nothing, all there (both sides).
namespace Go.Dl
open Go Go.Proofs
set_option maxRecDepth 100000
theorem Eb9 {e:Ex} (h:Dn 1048576 e):Hu e<=1099511627776:=by have:=h.1;omega
theorem Dn.fitx {e:Ex} (h:Dn 1048576 e):Fit e:=⟨by have:=h.1;omega,h.2⟩
theorem Bg6 {K:Bb}:Zl K (.agg [.int .u8 0, .int .u8 0, .int .i64 0, .str [], .nilSlice, .nilSlice, .int .i64 0, .int .i64 0, .int .i64 0]) K (.agg (dEx ex0)):=
 Zl.agg (Zl.ex (k:=0) (o:=0) (n:=0) (s:= []) (li:=0) (en:=0) (t:=0) (Sub.refl K) (.exs0 (Sub.refl K)) (.as0 (Sub.refl K)))
theorem Br7 (G:Nat->DVal) (H:Bb) (e:Ex) (he:Dn 1048576 e):Bh Tryz.prog G 150 ([]++ [.agg (dEx e)]++ []) H (Bt (.bool (!noE e)) H):=by
 refine Bc Tryz.func150 Tryz.call150 rfl (by kernel_rfl) ?_;simp(disch:=omega) only[go_sem,↓reduceIte,DVal.cells,List.nil_append,List.append_nil];intro r hr;dsimp only at hr;simp(disch:=omega) only[go_sem,↓reduceIte];refine((Tc.cons (Zl.keep (Sub.refl _) _) (Tc.cons Bg6 .nil)).call (Sub.refl _) (Cj2 G _ e ex0 (Eb9 he))).mono ?_;rintro _ H1 ⟨rfl,rfl⟩;simp(disch:=omega) only[go_sem,↓reduceIte];exact Rm.dropA r hr (Rm.refl ⟨rfl,rfl⟩)
theorem Ao3 (G:Nat->DVal) (H:Bb) (l:List Ex) (hl:l.length<=1099511627776) (hb: ∀x∈l,Dn 1048576 x):
  Bh Tryz.prog G 69 [dXs l] H (Bt (.bool (l.all noE)) H):=by
 refine Bc Tryz.func69 Tryz.call69 rfl (by kernel_rfl) ?_;simp(disch:=omega) only[go_sem,↓reduceIte,dXs];refine(Ua G _ (fun e=>!noE e) l 150 [] [] hl fun x hx=>Br7 G _ x (hb x hx)).mono ?_;rintro _ H1 ⟨rfl,rfl⟩;rw[Nc];simp(disch:=omega) only[go_sem,↓reduceIte];exact Rm.refl ⟨by simp,rfl⟩
theorem Bm (G:Nat->DVal) (H:Bb) (e:Ex) (he:Dn 1048576 e):Bh Tryz.prog G 71 [.agg (dEx e)] H (Bt (.bool (noE e)) H):=by
 refine Bc Tryz.func71 Tryz.call71 rfl (by kernel_rfl) ?_;simp(disch:=omega) only[go_sem,↓reduceIte,DVal.cells,List.nil_append,List.append_nil];intro r hr;dsimp only at hr;simp(disch:=omega) only[go_sem,↓reduceIte];refine((Tc.cons (Zl.keep (Sub.refl _) _) (Tc.cons Bg6 .nil)).call (Sub.refl _) (Br2 G _ e ex0 (Eb9 he))).mono ?_;rintro _ H1 ⟨rfl,rfl⟩;simp(disch:=omega) only[go_sem,↓reduceIte];exact Rm.dropA r hr (Rm.refl ⟨rfl,rfl⟩)
theorem Ew (G:Nat->DVal) (H:Bb) (a b:Ex) (ha:Dn 1048576 a) (hb:Dn 1048576 b):Bh Tryz.prog G 72 [.agg (dEx a), .agg (dEx b)] H (Bt (.bool (Cp a&&Cp b)) H):=by
 have h1:=ha.1;have h2:=hb.1;refine Bc Tryz.func72 Tryz.call72 rfl (by kernel_rfl) ?_;simp(disch:=omega) only[go_sem,↓reduceIte,DVal.cells];intro r2 hr2;dsimp only at hr2;obtain⟨K2,hK2⟩: ∃K',K'=upd H r2 (some (.cells (dEx a) 29)):=⟨_,rfl⟩;rw[<-hK2];have gr2:K2 r2=some (.cells (dEx a) 29):=by rw[hK2];exact Bp _ _ _
 have sK2:Sub H K2:=by rw[hK2];exact(Sub.refl _).new hr2 _
 simp(disch:=omega) only[go_sem,↓reduceIte,DVal.cells];intro r3 hr3;dsimp only at hr3;obtain⟨K,hK⟩: ∃K',K'=upd K2 r3 (some (.cells (dEx b) 29)):=⟨_,rfl⟩;rw[<-hK];have gr3:K r3=some (.cells (dEx b) 29):=by rw[hK];exact Bp _ _ _
 have sK:Sub K2 K:=by rw[hK];exact(Sub.refl _).new hr3 _
 have g2:K r2=some (.cells (dEx a) 29):=sK _ _ gr2;have g3:=gr3;have t:Sub H K:=sK2.trans sK;clear sK sK2 gr3 gr2 hK hK2;simp(disch:=omega) only[go_sem,↓reduceIte,g2,g3];refine Bh.monoR (It G K a (by omega)) ?_;cases Cp a
 ·simp(disch:=omega) only[go_sem,↓reduceIte,g2,g3];exact Rm.sub t (.refl ⟨rfl,rfl⟩)
 ·simp(disch:=omega) only[go_sem,↓reduceIte,g2,g3];refine Bh.monoR (It G K b (by omega)) ?_;simp(disch:=omega) only[go_sem,↓reduceIte,g2,g3];exact Rm.sub t (.refl ⟨by simp,rfl⟩)
theorem Yw (G:Nat->DVal) (H:Bb) (e:Ex) (he:Dn 1048576 e):Bh Tryz.prog G 78 [.agg (dEx e)] H (Bt (.bool (He e)) H):=by
 refine Bc Tryz.func78 Tryz.call78 rfl (by kernel_rfl) ?_;simp(disch:=omega) only[go_sem,↓reduceIte,DVal.cells];intro r hr;dsimp only at hr;simp(disch:=omega) only[go_sem,↓reduceIte];have h1:=he.1;refine(Bm G _ e he).mono ?_;rintro _ H1 ⟨rfl,rfl⟩;cases h:noE e
 ·simp(disch:=omega) only[go_sem,↓reduceIte];refine(It G _ e (by omega)).mono ?_;rintro _ H2 ⟨rfl,rfl⟩;simp(disch:=omega) only[go_sem,↓reduceIte];exact Rm.dropA r hr (Rm.refl ⟨by simp [He,h],rfl⟩)
 ·simp(disch:=omega) only[go_sem,↓reduceIte];exact Rm.dropA r hr (Rm.refl ⟨by simp [He,h],rfl⟩)
section
variable {G:Nat->DVal} (hG:GX G)
include hG
theorem Bg7 (H:Bb) (e:Ex) (he:Dn 1048576 e):Bh Tryz.prog G 151 ([]++ [.agg (dEx e)]++ []) H (Bt (.bool (!Cp e)) H):=by
 refine Bc Tryz.func151 Tryz.call151 rfl (by kernel_rfl) ?_;simp(disch:=omega) only[go_sem,↓reduceIte,DVal.cells,List.nil_append,List.append_nil];intro r hr;dsimp only at hr;simp(disch:=omega) only[go_sem,↓reduceIte];refine(Af2 hG _ e he.fitx).mono ?_;rintro _ H1 ⟨rfl,rfl⟩;simp(disch:=omega) only[go_sem,↓reduceIte];exact Rm.dropA r hr (Rm.refl ⟨rfl,rfl⟩)
theorem Ag4 (H:Bb) (l:List Ex) (hl:l.length<=1099511627776) (hb: ∀x∈l,Dn 1048576 x):
  Bh Tryz.prog G 70 [dXs l] H (Bt (.bool (l.all Cp)) H):=by
 refine Bc Tryz.func70 Tryz.call70 rfl (by kernel_rfl) ?_;simp(disch:=omega) only[go_sem,↓reduceIte,dXs];refine(Ua G _ (fun e=>!Cp e) l 151 [] [] hl fun x hx=>Bg7 hG _ x (hb x hx)).mono ?_;rintro _ H1 ⟨rfl,rfl⟩;rw[Nc];simp(disch:=omega) only[go_sem,↓reduceIte];exact Rm.refl ⟨by simp,rfl⟩
end
end Go.Dl

-- Chapter 4: what is the same: indications, discrete ranges, names.
namespace Go.Dl
open Go Go.Proofs
set_option maxRecDepth 100000
theorem Iu (e:Ex) (l:List DVal):(dEx e++l).take 9=dEx e:=List.take_left' (Aa e)
theorem Cz (e:Ex) (l:List DVal) (k:Nat):(dEx e++l).drop (9+k)=l.drop k:=by
 rw[<-List.drop_drop,List.drop_left' (Aa e)]
theorem Du7 (e:Ex):(dEx e).take 9=dEx e:=by rw[<-Aa e,List.take_length]
section
variable (s:Ind) (d:Dis) (p:Par) (a:Asp) (c:Cmp) (m:Arm) (t:Typ)
theorem Cf:(Fb s).take 9=dEx s.name:=by rw[Fb,Iu]
theorem Cg:((Fb s).drop 9).take 9=dEx s.lo:=by rw[Fb,Cz _ _ 0,List.drop_zero,Iu]
theorem Ci:((Fb s).drop 18).take 9=dEx s.hi:=by rw[Fb,Cz _ _ 9,Cz _ _ 0,List.drop_zero,Iu]
theorem Cj:((Fb s).drop 27).take 9=dEx s.value:=by rw[Fb,Cz _ _ 18,Cz _ _ 9,Cz _ _ 0,List.drop_zero,Du7]
theorem Dt:(Gh d).take 9=dEx d.name:=by rw[Gh,Iu]
theorem Du:((Gh d).drop 9).take 9=dEx d.lo:=by rw[Gh,Cz _ _ 0,List.drop_zero,Iu]
theorem Dv:((Gh d).drop 18).take 9=dEx d.hi:=by rw[Gh,Cz _ _ 9,Cz _ _ 0,List.drop_zero,Du7]
theorem Fj:(Iy p)[0]? =some (dW p.names):=rfl
theorem Fk:(Iy p)[1]? =some (.int .u8 p.mode):=rfl
theorem Fl:((Iy p).drop 2).take 9=dEx p.type:=by rw[Iy,List.drop_succ_cons,List.drop_succ_cons,List.drop_zero,Iu]
theorem Dw:((Iy p).drop 11).take 9=dEx p.e:=by rw[Iy,List.drop_succ_cons,List.drop_succ_cons,Cz _ _ 0,List.drop_zero,Iu]
theorem Ao4:(Qt a)[0]? =some (.str a.name):=rfl
theorem Ao5:((Qt a).drop 1).take 9=dEx a.e:=by rw[Qt,List.drop_succ_cons,List.drop_zero,Du7]
theorem Qk:(Kg c)[0]? =some (dW c.names):=rfl
theorem Ql:((Kg c).drop 1).take 36=Fb c.sub:=by rw[Kg,List.drop_succ_cons,List.drop_zero,List.take_left' (Bl _)]
theorem Lc:((Kg c).drop 37).take 9=dEx c.e:=by
 rw[Kg,List.drop_succ_cons,List.drop_left' (Bl _),Iu]
theorem Qm:(Zn m)[0]? =some (dCl m.c):=rfl
theorem Qn:(Zn m)[1]? =some (Bk m.comps):=rfl
theorem Al:(Dr t)[0]? =some (.int .u8 t.kind):=rfl
theorem Am:(Dr t)[1]? =some (dW t.names):=rfl
theorem An:((Dr t).drop 2).take 9=dEx t.lo:=by rw[Dr,List.drop_succ_cons,List.drop_succ_cons,List.drop_zero,Iu]
theorem Ac:((Dr t).drop 11).take 9=dEx t.hi:=by rw[Dr,List.drop_succ_cons,List.drop_succ_cons,Cz _ _ 0,List.drop_zero,Iu]
theorem Ad:((Dr t).drop 20).take 36=Fb t.sub:=by rw[Dr,List.drop_succ_cons,List.drop_succ_cons,Cz _ _ 9,Cz _ _ 0,List.drop_zero,List.take_left' (Bl _)]
theorem Ae:((Dr t).drop 56).take 27=Gh t.disc:=by
 rw[Dr,List.drop_succ_cons,List.drop_succ_cons,Cz _ _ 45,Cz _ _ 36,List.drop_left' (Bl _),List.take_left' (Bs _)]
theorem Vq (k:Nat):(Dr t)[83+k]? = [Bk t.comps, .str t.var,Bo t.arms, .bool t.limited][k]? :=by
 have h1:Dr t=(.int .u8 t.kind::dW t.names::(dEx t.lo++(dEx t.hi++(Fb t.sub++Gh t.disc))))++ [Bk t.comps, .str t.var,Bo t.arms, .bool t.limited]:=by simp [Dr]
 rw[h1,List.getElem?_append_right (by simp [Aa,Bl,Bs])];congr 1;simp [Aa,Bl,Bs]
theorem Af:(Dr t)[83]? =some (Bk t.comps):=Vq t 0
theorem Ag:(Dr t)[84]? =some (.str t.var):=Vq t 1
theorem Ah:(Dr t)[85]? =some (Bo t.arms):=Vq t 2
theorem Ai:(Dr t)[86]? =some (.bool t.limited):=Vq t 3
end
theorem Xe {α:Type} {f:α->List DVal} {n:Nat} (hf: ∀x,(f x).length=n) (l:List α) (k:Nat) (hk:k<l.length) (off m:Nat) (h:off+m<=n):((l.flatMap f).drop (k*n+off)).take m=((f l[k]).drop off).take m:=by
 induction l generalizing k with
 | nil=>simp at hk
 | cons x l ih=>
  cases k with
  | zero=>
   rw[Nat.zero_mul,Nat.zero_add,List.flatMap_cons,List.getElem_cons_zero,List.drop_append_of_le_length (by rw[hf];omega),List.take_append_of_le_length (by rw[List.length_drop,hf];omega)]
  | succ k=>
   have hk':k<l.length:=by simpa using hk
   rw[List.flatMap_cons,List.getElem_cons_succ,show(k+1)*n+off=n+(k*n+off) by rw[Nat.succ_mul];omega,<-List.drop_drop,List.drop_left' (hf x),ih k hk']
section
end
end Go.Dl

-- Chapter 4: marks, names (both sides).
namespace Go.Dl
open Go Go.Proofs
set_option maxRecDepth 100000
theorem Ao6 {d:Nat} {x:Ex} (h:Ef d x=true) (h4:x.kind=4): ∃y ys,x.l=y::ys:=by
 have hf:=(Ps h).1;unfold Bf at hf;rw[if_neg (by omega),if_neg (by omega),if_neg (by omega),if_pos (.inl h4)] at hf;cases hl:x.l with
 | nil=>simp [Jh,hl] at hf
 | cons y ys=>exact⟨y,ys,rfl⟩
theorem Hg (G:Nat->DVal) (H:Bb) (e:Ex) (he:Dn 1048576 e):Bh Tryz.prog G 15 [.agg (dEx e)] H (Bt (.bool (Hs e)) H):=by
 refine Bc Tryz.func15 Tryz.call15 rfl (by kernel_rfl) ?_;simp(disch:=omega) only[go_sem,↓reduceIte,DVal.cells];intro r hr;dsimp only at hr;simp(disch:=omega) only[go_sem,↓reduceIte];have h1:=he.1;refine(It G _ e (by omega)).mono ?_;rintro _ H1 ⟨rfl,rfl⟩;cases hm:Cp e
 ·simp(disch:=omega) only[go_sem,↓reduceIte];exact Rm.dropA r hr (Rm.refl ⟨by simp [Hs,hm],rfl⟩)
 ·simp(disch:=omega) only[go_sem,↓reduceIte];have hv:Ef 1 e=true:=by unfold Cp at hm;simp only[Bool.and_eq_true] at hm;exact hm.1
  have hM:Hs e=Td (Fa e) e:=by rw[Hs,hm,Bool.true_and]
  rw[hM];obtain⟨I,hI⟩: ∃I:Ex×Nat->(Nat->DVal)->Bb->Prop,∀xn env heap,I xn env heap↔(env 1= .optr r 0/\heap=upd H r (some (.cells (dEx xn.1) 29))/\Fa xn.1<=xn.2/\Td xn.2 xn.1=Td (Fa e) e/\ ∃d,Ef d xn.1=true):=⟨_,fun _ _ _=>Iff.rfl⟩;refine Cn3.run I (fun xn=>xn.2) (e,Fa e) ((hI _ _ _).2 ?_) ?_
  ·simp(disch:=omega) only[go_sem,↓reduceIte];exact⟨1,hv⟩
  ·rintro⟨x,n⟩ env heap hi;obtain⟨e1,rfl,hn,hk,d,hd⟩:=(hI _ _ _).1 hi;dsimp only at hn hk hd;have hg:upd H r (some (.cells (dEx x) 29)) r=some (.cells (dEx x) 29):=Bp _ _ _;have hpos:0<Fa x:=by rw[Oe];omega
   obtain⟨n,rfl⟩: ∃m,n=m+1:=⟨n-1,by omega⟩;rw[Td] at hk;by_cases h4:x.kind=4
   ·obtain⟨y,ys,hy⟩:=Ao6 hd h4;rw[if_pos h4,hy] at hk;have hys:y∈parts x:=by rw[parts,hy];simp
    have hsz:=Ro hys;have hvy:=(Ps hd).2 y hys;have f1:(x.l.flatMap dEx).take 9=dEx y:=by rw[hy,List.flatMap_cons,Iu]
    have f2:9<=(x.l.flatMap dEx).length:=by rw[hy,List.flatMap_cons,List.length_append,Aa];omega
    have f3:(0:Int)<(x.l.length:Int):=by rw[hy,List.length_cons];omega
    have f4:0<(x.l.flatMap dEx).length:=by omega
    simp(disch:=omega) only[go_sem,↓reduceIte,e1,hg,h4,f1,f2,f3,f4,Aa,Jj];refine⟨(y,n),_,Rd.refl _,(hI _ _ _).2 ?_,by omega⟩;simp(disch:=omega) only[go_sem,↓reduceIte,e1];(repeat' apply And.intro)<;>(try first | rfl | assumption | omega);exact⟨d+1,hvy⟩
   ·rw[if_neg h4] at hk;simp(disch:=omega) only[go_sem,↓reduceIte,e1,hg,h4];exact Rm.dropA r hr (Rm.refl ⟨by rw[<-hk],rfl⟩)
section
variable {G:Nat->DVal} (hG:GX G)
include hG
theorem Kh (H:Bb) (e:Ex) (he:Dn 1048576 e):Bh Tryz.prog G 14 [.agg (dEx e)] H (Bt (.bool (Hs e)) H):=by
 refine Bc Tryz.func14 Tryz.call14 rfl (by kernel_rfl) ?_;simp(disch:=omega) only[go_sem,↓reduceIte,DVal.cells];intro r hr;dsimp only at hr;simp(disch:=omega) only[go_sem,↓reduceIte];have h1:=he.1;refine(Af2 hG _ e he.fitx).mono ?_;rintro _ H1 ⟨rfl,rfl⟩;cases hm:Cp e
 ·simp(disch:=omega) only[go_sem,↓reduceIte];exact Rm.dropA r hr (Rm.refl ⟨by simp [Hs,hm],rfl⟩)
 ·simp(disch:=omega) only[go_sem,↓reduceIte];have hv:Ef 1 e=true:=by unfold Cp at hm;simp only[Bool.and_eq_true] at hm;exact hm.1
  have hM:Hs e=Td (Fa e) e:=by rw[Hs,hm,Bool.true_and]
  rw[hM];obtain⟨I,hI⟩: ∃I:Ex×Nat->(Nat->DVal)->Bb->Prop,∀xn env heap,I xn env heap↔(env 1= .optr r 0/\heap=upd H r (some (.cells (dEx xn.1) 29))/\Fa xn.1<=xn.2/\Td xn.2 xn.1=Td (Fa e) e/\ ∃d,Ef d xn.1=true):=⟨_,fun _ _ _=>Iff.rfl⟩;refine Cn3.run I (fun xn=>xn.2) (e,Fa e) ((hI _ _ _).2 ?_) ?_
  ·simp(disch:=omega) only[go_sem,↓reduceIte];exact⟨1,hv⟩
  ·rintro⟨x,n⟩ env heap hi;obtain⟨e1,rfl,hn,hk,d,hd⟩:=(hI _ _ _).1 hi;dsimp only at hn hk hd;have hg:upd H r (some (.cells (dEx x) 29)) r=some (.cells (dEx x) 29):=Bp _ _ _;have hpos:0<Fa x:=by rw[Oe];omega
   obtain⟨n,rfl⟩: ∃m,n=m+1:=⟨n-1,by omega⟩;rw[Td] at hk;by_cases h4:x.kind=4
   ·obtain⟨y,ys,hy⟩:=Ao6 hd h4;rw[if_pos h4,hy] at hk;have hys:y∈parts x:=by rw[parts,hy];simp
    have hsz:=Ro hys;have hvy:=(Ps hd).2 y hys;have f1:(x.l.flatMap dEx).take 9=dEx y:=by rw[hy,List.flatMap_cons,Iu]
    have f2:9<=(x.l.flatMap dEx).length:=by rw[hy,List.flatMap_cons,List.length_append,Aa];omega
    have f3:(0:Int)<(x.l.length:Int):=by rw[hy,List.length_cons];omega
    have f4:0<(x.l.flatMap dEx).length:=by omega
    simp(disch:=omega) only[go_sem,↓reduceIte,e1,hg,h4,f1,f2,f3,f4,Aa,Jj];refine⟨(y,n),_,Rd.refl _,(hI _ _ _).2 ?_,by omega⟩;simp(disch:=omega) only[go_sem,↓reduceIte,e1];(repeat' apply And.intro)<;>(try first | rfl | assumption | omega);exact⟨d+1,hvy⟩
   ·rw[if_neg h4] at hk;simp(disch:=omega) only[go_sem,↓reduceIte,e1,hg,h4];exact Rm.dropA r hr (Rm.refl ⟨by rw[<-hk],rfl⟩)
end
theorem Du8 (G:Nat->DVal) (H:Bb) (p:(List UInt8)->Bool) (l:List (List UInt8)) (g:FuncId) (xs ys:List DVal) (hl:l.length<=1099511627776)
  (hp: ∀x∈l,Bh Tryz.prog G g (xs++ [.str x]++ys) H (Bt (.bool (p x)) H)):
  Bh Tryz.prog G 214 [.vslice (l.map .str) l.length, .func (.func g) xs ys] H (Bt (dI (Zi p l)) H):=by
 refine Bc Tryz.func214 Tryz.call214 rfl (by kernel_rfl) ?_;simp(disch:=omega) only[go_sem,↓reduceIte];refine Cn3.run (fun(i:Nat) env heap=>heap=H/\env 0= .vslice (l.map .str) l.length/\env 1= .func (.func g) xs ys/\env 7=dI l.length/\env 8=dI i/\i<=l.length/\ ∀x∈l.take i,p x=false) (fun i=>l.length-i) 0 ?_ ?_
 ·simp(disch:=omega) only[go_sem,↓reduceIte];simp
 ·rintro i env heap ⟨rfl,h0,h1,h7,h8,hi,hn⟩;by_cases hlt:i<l.length
  ·skip
   simp(disch:=omega) only[go_sem,↓reduceIte,h0,h1,h7,h8,hlt];have hc:=hp l[i] (List.getElem_mem hlt)
   skip
   refine hc.mono ?_;rintro _ H ⟨rfl,rfl⟩;cases hx:p l[i] with
   | true=>
    simp(disch:=omega) only[go_sem,↓reduceIte,h0,h1,h7,h8];exact Rm.refl ⟨by rw[So hlt hx hn],rfl⟩
   | false=>
    simp(disch:=omega) only[go_sem,↓reduceIte,h0,h1,h7,h8];refine⟨i+1,_,Rd.refl _, ?_,by omega⟩;simp(disch:=omega) only[go_sem,↓reduceIte,h0,h1,h7,h8];(repeat' apply And.intro)<;>(try first | rfl | assumption | omega);exact Hm hlt hn hx
  ·simp(disch:=omega) only[go_sem,↓reduceIte,h0,h1,h7,h8];have:i=l.length:=by omega
   subst this;rw[List.take_length] at hn;exact Rm.refl ⟨by rw[Sp hn],rfl⟩
theorem Cj6 (G:Nat->DVal) (H:Bb) (p:List UInt8->Bool) (l:List (List UInt8)) (g:FuncId) (xs ys:List DVal) (hl:l.length<=1099511627776)
  (hp: ∀x∈l,Bh Tryz.prog G g (xs++ [.str x]++ys) H (Bt (.bool (p x)) H)):
  Bh Tryz.prog G 152 [.vslice (l.map .str) l.length, .func (.func g) xs ys] H (Bt (.bool (l.any p)) H):=by
 refine Bc Tryz.func152 Tryz.call152 rfl (by kernel_rfl) ?_;simp(disch:=omega) only[go_sem,↓reduceIte];refine(Du8 G H p l g xs ys hl hp).mono ?_;rintro _ H ⟨rfl,rfl⟩;simp(disch:=omega) only[go_sem,↓reduceIte];exact Rm.refl ⟨by rw[Od],rfl⟩
section
variable {G:Nat->DVal} (hG:GX G)
include hG
theorem Bg8 (H:Bb) (s:List UInt8) (hs:s.length<=9223372036854775807):Bh Tryz.prog G 153 ([]++ [.str s]++ []) H (Bt (.bool (!Gk s)) H):=by
 refine Bc Tryz.func153 Tryz.call153 rfl (by kernel_rfl) ?_;simp(disch:=omega) only[go_sem,↓reduceIte,List.nil_append,List.append_nil];refine(Kb hG _ s hs).mono ?_;rintro _ H1 ⟨rfl,rfl⟩;simp(disch:=omega) only[go_sem,↓reduceIte];exact Rm.refl ⟨rfl,rfl⟩
theorem Uf (H:Bb) (l:List (List UInt8)) (m:Nat) (hl:Ys 1048576 l):Bh Tryz.prog G 76 [dW l,dI m] H (Bt (.bool (Cs l m)) H):=by
 have h40:=hl.1;refine Bc Tryz.func76 Tryz.call76 rfl (by kernel_rfl) ?_;simp(disch:=omega) only[go_sem,↓reduceIte,dW];by_cases h0:0<l.length
 ·have h0':(0:Int)<(l.length:Int):=by omega
  by_cases h1:l.length<=m
  ·have h1':(l.length:Int)<=(m:Int):=by omega
   simp(disch:=omega) only[go_sem,↓reduceIte,h0',h1'];refine(Cj6 G _ (fun e=>!Gk e) l 153 [] [] (by omega) fun x hx=>Bg8 hG _ x (hl.2 x hx)).mono ?_;rintro _ H1 ⟨rfl,rfl⟩;rw[Nc];simp(disch:=omega) only[go_sem,↓reduceIte];exact Rm.refl ⟨by simp [Cs,h1];omega,rfl⟩
  ·have h1': ¬(l.length:Int)<=(m:Int):=by omega
   simp(disch:=omega) only[go_sem,↓reduceIte,h0',h1'];exact Rm.refl ⟨by simp [Cs,h1],rfl⟩
 ·have h0': ¬(0:Int)<(l.length:Int):=by omega
  simp(disch:=omega) only[go_sem,↓reduceIte,h0'];exact Rm.refl ⟨by simp [Cs];omega,rfl⟩
end
theorem Ct (G:Nat->DVal) (H:Bb) (l:List (List UInt8)) (m:Nat) (hl:Ys 1048576 l):Bh Tryz.prog G 77 [dW l,dI m] H (Bt (.bool (Cs l m)) H):=by
 have h40:=hl.1;refine Bc Tryz.func77 Tryz.call77 rfl (by kernel_rfl) ?_;simp(disch:=omega) only[go_sem,↓reduceIte,dW];obtain⟨I,hI⟩: ∃I:Nat->(Nat->DVal)->Bb->Prop,∀i env heap,I i env heap↔(H=heap/\env 0= .vslice (l.map .str) l.length/\env 1=dI m/\env 5=dI i/\i<=l.length/\ ∀x∈l.take i,Gk x=true):=⟨_,fun _ _ _=>Iff.rfl⟩;refine Cn3.run I (fun i=>l.length-i) 0 ((hI _ _ _).2 ?_) ?_
 ·simp(disch:=omega) only[go_sem,↓reduceIte,dW];simp
 ·intro i env heap hi;obtain⟨rfl,e0,e1,e5,hi,hn⟩:=(hI _ _ _).1 hi;by_cases hlt:i<l.length
  ·have hlti:(i:Int)<(l.length:Int):=by omega
   have hwd:IntKind.i64.wrap ((i:Int)+1)=((i+1:Nat):Int):=by rw[IntKind.wrap_i64];omega
   simp(disch:=omega) only[go_sem,↓reduceIte,e0,e1,e5,hlti];refine Bh.monoR (Kc G _ l[i]) ?_;cases hx:Gk l[i]
   ·simp(disch:=omega) only[go_sem,↓reduceIte];have hall:l.all Gk=false:=by
     rw[List.all_eq_false];exact⟨l[i],List.getElem_mem hlt,by simp [hx]⟩
    exact Rm.refl ⟨by simp [Cs,hall],rfl⟩
   ·simp(disch:=omega) only[go_sem,↓reduceIte,e0,e1,e5];refine⟨i+1,_,Rd.refl _,(hI _ _ _).2 ?_,by omega⟩;simp(disch:=omega) only[go_sem,↓reduceIte,e0,e1,e5,hwd];(repeat' apply And.intro)<;>(try first | rfl | assumption | omega);intro x hx';rw[List.take_add_one,List.getElem?_eq_getElem hlt] at hx';rcases List.mem_append.1 hx' with h | h
    ·exact hn x h
    ·simp at h;subst h;exact hx
  ·have:i=l.length:=by omega
   subst this;rw[List.take_length] at hn;have hall:l.all Gk=true:=by rw[List.all_eq_true];exact hn
   have hlti: ¬(l.length:Int)<(l.length:Int):=by omega
   by_cases h1:1<=l.length
   ·have h1':(1:Int)<=(l.length:Int):=by omega
    by_cases h2:l.length<=m
    ·have h2':(l.length:Int)<=(m:Int):=by omega
     simp(disch:=omega) only[go_sem,↓reduceIte,e0,e1,e5,hlti,h1',h2'];exact Rm.refl ⟨by simp [Cs,hall,h1,h2],rfl⟩
    ·have h2': ¬(l.length:Int)<=(m:Int):=by omega
     simp(disch:=omega) only[go_sem,↓reduceIte,e0,e1,e5,hlti,h1',h2'];exact Rm.refl ⟨by simp [Cs,h2],rfl⟩
   ·have h1': ¬(1:Int)<=(l.length:Int):=by omega
    simp(disch:=omega) only[go_sem,↓reduceIte,e0,e1,e5,hlti,h1'];exact Rm.refl ⟨by simp [Cs,h1],rfl⟩
end Go.Dl

-- Chapter 4: which indications and discrete ranges are valid (both sides).
namespace Go.Dl
open Go Go.Proofs
set_option maxRecDepth 100000
theorem Dd (G:Nat->DVal) (H:Bb) (s:Ind) (hs:Vp 1048576 s):Bh Tryz.prog G 17 [.agg (Fb s)] H (Bt (.bool (Ce s)) H):=by
 obtain⟨f0,f1,f2,f3⟩:=hs;have hb3:=f3.1;refine Bc Tryz.func17 Tryz.call17 rfl (by kernel_rfl) ?_;simp(disch:=omega) only[go_sem,↓reduceIte,DVal.cells];intro r1 hr1;dsimp only at hr1;obtain⟨K,hK⟩: ∃K',K'=upd H r1 (some (.cells (Fb s) 45)):=⟨_,rfl⟩;rw[<-hK];have gr1:K r1=some (.cells (Fb s) 45):=by rw[hK];exact Bp _ _ _
 have sK:Sub H K:=by rw[hK];exact(Sub.refl _).new hr1 _
 simp(disch:=omega) only[go_sem,↓reduceIte,gr1,Bl,Cf,Cg,Ci,Cj];refine Bh.monoR (Bm G K s.lo f1) ?_;cases h1:noE s.lo
 ·simp(disch:=omega) only[go_sem,↓reduceIte,gr1,Bl,Cf,Cg,Ci,Cj];refine Bh.monoR (Hg G K s.name f0) ?_;cases h3:Hs s.name
  ·simp(disch:=omega) only[go_sem,↓reduceIte,gr1,Bl,Cf,Cg,Ci,Cj];exact Rm.sub sK (.refl ⟨by simp [Ce, *],rfl⟩)
  ·simp(disch:=omega) only[go_sem,↓reduceIte,gr1,Bl,Cf,Cg,Ci,Cj];refine Bh.monoR (Bm G K s.value f3) ?_;cases h4:noE s.value
   ·simp(disch:=omega) only[go_sem,↓reduceIte,gr1,Bl,Cf,Cg,Ci,Cj];exact Rm.sub sK (.refl ⟨by simp [Ce, *],rfl⟩)
   ·simp(disch:=omega) only[go_sem,↓reduceIte,gr1,Bl,Cf,Cg,Ci,Cj];refine Bh.monoR (Ew G K s.lo s.hi f1 f2) ?_;simp(disch:=omega) only[go_sem,↓reduceIte,gr1,Bl,Cf,Cg,Ci,Cj];exact Rm.sub sK (.refl ⟨by simp [Ce, *],rfl⟩)
 ·simp(disch:=omega) only[go_sem,↓reduceIte,gr1,Bl,Cf,Cg,Ci,Cj];refine Bh.monoR (Bm G K s.hi f2) ?_;cases h2:noE s.hi
  ·simp(disch:=omega) only[go_sem,↓reduceIte,gr1,Bl,Cf,Cg,Ci,Cj];refine Bh.monoR (Hg G K s.name f0) ?_;cases h3:Hs s.name
   ·simp(disch:=omega) only[go_sem,↓reduceIte,gr1,Bl,Cf,Cg,Ci,Cj];exact Rm.sub sK (.refl ⟨by simp [Ce, *],rfl⟩)
   ·simp(disch:=omega) only[go_sem,↓reduceIte,gr1,Bl,Cf,Cg,Ci,Cj];refine Bh.monoR (Bm G K s.value f3) ?_;cases h4:noE s.value
    ·simp(disch:=omega) only[go_sem,↓reduceIte,gr1,Bl,Cf,Cg,Ci,Cj];exact Rm.sub sK (.refl ⟨by simp [Ce, *],rfl⟩)
    ·simp(disch:=omega) only[go_sem,↓reduceIte,gr1,Bl,Cf,Cg,Ci,Cj];refine Bh.monoR (Ew G K s.lo s.hi f1 f2) ?_;simp(disch:=omega) only[go_sem,↓reduceIte,gr1,Bl,Cf,Cg,Ci,Cj];exact Rm.sub sK (.refl ⟨by simp [Ce, *],rfl⟩)
  ·simp(disch:=omega) only[go_sem,↓reduceIte,gr1,Bl,Cf,Cg,Ci,Cj];refine Bh.monoR (Hg G K s.name f0) ?_;cases h3:Hs s.name
   ·simp(disch:=omega) only[go_sem,↓reduceIte,gr1,Bl,Cf,Cg,Ci,Cj];exact Rm.sub sK (.refl ⟨by simp [Ce, *],rfl⟩)
   ·simp(disch:=omega) only[go_sem,↓reduceIte,gr1,Bl,Cf,Cg,Ci,Cj];refine Bh.monoR (Bm G K s.value f3) ?_;cases h4:noE s.value
    ·simp(disch:=omega) only[go_sem,↓reduceIte,gr1,Bl,Cf,Cg,Ci,Cj];refine Bh.monoR (It G K s.value (by omega)) ?_;simp(disch:=omega) only[go_sem,↓reduceIte,gr1,Bl,Cf,Cg,Ci,Cj];exact Rm.sub sK (.refl ⟨by simp [Ce, *],rfl⟩)
    ·simp(disch:=omega) only[go_sem,↓reduceIte,gr1,Bl,Cf,Cg,Ci,Cj];exact Rm.sub sK (.refl ⟨by simp [Ce, *],rfl⟩)
theorem En (d:Dis):(Gh d)[0]? =some (.int .u8 d.name.kind):=by
 obtain⟨⟨k,o,n,s,l,a,li,en,t⟩,lo,hi⟩:=d;simp [Gh,Au8,Ex.kind]
theorem Jm (G:Nat->DVal) (H:Bb) (d:Dis) (hd:Yt 1048576 d):Bh Tryz.prog G 19 [.agg (Gh d)] H (Bt (.bool (Fd d)) H):=by
 obtain⟨f0,f1,f2⟩:=hd;have hb0:=f0.1;refine Bc Tryz.func19 Tryz.call19 rfl (by kernel_rfl) ?_;simp(disch:=omega) only[go_sem,↓reduceIte,DVal.cells];intro r1 hr1;dsimp only at hr1;obtain⟨K,hK⟩: ∃K',K'=upd H r1 (some (.cells (Gh d) 47)):=⟨_,rfl⟩;rw[<-hK];have gr1:K r1=some (.cells (Gh d) 47):=by rw[hK];exact Bp _ _ _
 have sK:Sub H K:=by rw[hK];exact(Sub.refl _).new hr1 _
 simp(disch:=omega) only[go_sem,↓reduceIte,gr1,Bs,Dt,Du,Dv,En];refine Bh.monoR (Bm G K d.lo f1) ?_;cases h1:noE d.lo
 ·simp(disch:=omega) only[go_sem,↓reduceIte,gr1,Bs,Dt,Du,Dv,En];refine Bh.monoR (Ew G K d.lo d.hi f1 f2) ?_;cases h3:(Cp d.lo&&Cp d.hi)
  ·simp(disch:=omega) only[go_sem,↓reduceIte,gr1,Bs,Dt,Du,Dv,En];exact Rm.sub sK (.refl ⟨by simp [Fd, *],rfl⟩)
  ·simp(disch:=omega) only[go_sem,↓reduceIte,gr1,Bs,Dt,Du,Dv,En];refine Bh.monoR (Bm G K d.name f0) ?_;cases h4:noE d.name
   ·simp(disch:=omega) only[go_sem,↓reduceIte,gr1,Bs,Dt,Du,Dv,En];refine Bh.monoR (Hg G K d.name f0) ?_;simp(disch:=omega) only[go_sem,↓reduceIte,gr1,Bs,Dt,Du,Dv,En];exact Rm.sub sK (.refl ⟨by simp [Fd, *],rfl⟩)
   ·simp(disch:=omega) only[go_sem,↓reduceIte,gr1,Bs,Dt,Du,Dv,En];exact Rm.sub sK (.refl ⟨by simp [Fd, *],rfl⟩)
 ·simp(disch:=omega) only[go_sem,↓reduceIte,gr1,Bs,Dt,Du,Dv,En];refine Bh.monoR (Bm G K d.hi f2) ?_;cases h2:noE d.hi
  ·simp(disch:=omega) only[go_sem,↓reduceIte,gr1,Bs,Dt,Du,Dv,En];refine Bh.monoR (Ew G K d.lo d.hi f1 f2) ?_;cases h3:(Cp d.lo&&Cp d.hi)
   ·simp(disch:=omega) only[go_sem,↓reduceIte,gr1,Bs,Dt,Du,Dv,En];exact Rm.sub sK (.refl ⟨by simp [Fd, *],rfl⟩)
   ·simp(disch:=omega) only[go_sem,↓reduceIte,gr1,Bs,Dt,Du,Dv,En];refine Bh.monoR (Bm G K d.name f0) ?_;cases h4:noE d.name
    ·simp(disch:=omega) only[go_sem,↓reduceIte,gr1,Bs,Dt,Du,Dv,En];refine Bh.monoR (Hg G K d.name f0) ?_;simp(disch:=omega) only[go_sem,↓reduceIte,gr1,Bs,Dt,Du,Dv,En];exact Rm.sub sK (.refl ⟨by simp [Fd, *],rfl⟩)
    ·simp(disch:=omega) only[go_sem,↓reduceIte,gr1,Bs,Dt,Du,Dv,En];exact Rm.sub sK (.refl ⟨by simp [Fd, *],rfl⟩)
  ·simp(disch:=omega) only[go_sem,↓reduceIte,gr1,Bs,Dt,Du,Dv,En];refine Bh.monoR (Hg G K d.name f0) ?_;cases h3:Hs d.name
   ·by_cases h4:d.name.kind=6
    ·simp(disch:=omega) only[go_sem,↓reduceIte,gr1,Bs,Dt,Du,Dv,En,h4];refine Bh.monoR (It G K d.name (by omega)) ?_;simp(disch:=omega) only[go_sem,↓reduceIte,gr1,Bs,Dt,Du,Dv,En];exact Rm.sub sK (.refl ⟨by simp [Fd, *],rfl⟩)
    ·simp(disch:=omega) only[go_sem,↓reduceIte,gr1,Bs,Dt,Du,Dv,En,h4];exact Rm.sub sK (.refl ⟨by simp [Fd, *],rfl⟩)
   ·simp(disch:=omega) only[go_sem,↓reduceIte,gr1,Bs,Dt,Du,Dv,En];exact Rm.sub sK (.refl ⟨by simp [Fd, *],rfl⟩)
end Go.Dl
