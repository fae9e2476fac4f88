/- The data level and the contracts of the functions that are reached (part 6). -/
import Derived.RecoverIn
import Derived.Test.YtpcbhialfjiaaaaGreatDoorPfe
set_option linter.unusedSimpArgs false
set_option linter.unusedVariables false
set_option linter.unusedSectionVars false
-- Chapter 3: the reference: associations, fields (printed by gen_ud.py).
namespace Go.Dl
open Go Go.Proofs
set_option maxRecDepth 100000
section
variable {G:Nat->DVal} {H:Ac}
theorem Ta (G:Nat->DVal) (H:Ac) (l:List As) (hl:l.length<=1099511627776) (hb: ∀a∈l,a.c.length<=1099511627776):Ai Tryz.prog G 168 [.vslice (l.flatMap dAs) l.length] H (Au (.bool (Ej l)) H):=by
 refine Ad Tryz.func168 Tryz.call168 rfl (by kernel_rfl) ?_;by_cases h1:l.length=0
 ·have h1':(l.length:Int)<1:=by omega
  simp(disch:=omega) only[go_sem,↓reduceIte,h1'];exact Nu.refl ⟨by rw[Ej,decide_eq_false (show¬0<l.length by omega),Bool.false_and,Bool.false_and,Bool.false_and,Bool.false_and],rfl⟩
 have h1': ¬(l.length:Int)<1:=by omega
 have hpos:0<l.length:=by omega
 by_cases h2:32<l.length
 ·have h2':(32:Int)<(l.length:Int):=by omega
  simp(disch:=omega) only[go_sem,↓reduceIte,h1',h2'];exact Nu.refl ⟨by rw[Ej,decide_eq_false (show¬l.length<=32 by omega),Bool.and_false,Bool.false_and,Bool.false_and,Bool.false_and],rfl⟩
 have h2': ¬(32:Int)<(l.length:Int):=by omega
 simp(disch:=omega) only[go_sem,↓reduceIte,h1',h2'];refine(Yh G _ l hl).mono ?_;rintro _ H1 ⟨rfl,rfl⟩;have hd:Ej l=(Ki l&&(!(decide (l.length=1)&&(l.getD 0 default).c.isEmpty)&&Ei l)):=by
  rw[Ej,decide_eq_true hpos,decide_eq_true (show l.length<=32 by omega),Bool.true_and,Bool.true_and,Ye,Bool.and_assoc]
 rw[hd];cases h3:Ki l with
 | false=>
  simp(disch:=omega) only[go_sem,↓reduceIte];exact Nu.refl ⟨rfl,rfl⟩
 | true=>
  have hg0:=as0 hpos;have hgd:l.getD 0 default=l[0]:=by rw[List.getD,List.getElem?_eq_getElem hpos];rfl
  have hfl:=An Bi l;rw[hgd];by_cases h4:l.length=1/\l[0].c.length=0
  ·have h4a:(l.length:Int)=1:=by omega
   have h4b:(l[0].c.length:Int)=0:=by omega
   have e4:l[0].c.isEmpty=true:=by rw[Ab];exact decide_eq_true h4.2
   simp(disch:=omega) only[go_sem,↓reduceIte,h4a,h4b,hg0,hfl];exact Nu.refl ⟨by simp [e4],rfl⟩
  ·have e4:(decide (l.length=1)&&l[0].c.isEmpty)=false:=by
    rw[Ab,<-Bool.decide_and];exact decide_eq_false h4
   rw[e4];by_cases h5:l.length=1
   ·have h5':((l.length:Int)=1)=True:=eq_true (by omega);have h6': ¬(l[0].c.length:Int)=0:=by omega
    simp(disch:=omega) only[go_sem,↓reduceIte,h5',h6',hg0,hfl];obtain⟨I,hI⟩: ∃I:Nat->(Nat->DVal)->Ac->Prop,∀k env heap,I k env heap↔(env 0= .vslice (l.flatMap dAs) l.length/\env 3=dI k/\k<=l.length/\Ei l=Ei (l.drop k)/\heap=H1):=⟨_,fun _ _ _=>Iff.rfl⟩;refine Bt4.run I (fun k=>l.length-k) 0 ((hI _ _ _).2 ?_) ?_
    ·simp(disch:=omega) only[go_sem,↓reduceIte];(repeat' apply And.intro)<;>(try first | rfl | assumption | omega)
    ·intro k env heap hi;obtain⟨e0,e3,hk,hall,rfl⟩:=(hI _ _ _).1 hi;by_cases hlt:k<l.length
     ·have hlt':(k:Int)<(l.length:Int):=by omega
      have gk:=Bs Bi l k hlt 0 (by decide);rw[Uu,Nat.add_zero] at gk;have hwd:IntKind.i64.wrap ((k:Int)+1)=((k+1:Nat):Int):=by rw[IntKind.wrap_i64];omega
      have hwl:IntKind.i64.wrap ((l.length:Int)-1)=(l.length:Int)-1:=by rw[IntKind.wrap_i64];omega
      have hba:=hb l[k] (List.getElem_mem hlt);rw[Pf hlt] at hall;by_cases q1:0<l[k].c.length
      ·have q1':(0:Int)<(l[k].c.length:Int):=by omega
       have e1:l[k].c.isEmpty=false:=by rw[Ab];exact decide_eq_false (by omega)
       rw[e1,Bool.false_or] at hall;simp(disch:=omega) only[go_sem,↓reduceIte,e0,e3,hlt',hfl,gk,q1',Int.toNat_natCast];refine(Nl G _ l[k].c hba).mono ?_;rintro _ H2 ⟨rfl,rfl⟩;cases q2:Cq l[k].c with
       | false=>
        rw[q2,Bool.false_and,Bool.false_and] at hall;simp(disch:=omega) only[go_sem,↓reduceIte,e0,e3];exact Nu.refl ⟨by rw[hall],rfl⟩
       | true=>
        obtain⟨g0,_⟩:=ch0 q1;have hfc:=An Bd l[k].c;rw[q2,Bool.true_and,Ja q1] at hall;by_cases q3:l[k].c[0].kind=3
        ·rw[decide_eq_true q3,Bool.not_true,Bool.false_or] at hall;by_cases q4:k+1=l.length
         ·have q4': ¬(k:Int)<(l.length:Int)-1:=by omega
          rw[decide_eq_true q4,Bool.true_and] at hall;simp(disch:=omega) only[go_sem,↓reduceIte,e0,e3,g0,hfc,q1',q3,q4',hwl];refine⟨k+1,_,Ni.refl _,(hI _ _ _).2 ?_,by omega⟩;simp(disch:=omega) only[go_sem,↓reduceIte,e0,e3,hwd];(repeat' apply And.intro)<;>(try first | rfl | assumption | omega)
         ·have q4':(k:Int)<(l.length:Int)-1:=by omega
          rw[decide_eq_false q4,Bool.false_and] at hall;simp(disch:=omega) only[go_sem,↓reduceIte,e0,e3,g0,hfc,q1',q3,q4',hwl];exact Nu.refl ⟨by rw[hall],rfl⟩
        ·rw[decide_eq_false q3,Bool.not_false,Bool.true_or,Bool.true_and] at hall;simp(disch:=omega) only[go_sem,↓reduceIte,e0,e3,g0,hfc,q1',q3];refine⟨k+1,_,Ni.refl _,(hI _ _ _).2 ?_,by omega⟩;simp(disch:=omega) only[go_sem,↓reduceIte,e0,e3,hwd];(repeat' apply And.intro)<;>(try first | rfl | assumption | omega)
      ·have q1': ¬(0:Int)<(l[k].c.length:Int):=by omega
       have e1:l[k].c.isEmpty=true:=by rw[Ab];exact decide_eq_true (by omega)
       rw[e1,Bool.true_or,Bool.true_and] at hall;simp(disch:=omega) only[go_sem,↓reduceIte,e0,e3,hlt',hfl,gk,q1',Int.toNat_natCast];refine⟨k+1,_,Ni.refl _,(hI _ _ _).2 ?_,by omega⟩;simp(disch:=omega) only[go_sem,↓reduceIte,e0,e3,hwd];(repeat' apply And.intro)<;>(try first | rfl | assumption | omega)
     ·have:k=l.length:=by omega
      subst this;rw[List.drop_length] at hall;simp(disch:=omega) only[go_sem,↓reduceIte,e0,e3];exact Nu.refl ⟨by rw[hall];rfl,rfl⟩
   ·have h5': ¬(l.length:Int)=1:=by omega
    simp(disch:=omega) only[go_sem,↓reduceIte,h5'];obtain⟨I,hI⟩: ∃I:Nat->(Nat->DVal)->Ac->Prop,∀k env heap,I k env heap↔(env 0= .vslice (l.flatMap dAs) l.length/\env 3=dI k/\k<=l.length/\Ei l=Ei (l.drop k)/\heap=H1):=⟨_,fun _ _ _=>Iff.rfl⟩;refine Bt4.run I (fun k=>l.length-k) 0 ((hI _ _ _).2 ?_) ?_
    ·simp(disch:=omega) only[go_sem,↓reduceIte];(repeat' apply And.intro)<;>(try first | rfl | assumption | omega)
    ·intro k env heap hi;obtain⟨e0,e3,hk,hall,rfl⟩:=(hI _ _ _).1 hi;by_cases hlt:k<l.length
     ·have hlt':(k:Int)<(l.length:Int):=by omega
      have gk:=Bs Bi l k hlt 0 (by decide);rw[Uu,Nat.add_zero] at gk;have hwd:IntKind.i64.wrap ((k:Int)+1)=((k+1:Nat):Int):=by rw[IntKind.wrap_i64];omega
      have hwl:IntKind.i64.wrap ((l.length:Int)-1)=(l.length:Int)-1:=by rw[IntKind.wrap_i64];omega
      have hba:=hb l[k] (List.getElem_mem hlt);rw[Pf hlt] at hall;by_cases q1:0<l[k].c.length
      ·have q1':(0:Int)<(l[k].c.length:Int):=by omega
       have e1:l[k].c.isEmpty=false:=by rw[Ab];exact decide_eq_false (by omega)
       rw[e1,Bool.false_or] at hall;simp(disch:=omega) only[go_sem,↓reduceIte,e0,e3,hlt',hfl,gk,q1',Int.toNat_natCast];refine(Nl G _ l[k].c hba).mono ?_;rintro _ H2 ⟨rfl,rfl⟩;cases q2:Cq l[k].c with
       | false=>
        rw[q2,Bool.false_and,Bool.false_and] at hall;simp(disch:=omega) only[go_sem,↓reduceIte,e0,e3];exact Nu.refl ⟨by rw[hall],rfl⟩
       | true=>
        obtain⟨g0,_⟩:=ch0 q1;have hfc:=An Bd l[k].c;rw[q2,Bool.true_and,Ja q1] at hall;by_cases q3:l[k].c[0].kind=3
        ·rw[decide_eq_true q3,Bool.not_true,Bool.false_or] at hall;by_cases q4:k+1=l.length
         ·have q4': ¬(k:Int)<(l.length:Int)-1:=by omega
          rw[decide_eq_true q4,Bool.true_and] at hall;simp(disch:=omega) only[go_sem,↓reduceIte,e0,e3,g0,hfc,q1',q3,q4',hwl];refine⟨k+1,_,Ni.refl _,(hI _ _ _).2 ?_,by omega⟩;simp(disch:=omega) only[go_sem,↓reduceIte,e0,e3,hwd];(repeat' apply And.intro)<;>(try first | rfl | assumption | omega)
         ·have q4':(k:Int)<(l.length:Int)-1:=by omega
          rw[decide_eq_false q4,Bool.false_and] at hall;simp(disch:=omega) only[go_sem,↓reduceIte,e0,e3,g0,hfc,q1',q3,q4',hwl];exact Nu.refl ⟨by rw[hall],rfl⟩
        ·rw[decide_eq_false q3,Bool.not_false,Bool.true_or,Bool.true_and] at hall;simp(disch:=omega) only[go_sem,↓reduceIte,e0,e3,g0,hfc,q1',q3];refine⟨k+1,_,Ni.refl _,(hI _ _ _).2 ?_,by omega⟩;simp(disch:=omega) only[go_sem,↓reduceIte,e0,e3,hwd];(repeat' apply And.intro)<;>(try first | rfl | assumption | omega)
      ·have q1': ¬(0:Int)<(l[k].c.length:Int):=by omega
       have e1:l[k].c.isEmpty=true:=by rw[Ab];exact decide_eq_true (by omega)
       rw[e1,Bool.true_or,Bool.true_and] at hall;simp(disch:=omega) only[go_sem,↓reduceIte,e0,e3,hlt',hfl,gk,q1',Int.toNat_natCast];refine⟨k+1,_,Ni.refl _,(hI _ _ _).2 ?_,by omega⟩;simp(disch:=omega) only[go_sem,↓reduceIte,e0,e3,hwd];(repeat' apply And.intro)<;>(try first | rfl | assumption | omega)
     ·have:k=l.length:=by omega
      subst this;rw[List.drop_length] at hall;simp(disch:=omega) only[go_sem,↓reduceIte,e0,e3];exact Nu.refl ⟨by rw[hall];rfl,rfl⟩
theorem Eu {e:Ex} (h:Ak e false false false false=true):e.oper=0/\e.n=0/\e.s= []/\e.a.length=0:=by
 simpa [Ak,zO,zN,zS,zA,Ab,and_assoc] using h
theorem Pj {e:Ex} (h:Ak e false false false true=true):e.oper=0/\e.n=0/\e.s= []:=by
 simpa [Ak,zO,zN,zS,zA,Ab,and_assoc] using h
theorem Jy {e:Ex} (h:Ak e false false true false=true):e.oper=0/\e.n=0/\e.a.length=0:=by
 simpa [Ak,zO,zN,zS,zA,Ab,and_assoc] using h
theorem Af7 {e:Ex} (h:Ak e false true false false=true):e.oper=0/\e.s= []/\e.a.length=0:=by
 simpa [Ak,zO,zN,zS,zA,Ab,and_assoc] using h
theorem Pk {e:Ex} (h:Ak e true false false false=true):e.n=0/\e.s= []/\e.a.length=0:=by
 simpa [Ak,zO,zN,zS,zA,Ab,and_assoc] using h
theorem Af8 {e:Ex} (hk:e.kind=1) (h:Ak e false true false false=false):Af e=false:=by
 cases hf:Af e with
 | false=>rfl
 | true=>
  exfalso;unfold Af at hf;simp only[hk,reduceIte,Int.reduceEq,or_false,or_true,false_or,true_or,Bool.and_eq_true] at hf;simp only[Ak,Bool.false_or,Bool.true_or,Bool.true_and,Bool.and_true] at h;simp [hf] at h
theorem Af9 {e:Ex} (hk:e.kind=2) (h:Ak e false false false false=false):Af e=false:=by
 cases hf:Af e with
 | false=>rfl
 | true=>
  exfalso;unfold Af at hf;simp only[hk,reduceIte,Int.reduceEq,or_false,or_true,false_or,true_or,Bool.and_eq_true] at hf;simp only[Ak,Bool.false_or,Bool.true_or,Bool.true_and,Bool.and_true] at h;simp [hf] at h
theorem Ag0 {e:Ex} (hk:e.kind=3) (h:Ak e false false true false=false):Af e=false:=by
 cases hf:Af e with
 | false=>rfl
 | true=>
  exfalso;unfold Af at hf;simp only[hk,reduceIte,Int.reduceEq,or_false,or_true,false_or,true_or,Bool.and_eq_true] at hf;simp only[Ak,Bool.false_or,Bool.true_or,Bool.true_and,Bool.and_true] at h;simp [hf] at h
theorem Ag1 {e:Ex} (hk:e.kind=4) (h:Ak e false false true false=false):Af e=false:=by
 cases hf:Af e with
 | false=>rfl
 | true=>
  exfalso;unfold Af at hf;simp only[hk,reduceIte,Int.reduceEq,or_false,or_true,false_or,true_or,Bool.and_eq_true] at hf;simp only[Ak,Bool.false_or,Bool.true_or,Bool.true_and,Bool.and_true] at h;simp [hf] at h
theorem Ag2 {e:Ex} (hk:e.kind=6) (h:Ak e false false true false=false):Af e=false:=by
 cases hf:Af e with
 | false=>rfl
 | true=>
  exfalso;unfold Af at hf;simp only[hk,reduceIte,Int.reduceEq,or_false,or_true,false_or,true_or,Bool.and_eq_true] at hf;simp only[Ak,Bool.false_or,Bool.true_or,Bool.true_and,Bool.and_true] at h;simp [hf] at h
theorem Ag3 {e:Ex} (hk:e.kind=5) (h:Ak e false false false false=false):Af e=false:=by
 cases hf:Af e with
 | false=>rfl
 | true=>
  exfalso;unfold Af at hf;simp only[hk,reduceIte,Int.reduceEq,or_false,or_true,false_or,true_or,Bool.and_eq_true] at hf;simp only[Ak,Bool.false_or,Bool.true_or,Bool.true_and,Bool.and_true] at h;simp [hf] at h
theorem Ag4 {e:Ex} (hk:e.kind=7) (h:Ak e false false false true=false):Af e=false:=by
 cases hf:Af e with
 | false=>rfl
 | true=>
  exfalso;unfold Af at hf;simp only[hk,reduceIte,Int.reduceEq,or_false,or_true,false_or,true_or,Bool.and_eq_true] at hf;simp only[Ak,Bool.false_or,Bool.true_or,Bool.true_and,Bool.and_true] at h;simp [hf] at h
theorem Ag5 {e:Ex} (hk:e.kind=8) (h:Ak e false false false false=false):Af e=false:=by
 cases hf:Af e with
 | false=>rfl
 | true=>
  exfalso;unfold Af at hf;simp only[hk,reduceIte,Int.reduceEq,or_false,or_true,false_or,true_or,Bool.and_eq_true] at hf;simp only[Ak,Bool.false_or,Bool.true_or,Bool.true_and,Bool.and_true] at h;simp [hf] at h
theorem Ag6 {e:Ex} (hk:e.kind=9) (h:Ak e false false false true=false):Af e=false:=by
 cases hf:Af e with
 | false=>rfl
 | true=>
  exfalso;unfold Af at hf;simp only[hk,reduceIte,Int.reduceEq,or_false,or_true,false_or,true_or,Bool.and_eq_true] at hf;simp only[Ak,Bool.false_or,Bool.true_or,Bool.true_and,Bool.and_true] at h;simp [hf] at h
theorem Yi {e:Ex} (hk:e.kind=10) (h:Ak e false false false false=false):Af e=false:=by
 cases hf:Af e with
 | false=>rfl
 | true=>
  exfalso;unfold Af at hf;simp only[hk,reduceIte,Int.reduceEq,or_false,or_true,false_or,true_or,Bool.and_eq_true] at hf;simp only[Ak,Bool.false_or,Bool.true_or,Bool.true_and,Bool.and_true] at h;simp [hf] at h
theorem Yj {e:Ex} (hk:e.kind=11) (h:Ak e true false false false=false):Af e=false:=by
 cases hf:Af e with
 | false=>rfl
 | true=>
  exfalso;unfold Af at hf;simp only[hk,reduceIte,Int.reduceEq,or_false,or_true,false_or,true_or,Bool.and_eq_true] at hf;simp only[Ak,Bool.false_or,Bool.true_or,Bool.true_and,Bool.and_true] at h;simp [hf] at h
theorem Yk {e:Ex} (hk:e.kind=12) (h:Ak e true false false false=false):Af e=false:=by
 cases hf:Af e with
 | false=>rfl
 | true=>
  exfalso;unfold Af at hf;simp only[hk,reduceIte,Int.reduceEq,or_false,or_true,false_or,true_or,Bool.and_eq_true] at hf;simp only[Ak,Bool.false_or,Bool.true_or,Bool.true_and,Bool.and_true] at h;simp [hf] at h
theorem Yl {e:Ex} (hk:e.kind=13) (h:Ak e false false false false=false):Af e=false:=by
 cases hf:Af e with
 | false=>rfl
 | true=>
  exfalso;unfold Af at hf;simp only[hk,reduceIte,Int.reduceEq,or_false,or_true,false_or,true_or,Bool.and_eq_true] at hf;simp only[Ak,Bool.false_or,Bool.true_or,Bool.true_and,Bool.and_true] at h;simp [hf] at h
theorem Ym {e:Ex} (hk:e.kind=14) (h:Ak e false false false false=false):Af e=false:=by
 cases hf:Af e with
 | false=>rfl
 | true=>
  exfalso;unfold Af at hf;simp only[hk,reduceIte,Int.reduceEq,or_false,or_true,false_or,true_or,Bool.and_eq_true] at hf;simp only[Ak,Bool.false_or,Bool.true_or,Bool.true_and,Bool.and_true] at h;simp [hf] at h
set_option maxHeartbeats 4000000 in
theorem Au4 (G:Nat->DVal) (H:Ac) (e:Ex) (hb:Cv e<=1099511627776):Ai Tryz.prog G 152 [.agg (dEx e)] H (Au (.bool (Af e)) H):=by
 have hal:= @Bv4 e;have hll:= @Bv3 e;have hfl:=An Ah e.l;have hac: ∀a∈e.a,a.c.length<=1099511627776:=fun a ha=>by
  have h1:=Ae6 ha;have h2:=Ht a.c;rw[Lc] at h1;omega
 obtain⟨nz,hnz⟩: ∃nz,nz=Bc (e.l.getD 0 ex0):=⟨_,rfl⟩;have nn: ∀k,Fv e k=(decide (e.l.length=k)&&nz):=fun k=>by rw[hnz];rfl
 obtain⟨form,hform⟩: ∃form,form=(decide (0<e.l.length)&&nz):=⟨_,rfl⟩;refine Ad Tryz.func152 Tryz.call152 rfl (by kernel_rfl) ?_;simp(disch:=omega) only[go_sem,↓reduceIte,DVal.cells];intro r1 hr1;dsimp only at hr1;by_cases hp:0<e.l.length
 ·have hp':(0:Int)<(e.l.length:Int):=by omega
  have hg:=Bt Ah e.l 0 hp;have hgd:e.l.getD 0 ex0=e.l[0]:=by rw[List.getD,List.getElem?_eq_getElem hp];rfl
  rw[Nat.zero_mul,List.drop_zero] at hg;simp(disch:=omega) only[go_sem,↓reduceIte,hp',hg,hfl];refine(Km G _ e.l[0]).mono ?_;rintro _ H1 ⟨rfl,rfl⟩;rw[show Bc e.l[0]=form by rw[hform,decide_eq_true hp,Bool.true_and,hnz,hgd]];clear hg hgd;by_cases k1:e.kind=1
  ·skip
   simp(disch:=omega) only[go_sem,↓reduceIte,k1];refine(Ay G _ e false true false false).mono ?_;rintro _ H1 ⟨rfl,rfl⟩;cases pl:Ak e false true false false with
   | true=>
    have pl2:=Af7 pl;obtain⟨z1,z3,z4⟩:=pl2;by_cases clen0:e.l.length=0
    ·exfalso;omega
    ·have clen0': ¬(e.l.length:Int)=0:=by omega
     simp(disch:=omega) only[go_sem,↓reduceIte,k1,clen0'];exact Nu.dropA r1 hr1 (Nu.refl ⟨by simp [Af,zO,zN,zS,zA,Ab,nn,Ak,k1,z1,z3,z4,clen0],rfl⟩)
   | false=>
    simp(disch:=omega) only[go_sem,↓reduceIte,k1];exact Nu.dropA r1 hr1 (Nu.refl ⟨by rw[Af8 k1 pl],rfl⟩)
  by_cases k2:e.kind=2
  ·skip
   simp(disch:=omega) only[go_sem,↓reduceIte,k2];refine(Ay G _ e false false false false).mono ?_;rintro _ H1 ⟨rfl,rfl⟩;cases pl:Ak e false false false false with
   | true=>
    have pl2:=Eu pl;obtain⟨z1,z2,z3,z4⟩:=pl2;by_cases clen0:e.l.length=0
    ·exfalso;omega
    ·have clen0': ¬(e.l.length:Int)=0:=by omega
     simp(disch:=omega) only[go_sem,↓reduceIte,k2,clen0'];exact Nu.dropA r1 hr1 (Nu.refl ⟨by simp [Af,zO,zN,zS,zA,Ab,nn,Ak,k2,z1,z2,z3,z4,clen0],rfl⟩)
   | false=>
    simp(disch:=omega) only[go_sem,↓reduceIte,k2];exact Nu.dropA r1 hr1 (Nu.refl ⟨by rw[Af9 k2 pl],rfl⟩)
  by_cases k3:e.kind=3
  ·skip
   simp(disch:=omega) only[go_sem,↓reduceIte,k3];refine(Ay G _ e false false true false).mono ?_;rintro _ H1 ⟨rfl,rfl⟩;cases pl:Ak e false false true false with
   | true=>
    have pl2:=Jy pl;obtain⟨z1,z2,z4⟩:=pl2;by_cases clen0:e.l.length=0
    ·exfalso;omega
    ·have clen0': ¬(e.l.length:Int)=0:=by omega
     simp(disch:=omega) only[go_sem,↓reduceIte,k3,clen0'];exact Nu.dropA r1 hr1 (Nu.refl ⟨by simp [Af,zO,zN,zS,zA,Ab,nn,Ak,k3,z1,z2,z4,clen0],rfl⟩)
   | false=>
    simp(disch:=omega) only[go_sem,↓reduceIte,k3];exact Nu.dropA r1 hr1 (Nu.refl ⟨by rw[Ag0 k3 pl],rfl⟩)
  by_cases k4:e.kind=4
  ·skip
   simp(disch:=omega) only[go_sem,↓reduceIte,k4];refine(Ay G _ e false false true false).mono ?_;rintro _ H1 ⟨rfl,rfl⟩;cases pl:Ak e false false true false with
   | true=>
    have pl2:=Jy pl;obtain⟨z1,z2,z4⟩:=pl2;by_cases clen1:e.l.length=1
    ·have clen1':(e.l.length:Int)=1:=by omega
     cases hn0:nz with
     | true=>
      have hfm:form=true:=by rw[hform,hn0,Bool.and_true];exact decide_eq_true (by omega)
      simp(disch:=omega) only[go_sem,↓reduceIte,k4,clen1',hfm];refine(Pb G _ e.s).mono ?_;rintro _ H1 ⟨rfl,rfl⟩;cases vname:Kh e.s with
      | true=>
       simp(disch:=omega) only[go_sem,↓reduceIte,k4,clen1',hfm];exact Nu.dropA r1 hr1 (Nu.refl ⟨by simp [Af,zO,zN,zS,zA,Ab,nn,Ak,k4,z1,z2,z4,clen1,hn0,vname],rfl⟩)
      | false=>
       simp(disch:=omega) only[go_sem,↓reduceIte,k4,clen1',hfm];exact Nu.dropA r1 hr1 (Nu.refl ⟨by simp [Af,zO,zN,zS,zA,Ab,nn,Ak,k4,z1,z2,z4,clen1,hn0,vname],rfl⟩)
     | false=>
      have hfm:form=false:=by rw[hform,hn0,Bool.and_false]
      simp(disch:=omega) only[go_sem,↓reduceIte,k4,clen1',hfm];exact Nu.dropA r1 hr1 (Nu.refl ⟨by simp [Af,zO,zN,zS,zA,Ab,nn,Ak,k4,z1,z2,z4,clen1,hn0],rfl⟩)
    ·have clen1': ¬(e.l.length:Int)=1:=by omega
     simp(disch:=omega) only[go_sem,↓reduceIte,k4,clen1'];exact Nu.dropA r1 hr1 (Nu.refl ⟨by simp [Af,zO,zN,zS,zA,Ab,nn,Ak,k4,z1,z2,z4,clen1],rfl⟩)
   | false=>
    simp(disch:=omega) only[go_sem,↓reduceIte,k4];exact Nu.dropA r1 hr1 (Nu.refl ⟨by rw[Ag1 k4 pl],rfl⟩)
  by_cases k6:e.kind=6
  ·skip
   simp(disch:=omega) only[go_sem,↓reduceIte,k6];refine(Ay G _ e false false true false).mono ?_;rintro _ H1 ⟨rfl,rfl⟩;cases pl:Ak e false false true false with
   | true=>
    have pl2:=Jy pl;obtain⟨z1,z2,z4⟩:=pl2;by_cases clen1:e.l.length=1
    ·have clen1':(e.l.length:Int)=1:=by omega
     cases hn0:nz with
     | true=>
      have hfm:form=true:=by rw[hform,hn0,Bool.and_true];exact decide_eq_true (by omega)
      simp(disch:=omega) only[go_sem,↓reduceIte,k6,clen1',hfm];refine(Pb G _ e.s).mono ?_;rintro _ H1 ⟨rfl,rfl⟩;cases vname:Kh e.s with
      | true=>
       simp(disch:=omega) only[go_sem,↓reduceIte,k6,clen1',hfm];exact Nu.dropA r1 hr1 (Nu.refl ⟨by simp [Af,zO,zN,zS,zA,Ab,nn,Ak,k6,z1,z2,z4,clen1,hn0,vname],rfl⟩)
      | false=>
       simp(disch:=omega) only[go_sem,↓reduceIte,k6,clen1',hfm];exact Nu.dropA r1 hr1 (Nu.refl ⟨by simp [Af,zO,zN,zS,zA,Ab,nn,Ak,k6,z1,z2,z4,clen1,hn0,vname],rfl⟩)
     | false=>
      have hfm:form=false:=by rw[hform,hn0,Bool.and_false]
      simp(disch:=omega) only[go_sem,↓reduceIte,k6,clen1',hfm];exact Nu.dropA r1 hr1 (Nu.refl ⟨by simp [Af,zO,zN,zS,zA,Ab,nn,Ak,k6,z1,z2,z4,clen1,hn0],rfl⟩)
    ·have clen1': ¬(e.l.length:Int)=1:=by omega
     simp(disch:=omega) only[go_sem,↓reduceIte,k6,clen1'];exact Nu.dropA r1 hr1 (Nu.refl ⟨by simp [Af,zO,zN,zS,zA,Ab,nn,Ak,k6,z1,z2,z4,clen1],rfl⟩)
   | false=>
    simp(disch:=omega) only[go_sem,↓reduceIte,k6];exact Nu.dropA r1 hr1 (Nu.refl ⟨by rw[Ag2 k6 pl],rfl⟩)
  by_cases k5:e.kind=5
  ·skip
   simp(disch:=omega) only[go_sem,↓reduceIte,k5];refine(Ay G _ e false false false false).mono ?_;rintro _ H1 ⟨rfl,rfl⟩;cases pl:Ak e false false false false with
   | true=>
    have pl2:=Eu pl;obtain⟨z1,z2,z3,z4⟩:=pl2;by_cases clen1:e.l.length=1
    ·have clen1':(e.l.length:Int)=1:=by omega
     cases hn0:nz with
     | true=>
      have hfm:form=true:=by rw[hform,hn0,Bool.and_true];exact decide_eq_true (by omega)
      simp(disch:=omega) only[go_sem,↓reduceIte,k5,clen1',hfm];exact Nu.dropA r1 hr1 (Nu.refl ⟨by simp [Af,zO,zN,zS,zA,Ab,nn,Ak,k5,z1,z2,z3,z4,clen1,hn0],rfl⟩)
     | false=>
      have hfm:form=false:=by rw[hform,hn0,Bool.and_false]
      simp(disch:=omega) only[go_sem,↓reduceIte,k5,clen1',hfm];exact Nu.dropA r1 hr1 (Nu.refl ⟨by simp [Af,zO,zN,zS,zA,Ab,nn,Ak,k5,z1,z2,z3,z4,clen1,hn0],rfl⟩)
    ·have clen1': ¬(e.l.length:Int)=1:=by omega
     simp(disch:=omega) only[go_sem,↓reduceIte,k5,clen1'];exact Nu.dropA r1 hr1 (Nu.refl ⟨by simp [Af,zO,zN,zS,zA,Ab,nn,Ak,k5,z1,z2,z3,z4,clen1],rfl⟩)
   | false=>
    simp(disch:=omega) only[go_sem,↓reduceIte,k5];exact Nu.dropA r1 hr1 (Nu.refl ⟨by rw[Ag3 k5 pl],rfl⟩)
  by_cases k7:e.kind=7
  ·skip
   simp(disch:=omega) only[go_sem,↓reduceIte,k7];refine(Ay G _ e false false false true).mono ?_;rintro _ H1 ⟨rfl,rfl⟩;cases pl:Ak e false false false true with
   | true=>
    have pl2:=Pj pl;obtain⟨z1,z2,z3⟩:=pl2;by_cases clen1:e.l.length=1
    ·have clen1':(e.l.length:Int)=1:=by omega
     cases hn0:nz with
     | true=>
      have hfm:form=true:=by rw[hform,hn0,Bool.and_true];exact decide_eq_true (by omega)
      simp(disch:=omega) only[go_sem,↓reduceIte,k7,clen1',hfm];refine(Zd G _ e.a (by omega)).mono ?_;rintro _ H1 ⟨rfl,rfl⟩;cases vargs:Gl e.a with
      | true=>
       simp(disch:=omega) only[go_sem,↓reduceIte,k7,clen1',hfm];exact Nu.dropA r1 hr1 (Nu.refl ⟨by simp [Af,zO,zN,zS,zA,Ab,nn,Ak,k7,z1,z2,z3,clen1,hn0,vargs],rfl⟩)
      | false=>
       simp(disch:=omega) only[go_sem,↓reduceIte,k7,clen1',hfm];exact Nu.dropA r1 hr1 (Nu.refl ⟨by simp [Af,zO,zN,zS,zA,Ab,nn,Ak,k7,z1,z2,z3,clen1,hn0,vargs],rfl⟩)
     | false=>
      have hfm:form=false:=by rw[hform,hn0,Bool.and_false]
      simp(disch:=omega) only[go_sem,↓reduceIte,k7,clen1',hfm];exact Nu.dropA r1 hr1 (Nu.refl ⟨by simp [Af,zO,zN,zS,zA,Ab,nn,Ak,k7,z1,z2,z3,clen1,hn0],rfl⟩)
    ·have clen1': ¬(e.l.length:Int)=1:=by omega
     simp(disch:=omega) only[go_sem,↓reduceIte,k7,clen1'];exact Nu.dropA r1 hr1 (Nu.refl ⟨by simp [Af,zO,zN,zS,zA,Ab,nn,Ak,k7,z1,z2,z3,clen1],rfl⟩)
   | false=>
    simp(disch:=omega) only[go_sem,↓reduceIte,k7];exact Nu.dropA r1 hr1 (Nu.refl ⟨by rw[Ag4 k7 pl],rfl⟩)
  by_cases k8:e.kind=8
  ·skip
   simp(disch:=omega) only[go_sem,↓reduceIte,k8];refine(Ay G _ e false false false false).mono ?_;rintro _ H1 ⟨rfl,rfl⟩;cases pl:Ak e false false false false with
   | true=>
    have pl2:=Eu pl;obtain⟨z1,z2,z3,z4⟩:=pl2;by_cases clen2:e.l.length=2
    ·have clen2':(e.l.length:Int)=2:=by omega
     cases hn0:nz with
     | true=>
      have hfm:form=true:=by rw[hform,hn0,Bool.and_true];exact decide_eq_true (by omega)
      simp(disch:=omega) only[go_sem,↓reduceIte,k8,clen2',hfm];exact Nu.dropA r1 hr1 (Nu.refl ⟨by simp [Af,zO,zN,zS,zA,Ab,nn,Ak,k8,z1,z2,z3,z4,clen2,hn0],rfl⟩)
     | false=>
      have hfm:form=false:=by rw[hform,hn0,Bool.and_false]
      simp(disch:=omega) only[go_sem,↓reduceIte,k8,clen2',hfm];exact Nu.dropA r1 hr1 (Nu.refl ⟨by simp [Af,zO,zN,zS,zA,Ab,nn,Ak,k8,z1,z2,z3,z4,clen2,hn0],rfl⟩)
    ·have clen2': ¬(e.l.length:Int)=2:=by omega
     simp(disch:=omega) only[go_sem,↓reduceIte,k8,clen2'];exact Nu.dropA r1 hr1 (Nu.refl ⟨by simp [Af,zO,zN,zS,zA,Ab,nn,Ak,k8,z1,z2,z3,z4,clen2],rfl⟩)
   | false=>
    simp(disch:=omega) only[go_sem,↓reduceIte,k8];exact Nu.dropA r1 hr1 (Nu.refl ⟨by rw[Ag5 k8 pl],rfl⟩)
  by_cases k9:e.kind=9
  ·skip
   simp(disch:=omega) only[go_sem,↓reduceIte,k9];refine(Ay G _ e false false false true).mono ?_;rintro _ H1 ⟨rfl,rfl⟩;cases pl:Ak e false false false true with
   | true=>
    have pl2:=Pj pl;obtain⟨z1,z2,z3⟩:=pl2;by_cases clen0:e.l.length=0
    ·exfalso;omega
    ·have clen0': ¬(e.l.length:Int)=0:=by omega
     simp(disch:=omega) only[go_sem,↓reduceIte,k9,clen0'];exact Nu.dropA r1 hr1 (Nu.refl ⟨by simp [Af,zO,zN,zS,zA,Ab,nn,Ak,k9,z1,z2,z3,clen0],rfl⟩)
   | false=>
    simp(disch:=omega) only[go_sem,↓reduceIte,k9];exact Nu.dropA r1 hr1 (Nu.refl ⟨by rw[Ag6 k9 pl],rfl⟩)
  by_cases k10:e.kind=10
  ·skip
   simp(disch:=omega) only[go_sem,↓reduceIte,k10];refine(Ay G _ e false false false false).mono ?_;rintro _ H1 ⟨rfl,rfl⟩;cases pl:Ak e false false false false with
   | true=>
    have pl2:=Eu pl;obtain⟨z1,z2,z3,z4⟩:=pl2;by_cases clen3:e.l.length=3
    ·have clen3':(e.l.length:Int)=3:=by omega
     simp(disch:=omega) only[go_sem,↓reduceIte,k10,clen3'];exact Nu.dropA r1 hr1 (Nu.refl ⟨by simp [Af,zO,zN,zS,zA,Ab,nn,Ak,k10,z1,z2,z3,z4,clen3],rfl⟩)
    ·have clen3': ¬(e.l.length:Int)=3:=by omega
     simp(disch:=omega) only[go_sem,↓reduceIte,k10,clen3'];exact Nu.dropA r1 hr1 (Nu.refl ⟨by simp [Af,zO,zN,zS,zA,Ab,nn,Ak,k10,z1,z2,z3,z4,clen3],rfl⟩)
   | false=>
    simp(disch:=omega) only[go_sem,↓reduceIte,k10];exact Nu.dropA r1 hr1 (Nu.refl ⟨by rw[Yi k10 pl],rfl⟩)
  by_cases k11:e.kind=11
  ·skip
   simp(disch:=omega) only[go_sem,↓reduceIte,k11];refine(Ay G _ e true false false false).mono ?_;rintro _ H1 ⟨rfl,rfl⟩;cases pl:Ak e true false false false with
   | true=>
    have pl2:=Pk pl;obtain⟨z2,z3,z4⟩:=pl2;by_cases clen1:e.l.length=1
    ·have clen1':(e.l.length:Int)=1:=by omega
     simp(disch:=omega) only[go_sem,↓reduceIte,k11,clen1'];refine(Al1 G _ e.oper).mono ?_;rintro _ H1 ⟨rfl,rfl⟩;by_cases ca:18<=e.oper
     ·by_cases cb:e.oper<=21
      ·skip
       simp(disch:=omega) only[go_sem,↓reduceIte,k11,clen1',ca,cb];exact Nu.dropA r1 hr1 (Nu.refl ⟨by simp [Af,zO,zN,zS,zA,Ab,nn,Ak,k11,z2,z3,z4,clen1,ca,cb],rfl⟩)
      ·skip
       simp(disch:=omega) only[go_sem,↓reduceIte,k11,clen1',ca,cb];exact Nu.dropA r1 hr1 (Nu.refl ⟨by simp [Af,zO,zN,zS,zA,Ab,nn,Ak,k11,z2,z3,z4,clen1,ca,cb],rfl⟩)
     ·skip
      simp(disch:=omega) only[go_sem,↓reduceIte,k11,clen1',ca];exact Nu.dropA r1 hr1 (Nu.refl ⟨by simp [Af,zO,zN,zS,zA,Ab,nn,Ak,k11,z2,z3,z4,clen1,ca],rfl⟩)
    ·have clen1': ¬(e.l.length:Int)=1:=by omega
     simp(disch:=omega) only[go_sem,↓reduceIte,k11,clen1'];exact Nu.dropA r1 hr1 (Nu.refl ⟨by simp [Af,zO,zN,zS,zA,Ab,nn,Ak,k11,z2,z3,z4,clen1],rfl⟩)
   | false=>
    simp(disch:=omega) only[go_sem,↓reduceIte,k11];exact Nu.dropA r1 hr1 (Nu.refl ⟨by rw[Yj k11 pl],rfl⟩)
  by_cases k12:e.kind=12
  ·skip
   simp(disch:=omega) only[go_sem,↓reduceIte,k12];refine(Ay G _ e true false false false).mono ?_;rintro _ H1 ⟨rfl,rfl⟩;cases pl:Ak e true false false false with
   | true=>
    have pl2:=Pk pl;obtain⟨z2,z3,z4⟩:=pl2;by_cases clen2:e.l.length=2
    ·have clen2':(e.l.length:Int)=2:=by omega
     simp(disch:=omega) only[go_sem,↓reduceIte,k12,clen2'];refine(Au3 G _ e.oper).mono ?_;rintro _ H1 ⟨rfl,rfl⟩;by_cases ca:1<=e.oper
     ·by_cases cb:e.oper<=17
      ·skip
       simp(disch:=omega) only[go_sem,↓reduceIte,k12,clen2',ca,cb];exact Nu.dropA r1 hr1 (Nu.refl ⟨by simp [Af,zO,zN,zS,zA,Ab,nn,Ak,k12,z2,z3,z4,clen2,ca,cb],rfl⟩)
      ·skip
       simp(disch:=omega) only[go_sem,↓reduceIte,k12,clen2',ca,cb];exact Nu.dropA r1 hr1 (Nu.refl ⟨by simp [Af,zO,zN,zS,zA,Ab,nn,Ak,k12,z2,z3,z4,clen2,ca,cb],rfl⟩)
     ·skip
      simp(disch:=omega) only[go_sem,↓reduceIte,k12,clen2',ca];exact Nu.dropA r1 hr1 (Nu.refl ⟨by simp [Af,zO,zN,zS,zA,Ab,nn,Ak,k12,z2,z3,z4,clen2,ca],rfl⟩)
    ·have clen2': ¬(e.l.length:Int)=2:=by omega
     simp(disch:=omega) only[go_sem,↓reduceIte,k12,clen2'];exact Nu.dropA r1 hr1 (Nu.refl ⟨by simp [Af,zO,zN,zS,zA,Ab,nn,Ak,k12,z2,z3,z4,clen2],rfl⟩)
   | false=>
    simp(disch:=omega) only[go_sem,↓reduceIte,k12];exact Nu.dropA r1 hr1 (Nu.refl ⟨by rw[Yk k12 pl],rfl⟩)
  by_cases k13:e.kind=13
  ·skip
   simp(disch:=omega) only[go_sem,↓reduceIte,k13];refine(Ay G _ e false false false false).mono ?_;rintro _ H1 ⟨rfl,rfl⟩;cases pl:Ak e false false false false with
   | true=>
    have pl2:=Eu pl;obtain⟨z1,z2,z3,z4⟩:=pl2;by_cases c2:e.l.length=2
    ·have c2':(e.l.length:Int)=2:=by omega
     have c3': ¬(e.l.length:Int)=3:=by omega
     have c3: ¬e.l.length=3:=by omega
     have hp1:1<e.l.length:=by omega
     have hg1:=Bt Ah e.l 1 hp1;have hgd1:e.l.getD 1 ex0=e.l[1]:=by rw[List.getD,List.getElem?_eq_getElem hp1];rfl
     rw[Nat.one_mul] at hg1;simp(disch:=omega) only[go_sem,↓reduceIte,k13,c2',hg1,hfl];refine(Km G _ e.l[1]).mono ?_;rintro _ H1 ⟨rfl,rfl⟩;cases ct:Bc e.l[1] with
     | true=>
      simp(disch:=omega) only[go_sem,↓reduceIte,k13,c2'];exact Nu.dropA r1 hr1 (Nu.refl ⟨by simp [Af,zO,zN,zS,zA,Ab,nn,Ak,k13,z1,z2,z3,z4,c3,c2,hgd1,ct],rfl⟩)
     | false=>
      simp(disch:=omega) only[go_sem,↓reduceIte,k13,c2',c3'];exact Nu.dropA r1 hr1 (Nu.refl ⟨by simp [Af,zO,zN,zS,zA,Ab,nn,Ak,k13,z1,z2,z3,z4,c3,c2,hgd1,ct],rfl⟩)
    ·have c2': ¬(e.l.length:Int)=2:=by omega
     by_cases c3:e.l.length=3
     ·have c3':(e.l.length:Int)=3:=by omega
      simp(disch:=omega) only[go_sem,↓reduceIte,k13,c2',c3'];exact Nu.dropA r1 hr1 (Nu.refl ⟨by simp [Af,zO,zN,zS,zA,Ab,nn,Ak,k13,z1,z2,z3,z4,c2,c3],rfl⟩)
     ·have c3': ¬(e.l.length:Int)=3:=by omega
      simp(disch:=omega) only[go_sem,↓reduceIte,k13,c2',c3'];exact Nu.dropA r1 hr1 (Nu.refl ⟨by simp [Af,zO,zN,zS,zA,Ab,nn,Ak,k13,z1,z2,z3,z4,c2,c3],rfl⟩)
   | false=>
    simp(disch:=omega) only[go_sem,↓reduceIte,k13];exact Nu.dropA r1 hr1 (Nu.refl ⟨by rw[Yl k13 pl],rfl⟩)
  by_cases k14:e.kind=14
  ·skip
   simp(disch:=omega) only[go_sem,↓reduceIte,k14];refine(Ay G _ e false false false false).mono ?_;rintro _ H1 ⟨rfl,rfl⟩;cases pl:Ak e false false false false with
   | true=>
    have pl2:=Eu pl;obtain⟨z1,z2,z3,z4⟩:=pl2;by_cases c2:e.l.length=2
    ·have c2':(e.l.length:Int)=2:=by omega
     have c3': ¬(e.l.length:Int)=3:=by omega
     have c3: ¬e.l.length=3:=by omega
     have hp1:1<e.l.length:=by omega
     have hg1:=Bt Ah e.l 1 hp1;have hgd1:e.l.getD 1 ex0=e.l[1]:=by rw[List.getD,List.getElem?_eq_getElem hp1];rfl
     rw[Nat.one_mul] at hg1;simp(disch:=omega) only[go_sem,↓reduceIte,k14,c2',hg1,hfl];refine(Km G _ e.l[1]).mono ?_;rintro _ H1 ⟨rfl,rfl⟩;cases ct:Bc e.l[1] with
     | true=>
      simp(disch:=omega) only[go_sem,↓reduceIte,k14,c2'];exact Nu.dropA r1 hr1 (Nu.refl ⟨by simp [Af,zO,zN,zS,zA,Ab,nn,Ak,k14,z1,z2,z3,z4,c3,c2,hgd1,ct],rfl⟩)
     | false=>
      simp(disch:=omega) only[go_sem,↓reduceIte,k14,c2',c3'];exact Nu.dropA r1 hr1 (Nu.refl ⟨by simp [Af,zO,zN,zS,zA,Ab,nn,Ak,k14,z1,z2,z3,z4,c3,c2,hgd1,ct],rfl⟩)
    ·have c2': ¬(e.l.length:Int)=2:=by omega
     by_cases c3:e.l.length=3
     ·have c3':(e.l.length:Int)=3:=by omega
      simp(disch:=omega) only[go_sem,↓reduceIte,k14,c2',c3'];exact Nu.dropA r1 hr1 (Nu.refl ⟨by simp [Af,zO,zN,zS,zA,Ab,nn,Ak,k14,z1,z2,z3,z4,c2,c3],rfl⟩)
     ·have c3': ¬(e.l.length:Int)=3:=by omega
      simp(disch:=omega) only[go_sem,↓reduceIte,k14,c2',c3'];exact Nu.dropA r1 hr1 (Nu.refl ⟨by simp [Af,zO,zN,zS,zA,Ab,nn,Ak,k14,z1,z2,z3,z4,c2,c3],rfl⟩)
   | false=>
    simp(disch:=omega) only[go_sem,↓reduceIte,k14];exact Nu.dropA r1 hr1 (Nu.refl ⟨by rw[Ym k14 pl],rfl⟩)
  simp(disch:=omega) only[go_sem,↓reduceIte,k1,k2,k3,k4,k6,k5,k7,k8,k9,k10,k11,k12,k13,k14];exact Nu.dropA r1 hr1 (Nu.refl ⟨by simp [Af,k1,k2,k3,k4,k6,k5,k7,k8,k9,k10,k11,k12,k13,k14],rfl⟩)
 ·have hp': ¬(0:Int)<(e.l.length:Int):=by omega
  have hfm0:form=false:=by rw[hform,decide_eq_false hp,Bool.false_and]
  simp(disch:=omega) only[go_sem,↓reduceIte,hp'];by_cases k1:e.kind=1
  ·skip
   simp(disch:=omega) only[go_sem,↓reduceIte,k1];refine(Ay G _ e false true false false).mono ?_;rintro _ H1 ⟨rfl,rfl⟩;cases pl:Ak e false true false false with
   | true=>
    have pl2:=Af7 pl;obtain⟨z1,z3,z4⟩:=pl2;by_cases clen0:e.l.length=0
    ·have clen0':(e.l.length:Int)=0:=by omega
     by_cases ca:0<=e.n
     ·by_cases cb:e.n<=2147483647
      ·skip
       simp(disch:=omega) only[go_sem,↓reduceIte,k1,clen0',ca,cb];exact Nu.dropA r1 hr1 (Nu.refl ⟨by simp [Af,zO,zN,zS,zA,Ab,nn,Ak,k1,z1,z3,z4,clen0,ca,cb],rfl⟩)
      ·skip
       simp(disch:=omega) only[go_sem,↓reduceIte,k1,clen0',ca,cb];exact Nu.dropA r1 hr1 (Nu.refl ⟨by simp [Af,zO,zN,zS,zA,Ab,nn,Ak,k1,z1,z3,z4,clen0,ca,cb],rfl⟩)
     ·skip
      simp(disch:=omega) only[go_sem,↓reduceIte,k1,clen0',ca];exact Nu.dropA r1 hr1 (Nu.refl ⟨by simp [Af,zO,zN,zS,zA,Ab,nn,Ak,k1,z1,z3,z4,clen0,ca],rfl⟩)
    ·exfalso;omega
   | false=>
    simp(disch:=omega) only[go_sem,↓reduceIte,k1];exact Nu.dropA r1 hr1 (Nu.refl ⟨by rw[Af8 k1 pl],rfl⟩)
  by_cases k2:e.kind=2
  ·skip
   simp(disch:=omega) only[go_sem,↓reduceIte,k2];refine(Ay G _ e false false false false).mono ?_;rintro _ H1 ⟨rfl,rfl⟩;cases pl:Ak e false false false false with
   | true=>
    have pl2:=Eu pl;obtain⟨z1,z2,z3,z4⟩:=pl2;by_cases clen0:e.l.length=0
    ·have clen0':(e.l.length:Int)=0:=by omega
     simp(disch:=omega) only[go_sem,↓reduceIte,k2,clen0'];exact Nu.dropA r1 hr1 (Nu.refl ⟨by simp [Af,zO,zN,zS,zA,Ab,nn,Ak,k2,z1,z2,z3,z4,clen0],rfl⟩)
    ·exfalso;omega
   | false=>
    simp(disch:=omega) only[go_sem,↓reduceIte,k2];exact Nu.dropA r1 hr1 (Nu.refl ⟨by rw[Af9 k2 pl],rfl⟩)
  by_cases k3:e.kind=3
  ·skip
   simp(disch:=omega) only[go_sem,↓reduceIte,k3];refine(Ay G _ e false false true false).mono ?_;rintro _ H1 ⟨rfl,rfl⟩;cases pl:Ak e false false true false with
   | true=>
    have pl2:=Jy pl;obtain⟨z1,z2,z4⟩:=pl2;by_cases clen0:e.l.length=0
    ·have clen0':(e.l.length:Int)=0:=by omega
     simp(disch:=omega) only[go_sem,↓reduceIte,k3,clen0'];refine(Pb G _ e.s).mono ?_;rintro _ H1 ⟨rfl,rfl⟩;cases vname:Kh e.s with
     | true=>
      simp(disch:=omega) only[go_sem,↓reduceIte,k3,clen0'];exact Nu.dropA r1 hr1 (Nu.refl ⟨by simp [Af,zO,zN,zS,zA,Ab,nn,Ak,k3,z1,z2,z4,clen0,vname],rfl⟩)
     | false=>
      simp(disch:=omega) only[go_sem,↓reduceIte,k3,clen0'];exact Nu.dropA r1 hr1 (Nu.refl ⟨by simp [Af,zO,zN,zS,zA,Ab,nn,Ak,k3,z1,z2,z4,clen0,vname],rfl⟩)
    ·exfalso;omega
   | false=>
    simp(disch:=omega) only[go_sem,↓reduceIte,k3];exact Nu.dropA r1 hr1 (Nu.refl ⟨by rw[Ag0 k3 pl],rfl⟩)
  by_cases k4:e.kind=4
  ·skip
   simp(disch:=omega) only[go_sem,↓reduceIte,k4];refine(Ay G _ e false false true false).mono ?_;rintro _ H1 ⟨rfl,rfl⟩;cases pl:Ak e false false true false with
   | true=>
    have pl2:=Jy pl;obtain⟨z1,z2,z4⟩:=pl2;by_cases clen1:e.l.length=1
    ·exfalso;omega
    ·have clen1': ¬(e.l.length:Int)=1:=by omega
     simp(disch:=omega) only[go_sem,↓reduceIte,k4,clen1'];exact Nu.dropA r1 hr1 (Nu.refl ⟨by simp [Af,zO,zN,zS,zA,Ab,nn,Ak,k4,z1,z2,z4,clen1],rfl⟩)
   | false=>
    simp(disch:=omega) only[go_sem,↓reduceIte,k4];exact Nu.dropA r1 hr1 (Nu.refl ⟨by rw[Ag1 k4 pl],rfl⟩)
  by_cases k6:e.kind=6
  ·skip
   simp(disch:=omega) only[go_sem,↓reduceIte,k6];refine(Ay G _ e false false true false).mono ?_;rintro _ H1 ⟨rfl,rfl⟩;cases pl:Ak e false false true false with
   | true=>
    have pl2:=Jy pl;obtain⟨z1,z2,z4⟩:=pl2;by_cases clen1:e.l.length=1
    ·exfalso;omega
    ·have clen1': ¬(e.l.length:Int)=1:=by omega
     simp(disch:=omega) only[go_sem,↓reduceIte,k6,clen1'];exact Nu.dropA r1 hr1 (Nu.refl ⟨by simp [Af,zO,zN,zS,zA,Ab,nn,Ak,k6,z1,z2,z4,clen1],rfl⟩)
   | false=>
    simp(disch:=omega) only[go_sem,↓reduceIte,k6];exact Nu.dropA r1 hr1 (Nu.refl ⟨by rw[Ag2 k6 pl],rfl⟩)
  by_cases k5:e.kind=5
  ·skip
   simp(disch:=omega) only[go_sem,↓reduceIte,k5];refine(Ay G _ e false false false false).mono ?_;rintro _ H1 ⟨rfl,rfl⟩;cases pl:Ak e false false false false with
   | true=>
    have pl2:=Eu pl;obtain⟨z1,z2,z3,z4⟩:=pl2;by_cases clen1:e.l.length=1
    ·exfalso;omega
    ·have clen1': ¬(e.l.length:Int)=1:=by omega
     simp(disch:=omega) only[go_sem,↓reduceIte,k5,clen1'];exact Nu.dropA r1 hr1 (Nu.refl ⟨by simp [Af,zO,zN,zS,zA,Ab,nn,Ak,k5,z1,z2,z3,z4,clen1],rfl⟩)
   | false=>
    simp(disch:=omega) only[go_sem,↓reduceIte,k5];exact Nu.dropA r1 hr1 (Nu.refl ⟨by rw[Ag3 k5 pl],rfl⟩)
  by_cases k7:e.kind=7
  ·skip
   simp(disch:=omega) only[go_sem,↓reduceIte,k7];refine(Ay G _ e false false false true).mono ?_;rintro _ H1 ⟨rfl,rfl⟩;cases pl:Ak e false false false true with
   | true=>
    have pl2:=Pj pl;obtain⟨z1,z2,z3⟩:=pl2;by_cases clen1:e.l.length=1
    ·exfalso;omega
    ·have clen1': ¬(e.l.length:Int)=1:=by omega
     simp(disch:=omega) only[go_sem,↓reduceIte,k7,clen1'];exact Nu.dropA r1 hr1 (Nu.refl ⟨by simp [Af,zO,zN,zS,zA,Ab,nn,Ak,k7,z1,z2,z3,clen1],rfl⟩)
   | false=>
    simp(disch:=omega) only[go_sem,↓reduceIte,k7];exact Nu.dropA r1 hr1 (Nu.refl ⟨by rw[Ag4 k7 pl],rfl⟩)
  by_cases k8:e.kind=8
  ·skip
   simp(disch:=omega) only[go_sem,↓reduceIte,k8];refine(Ay G _ e false false false false).mono ?_;rintro _ H1 ⟨rfl,rfl⟩;cases pl:Ak e false false false false with
   | true=>
    have pl2:=Eu pl;obtain⟨z1,z2,z3,z4⟩:=pl2;by_cases clen2:e.l.length=2
    ·exfalso;omega
    ·have clen2': ¬(e.l.length:Int)=2:=by omega
     simp(disch:=omega) only[go_sem,↓reduceIte,k8,clen2'];exact Nu.dropA r1 hr1 (Nu.refl ⟨by simp [Af,zO,zN,zS,zA,Ab,nn,Ak,k8,z1,z2,z3,z4,clen2],rfl⟩)
   | false=>
    simp(disch:=omega) only[go_sem,↓reduceIte,k8];exact Nu.dropA r1 hr1 (Nu.refl ⟨by rw[Ag5 k8 pl],rfl⟩)
  by_cases k9:e.kind=9
  ·skip
   simp(disch:=omega) only[go_sem,↓reduceIte,k9];refine(Ay G _ e false false false true).mono ?_;rintro _ H1 ⟨rfl,rfl⟩;cases pl:Ak e false false false true with
   | true=>
    have pl2:=Pj pl;obtain⟨z1,z2,z3⟩:=pl2;by_cases clen0:e.l.length=0
    ·have clen0':(e.l.length:Int)=0:=by omega
     simp(disch:=omega) only[go_sem,↓reduceIte,k9,clen0'];refine(Ta G _ e.a (by omega) hac).mono ?_;rintro _ H1 ⟨rfl,rfl⟩;cases vassocs:Ej e.a with
     | true=>
      simp(disch:=omega) only[go_sem,↓reduceIte,k9,clen0'];exact Nu.dropA r1 hr1 (Nu.refl ⟨by simp [Af,zO,zN,zS,zA,Ab,nn,Ak,k9,z1,z2,z3,clen0,vassocs],rfl⟩)
     | false=>
      simp(disch:=omega) only[go_sem,↓reduceIte,k9,clen0'];exact Nu.dropA r1 hr1 (Nu.refl ⟨by simp [Af,zO,zN,zS,zA,Ab,nn,Ak,k9,z1,z2,z3,clen0,vassocs],rfl⟩)
    ·exfalso;omega
   | false=>
    simp(disch:=omega) only[go_sem,↓reduceIte,k9];exact Nu.dropA r1 hr1 (Nu.refl ⟨by rw[Ag6 k9 pl],rfl⟩)
  by_cases k10:e.kind=10
  ·skip
   simp(disch:=omega) only[go_sem,↓reduceIte,k10];refine(Ay G _ e false false false false).mono ?_;rintro _ H1 ⟨rfl,rfl⟩;cases pl:Ak e false false false false with
   | true=>
    have pl2:=Eu pl;obtain⟨z1,z2,z3,z4⟩:=pl2;by_cases clen3:e.l.length=3
    ·exfalso;omega
    ·have clen3': ¬(e.l.length:Int)=3:=by omega
     simp(disch:=omega) only[go_sem,↓reduceIte,k10,clen3'];exact Nu.dropA r1 hr1 (Nu.refl ⟨by simp [Af,zO,zN,zS,zA,Ab,nn,Ak,k10,z1,z2,z3,z4,clen3],rfl⟩)
   | false=>
    simp(disch:=omega) only[go_sem,↓reduceIte,k10];exact Nu.dropA r1 hr1 (Nu.refl ⟨by rw[Yi k10 pl],rfl⟩)
  by_cases k11:e.kind=11
  ·skip
   simp(disch:=omega) only[go_sem,↓reduceIte,k11];refine(Ay G _ e true false false false).mono ?_;rintro _ H1 ⟨rfl,rfl⟩;cases pl:Ak e true false false false with
   | true=>
    have pl2:=Pk pl;obtain⟨z2,z3,z4⟩:=pl2;by_cases clen1:e.l.length=1
    ·exfalso;omega
    ·have clen1': ¬(e.l.length:Int)=1:=by omega
     simp(disch:=omega) only[go_sem,↓reduceIte,k11,clen1'];exact Nu.dropA r1 hr1 (Nu.refl ⟨by simp [Af,zO,zN,zS,zA,Ab,nn,Ak,k11,z2,z3,z4,clen1],rfl⟩)
   | false=>
    simp(disch:=omega) only[go_sem,↓reduceIte,k11];exact Nu.dropA r1 hr1 (Nu.refl ⟨by rw[Yj k11 pl],rfl⟩)
  by_cases k12:e.kind=12
  ·skip
   simp(disch:=omega) only[go_sem,↓reduceIte,k12];refine(Ay G _ e true false false false).mono ?_;rintro _ H1 ⟨rfl,rfl⟩;cases pl:Ak e true false false false with
   | true=>
    have pl2:=Pk pl;obtain⟨z2,z3,z4⟩:=pl2;by_cases clen2:e.l.length=2
    ·exfalso;omega
    ·have clen2': ¬(e.l.length:Int)=2:=by omega
     simp(disch:=omega) only[go_sem,↓reduceIte,k12,clen2'];exact Nu.dropA r1 hr1 (Nu.refl ⟨by simp [Af,zO,zN,zS,zA,Ab,nn,Ak,k12,z2,z3,z4,clen2],rfl⟩)
   | false=>
    simp(disch:=omega) only[go_sem,↓reduceIte,k12];exact Nu.dropA r1 hr1 (Nu.refl ⟨by rw[Yk k12 pl],rfl⟩)
  by_cases k13:e.kind=13
  ·skip
   simp(disch:=omega) only[go_sem,↓reduceIte,k13];refine(Ay G _ e false false false false).mono ?_;rintro _ H1 ⟨rfl,rfl⟩;cases pl:Ak e false false false false with
   | true=>
    have pl2:=Eu pl;obtain⟨z1,z2,z3,z4⟩:=pl2;by_cases c2:e.l.length=2
    ·exfalso;omega
    ·have c2': ¬(e.l.length:Int)=2:=by omega
     by_cases c3:e.l.length=3
     ·exfalso;omega
     ·have c3': ¬(e.l.length:Int)=3:=by omega
      simp(disch:=omega) only[go_sem,↓reduceIte,k13,c2',c3'];exact Nu.dropA r1 hr1 (Nu.refl ⟨by simp [Af,zO,zN,zS,zA,Ab,nn,Ak,k13,z1,z2,z3,z4,c2,c3],rfl⟩)
   | false=>
    simp(disch:=omega) only[go_sem,↓reduceIte,k13];exact Nu.dropA r1 hr1 (Nu.refl ⟨by rw[Yl k13 pl],rfl⟩)
  by_cases k14:e.kind=14
  ·skip
   simp(disch:=omega) only[go_sem,↓reduceIte,k14];refine(Ay G _ e false false false false).mono ?_;rintro _ H1 ⟨rfl,rfl⟩;cases pl:Ak e false false false false with
   | true=>
    have pl2:=Eu pl;obtain⟨z1,z2,z3,z4⟩:=pl2;by_cases c2:e.l.length=2
    ·exfalso;omega
    ·have c2': ¬(e.l.length:Int)=2:=by omega
     by_cases c3:e.l.length=3
     ·exfalso;omega
     ·have c3': ¬(e.l.length:Int)=3:=by omega
      simp(disch:=omega) only[go_sem,↓reduceIte,k14,c2',c3'];exact Nu.dropA r1 hr1 (Nu.refl ⟨by simp [Af,zO,zN,zS,zA,Ab,nn,Ak,k14,z1,z2,z3,z4,c2,c3],rfl⟩)
   | false=>
    simp(disch:=omega) only[go_sem,↓reduceIte,k14];exact Nu.dropA r1 hr1 (Nu.refl ⟨by rw[Ym k14 pl],rfl⟩)
  simp(disch:=omega) only[go_sem,↓reduceIte,k1,k2,k3,k4,k6,k5,k7,k8,k9,k10,k11,k12,k13,k14];exact Nu.dropA r1 hr1 (Nu.refl ⟨by simp [Af,k1,k2,k3,k4,k6,k5,k7,k8,k9,k10,k11,k12,k13,k14],rfl⟩)
end
end Go.Dl

-- Chapter 3: the reference: Parts, room, May, Size, Lines.
namespace Go.Dl
open Go Go.Proofs
set_option maxRecDepth 100000
theorem Nc (l m:List Ex):Fk (l++m)=Fk l+Fk m:=by
 induction l with
 | nil=>simp [Fk]
 | cons x l ih=>rw[List.cons_append,Fk,Fk,ih];omega
theorem Be7 (a:As):Fk (Bw a)<=Ny a:=by
 rw[Bw,Nc,Lc];have h: ∀l:List Ch,Fk (l.flatMap Ch.l)<=Fd l:=by
  intro l
  induction l with
  | nil=>simp [Fk]
  | cons c l ih=>rw[List.flatMap_cons,Nc,Fd,In];omega
 have:=h a.c;simp only[Fk];omega
theorem Bp7 (e:Ex):Fk (parts e)<=Cv e:=by
 rw[parts,Nc,Pe];have h: ∀l:List As,Fk (l.flatMap Bw)<=Cw l:=by
  intro l
  induction l with
  | nil=>simp [Fk]
  | cons c l ih=>have:=Be7 c;rw[List.flatMap_cons,Nc,Cw];omega
 have:=h e.a;omega
theorem Wu (e:Ex):(parts e).length<=Cv e:=by
 have:=Gz (parts e);have:=Bp7 e;omega
section
variable {G:Nat->DVal} {H:Ac}
def Cq1 (H:Ac) (l:List Ex) (v:DVal) (H':Ac):Prop:=Dj H 27 9 l.length (l.flatMap dEx) v H'
set_option maxHeartbeats 4000000 in
theorem Ag7 (G:Nat->DVal) (H:Ac) (e:Ex) (hb:Cv e<=100000000000):Ai Tryz.prog G 74 [.agg (dEx e)] H (Au (dXs (parts e)) H):=by
 have hal:= @Bv4 e;have hll:= @Bv3 e;have hfl:=An Ah e.l;have hfa:=An Bi e.a;have hpl:=Wu e;refine Ad Tryz.func74 Tryz.call74 rfl (by kernel_rfl) ?_;simp(disch:=omega) only[go_sem,↓reduceIte,DVal.cells];intro r1 hr1;dsimp only at hr1;simp(disch:=omega) only[go_sem,↓reduceIte];intro r6 hr6;dsimp only at hr6;obtain⟨m1,m2,hr6'⟩:=De7.1 hr6;have ht:(e.l.flatMap dEx).take (e.l.length*9)=e.l.flatMap dEx:=List.take_of_length_le (by omega);have ho:((e.l.flatMap dEx).all (fun d=>d.one))=true:=by
  rw[List.all_eq_true];intro d hd;obtain⟨x,_,hd⟩:=List.mem_flatMap.1 hd;exact List.all_eq_true.1 (Al x) d hd
 simp(disch:=omega) only[go_sem,↓reduceIte,m1,m2,hfl,ht,ho];have hv0:Dj (upd H r1 (some (.cells (dEx e) 27))) 27 9 0 [] (.oslice 9 r6 0 0 0) (upd (upd H r1 (some (.cells (dEx e) 27))) r6 (some (.cells [] 27))):= .inr ⟨r6,hr6,rfl,rfl,Aa _ _ _,(Sub.refl _).new hr6 _⟩;refine Dj.appendO hv0 hfl (by omega) fun v1 H1 hv1=> ?_;change Dj _ _ _ (0+e.l.length) ([]++e.l.flatMap dEx) v1 H1 at hv1;rw[List.nil_append,Nat.zero_add] at hv1;obtain⟨H0,hH0⟩: ∃H0,H0=upd H r1 (some (.cells (dEx e) 27)):=⟨_,rfl⟩;have h01:H0 r1=some (.cells (dEx e) 27):=by rw[hH0];exact Aa _ _ _
 have hs0:Sub H H0:=by rw[hH0];exact(Sub.refl H).new hr1 _
 rw[<-hH0] at hv1;have htk: ∀j (hj:j<e.a.length),(e.a.take (j+1)).flatMap Bw=(e.a.take j).flatMap Bw++Bw e.a[j]:=fun j hj=>by
  rw[List.take_add_one,List.getElem?_eq_getElem hj,List.flatMap_append];simp
 have hple: ∀(l:List Ex) (t:List Ex),l++t=parts e->l.length<=100000000000:=fun l t h=>by
  have:=congrArg List.length h;rw[List.length_append] at this;omega
 simp(disch:=omega) only[go_sem,↓reduceIte];obtain⟨I,hI⟩: ∃I:Nat->(Nat->DVal)->Ac->Prop,∀j env heap,I j env heap↔(env 1= .optr r1 0/\env 4=dI j/\j<=e.a.length/\Cq1 H0 (e.l++(e.a.take j).flatMap Bw) (env 3) heap):=⟨_,fun _ _ _=>Iff.rfl⟩;refine Bt4.run I (fun j=>e.a.length-j) 0 ((hI _ _ _).2 ?_) ?_
 ·simp(disch:=omega) only[go_sem,↓reduceIte];(repeat' apply And.intro)<;>(try first | rfl | assumption | omega);unfold Cq1;rw[List.flatMap_nil,List.append_nil];exact hv1
 ·intro j env heap hi;obtain⟨e1,e4,hj,hv⟩:=(hI _ _ _).1 hi;obtain⟨v,e3⟩: ∃v,env 3=v:=⟨_,rfl⟩;rw[e3] at hv;have g1:heap r1=some (.cells (dEx e) 27):=Dj.keep hv h01;by_cases hjl:j<e.a.length
  ·have hjl':(j:Int)<(e.a.length:Int):=by omega
   have hget:=Bt Bi e.a j hjl;have gc:=Bs Bi e.a j hjl 0 (by decide);rw[Uu,Nat.add_zero] at gc;have hwj:IntKind.i64.wrap ((j:Int)+1)=((j+1:Nat):Int):=by rw[IntKind.wrap_i64];omega
   have hba:=Ae6 (List.getElem_mem hjl);have htj:=htk j hjl;have hpre:e.l++(e.a.take (j+1)).flatMap Bw++(e.a.drop (j+1)).flatMap Bw=parts e:=by
    rw[List.append_assoc,<-List.flatMap_append,List.take_append_drop];rfl
   have gE:((e.a.flatMap dAs).drop (j*10+1)).take 9=dEx e.a[j].e:=by
    rw[<-Uv,<-hget,List.drop_take,List.take_take,List.drop_drop];rfl
   obtain⟨a,ha⟩: ∃a,a=e.a[j]:=⟨_,rfl⟩;rw[<-ha] at gc hba htj gE;have hbc:=Ht a.c;have hfc:=An Bd a.c;rw[Lc] at hba;obtain⟨L,hL⟩: ∃L,L=e.l++(e.a.take j).flatMap Bw:=⟨_,rfl⟩;rw[<-hL] at hv;rw[htj,<-List.append_assoc,<-hL] at hpre;simp(disch:=omega) only[go_sem,↓reduceIte,e1,e3,e4,g1,hjl'];obtain⟨J,hJ⟩: ∃J:Nat->(Nat->DVal)->Ac->Prop,∀m env heap,J m env heap↔(env 1= .optr r1 0/\env 4=dI j/\env 5=dI m/\m<=a.c.length/\Cq1 H0 (L++(a.c.take m).flatMap Ch.l) (env 3) heap):=⟨_,fun _ _ _=>Iff.rfl⟩;refine Bt4.run J (fun m=>a.c.length-m) 0 ((hJ _ _ _).2 ?_) ?_
   ·simp(disch:=omega) only[go_sem,↓reduceIte,e1,e3,e4];(repeat' apply And.intro)<;>(try first | rfl | assumption | omega);rw[List.flatMap_nil,List.append_nil];exact hv
   ·intro m env heap hi;obtain⟨e1,e4,e5,hm,hv⟩:=(hJ _ _ _).1 hi;obtain⟨v,e3⟩: ∃v,env 3=v:=⟨_,rfl⟩;rw[e3] at hv;have g1:heap r1=some (.cells (dEx e) 27):=Dj.keep hv h01;by_cases hml:m<a.c.length
    ·have hml':(m:Int)<(a.c.length:Int):=by omega
     have hwm:IntKind.i64.wrap ((m:Int)+1)=((m+1:Nat):Int):=by rw[IntKind.wrap_i64];omega
     have gl:=Bs Bd a.c m hml 1 (by decide);rw[Yd] at gl;have hbm:=Hs (List.getElem_mem hml);obtain⟨c,hc⟩: ∃c,c=a.c[m]:=⟨_,rfl⟩;rw[<-hc] at gl hbm;have hbl:=Gz c.l;have hfx:=An Ah c.l;rw[In] at hbm;have htm:(a.c.take (m+1)).flatMap Ch.l=(a.c.take m).flatMap Ch.l++c.l:=by
      rw[List.take_add_one,List.getElem?_eq_getElem hml,List.flatMap_append,hc];simp
     have htx:(c.l.flatMap dEx).take (c.l.length*9)=c.l.flatMap dEx:=List.take_of_length_le (by omega);have hox:((c.l.flatMap dEx).all (fun d=>d.one))=true:=by
      rw[List.all_eq_true];intro d hd;obtain⟨x,_,hd⟩:=List.mem_flatMap.1 hd;exact List.all_eq_true.1 (Al x) d hd
     have hll2:(L++(a.c.take m).flatMap Ch.l).length<=100000000000:=by
      refine hple _ ((a.c.drop m).flatMap Ch.l++([a.e]++(e.a.drop (j+1)).flatMap Bw)) ?_;rw[<-hpre,Bw];simp only[List.append_assoc];rw[<-List.append_assoc ((a.c.take m).flatMap Ch.l),<-List.flatMap_append,List.take_append_drop]
     simp(disch:=omega) only[go_sem,↓reduceIte,e1,e3,e4,e5,g1,hjl',hfa,gc,hml',hfc,gl,hfx,htx,hox,Int.toNat_natCast];refine Dj.append (m:=c.l.length) hv hfx (by omega) fun v2 H2 hv2=> ?_;simp(disch:=omega) only[go_sem,↓reduceIte,e1,e3,e4,e5];refine⟨m+1,_,Ni.refl _,(hJ _ _ _).2 ?_,by omega⟩;simp(disch:=omega) only[go_sem,↓reduceIte,e1,e3,e4,e5,hwm];(repeat' apply And.intro)<;>(try first | rfl | assumption | omega);unfold Cq1;rw[htm,<-List.append_assoc,List.length_append,List.flatMap_append];exact hv2
    ·have:m=a.c.length:=by omega
     subst this;rw[List.take_length] at hv;have hll2:(L++a.c.flatMap Ch.l).length<=100000000000:=by
      refine hple _ ([a.e]++(e.a.drop (j+1)).flatMap Bw) ?_;rw[<-hpre,Bw];simp only[List.append_assoc]
     have hlt': ¬(a.c.length:Int)<(a.c.length:Int):=by omega
     have hrep:Cx 1 [DVal.int .u8 0,DVal.int .u8 0,DVal.int .i64 0,DVal.str [],DVal.nilSlice,DVal.nilSlice,DVal.int .i64 0,DVal.int .i64 0,DVal.int .i64 0]= [DVal.int .u8 0,DVal.int .u8 0,DVal.int .i64 0,DVal.str [],DVal.nilSlice,DVal.nilSlice,DVal.int .i64 0,DVal.int .i64 0,DVal.int .i64 0]:=rfl;simp(disch:=omega) only[go_sem,↓reduceIte,e1,e3,e4,e5,g1,hjl',hfa,gc,gE,Int.toNat_natCast,hrep,List.length_cons,List.length_nil,List.drop_succ_cons,List.drop_zero];intro ns hns;dsimp only at hns;simp(disch:=omega) only[go_sem,↓reduceIte,e1,e3,e4,e5];refine Dj.append (m:=1) (Dj.new hv hns _) (by rw[Ah]) (by omega) fun v2 H2 hv2=> ?_;simp(disch:=omega) only[go_sem,↓reduceIte,e1,e3,e4,e5];refine⟨j+1,_,Ni.refl _,(hI _ _ _).2 ?_,by omega⟩;simp(disch:=omega) only[go_sem,↓reduceIte,e1,e3,e4,hwj];(repeat' apply And.intro)<;>(try first | rfl | assumption | omega);unfold Cq1;rw[htj,<-List.append_assoc,<-hL,Bw,<-List.append_assoc,List.length_append (bs:= [a.e]),List.length_singleton,List.flatMap_append (ys:= [a.e]),List.flatMap_singleton];exact hv2
  ·have:j=e.a.length:=by omega
   subst this;rw[List.take_length] at hv;have hlt': ¬(e.a.length:Int)<(e.a.length:Int):=by omega
   simp(disch:=omega) only[go_sem,↓reduceIte,e1,e3,e4,g1,hlt'];exact Dj.fin (hv.less hs0) ⟨rfl,rfl⟩
def Mb (e:Ex) (d:Nat) (n:Int):Int:=if Ed d e=true/\(Eg e:Int)<=n then n-Eg e else-1
def Ag8 (l:List Ex) (d:Nat) (n:Int):Int:=if l.all (Ed d)=true/\(Fa l:Int)<=n then n-Fa l else-1
theorem Bp8 {l:List Ex} {d k:Nat} {n:Int} (hk:k<l.length) (h0:0<=n):(if 0<=Mb l[k] d n then Ag8 (l.drop (k+1)) d (Mb l[k] d n) else-1)=Ag8 (l.drop k) d n:=by
 rw[List.drop_eq_getElem_cons hk];have hs:Fa (l[k]::l.drop (k+1))=Eg l[k]+Fa (l.drop (k+1)):=by rw[Fa,List.map_cons,List.sum_cons];rfl
 unfold Mb Ag8;rw[List.all_cons,hs];by_cases h1:Ed d l[k]=true/\(Eg l[k]:Int)<=n
 ·rw[if_pos h1,if_pos (by omega)];by_cases h2:(l.drop (k+1)).all (Ed d)=true/\(Fa (l.drop (k+1)):Int)<=n-Eg l[k]
  ·rw[if_pos h2,if_pos ⟨by rw[h1.1,h2.1];rfl,by omega⟩];omega
  ·rw[if_neg h2,if_neg];rintro⟨h3,h4⟩;rw[Bool.and_eq_true] at h3;exact h2 ⟨h3.2,by omega⟩
 ·rw[if_neg h1,if_neg (by omega),if_neg];rintro⟨h3,h4⟩;rw[Bool.and_eq_true] at h3;exact h1 ⟨h3.1,by omega⟩
theorem Cf0 (G:Nat->DVal): ∀(e:Ex) (H:Ac) (d:Nat) (n:Int),Cv e<=100000000000->d<=1000000->0<=n->n<=256->Ai Tryz.prog G 113 [.agg (dEx e), .int .i64 d, .int .i64 n] H (Au (dI (Mb e d n)) H):=by
 intro e
 induction e using Ex.ind with
 | h e ih=>
  intro H d n hb hd h0 h1;have hpl:=Wu e;have hsz:=Js e;have hve:=Nw d e;refine Ad Tryz.func113 Tryz.call113 rfl (by kernel_rfl) ?_;simp(disch:=omega) only[go_sem,↓reduceIte,DVal.cells];intro r3 hr3;dsimp only at hr3;by_cases c1:32<d
  ·have c1':(32:Int)<(d:Int):=by omega
   simp(disch:=omega) only[go_sem,↓reduceIte,c1'];refine Nu.dropA r3 hr3 (Nu.refl ⟨?_,rfl⟩);rw[Mb,if_neg];rintro⟨hv,_⟩;rw[hve,decide_eq_false (by omega),Bool.false_and,Bool.false_and] at hv;cases hv
  have c1': ¬(32:Int)<(d:Int):=by omega
  simp(disch:=omega) only[go_sem,↓reduceIte,c1'];refine(Au4 G _ e (by omega)).mono ?_;rintro _ H1 ⟨rfl,rfl⟩;cases hf:Af e with
  | false=>
   simp(disch:=omega) only[go_sem,↓reduceIte];refine Nu.dropA r3 hr3 (Nu.refl ⟨?_,rfl⟩);rw[Mb,if_neg];rintro⟨hv,_⟩;rw[hve,hf,Bool.and_false,Bool.false_and] at hv;cases hv
  | true=>
   have hwn:IntKind.i64.wrap (n-1)=n-1:=by rw[IntKind.wrap_i64];omega
   have hwd:IntKind.i64.wrap ((d:Int)+1)=((d+1:Nat):Int):=by rw[IntKind.wrap_i64];omega
   rw[hf,decide_eq_true (show d<=32 by omega),Bool.true_and,Bool.true_and] at hve;have hroom:Mb e d n=if 0<=n-1 then Ag8 (parts e) (d+1) (n-1) else-1:=by
    unfold Mb Ag8;rw[hve,hsz];by_cases h2:0<=n-1
    ·rw[if_pos h2];by_cases h3:(parts e).all (Ed (d+1))=true/\(Fa (parts e):Int)<=n-1
     ·rw[if_pos h3,if_pos ⟨h3.1,by omega⟩];omega
     ·rw[if_neg h3,if_neg (fun h4=>h3 ⟨h4.1,by omega⟩)]
    ·rw[if_neg h2,if_neg (fun h4=>by omega)]
   simp(disch:=omega) only[go_sem,↓reduceIte,hwn];refine(Ag7 G _ e hb).mono ?_;rintro _ H1 ⟨rfl,rfl⟩;have hfp:=An Ah (parts e);simp(disch:=omega) only[go_sem,↓reduceIte,dXs];obtain⟨I,hI⟩: ∃I:Nat×Int->(Nat->DVal)->Ac->Prop,∀kn env heap,I kn env heap↔(env 1= .int .i64 d/\env 2= .int .i64 kn.2/\env 7= .vslice ((parts e).flatMap dEx) (parts e).length/\env 8=dI kn.1/\kn.1<=(parts e).length/\ -1<=kn.2/\kn.2<=256/\Mb e d n=(if 0<=kn.2 then Ag8 ((parts e).drop kn.1) (d+1) kn.2 else-1)/\heap=upd H r3 (some (.cells (dEx e) 27))):=⟨_,fun _ _ _=>Iff.rfl⟩;refine Bt4.run I (fun kn=>(parts e).length-kn.1) (0,n-1) ((hI _ _ _).2 ?_) ?_
   ·simp(disch:=omega) only[go_sem,↓reduceIte];(repeat' apply And.intro)<;>(try first | rfl | assumption | omega)
   ·rintro⟨k,m⟩ env heap hi;obtain⟨e1,e2,e7,e8,hk,hm0,hm1,hr,rfl⟩:=(hI _ _ _).1 hi;dsimp only at e2 e8 hk hm0 hm1 hr;by_cases hlt:k<(parts e).length
    ·have hlt':(k:Int)<((parts e).length:Int):=by omega
     have hget:=Bt Ah (parts e) k hlt;have hwk:IntKind.i64.wrap ((k:Int)+1)=((k+1:Nat):Int):=by rw[IntKind.wrap_i64];omega
     have hmem:=List.getElem_mem hlt;by_cases hm:0<=m
     ·rw[if_pos hm,<-Bp8 hlt hm] at hr;have hrr: -1<=Mb (parts e)[k] (d+1) m/\Mb (parts e)[k] (d+1) m<=256:=by unfold Mb;split<;>omega
      simp(disch:=omega) only[go_sem,↓reduceIte,e1,e2,e7,e8,hlt',hm,hget,hfp,hwd,Int.toNat_natCast];refine(ih _ hmem _ (d+1) m (by have:=Jw hmem;omega) (by omega) hm (by omega)).mono ?_;rintro _ H2 ⟨rfl,rfl⟩;simp(disch:=omega) only[go_sem,↓reduceIte,e1,e2,e7,e8];refine⟨(k+1,Mb (parts e)[k] (d+1) m),_,Ni.refl _,(hI _ _ _).2 ?_,by dsimp only;omega⟩;simp(disch:=omega) only[go_sem,↓reduceIte,e1,e2,e7,e8,hwk];(repeat' apply And.intro)<;>(try first | rfl | assumption | omega)
     ·rw[if_neg hm] at hr;have hm2:m= -1:=by omega
      simp(disch:=omega) only[go_sem,↓reduceIte,e1,e2,e7,e8,hlt',hm];refine Nu.dropA r3 hr3 (Nu.refl ⟨?_,rfl⟩);rw[hr,hm2]
    ·have:k=(parts e).length:=by omega
     subst this;have hlt': ¬((parts e).length:Int)<((parts e).length:Int):=by omega
     simp(disch:=omega) only[go_sem,↓reduceIte,e1,e2,e7,e8,hlt'];refine Nu.dropA r3 hr3 (Nu.refl ⟨?_,rfl⟩);rw[hr,List.drop_length];split
     ·simp [Ag8,Fa];omega
     ·congr 2;omega
theorem Hu (G:Nat->DVal) (H:Ac) (e:Ex) (hb:Cv e<=100000000000):Ai Tryz.prog G 64 [.agg (dEx e)] H (Au (.bool (Ia e)) H):=by
 refine Ad Tryz.func64 Tryz.call64 rfl (by kernel_rfl) ?_;simp(disch:=omega) only[go_sem,↓reduceIte,DVal.cells];intro r hr;dsimp only at hr;simp(disch:=omega) only[go_sem,↓reduceIte];refine(Cf0 G e _ 1 256 hb (by decide) (by decide) (by decide)).mono ?_;rintro _ H1 ⟨rfl,rfl⟩;simp(disch:=omega) only[go_sem,↓reduceIte];refine Nu.dropA r hr (Nu.refl ⟨?_,rfl⟩);have:(0<=Mb e 1 256)↔(Ed 1 e=true/\Eg e<=256):=by
  unfold Mb;split
  ·constructor
   ·intro _;exact⟨by simp_all,by omega⟩
   ·intro _;omega
  ·rename_i h
   constructor
   ·intro h2;omega
   ·rintro⟨h2,h3⟩;exact absurd ⟨h2,by omega⟩ h
 rw[Ia];cases hv:Ed 1 e with
 | true=>
  rw[hv] at this;simp [this]
 | false=>
  rw[hv] at this;simp [this]
end
end Go.Dl

-- Chapter 3: the reference: MayArgs, MayChoices, Size, Lines.
namespace Go.Dl
open Go Go.Proofs
set_option maxRecDepth 100000
theorem Ag9 {l:List Ex} (ih: ∀x∈l,(Fw x).length=Eg x):(l.flatMap Fw).length=Fa l:=by
 induction l with
 | nil=>rfl
 | cons x l ih2=>
  rw[List.flatMap_cons,List.length_append,ih x (.head _),ih2 (fun y hy=>ih y (.tail _ hy)),Fa,Fa,List.map_cons,List.sum_cons]
theorem Wv (e:Ex):(Fw e).length=Eg e:=by
 induction e using Ex.ind with
 | h e ih=>rw[An9,Js,List.length_cons,Ag9 ih];omega
theorem Ah0 {l:List Ex} {k:Nat} (hk:k<l.length):Fa (l.take (k+1))=Fa (l.take k)+Eg l[k]:=by
 rw[List.take_add_one,List.getElem?_eq_getElem hk,Iu];simp [Fa]
theorem Au5 (l:List Ex) (k:Nat):Fa (l.take k)<=Fa l:=by
 have:=Iu (l.take k) (l.drop k);rw[List.take_append_drop] at this;omega
section
variable {G:Nat->DVal} {H:Ac}
theorem Al2 (G:Nat->DVal) (H:Ac) (l:List As) (hb:Cw l<=90000000000):Ai Tryz.prog G 68 [dAl l] H (Au (.bool (Bd0 l)) H):=by
 refine Ad Tryz.func68 Tryz.call68 rfl (by kernel_rfl) ?_;simp(disch:=omega) only[go_sem,↓reduceIte,dAl];intro r hr;dsimp only at hr;simp(disch:=omega) only[go_sem,↓reduceIte];have hs:Sub H (upd H r (some (.cells [.int .u8 3, .int .u8 0, .int .i64 0, .str [120], .nilSlice, .nilSlice, .int .i64 0, .int .i64 0, .int .i64 0] 27))):=(Sub.refl H).new hr _;have hfit:Cv (.mk 7 0 0 [] [exX] l 0 0 0)<=100000000000:=by
  simp only[Cv,Fk,Cw,exX];omega
 refine((Ek.cons (Fc.agg (Fc.ex (a:=l) hs (Fc.cells (cs':= [exX].flatMap dEx) hs hr (Aa _ _ _) rfl ?_) (Fc.keep hs _))) .nil).call hs (Hu G _ _ hfit)).mono ?_
 ·rw[List.flatMap_singleton];exact Fc.ex hs (.exs0 hs) (.as0 hs)
 ·rintro _ H1 ⟨rfl,rfl⟩;simp(disch:=omega) only[go_sem,↓reduceIte];exact Nu.refl ⟨rfl,rfl⟩
theorem Ww (G:Nat->DVal) (H:Ac) (l:List Ch) (hb:Fd l<=90000000000):Ai Tryz.prog G 72 [dCl l] H (Au (.bool (Qy l)) H):=by
 have hll:=Ht l;have hfl:=An Bd l;refine Ad Tryz.func72 Tryz.call72 rfl (by kernel_rfl) ?_;simp(disch:=omega) only[go_sem,↓reduceIte,dCl];refine(Nl G _ l (by omega)).mono ?_;rintro _ H1 ⟨rfl,rfl⟩;cases h:Cq l with
 | false=>
  simp(disch:=omega) only[go_sem,↓reduceIte];exact Nu.refl ⟨by rw[Qy,h,Bool.false_and],rfl⟩
 | true=>
  simp(disch:=omega) only[go_sem,↓reduceIte];obtain⟨I,hI⟩: ∃I:Nat->(Nat->DVal)->Ac->Prop,∀k env heap,I k env heap↔(env 0= .vslice (l.flatMap dCh) l.length/\env 3=dI k/\k<=l.length/\Qy l=(l.drop k).all (fun c=>c.l.all Ia)/\heap=H1):=⟨_,fun _ _ _=>Iff.rfl⟩;refine Bt4.run I (fun k=>l.length-k) 0 ((hI _ _ _).2 ?_) ?_
  ·simp(disch:=omega) only[go_sem,↓reduceIte];(repeat' apply And.intro)<;>(try first | rfl | assumption | omega);rw[Qy,h,Bool.true_and]
  ·intro k env heap hi;obtain⟨e0,e3,hk,hm,rfl⟩:=(hI _ _ _).1 hi;obtain⟨H2,hH2⟩: ∃H2,H2=heap:=⟨_,rfl⟩;subst hH2;by_cases hlt:k<l.length
   ·have hlt':(k:Int)<(l.length:Int):=by omega
    have hwk:IntKind.i64.wrap ((k:Int)+1)=((k+1:Nat):Int):=by rw[IntKind.wrap_i64];omega
    have gl:=Bs Bd l k hlt 1 (by decide);rw[Yd] at gl;have hbm:=Hs (List.getElem_mem hlt);rw[List.drop_eq_getElem_cons hlt,List.all_cons] at hm;obtain⟨c,hc⟩: ∃c,c=l[k]:=⟨_,rfl⟩;rw[<-hc] at gl hbm hm;have hbl:=Gz c.l;have hfx:=An Ah c.l;rw[In] at hbm;simp(disch:=omega) only[go_sem,↓reduceIte,e0,e3,hlt'];obtain⟨J,hJ⟩: ∃J:Nat->(Nat->DVal)->Ac->Prop,∀m env heap,J m env heap↔(env 0= .vslice (l.flatMap dCh) l.length/\env 3=dI k/\env 4=dI m/\m<=c.l.length/\Qy l=((c.l.drop m).all Ia&&(l.drop (k+1)).all (fun c=>c.l.all Ia))/\heap=H2):=⟨_,fun _ _ _=>Iff.rfl⟩;refine Bt4.run J (fun m=>c.l.length-m) 0 ((hJ _ _ _).2 ?_) ?_
    ·simp(disch:=omega) only[go_sem,↓reduceIte,e0,e3];(repeat' apply And.intro)<;>(try first | rfl | assumption | omega)
    ·intro m env heap hi;obtain⟨e0,e3,e4,hmm,hma,rfl⟩:=(hJ _ _ _).1 hi;by_cases hml:m<c.l.length
     ·have hml':(m:Int)<(c.l.length:Int):=by omega
      have hwm:IntKind.i64.wrap ((m:Int)+1)=((m+1:Nat):Int):=by rw[IntKind.wrap_i64];omega
      have hget:=Bt Ah c.l m hml;have hbx:=Nz (List.getElem_mem hml);rw[List.drop_eq_getElem_cons hml,List.all_cons] at hma;simp(disch:=omega) only[go_sem,↓reduceIte,e0,e3,e4,hlt',hfl,gl,hml',hfx,hget,Int.toNat_natCast];refine(Hu G _ c.l[m] (by omega)).mono ?_;rintro _ H2 ⟨rfl,rfl⟩;cases hb1:Ia c.l[m] with
      | false=>
       simp(disch:=omega) only[go_sem,↓reduceIte,e0,e3,e4];exact Nu.refl ⟨by rw[hma,hb1];rfl,rfl⟩
      | true=>
       rw[hb1,Bool.true_and] at hma;simp(disch:=omega) only[go_sem,↓reduceIte,e0,e3,e4];refine⟨m+1,_,Ni.refl _,(hJ _ _ _).2 ?_,by omega⟩;simp(disch:=omega) only[go_sem,↓reduceIte,e0,e3,e4,hwm];(repeat' apply And.intro)<;>(try first | rfl | assumption | omega)
     ·have:m=c.l.length:=by omega
      subst this;rw[List.drop_length,List.all_nil,Bool.true_and] at hma;have hml': ¬(c.l.length:Int)<(c.l.length:Int):=by omega
      simp(disch:=omega) only[go_sem,↓reduceIte,e0,e3,e4,hlt',hfl,gl,hml',Int.toNat_natCast];refine⟨k+1,_,Ni.refl _,(hI _ _ _).2 ?_,by omega⟩;simp(disch:=omega) only[go_sem,↓reduceIte,e0,e3,e4,hwk];(repeat' apply And.intro)<;>(try first | rfl | assumption | omega)
   ·have:k=l.length:=by omega
    subst this;have hlt': ¬(l.length:Int)<(l.length:Int):=by omega
    simp(disch:=omega) only[go_sem,↓reduceIte,e0,e3,hlt'];exact Nu.refl ⟨by rw[hm,List.drop_length];rfl,rfl⟩
def Dp5 (H:Ac) (l:List Int) (v:DVal) (H':Ac):Prop:=Dj H 3 1 l.length (l.map dI) v H'
theorem Yn (G:Nat->DVal): ∀(e:Ex) (H:Ac),Cv e<=100000000000->Ai Tryz.prog G 24 [.agg (dEx e)] H (Au (.vslice ((Fw e).map dI) (Fw e).length) H):=by
 intro e
 induction e using Ex.ind with
 | h e ih=>
  intro H hb;have hpl:=Wu e;have hsz:=Js e;have hsb:=Ob e;have hli:=An9 e;refine Ad Tryz.func24 Tryz.call24 rfl (by kernel_rfl) ?_;simp(disch:=omega) only[go_sem,↓reduceIte,DVal.cells];intro r3 hr3;dsimp only at hr3;simp(disch:=omega) only[go_sem,↓reduceIte];intro r4 hr4;dsimp only at hr4;obtain⟨m1,m2,hr4'⟩:=De7.1 hr4;simp(disch:=omega) only[go_sem,↓reduceIte,m1,m2];refine(Ag7 G _ e hb).mono ?_;rintro _ H1 ⟨rfl,rfl⟩;have hfp:=An Ah (parts e);simp(disch:=omega) only[go_sem,↓reduceIte,dXs];obtain⟨I,hI⟩: ∃I:Nat->(Nat->DVal)->Ac->Prop,∀k env heap,I k env heap↔(Dp5 H (e.line::((parts e).take k).flatMap Fw) (env 3) heap/\env 4= .vslice ((parts e).flatMap dEx) (parts e).length/\env 5=dI k/\k<=(parts e).length):=⟨_,fun _ _ _=>Iff.rfl⟩;refine Bt4.run I (fun k=>(parts e).length-k) 0 ((hI _ _ _).2 ?_) ?_
  ·simp(disch:=omega) only[go_sem,↓reduceIte];(repeat' apply And.intro)<;>(try first | rfl | assumption | omega);refine .inr ⟨r4,hr4',rfl,rfl,Aa _ _ _,((Sub.refl H).new hr3 _).new hr4 _⟩
  ·intro k env heap hi;obtain⟨hv,e4,e5,hk⟩:=(hI _ _ _).1 hi;obtain⟨v,e3⟩: ∃v,env 3=v:=⟨_,rfl⟩;rw[e3] at hv;by_cases hlt:k<(parts e).length
   ·have hlt':(k:Int)<((parts e).length:Int):=by omega
    have hget:=Bt Ah (parts e) k hlt;have hwk:IntKind.i64.wrap ((k:Int)+1)=((k+1:Nat):Int):=by rw[IntKind.wrap_i64];omega
    have hmem:=List.getElem_mem hlt;have hst:=Ah0 hlt;have hsl:=Au5 (parts e) (k+1);have hll:=Wv (parts e)[k];have htl:((parts e).take (k+1)).flatMap Fw=((parts e).take k).flatMap Fw++Fw (parts e)[k]:=by
     rw[List.take_add_one,List.getElem?_eq_getElem hlt,List.flatMap_append];simp
    have hlk:=Ag9 (l:=(parts e).take k) fun x _=>Wv x;obtain⟨L,hL⟩: ∃L,L=e.line::((parts e).take k).flatMap Fw:=⟨_,rfl⟩;have hLl:L.length=1+Fa ((parts e).take k):=by rw[hL,List.length_cons,hlk];omega
    rw[<-hL] at hv;simp(disch:=omega) only[go_sem,↓reduceIte,e3,e4,e5,hlt',hget,hfp,Int.toNat_natCast];refine(ih _ hmem _ (by have:=Jw hmem;omega)).mono ?_;rintro _ H2 ⟨rfl,rfl⟩;simp(disch:=omega) only[go_sem,↓reduceIte,e3,e4,e5];refine Dj.append (m:=(Fw (parts e)[k]).length) hv (by simp) (by omega) fun v2 H2 hv2=> ?_;simp(disch:=omega) only[go_sem,↓reduceIte,e3,e4,e5];refine⟨k+1,_,Ni.refl _,(hI _ _ _).2 ?_,by omega⟩;simp(disch:=omega) only[go_sem,↓reduceIte,e3,e4,e5,hwk];(repeat' apply And.intro)<;>(try first | rfl | assumption | omega);unfold Dp5;rw[htl,<-List.cons_append,<-hL,List.length_append,List.map_append];exact hv2
   ·have:k=(parts e).length:=by omega
    subst this;have hlt': ¬((parts e).length:Int)<((parts e).length:Int):=by omega
    rw[List.take_length,<-hli] at hv;simp(disch:=omega) only[go_sem,↓reduceIte,e3,e4,e5,hlt'];exact Dj.fin hv ⟨rfl,rfl⟩
end
end Go.Dl

-- THE DATA LEVEL, PART N: a call that is put off to the end, and takes up a panic there.
namespace Go.Dl
open Go
set_option maxRecDepth 10000
section
variable {P:Program} {G:Nat->DVal}
theorem Ao6 {fn:Func} {args:List DVal} {H:Ac} {vs:List Value} {w:World} {T:List Deferred} {st:Bool} (hA:args.length<=fn.ntmps) (hv:Aq w H args vs) (hH:Av w H) (hG:GOk G w H):
  Sim G ⟨fn.ntmps,⟨w.heap.size,T,st⟩⟩ ⟨Lt args 0,H⟩ { tmps:=vs.toArray++Array.replicate (fn.ntmps-vs.toArray.size) undef,defers:=T } w:=by
 have hl:=hv.length;refine⟨by simp;omega,⟨[],rfl,List.nodup_nil,by simp⟩,fun i hi=> ?_,hH,hG,Nat.le_refl _⟩;have h0:=We args 0 i;rw[Nat.zero_add] at h0;show Rel w H (Lt args 0 i) _;rw[h0];by_cases hlt:i<args.length
 ·have h1:args[i]? =some (args.getD i Dc):=by simp [List.getD,List.getElem?_eq_getElem hlt]
  obtain⟨x,hx,hr⟩:=hv.get h1;have:(vs.toArray++Array.replicate (fn.ntmps-vs.toArray.size) undef).getD i undef=x:=by
   have hlt':i<vs.length:=by omega
   rw[Array.getD_eq_getD_getElem?,Array.getElem?_append_left (by simpa using hlt')];simp [hx]
  rw[this];exact hr
 ·have h1:args.getD i Dc=Dc:=by simp [List.getD,List.getElem?_eq_none (Nat.le_of_not_lt hlt)]
  have:(vs.toArray++Array.replicate (fn.ntmps-vs.toArray.size) undef).getD i undef=undef:=by
   rw[Array.getD_eq_getD_getElem?,Array.getElem?_append_right (by simp;omega)];simp only[Array.getElem?_replicate];split<;>rfl
  rw[h1,this];exact Ok w H
def Ah1 (R:Ac->Prop):DExit->DS->Prop
 | .normal,s=>R s.heap
 | .ret,s=>R s.heap
 | _,_=>False
def Sc (t ty:Nat) (ps:String) (af:Array Edge):Oper:= { dst:=some t,op:= .call { callee:= .builtin .recover,args:= #[],argTypes:= #[] },type:=ty,pos:=ps,after:=af,guard:=none }
def Yo (t t' ty:Nat) (ps:String) (af:Array Edge):Oper:= { dst:=some t',op:= .assign (.tmp t),type:=ty,pos:=ps,after:=af,guard:=none }
theorem Pm {N:Fr} {s:DS} {a:Act} {w:World} (hS:Sim G N s a w) (h:N.base.still=true):a.defers=N.base.late:=by
 obtain⟨Ds,h1,_,h3⟩:=hS.defers;cases Ds with
 | nil=>exact h1
 | cons D Ds=>have:=(h3 D (by simp)).1.2;rw[h] at this;cases this
theorem Cf1 {n:Nat} {ops:Array Oper} {Q:Exit->Act->List Frame->World->Prop} {i:Nat} {rest:List Nat} {a:Act} {cs:List Frame} {w:World} {o:Oper} (ho:ops[i]? =some o) (hg:o.guard=none) (hr:(execOp a.eval o).run P w= .ok .recover w) (hc:recoverD cs=none)
  (h:wpOpsSIn Fence.wide n P ops Q rest (a.put o.dst .nilIface) cs w):wpOpsSIn Fence.wide n P ops Q (i::rest) a cs w:=by
 unfold wpOpsSIn;rw[ho];refine⟨fun _ _=>trivial,?_⟩;rw[if_pos (by simp [Region.wanted,hg]),hr,hc];exact h
theorem Cq2 {n:Nat} {ops:Array Oper} {Q:Exit->Act->List Frame->World->Prop} {i:Nat} {rest:List Nat} {a:Act} {cs cs':List Frame} {w:World} {o:Oper} {v:Value} (ho:ops[i]? =some o) (hg:o.guard=none) (hr:(execOp a.eval o).run P w= .ok .recover w) (hc:recoverD cs=some (v,cs'))
  (h:wpOpsSIn Fence.wide n P ops Q rest (a.put o.dst v) cs' w):wpOpsSIn Fence.wide n P ops Q (i::rest) a cs w:=by
 unfold wpOpsSIn;rw[ho];refine⟨fun _ _=>trivial,?_⟩;rw[if_pos (by simp [Region.wanted,hg]),hr,hc];exact h
theorem Be8 {n:Nat} {ops:Array Oper} {Q:Exit->Act->List Frame->World->Prop} {i:Nat} {rest:List Nat} {a:Act} {cs:List Frame} {w:World} {o:Oper} {v:Value} (ho:ops[i]? =some o) (hg:o.guard=none) (hr:(execOp a.eval o).run P w= .ok (.value v) w)
  (h:wpOpsSIn Fence.wide n P ops Q rest (a.put o.dst v) cs w):wpOpsSIn Fence.wide n P ops Q (i::rest) a cs w:=by
 unfold wpOpsSIn;rw[ho];refine⟨fun _ _=>trivial,?_⟩;rw[if_pos (by simp [Region.wanted,hg]),hr];exact h
theorem Be9 {f:FuncId} {fn:Func} {id:Nat} {t1 t2 y1 y2:Nat} {p1 p2:String} {af1 af2:Array Edge} {c:Code} {caps:List DVal} {H:Ac} {R:Ac->Prop} {n:Nat} {vs:List Value} {w:World} {u:FrameMode} {x:DVal}
  (hf:P.funcs[f]? =some fn) (hb:fn.body=some (.seq (.region id #[Sc t1 y1 p1 af1,Yo t1 t2 y2 p2 af2] false) c))
  (hk:(decide (caps.length<=fn.ntmps)&&Fh fn.ntmps c&&Qb c&&decide (t1<fn.ntmps)&&decide (t2<fn.ntmps))=true) (hres:fn.results= #[])
  (hv:Aq w H caps vs) (hH:Av w H) (hG:GOk G w H)
  (hu:(u= .returning/\x= .nilIface)\/ ∃v,u= .panicking [{ v,recovered:=false }]/\Rel w H x v)
  (h:dwp P G fn.ntmps c (Ah1 R) ⟨upd (upd (Lt caps 0) t1 x) t2 x,H⟩):
  CallsDIn Fence.wide n P f vs.toArray u w fun e u' w'=> ∃v H',e= .returned v/\settle u'= .returning/\R H'/\Av w' H'/\Ext H w H' w':=by
 simp only[Bool.and_eq_true,decide_eq_true_eq] at hk;obtain⟨⟨⟨⟨hA,hok⟩,hfl⟩,ht1⟩,ht2⟩:=hk;refine callsDIn_of_wpSIn hf hb trivial fun c₀ cs hm=>wpSIn_seq (wpSIn_region ?_);have hS:=Ao6 (G:=G) (T:= []) (st:=true) hA hv hH hG;have key: ∀(v:Value) (u':FrameMode),settle u'= .returning->Rel w H x v->
   c.wpSIn Fence.wide n P (bodyPostS P fn c₀ cs fun e u' w'=> ∃v H',e= .returned v/\settle u'= .returning/\R H'/\Av w' H'/\Ext H w H' w')
    (({ tmps:=vs.toArray++Array.replicate (fn.ntmps-vs.toArray.size) undef,defers:= [] }:Act).put (some t1) v |>.put (some t2) v) ({ c₀ with mode:=u' }::cs) w:=by
  intro v u' hs hx;refine wpSIn_of_wpIn rfl ?_;have hS1:=(hS.put (dst:=some t1) (by simpa [By] using ht1) hx).put (dst:=some t2) (by simpa [By] using ht2) hx;refine wpIn_mono (Er (.inl rfl) c hok (.inr hfl) _ _ h _ w hS1) ?_;rintro e a' w1 ⟨e',s',hQ,hX,hS',hE⟩;have hd:=Pm hS' rfl;have hr:(results fn a'.tmps).run P w1= .ok (.tuple #[]) w1:=by
   unfold results;rw[hres];simp [Sem.run_pure]
  cases hX with
  | normal=>exact⟨hd,u',rfl,_,hr,_,s'.heap,rfl,hs,hQ,hS'.heap,hE⟩
  | ret=>exact⟨hd,u',rfl,_,hr,_,s'.heap,rfl,hs,hQ,hS'.heap,hE⟩
  | exit id=>exact hQ.elim
  | goto l=>exact hQ.elim
  | panic d v hv=>exact hQ.elim
 have hrange:List.range (#[Sc t1 y1 p1 af1,Yo t1 t2 y2 p2 af2]:Array Oper).size= [0,1]:=rfl;have e0:(#[Sc t1 y1 p1 af1,Yo t1 t2 y2 p2 af2]:Array Oper)[0]? =some (Sc t1 y1 p1 af1):=rfl;have e1:(#[Sc t1 y1 p1 af1,Yo t1 t2 y2 p2 af2]:Array Oper)[1]? =some (Yo t1 t2 y2 p2 af2):=rfl;have r0: ∀ρ w,(execOp ρ (Sc t1 y1 p1 af1)).run P w= .ok .recover w:=fun ρ w=>by
  simp [execOp,Sc,resolve,invoke,builtin,Sem.run_pure]
 have r1: ∀ρ w,(execOp ρ (Yo t1 t2 y2 p2 af2)).run P w= .ok (.value (ρ (.tmp t1))) w:=fun ρ w=>by
  simp [execOp,Yo,Sem.run_pure]
 have hget: ∀v,(({ tmps:=vs.toArray++Array.replicate (fn.ntmps-vs.toArray.size) undef,defers:= [] }:Act).put (some t1) v).eval (.tmp t1)=v:=fun v=>by
  have hsz:=hS.size;dsimp only at hsz;simp [Act.eval,Act.put,Array.getD,hsz,ht1];intro hle;simp at hsz;omega
 rw[hrange];rcases hu with⟨rfl,rfl⟩ | ⟨v,rfl,hx⟩
 ·have hr:recoverD (c₀::cs)=none:=by simp [recoverD,hm]
  have hc: { c₀ with mode:= .returning }=c₀:=by cases c₀;simp at hm;simp [hm]
  refine Cf1 e0 rfl (r0 _ _) hr (Be8 e1 rfl (r1 _ _) ?_);rw[show(Sc t1 y1 p1 af1).dst=some t1 from rfl,hget];have:=key .nilIface .returning rfl (by simp [Rel]);rw[hc] at this;exact this
 ·have hr:recoverD (c₀::cs)=some (v,{ c₀ with mode:= .panicking [{ v,recovered:=true }] }::cs):=by simp [recoverD,hm]
  refine Cq2 e0 rfl (r0 _ _) hr (Be8 e1 rfl (r1 _ _) ?_);rw[show(Sc t1 y1 p1 af1).dst=some t1 from rfl,hget];exact key v _ rfl hx
theorem Bf0 (env:Nat->DVal): ∀l:List Operand,(Eo G env l).length=l.length
 | []=>rfl
 | x::l=>by rw[Eo,List.length_cons,Bf0 env l,List.length_cons]
def Bp9 (d:Nat) (g:FuncId) (caps:Array Operand) (ty:Nat) (ps:String) (af:Array Edge):Oper:= { dst:=some d,op:= .makeFunc (.func g) #[] caps,type:=ty,pos:=ps,after:=af,guard:=none }
def Cq3 (d ty:Nat) (ps:String) (af:Array Edge):Oper:= { dst:=none,op:= .defer { callee:= .value (.tmp d),args:= #[],argTypes:= #[] },type:=ty,pos:=ps,after:=af,guard:=none }
def Cq4 (P:Program) (G:Nat->DVal) (rs:List ResultVar) (R:DEnd->Ac->Prop) (m t1 t2:Nat) (cc:Code) (caps:List DVal):DExit->DS->Prop
 | .normal,s=>dwp P G m cc (Ah1 fun H'=>Am7 R H' (Hx (Kg P ⟨s.env,H'⟩ rs))) ⟨upd (upd (Lt caps 0) t1 .nilIface) t2 .nilIface,s.heap⟩
 | .ret,s=>dwp P G m cc (Ah1 fun H'=>Am7 R H' (Hx (Kg P ⟨s.env,H'⟩ rs))) ⟨upd (upd (Lt caps 0) t1 .nilIface) t2 .nilIface,s.heap⟩
 | .panic v,s=>dwp P G m cc (Ah1 fun H'=>Am7 R H' (Hx (Kg P ⟨s.env,H'⟩ rs))) ⟨upd (upd (Lt caps 0) t1 v) t2 v,s.heap⟩
 | _,_=>False
theorem Qz {f g:FuncId} {fn fg:Func} {A1 A2 C cc:Code} {id id2 d t1 t2 y1 y2 y3 y4:Nat} {p1 p2 p3 p4:String} {af1 af2 af3 af4:Array Edge} {caps:Array Operand} {args:List DVal} {H:Ac} {R:DEnd->Ac->Prop}
  (hf:P.funcs[f]? =some fn) (hg:P.funcs[g]? =some fg) (hcall: ∀vs w,(callFunc f vs).run P w= .ok (.enter f vs) w) (hcallg: ∀vs w,(callFunc g vs).run P w= .ok (.enter g vs) w)
  (hb:fn.body=some (.seq A1 (.seq A2 (.seq (.region id #[Bp9 d g caps y1 p1 af1,Cq3 d y2 p2 af2] false) C))))
  (hbg:fg.body=some (.seq (.region id2 #[Sc t1 y3 p3 af3,Yo t1 t2 y4 p4 af4] false) cc))
  (hk:(decide (args.length<=fn.ntmps)&&(Fh fn.ntmps A1&&Qb A1)&&(Fh fn.ntmps A2&&Qb A2)&&(Fh fn.ntmps C&&Qb C)&&decide (d<fn.ntmps)&&caps.toList.all (Bf fn.ntmps)&&fn.results.toList.all (Ac8 fn.ntmps))=true)
  (hkg:(decide (caps.toList.length<=fg.ntmps)&&Fh fg.ntmps cc&&Qb cc&&decide (t1<fg.ntmps)&&decide (t2<fg.ntmps))=true) (hrg:fg.results= #[])
  (h:dwp P G fn.ntmps A1 (Xs (fun s=>dwp P G fn.ntmps A2 (Xs (fun s1=>dwp P G fn.ntmps C (Cq4 P G fn.results.toList R fg.ntmps t1 t2 cc (Eo G s1.env caps.toList)) ⟨upd s1.env d (.func (.func g) [] (Eo G s1.env caps.toList)),s1.heap⟩) fun _ _=>False) s) fun _ _=>False) ⟨Lt args 0,H⟩):Ai P G f args H R:=by
 simp only[Bool.and_eq_true,decide_eq_true_eq] at hk;obtain⟨⟨⟨⟨⟨⟨hA,hok1,hfl1⟩,hok2,hfl2⟩,hok3,hfl3⟩,hd⟩,hcp⟩,hres⟩:=hk;refine⟨hcall,fun vs w hv hH hG=> ?_⟩;refine(callsIn_wide (n:=0)).1 (callsIn_of_wp_marks hf hb trivial ?_);have hS:=Ao6 (G:=G) (T:= []) (st:=true) hA hv hH hG;refine wpIn_seq (wpIn_mono (Er (.inl rfl) A1 hok1 (.inr hfl1) _ _ h _ w hS) ?_);rintro e a0 w0 ⟨e',s0,hQ,hX,hS0,hE0⟩;cases hX<;>first | exact hQ.elim | skip
 refine wpIn_seq (wpIn_mono (Er (.inl rfl) A2 hok2 (.inr hfl2) _ _ hQ _ w0 hS0) ?_);rintro e a1 w1 ⟨e',s1,hQ1,hX,hS1,hE1⟩;cases hX<;>first | exact hQ1.elim | skip
 have hE1:=hE0.trans hE1;have hd1:a1.defers= []:=Pm hS1 rfl;have hrc:=Ls hS1 hcp;obtain⟨cv,hcv⟩: ∃cv:List Value,cv=caps.toList.map a1.eval:=⟨_,rfl⟩;have hcv2:caps.map a1.eval=cv.toArray:=by rw[hcv,<-Array.toList_map]
 rw[<-hcv] at hrc;have hfv:Rel w1 s1.heap (.func (.func g) [] (Eo G s1.env caps.toList)) (.func (.func g) #[] cv.toArray):=by
  simp only[Rel];refine⟨#[],cv.toArray,rfl,?_,?_⟩
  ·simp [Aq]
  ·simpa using hrc
 obtain⟨D,hD⟩: ∃D:Deferred,D= { target:= .fn (.func g) cv.toArray,args:= #[] }:=⟨_,rfl⟩;have hS2:Sim G ⟨fn.ntmps,⟨w.heap.size,[D],true⟩⟩ ⟨upd s1.env d (.func (.func g) [] (Eo G s1.env caps.toList)),s1.heap⟩ ({ (a1.put (some d) (.func (.func g) #[] cv.toArray)) with defers:= [D] }) w1:=by
  have:=hS1.put (dst:=some d) (by simpa [By] using hd) hfv;exact⟨this.size,⟨[],rfl,List.nodup_nil,by simp⟩,this.tmps,this.heap,this.glob,this.base⟩
 refine wpIn_seq ?_;have hreg: #[Bp9 d g caps y1 p1 af1,Cq3 d y2 p2 af2]= [Bp9 d g caps y1 p1 af1,Cq3 d y2 p2 af2].toArray:=rfl;rw[hreg];refine wpIn_region_lit (wpListIn_plain rfl fun K hK=> ?_);have rm:(execOp a1.eval (Bp9 d g caps y1 p1 af1)).run P w1= .ok (.value (.func (.func g) #[] cv.toArray)) w1:=by
  simp [execOp,Bp9,Instr.makeFunc,Sem.run_pure,hcv2]
 have hsz:=hS1.size;have hget:(a1.put (some d) (.func (.func g) #[] cv.toArray)).eval (.tmp d)= .func (.func g) #[] cv.toArray:=by
  simp [Act.eval,Act.put,Array.getD,hsz,hd]
 have rd:(execOp (a1.put (some d) (.func (.func g) #[] cv.toArray)).eval (Cq3 d y2 p2 af2)).run P w1= .ok (.defer D) w1:=by
  simp [execOp,Cq3,resolve,hget,Deferred.ofValue,Sem.run_pure,hD]
 unfold Oper.wpIn;refine⟨fun _ _=>trivial,?_⟩;rw[Oper.semAt_eq _ _ _ (by intro c;simp [Bp9]),rm];refine hK _ _ (wpListIn_plain rfl fun K2 hK2=> ?_);unfold Oper.wpIn;refine⟨fun _ _=>trivial,?_⟩;rw[show Fence.wide.round=none from rfl,Oper.semAt_none,show(Bp9 d g caps y1 p1 af1).dst=some d from rfl,rd];refine hK2 _ _ (wpListIn_nil ?_);have hdp:(a1.put (some d) (.func (.func g) #[] cv.toArray)).defers= []:=hd1;rw[hdp];show C.wpIn _ _ _ _ _ _;refine wpIn_mono (Er (.inl rfl) C hok3 (.inr hfl3) _ _ hQ1 _ w1 hS2) ?_;rintro e a3 w3 ⟨e',s3,hQ3,hX3,hS3,hE3⟩;have hE3':=hE1.trans hE3;have hd3:a3.defers= [D]:=Pm hS3 rfl;have hrc3:Aq w3 s3.heap (Eo G s1.env caps.toList) cv:=hrc.lasts hE3.lasts;have hinv:(invoke D.target D.args).run P w3= .ok (.enter g cv.toArray) w3:=by
  rw[hD];simp [invoke,hcallg]
 have key: ∀(u:FrameMode) (x:DVal),u≠ .run->((u= .returning/\x= .nilIface)\/ ∃v,u= .panicking [{ v,recovered:=false }]/\Rel w3 s3.heap x v)->
   dwp P G fg.ntmps cc (Ah1 fun H'=>Am7 R H' (Hx (Kg P ⟨s3.env,H'⟩ fn.results.toList))) ⟨upd (upd (Lt (Eo G s1.env caps.toList) 0) t1 x) t2 x,s3.heap⟩->
   LeavesInM Fence.wide 0 P fn a3.tmps (fun e w'=> ∃e' H',R e' H'/\RelE w' H' e' e/\Av w' H'/\Ext H w H' w') a3.defers u w3:=by
  intro u x hu0 hu hc;rw[hd3];refine⟨hu0, .inr ⟨(fun h=>by cases h), .func g,cv.toArray,g,cv.toArray,(by rw[hD]),hinv,fun _ _=>trivial,?_⟩⟩;refine(Be9 hg hbg (by rw[Bf0];exact(by simp only[Bool.and_eq_true,decide_eq_true_eq] at hkg⊢;exact hkg)) hrg hrc3 hS3.heap hS3.glob hu hc).mono ?_;rintro e4 u4 w4 ⟨v4,H4,rfl,hset,hfin,hH4,hE4⟩;dsimp only;rw[hset];have hS4:=hS3.ext hE4 hH4;cases hdt:Hx (Kg P ⟨s3.env,H4⟩ fn.results.toList) with
  | none=>rw[hdt] at hfin;exact hfin.elim
  | some v=>
   rw[hdt] at hfin;obtain⟨x,hx,hr⟩:=Xu (P:=P) hS4 hres hdt;obtain⟨v',H',hgg,hR⟩:=hfin;obtain⟨g1,g2,g3⟩:=hgg w4 hS4.heap;exact⟨x,hx, .ret v',H',hR, .ret v' x (g3 x hr),g1,(hE3'.trans hE4).trans ⟨rfl,rfl,rfl,Nat.le_refl _,fun _ _ _=>rfl,fun b hb=> .inl (g2 b hb),fun _ _=>rfl,fun _ _ _=>rfl⟩⟩
 cases hX3 with
 | normal=>exact key .returning .nilIface (by simp) (.inl ⟨rfl,rfl⟩) hQ3
 | ret=>exact key .returning .nilIface (by simp) (.inl ⟨rfl,rfl⟩) hQ3
 | exit id=>exact hQ3.elim
 | goto l=>exact hQ3.elim
 | panic d v hv=>exact key _ d (by simp) (.inr ⟨v,rfl,hv⟩) hQ3
end
attribute [go_sem] Ah1.eq_1 Ah1.eq_2 Cq4.eq_1 Cq4.eq_2 Cq4.eq_3
end Go.Dl

-- Chapter 3: the package's reader: tokens, words.
namespace Go.Dl
open Go Go.Proofs
set_option maxRecDepth 100000
abbrev rdO (l:List Tok) (k:Nat):DObj:= .cells [Cc l,dI k] 106
def RAt (r:Nat) (l:List Tok) (k:Nat) (H0 H:Ac):Prop:=Sub (upd H0 r (some (rdO l k))) H
section
variable {G:Nat->DVal} {H0 H:Ac} {r k:Nat} {l:List Tok}
theorem RAt.refl (h:H r=some (rdO l k)):RAt r l k H H:=fun b o hb=>by
 simp only[upd] at hb;split at hb
 ·rename_i e;subst e;rw[h];exact hb
 ·exact hb
theorem RAt.get (h:RAt r l k H0 H):H r=some (rdO l k):=h _ _ (Aa _ _ _)
theorem RAt.new (h:RAt r l k H0 H) {x:Nat} (hx:H x=none) (o:Option DObj):RAt r l k H0 (upd H x o):=Sub.new h hx o
theorem RAt.more (h:RAt r l k H0 H) {H':Ac} (s:Sub H H'):RAt r l k H0 H':=Sub.trans h s
theorem RAt.set (h:RAt r l k H0 H) (k':Nat):RAt r l k' H0 (upd H r (some (rdO l k'))):=fun b o hb=>by
 simp only[upd] at hb⊢
 by_cases e:b=r
 ·rw[if_pos e] at hb⊢;exact hb
 ·rw[if_neg e] at hb⊢;exact h b o (by simp only[upd];rw[if_neg e];exact hb)
theorem RAt.own (h:RAt r l k H0 H) {x:Nat} (hx:H0 x=none) (hr:x≠r) (o:Option DObj):RAt r l k H0 (upd H x o):=Sub.up h (by simp only[upd];rw[if_neg hr];exact hx) o
theorem RAt.lo (h:RAt r l k H0 H) {x:Nat} (hx:H x=none):H0 x=none:=by
 have:=Sub.lo h hx;simp only[upd] at this;split at this
 ·cases this
 ·exact this
theorem RAt.fin {R:DEnd->Ac->Prop} {v:DVal} (h:RAt r l k H0 H) (hR:R (.ret v) (upd H0 r (some (rdO l k)))):Nu R v H:=Nu.sub h (.refl hR)
theorem Bt9.sub {R:DEnd->Ac->Prop} {v:DVal} {H':Ac} (h:Sub H' H) (hR:R (.panic v) H'):Bt9 R v H:=⟨v,H',Hz.sub h v,hR⟩
theorem RAt.finP {R:DEnd->Ac->Prop} {v:DVal} (h:RAt r l k H0 H) (hR:R (.panic v) (upd H0 r (some (rdO l k)))):Bt9 R v H:=Bt9.sub h hR
theorem Be {H:Ac} {r:Nat} {x:Option DObj} (h:H r=x):upd H r x=H:=by
 funext b;simp only[upd];split
 ·rename_i e;rw[e,h]
 ·rfl
theorem Ah2 {i:Nat} (h:i<l.length):tk l i=l[i]:=by rw[tk,List.getD,List.getElem?_eq_getElem h];rfl
theorem Au6 {i:Nat} (h:l.length<=i):tk l i=Za:=by rw[tk,List.getD,List.getElem?_eq_none h];rfl
theorem Tb (G:Nat->DVal) (H:Ac) (j:Nat) (hr:H r=some (rdO l k)) (hl:l.length<=1000000) (hk:k<=1000000) (hj:j<=1000000):Ai Tryz.prog G 83 [.optr r 0,dI j] H (Au (.agg (Ec (tk l (k+j)))) H):=by
 have hw:IntKind.i64.wrap ((k:Int)+(j:Int))=((k+j:Nat):Int):=by rw[IntKind.wrap_i64];omega
 unfold rdO at hr;refine Ad Tryz.func83 Tryz.call83 rfl (by kernel_rfl) ?_;simp(disch:=omega) only[go_sem,↓reduceIte];intro r4 hr4;dsimp only at hr4;have n1:r≠r4:=Ae hr4 hr;by_cases c:k+j<l.length
 ·have c':((k+j:Nat):Int)<(l.length:Int):=by omega
  have hget:=Bt Bm l (k+j) c;have hfl:=An Bm l;rw[Ah2 c];simp(disch:=omega) only[go_sem,↓reduceIte,n1,hr];refine Aj (by kernel_rfl) (.take 0 (.take 1 (.take 2 (.take 3 (.take 4 (.take 5 (.take 6 (.take 7 (.take 8 (.take 9 (.take 10 (.take 11 .done)))))))))))) (by kernel_rfl) ?_;simp(disch:=omega) only[go_sem,↓reduceIte,n1,hr,hw,c',Cc];refine Aj (by kernel_rfl) (.take 0 (.take 1 (.take 2 (.take 3 (.take 4 (.take 5 (.take 6 (.take 7 (.take 8 (.take 9 (.take 10 (.take 11 (.go 12 [] .done))))))))))))) (by kernel_rfl) ?_;simp(disch:=omega) only[go_sem,↓reduceIte,n1,hr,hw,c',Cc,hget,hfl,Int.toNat_natCast];simp(disch:=omega) only[go_sem,↓reduceIte,Ec];exact Nu.dropA r4 hr4 (Nu.refl ⟨rfl,rfl⟩)
 ·have c': ¬((k+j:Nat):Int)<(l.length:Int):=by omega
  rw[Au6 (by omega)];simp(disch:=omega) only[go_sem,↓reduceIte,n1,hr];refine Aj (by kernel_rfl) (.take 0 (.take 1 (.take 2 (.take 3 (.take 4 (.take 5 (.take 6 (.take 7 (.take 8 (.take 9 (.take 10 (.take 11 .done)))))))))))) (by kernel_rfl) ?_;simp(disch:=omega) only[go_sem,↓reduceIte,n1,hr,hw,c',Cc];exact Nu.dropA r4 hr4 (Nu.refl ⟨rfl,rfl⟩)
theorem Ra (G:Nat->DVal) (H:Ac) (hr:H r=some (rdO l k)) (hl:l.length<=1000000) (hk:k<=1000000):Ai Tryz.prog G 83 [.optr r 0,dI 0] H (Au (.agg (Ec (tk l k))) H):=
 Tb G H 0 hr hl hk (by omega)
theorem Wx (G:Nat->DVal) (H:Ac) (hr:H r=some (rdO l k)) (hl:l.length<=1000000) (hk:k<=1000000):Ai Tryz.prog G 81 [.optr r 0] H (Au (dI (tk l k).line) H):=by
 refine Ad Tryz.func81 Tryz.call81 rfl (by kernel_rfl) ?_;simp(disch:=omega) only[go_sem,↓reduceIte];refine(Tb G H 0 hr hl hk (by omega)).mono ?_;rintro _ H1 ⟨rfl,rfl⟩;simp(disch:=omega) only[go_sem,↓reduceIte,Nat.add_zero,Ec];exact Nu.refl ⟨rfl,rfl⟩
def dW (ws:List (List UInt8)):DVal:= .vslice (ws.map .str) ws.length
theorem Cq5 {ws:List (List UInt8)} {j:Nat} (hj:j<ws.length):isW l (k+j) (ws.drop j)=(decide ((tk l (k+j)).kind=Ea ws[j])&&decide ((tk l (k+j)).text=ws[j])&&isW l (k+(j+1)) (ws.drop (j+1))):=by
 rw[List.drop_eq_getElem_cons hj,isW];rfl
theorem Vd (hG:GX G) (H:Ac) (ws:List (List UInt8)) (hr:H r=some (rdO l k)) (hl:l.length<=1000000) (hk:k<=900000) (hw:ws.length<=1000):Ai Tryz.prog G 84 [.optr r 0,dW ws] H (Au (.bool (isW l k ws)) H):=by
 refine Ad Tryz.func84 Tryz.call84 rfl (by kernel_rfl) ?_;simp(disch:=omega) only[go_sem,↓reduceIte,dW];obtain⟨I,hI⟩: ∃I:Nat->(Nat->DVal)->Ac->Prop,∀j env heap,I j env heap↔(env 0= .optr r 0/\env 9=dW ws/\env 10=dI ws.length/\env 11=dI j/\j<=ws.length/\isW l k ws=isW l (k+j) (ws.drop j)/\Sub H heap):=⟨_,fun _ _ _=>Iff.rfl⟩;refine Bt4.run I (fun j=>ws.length-j) 0 ((hI _ _ _).2 ?_) ?_
 ·simp(disch:=omega) only[go_sem,↓reduceIte];(repeat' apply And.intro)<;>(try first | rfl | assumption | omega);exact Sub.refl H
 ·intro j env heap hi;obtain⟨e0,e9,e10,e11,hj,hm,hs⟩:=(hI _ _ _).1 hi;have gr:=hs _ _ hr;by_cases hlt:j<ws.length
  ·have hlt':(j:Int)<(ws.length:Int):=by omega
   have hwj:IntKind.i64.wrap ((j:Int)+1)=((j+1:Nat):Int):=by rw[IntKind.wrap_i64];omega
   have hget:(ws.map DVal.str)[j]? =some (.str ws[j]):=by rw[List.getElem?_map,List.getElem?_eq_getElem hlt];rfl
   have hml:(ws.map DVal.str).length=ws.length:=List.length_map _;rw[Cq5 hlt] at hm;obtain⟨s,hse⟩: ∃s,s=ws[j]:=⟨_,rfl⟩;obtain⟨t,ht⟩: ∃t,t=tk l (k+j):=⟨_,rfl⟩;rw[<-hse,<-ht] at hm;rw[<-hse] at hget;simp(disch:=omega) only[go_sem,↓reduceIte,e0,e9,e10,e11,hlt',dW,hget,hml,Int.toNat_natCast];refine(Tb G heap j gr hl (by omega) (by omega)).mono ?_;rintro _ H1 ⟨rfl,rfl⟩;rw[<-ht];simp(disch:=omega) only[go_sem,↓reduceIte,e0,e9,e10,e11];intro r7 hr7;dsimp only at hr7;have hs7: ∀x,Sub H (upd H1 r7 x):=fun x=>hs.new hr7 x;simp(disch:=omega) only[go_sem,↓reduceIte,e0,e9,e10,e11,Ec];refine(Ad9 hG _ s).mono ?_;rintro _ H2 ⟨rfl,rfl⟩;by_cases c1:t.kind=Ea s
   ·by_cases c2:t.text=s
    ·rw[decide_eq_true c1,decide_eq_true c2,Bool.true_and,Bool.true_and] at hm;rw[Ea] at c1;cases hkb:Qc s with
     | true=>
      rw[hkb,if_pos rfl] at c1;simp(disch:=omega) only[go_sem,↓reduceIte,e0,e9,e10,e11,c1,c2];refine⟨j+1,_,Ni.refl _,(hI _ _ _).2 ?_,by omega⟩;simp(disch:=omega) only[go_sem,↓reduceIte,e0,e9,e10,e11,hwj];(repeat' apply And.intro)<;>(try first | rfl | assumption | omega);exact hs7 _
     | false=>
      rw[hkb,if_neg (by simp)] at c1;simp(disch:=omega) only[go_sem,↓reduceIte,e0,e9,e10,e11,c1,c2];refine⟨j+1,_,Ni.refl _,(hI _ _ _).2 ?_,by omega⟩;simp(disch:=omega) only[go_sem,↓reduceIte,e0,e9,e10,e11,hwj];(repeat' apply And.intro)<;>(try first | rfl | assumption | omega);exact hs7 _
    ·rw[decide_eq_false c2,Bool.and_false,Bool.false_and] at hm;rw[Ea] at c1;cases hkb:Qc s with
     | true=>
      rw[hkb,if_pos rfl] at c1;simp(disch:=omega) only[go_sem,↓reduceIte,e0,e9,e10,e11,c1,c2];exact Nu.sub (hs7 _) (.refl ⟨by rw[hm],rfl⟩)
     | false=>
      rw[hkb,if_neg (by simp)] at c1;simp(disch:=omega) only[go_sem,↓reduceIte,e0,e9,e10,e11,c1,c2];exact Nu.sub (hs7 _) (.refl ⟨by rw[hm],rfl⟩)
   ·rw[decide_eq_false c1,Bool.false_and,Bool.false_and] at hm;rw[Ea] at c1;cases hkb:Qc s with
    | true=>
     rw[hkb,if_pos rfl] at c1;simp(disch:=omega) only[go_sem,↓reduceIte,e0,e9,e10,e11,c1];exact Nu.sub (hs7 _) (.refl ⟨by rw[hm],rfl⟩)
    | false=>
     rw[hkb,if_neg (by simp)] at c1;simp(disch:=omega) only[go_sem,↓reduceIte,e0,e9,e10,e11,c1];exact Nu.sub (hs7 _) (.refl ⟨by rw[hm],rfl⟩)
  ·have:j=ws.length:=by omega
   subst this;have hlt': ¬(ws.length:Int)<(ws.length:Int):=by omega
   rw[List.drop_length,isW] at hm;simp(disch:=omega) only[go_sem,↓reduceIte,e0,e9,e10,e11,hlt'];exact Nu.sub hs (.refl ⟨by rw[hm],rfl⟩)
def RdQ (r:Nat) (l:List Tok) (H:Ac) (v:DVal) (k:Nat) (e:DEnd) (H':Ac):Prop:=e= .ret v/\H'=upd H r (some (rdO l k))
def Ah3 (k:Nat):DVal:= .iface 110 (.agg [dI k])
theorem Ao7 (hG:GX G) (H:Ac) (ws:List (List UInt8)) (hr:H r=some (rdO l k)) (hl:l.length<=1000000) (hk:k<=900000) (hw:ws.length<=1000):Ai Tryz.prog G 79 [.optr r 0,dW ws] H (RdQ r l H (.bool (isW l k ws)) (if isW l k ws then k+ws.length else k)):=by
 refine Ad Tryz.func79 Tryz.call79 rfl (by kernel_rfl) ?_;simp(disch:=omega) only[go_sem,↓reduceIte];refine(Vd hG H ws hr hl hk hw).mono ?_;rintro _ H1 ⟨rfl,rfl⟩;cases h:isW l k ws with
 | false=>
  simp(disch:=omega) only[go_sem,↓reduceIte];exact Nu.refl ⟨rfl,(Be hr).symm⟩
 | true=>
  have hwj:IntKind.i64.wrap ((k:Int)+(ws.length:Int))=((k+ws.length:Nat):Int):=by rw[IntKind.wrap_i64];omega
  unfold rdO at hr;simp(disch:=omega) only[go_sem,↓reduceIte,hr,dW,hwj];exact Nu.refl ⟨rfl,rfl⟩
theorem Rp (G:Nat->DVal) (H:Ac) (hr:H r=some (rdO l k)):Ai Tryz.prog G 80 [.optr r 0] H (fun e H'=>e= .panic (Ah3 k)/\H'=H):=by
 unfold rdO at hr;refine Ad Tryz.func80 Tryz.call80 rfl (by kernel_rfl) ?_;simp(disch:=omega) only[go_sem,↓reduceIte,hr];exact Bt9.refl ⟨rfl,rfl⟩
theorem Rv (hG:GX G) (H:Ac) (q:Nat) (s:List UInt8) (hq:H q=none) (hr:H r=some (rdO l k)) (hl:l.length<=1000000) (hk:k<=900000):Ai Tryz.prog G 79 [.optr r 0, .oslice 1 q 0 1 1] (upd H q (some (.cells [.str s] 9))) (RdQ r l H (.bool (isW l k [s])) (if isW l k [s] then k+1 else k)):=by
 refine Ai.fzA q hq ?_;have n:r≠q:=Ae hq hr;simp only[fzs,fz,if_neg n,if_pos];exact Ao7 hG H [s] hr hl hk (by simp)
theorem Dp6 (hG:GX G) (H:Ac) (q:Nat) (s t:List UInt8) (hq:H q=none) (hr:H r=some (rdO l k)) (hl:l.length<=1000000) (hk:k<=900000):Ai Tryz.prog G 79 [.optr r 0, .oslice 1 q 0 2 2] (upd H q (some (.cells [.str s, .str t] 9))) (RdQ r l H (.bool (isW l k [s,t])) (if isW l k [s,t] then k+2 else k)):=by
 refine Ai.fzA q hq ?_;have n:r≠q:=Ae hq hr;simp only[fzs,fz,if_neg n,if_pos];exact Ao7 hG H [s,t] hr hl hk (by simp)
theorem is1 (hG:GX G) (H:Ac) (q:Nat) (s:List UInt8) (hq:H q=none) (hr:H r=some (rdO l k)) (hl:l.length<=1000000) (hk:k<=900000):Ai Tryz.prog G 84 [.optr r 0, .oslice 1 q 0 1 1] (upd H q (some (.cells [.str s] 9))) (Au (.bool (isW l k [s])) H):=by
 refine Ai.fzA q hq ?_;have n:r≠q:=Ae hq hr;simp only[fzs,fz,if_neg n,if_pos];exact Vd hG H [s] hr hl hk (by simp)
theorem is2 (hG:GX G) (H:Ac) (q:Nat) (s t:List UInt8) (hq:H q=none) (hr:H r=some (rdO l k)) (hl:l.length<=1000000) (hk:k<=900000):Ai Tryz.prog G 84 [.optr r 0, .oslice 1 q 0 2 2] (upd H q (some (.cells [.str s, .str t] 9))) (Au (.bool (isW l k [s,t])) H):=by
 refine Ai.fzA q hq ?_;have n:r≠q:=Ae hq hr;simp only[fzs,fz,if_neg n,if_pos];exact Vd hG H [s,t] hr hl hk (by simp)
def RdR (r:Nat) (l:List Tok) (H:Ac):Res DVal->DEnd->Ac->Prop
 | .bot,_,_=>False
 | .fail k,e,H'=>e= .panic (Ah3 k)/\H'=upd H r (some (rdO l k))
 | .ok v k,e,H'=>e= .ret v/\H'=upd H r (some (rdO l k))
theorem Gj (hG:GX G) (H:Ac) (s:List UInt8) (hr:H r=some (rdO l k)) (hl:l.length<=1000000) (hk:k<=900000):Ai Tryz.prog G 87 [.optr r 0, .str s] H (RdR r l H (must l s k fun k=> .ok (.tuple []) k)):=by
 refine Ad Tryz.func87 Tryz.call87 rfl (by kernel_rfl) ?_;simp(disch:=omega) only[go_sem,↓reduceIte];intro q hq;dsimp only at hq;simp(disch:=omega) only[go_sem,↓reduceIte];refine(Rv hG H q s hq hr hl hk).mono ?_;rintro _ H1 ⟨rfl,rfl⟩;rw[must];cases h:isW l k [s] with
 | true=>
  simp(disch:=omega) only[go_sem,↓reduceIte];exact Nu.refl ⟨rfl,rfl⟩
 | false=>
  simp(disch:=omega) only[go_sem,↓reduceIte];refine(Rp G _ (Aa _ _ _)).mono ?_;rintro _ H2 ⟨rfl,rfl⟩;simp(disch:=omega) only[go_sem,↓reduceIte];exact Bt9.refl ⟨rfl,rfl⟩
theorem Wy (G:Nat->DVal) (H:Ac) (kd:Int) (hr:H r=some (rdO l k)) (hl:l.length<=1000000) (hk:k<=900000):Ai Tryz.prog G 86 [.optr r 0, .int .u8 kd] H (RdR r l H (if(tk l k).kind=kd then .ok (.agg (Ec (tk l k))) (k+1) else .fail k)):=by
 refine Ad Tryz.func86 Tryz.call86 rfl (by kernel_rfl) ?_;simp(disch:=omega) only[go_sem,↓reduceIte];intro r4 hr4;dsimp only at hr4;have n4:r≠r4:=Ae hr4 hr;have hr':=hr;have hw:IntKind.i64.wrap ((k:Int)+1)=((k+1:Nat):Int):=by rw[IntKind.wrap_i64];omega
 unfold rdO at hr';simp(disch:=omega) only[go_sem,↓reduceIte];refine(Ra G _ (l:=l) (k:=k) (by rw[Ao _ _ _ _ n4];exact hr) hl (by omega)).mono ?_;rintro _ H1 ⟨rfl,rfl⟩;obtain⟨t,ht⟩: ∃t,t=tk l k:=⟨_,rfl⟩;rw[<-ht];simp(disch:=omega) only[go_sem,↓reduceIte];intro r5 hr5;dsimp only at hr5;obtain⟨m1,m2,hr5'⟩:=De7.1 hr5;have n5:r≠r5:=Ae hr5' hr;have q4:=n4.symm;have q5:=n5.symm;by_cases c:t.kind=kd
 ·rw[if_pos c];simp(disch:=omega) only[go_sem,↓reduceIte,m1,m2,n4,n5,q4,q5,Ec,hr',hw,c];exact RAt.fin (k:=k+1) ((((RAt.refl hr).new hr4 _).new hr5 _).set (k+1) |>.own hr4 q4 _) ⟨rfl,rfl⟩
 ·rw[if_neg c];simp(disch:=omega) only[go_sem,↓reduceIte,m1,m2,n4,n5,q4,q5,Ec,hr',c];have ha:=((RAt.refl hr).new hr4 (some (.cells [.int .u8 0, .int .i64 0, .str [], .int .i64 0] 31))).new hr5 (some (.cells [.int .u8 t.kind,dI t.line, .str t.text,dI t.n] 31));refine(Rp G _ ha.get).mono ?_;rintro _ H2 ⟨rfl,rfl⟩;simp(disch:=omega) only[go_sem,↓reduceIte];exact RAt.finP ha ⟨rfl,rfl⟩
end
end Go.Dl

-- Chapter 3: the operators' words; operators (printed by gen_uh.py).
namespace Go.Dl
open Go Go.Proofs
set_option maxRecDepth 100000
section
variable {G:Nat->DVal} {H0 H:Ac} {r k:Nat} {l:List Tok}
def Jb:DVal:= .vslice (Cp4.map dW) 22
theorem Gk {x y:List DVal} (hx:x.length=9) (hy:y.length=9):
  (if 9<=(Cx 2 [DVal.int .u8 0,DVal.int .u8 0,DVal.int .i64 0,DVal.str [],DVal.nilSlice,DVal.nilSlice,DVal.int .i64 0,DVal.int .i64 0,DVal.int .i64 0]).length then
   if 18<=(x++List.drop 9 (Cx 2 [DVal.int .u8 0,DVal.int .u8 0,DVal.int .i64 0,DVal.str [],DVal.nilSlice,DVal.nilSlice,DVal.int .i64 0,DVal.int .i64 0,DVal.int .i64 0])).length then
    some (List.take 9 (x++List.drop 9 (Cx 2 [DVal.int .u8 0,DVal.int .u8 0,DVal.int .i64 0,DVal.str [],DVal.nilSlice,DVal.nilSlice,DVal.int .i64 0,DVal.int .i64 0,DVal.int .i64 0]))++y++
     List.drop 18 (x++List.drop 9 (Cx 2 [DVal.int .u8 0,DVal.int .u8 0,DVal.int .i64 0,DVal.str [],DVal.nilSlice,DVal.nilSlice,DVal.int .i64 0,DVal.int .i64 0,DVal.int .i64 0])))
   else none
  else none)=some (x++y):=by
 have e: ∀u:List DVal,Cx 2 u=u++u:=fun u=>by simp [Cx]
 rw[e];rw[if_pos (by simp),if_pos (by simp [hx]),List.take_left' hx,List.drop_eq_nil_of_le (by simp [hx]),List.append_nil]
set_option maxHeartbeats 4000000 in
theorem Hd (G:Nat->DVal) (H:Ac):Ai Tryz.prog G 130 [] H (Au Jb H):=by
 refine Ad Tryz.func130 Tryz.call130 rfl (by kernel_rfl) ?_;simp(disch:=omega) only[go_sem,↓reduceIte];intro b1 hb1;dsimp only at hb1;obtain⟨K1,hK1⟩: ∃K,K=upd H b1 (some (.cells [.str [43]] 9)):=⟨_,rfl⟩;rw[<-hK1];simp(disch:=omega) only[go_sem,↓reduceIte];intro b2 hb2;dsimp only at hb2;obtain⟨K2,hK2⟩: ∃K,K=upd K1 b2 (some (.cells [.str [45]] 9)):=⟨_,rfl⟩;rw[<-hK2];simp(disch:=omega) only[go_sem,↓reduceIte];intro b3 hb3;dsimp only at hb3;obtain⟨K3,hK3⟩: ∃K,K=upd K2 b3 (some (.cells [.str [42]] 9)):=⟨_,rfl⟩;rw[<-hK3];simp(disch:=omega) only[go_sem,↓reduceIte];intro b4 hb4;dsimp only at hb4;obtain⟨K4,hK4⟩: ∃K,K=upd K3 b4 (some (.cells [.str [47]] 9)):=⟨_,rfl⟩;rw[<-hK4];simp(disch:=omega) only[go_sem,↓reduceIte];intro b5 hb5;dsimp only at hb5;obtain⟨K5,hK5⟩: ∃K,K=upd K4 b5 (some (.cells [.str [109,111,100]] 9)):=⟨_,rfl⟩;rw[<-hK5];simp(disch:=omega) only[go_sem,↓reduceIte];intro b6 hb6;dsimp only at hb6;obtain⟨K6,hK6⟩: ∃K,K=upd K5 b6 (some (.cells [.str [114,101,109]] 9)):=⟨_,rfl⟩;rw[<-hK6];simp(disch:=omega) only[go_sem,↓reduceIte];intro b7 hb7;dsimp only at hb7;obtain⟨K7,hK7⟩: ∃K,K=upd K6 b7 (some (.cells [.str [61]] 9)):=⟨_,rfl⟩;rw[<-hK7];simp(disch:=omega) only[go_sem,↓reduceIte];intro b8 hb8;dsimp only at hb8;obtain⟨K8,hK8⟩: ∃K,K=upd K7 b8 (some (.cells [.str [47,61]] 9)):=⟨_,rfl⟩;rw[<-hK8];simp(disch:=omega) only[go_sem,↓reduceIte];intro b9 hb9;dsimp only at hb9;obtain⟨K9,hK9⟩: ∃K,K=upd K8 b9 (some (.cells [.str [60]] 9)):=⟨_,rfl⟩;rw[<-hK9];simp(disch:=omega) only[go_sem,↓reduceIte];intro b10 hb10;dsimp only at hb10;obtain⟨K10,hK10⟩: ∃K,K=upd K9 b10 (some (.cells [.str [60,61]] 9)):=⟨_,rfl⟩;rw[<-hK10];simp(disch:=omega) only[go_sem,↓reduceIte];intro b11 hb11;dsimp only at hb11;obtain⟨K11,hK11⟩: ∃K,K=upd K10 b11 (some (.cells [.str [62]] 9)):=⟨_,rfl⟩;rw[<-hK11];simp(disch:=omega) only[go_sem,↓reduceIte];intro b12 hb12;dsimp only at hb12;obtain⟨K12,hK12⟩: ∃K,K=upd K11 b12 (some (.cells [.str [62,61]] 9)):=⟨_,rfl⟩;rw[<-hK12];simp(disch:=omega) only[go_sem,↓reduceIte];intro b13 hb13;dsimp only at hb13;obtain⟨K13,hK13⟩: ∃K,K=upd K12 b13 (some (.cells [.str [97,110,100]] 9)):=⟨_,rfl⟩;rw[<-hK13];simp(disch:=omega) only[go_sem,↓reduceIte];intro b14 hb14;dsimp only at hb14;obtain⟨K14,hK14⟩: ∃K,K=upd K13 b14 (some (.cells [.str [111,114]] 9)):=⟨_,rfl⟩;rw[<-hK14];simp(disch:=omega) only[go_sem,↓reduceIte];intro b15 hb15;dsimp only at hb15;obtain⟨K15,hK15⟩: ∃K,K=upd K14 b15 (some (.cells [.str [120,111,114]] 9)):=⟨_,rfl⟩;rw[<-hK15];simp(disch:=omega) only[go_sem,↓reduceIte];intro b16 hb16;dsimp only at hb16;obtain⟨K16,hK16⟩: ∃K,K=upd K15 b16 (some (.cells [.str [97,110,100], .str [116,104,101,110]] 9)):=⟨_,rfl⟩;rw[<-hK16];simp(disch:=omega) only[go_sem,↓reduceIte];intro b17 hb17;dsimp only at hb17;obtain⟨K17,hK17⟩: ∃K,K=upd K16 b17 (some (.cells [.str [111,114], .str [101,108,115,101]] 9)):=⟨_,rfl⟩;rw[<-hK17];simp(disch:=omega) only[go_sem,↓reduceIte];intro b18 hb18;dsimp only at hb18;obtain⟨K18,hK18⟩: ∃K,K=upd K17 b18 (some (.cells [.str [43]] 9)):=⟨_,rfl⟩;rw[<-hK18];simp(disch:=omega) only[go_sem,↓reduceIte];intro b19 hb19;dsimp only at hb19;obtain⟨K19,hK19⟩: ∃K,K=upd K18 b19 (some (.cells [.str [45]] 9)):=⟨_,rfl⟩;rw[<-hK19];simp(disch:=omega) only[go_sem,↓reduceIte];intro b20 hb20;dsimp only at hb20;obtain⟨K20,hK20⟩: ∃K,K=upd K19 b20 (some (.cells [.str [97,98,115]] 9)):=⟨_,rfl⟩;rw[<-hK20];simp(disch:=omega) only[go_sem,↓reduceIte];intro b21 hb21;dsimp only at hb21;obtain⟨K21,hK21⟩: ∃K,K=upd K20 b21 (some (.cells [.str [110,111,116]] 9)):=⟨_,rfl⟩;rw[<-hK21];simp(disch:=omega) only[go_sem,↓reduceIte];intro b22 hb22;dsimp only at hb22;obtain⟨K22,hK22⟩: ∃K,K=upd K21 b22 (some (.cells [.nilSlice, .oslice 1 b1 0 1 1, .oslice 1 b2 0 1 1, .oslice 1 b3 0 1 1, .oslice 1 b4 0 1 1, .oslice 1 b5 0 1 1, .oslice 1 b6 0 1 1, .oslice 1 b7 0 1 1, .oslice 1 b8 0 1 1, .oslice 1 b9 0 1 1, .oslice 1 b10 0 1 1, .oslice 1 b11 0 1 1, .oslice 1 b12 0 1 1, .oslice 1 b13 0 1 1, .oslice 1 b14 0 1 1, .oslice 1 b15 0 1 1, .oslice 1 b16 0 2 2, .oslice 1 b17 0 2 2, .oslice 1 b18 0 1 1, .oslice 1 b19 0 1 1, .oslice 1 b20 0 1 1, .oslice 1 b21 0 1 1] 138)):=⟨_,rfl⟩;rw[<-hK22];have s1:Sub H K1:=by rw[hK1];exact(Sub.refl _).new hb1 _
 have s2:Sub K1 K2:=by rw[hK2];exact(Sub.refl _).new hb2 _
 have s3:Sub K2 K3:=by rw[hK3];exact(Sub.refl _).new hb3 _
 have s4:Sub K3 K4:=by rw[hK4];exact(Sub.refl _).new hb4 _
 have s5:Sub K4 K5:=by rw[hK5];exact(Sub.refl _).new hb5 _
 have s6:Sub K5 K6:=by rw[hK6];exact(Sub.refl _).new hb6 _
 have s7:Sub K6 K7:=by rw[hK7];exact(Sub.refl _).new hb7 _
 have s8:Sub K7 K8:=by rw[hK8];exact(Sub.refl _).new hb8 _
 have s9:Sub K8 K9:=by rw[hK9];exact(Sub.refl _).new hb9 _
 have s10:Sub K9 K10:=by rw[hK10];exact(Sub.refl _).new hb10 _
 have s11:Sub K10 K11:=by rw[hK11];exact(Sub.refl _).new hb11 _
 have s12:Sub K11 K12:=by rw[hK12];exact(Sub.refl _).new hb12 _
 have s13:Sub K12 K13:=by rw[hK13];exact(Sub.refl _).new hb13 _
 have s14:Sub K13 K14:=by rw[hK14];exact(Sub.refl _).new hb14 _
 have s15:Sub K14 K15:=by rw[hK15];exact(Sub.refl _).new hb15 _
 have s16:Sub K15 K16:=by rw[hK16];exact(Sub.refl _).new hb16 _
 have s17:Sub K16 K17:=by rw[hK17];exact(Sub.refl _).new hb17 _
 have s18:Sub K17 K18:=by rw[hK18];exact(Sub.refl _).new hb18 _
 have s19:Sub K18 K19:=by rw[hK19];exact(Sub.refl _).new hb19 _
 have s20:Sub K19 K20:=by rw[hK20];exact(Sub.refl _).new hb20 _
 have s21:Sub K20 K21:=by rw[hK21];exact(Sub.refl _).new hb21 _
 have s22:Sub K21 K22:=by rw[hK22];exact(Sub.refl _).new hb22 _
 have t22:Sub K22 K22:=Sub.refl _;have t21:Sub K21 K22:=s22.trans t22;have t20:Sub K20 K22:=s21.trans t21;have t19:Sub K19 K22:=s20.trans t20;have t18:Sub K18 K22:=s19.trans t19;have t17:Sub K17 K22:=s18.trans t18;have t16:Sub K16 K22:=s17.trans t17;have t15:Sub K15 K22:=s16.trans t16;have t14:Sub K14 K22:=s15.trans t15;have t13:Sub K13 K22:=s14.trans t14;have t12:Sub K12 K22:=s13.trans t13;have t11:Sub K11 K22:=s12.trans t12;have t10:Sub K10 K22:=s11.trans t11;have t9:Sub K9 K22:=s10.trans t10;have t8:Sub K8 K22:=s9.trans t9;have t7:Sub K7 K22:=s8.trans t8;have t6:Sub K6 K22:=s7.trans t7;have t5:Sub K5 K22:=s6.trans t6;have t4:Sub K4 K22:=s5.trans t5;have t3:Sub K3 K22:=s4.trans t4;have t2:Sub K2 K22:=s3.trans t3;have t1:Sub K1 K22:=s2.trans t2;have t0:Sub H K22:=s1.trans t1;have u1:Sub H H:=Sub.refl H;have u2:Sub H K1:=u1.trans s1;have u3:Sub H K2:=u2.trans s2;have u4:Sub H K3:=u3.trans s3;have u5:Sub H K4:=u4.trans s4;have u6:Sub H K5:=u5.trans s5;have u7:Sub H K6:=u6.trans s6;have u8:Sub H K7:=u7.trans s7;have u9:Sub H K8:=u8.trans s8;have u10:Sub H K9:=u9.trans s9;have u11:Sub H K10:=u10.trans s10;have u12:Sub H K11:=u11.trans s11;have u13:Sub H K12:=u12.trans s12;have u14:Sub H K13:=u13.trans s13;have u15:Sub H K14:=u14.trans s14;have u16:Sub H K15:=u15.trans s15;have u17:Sub H K16:=u16.trans s16;have u18:Sub H K17:=u17.trans s17;have u19:Sub H K18:=u18.trans s18;have u20:Sub H K19:=u19.trans s19;have u21:Sub H K20:=u20.trans s20;have u22:Sub H K21:=u21.trans s21;have hsT:Sub H K22:=u22.trans s22;have c1:K22 b1=some (.cells [.str [43]] 9):=t1 _ _ (by rw[hK1];exact Aa _ _ _);have c2:K22 b2=some (.cells [.str [45]] 9):=t2 _ _ (by rw[hK2];exact Aa _ _ _);have c3:K22 b3=some (.cells [.str [42]] 9):=t3 _ _ (by rw[hK3];exact Aa _ _ _);have c4:K22 b4=some (.cells [.str [47]] 9):=t4 _ _ (by rw[hK4];exact Aa _ _ _);have c5:K22 b5=some (.cells [.str [109,111,100]] 9):=t5 _ _ (by rw[hK5];exact Aa _ _ _);have c6:K22 b6=some (.cells [.str [114,101,109]] 9):=t6 _ _ (by rw[hK6];exact Aa _ _ _);have c7:K22 b7=some (.cells [.str [61]] 9):=t7 _ _ (by rw[hK7];exact Aa _ _ _);have c8:K22 b8=some (.cells [.str [47,61]] 9):=t8 _ _ (by rw[hK8];exact Aa _ _ _);have c9:K22 b9=some (.cells [.str [60]] 9):=t9 _ _ (by rw[hK9];exact Aa _ _ _);have c10:K22 b10=some (.cells [.str [60,61]] 9):=t10 _ _ (by rw[hK10];exact Aa _ _ _);have c11:K22 b11=some (.cells [.str [62]] 9):=t11 _ _ (by rw[hK11];exact Aa _ _ _);have c12:K22 b12=some (.cells [.str [62,61]] 9):=t12 _ _ (by rw[hK12];exact Aa _ _ _);have c13:K22 b13=some (.cells [.str [97,110,100]] 9):=t13 _ _ (by rw[hK13];exact Aa _ _ _);have c14:K22 b14=some (.cells [.str [111,114]] 9):=t14 _ _ (by rw[hK14];exact Aa _ _ _);have c15:K22 b15=some (.cells [.str [120,111,114]] 9):=t15 _ _ (by rw[hK15];exact Aa _ _ _);have c16:K22 b16=some (.cells [.str [97,110,100], .str [116,104,101,110]] 9):=t16 _ _ (by rw[hK16];exact Aa _ _ _);have c17:K22 b17=some (.cells [.str [111,114], .str [101,108,115,101]] 9):=t17 _ _ (by rw[hK17];exact Aa _ _ _);have c18:K22 b18=some (.cells [.str [43]] 9):=t18 _ _ (by rw[hK18];exact Aa _ _ _);have c19:K22 b19=some (.cells [.str [45]] 9):=t19 _ _ (by rw[hK19];exact Aa _ _ _);have c20:K22 b20=some (.cells [.str [97,98,115]] 9):=t20 _ _ (by rw[hK20];exact Aa _ _ _);have c21:K22 b21=some (.cells [.str [110,111,116]] 9):=t21 _ _ (by rw[hK21];exact Aa _ _ _);have c22:K22 b22=some (.cells [.nilSlice, .oslice 1 b1 0 1 1, .oslice 1 b2 0 1 1, .oslice 1 b3 0 1 1, .oslice 1 b4 0 1 1, .oslice 1 b5 0 1 1, .oslice 1 b6 0 1 1, .oslice 1 b7 0 1 1, .oslice 1 b8 0 1 1, .oslice 1 b9 0 1 1, .oslice 1 b10 0 1 1, .oslice 1 b11 0 1 1, .oslice 1 b12 0 1 1, .oslice 1 b13 0 1 1, .oslice 1 b14 0 1 1, .oslice 1 b15 0 1 1, .oslice 1 b16 0 2 2, .oslice 1 b17 0 2 2, .oslice 1 b18 0 1 1, .oslice 1 b19 0 1 1, .oslice 1 b20 0 1 1, .oslice 1 b21 0 1 1] 138):=t22 _ _ (by rw[hK22];exact Aa _ _ _);have seenT:Fc K22 (.oslice 1 b22 0 22 22) H (.vslice (Cp4.map dW) 22):=Fc.cells (cs':=Cp4.map dW) hsT (u22.lo hb22) c22 rfl (.cons (.nil hsT) (.cons (Fc.block hsT (u1.lo hb1) c1 rfl) (.cons (Fc.block hsT (u2.lo hb2) c2 rfl) (.cons (Fc.block hsT (u3.lo hb3) c3 rfl) (.cons (Fc.block hsT (u4.lo hb4) c4 rfl) (.cons (Fc.block hsT (u5.lo hb5) c5 rfl) (.cons (Fc.block hsT (u6.lo hb6) c6 rfl) (.cons (Fc.block hsT (u7.lo hb7) c7 rfl) (.cons (Fc.block hsT (u8.lo hb8) c8 rfl) (.cons (Fc.block hsT (u9.lo hb9) c9 rfl) (.cons (Fc.block hsT (u10.lo hb10) c10 rfl) (.cons (Fc.block hsT (u11.lo hb11) c11 rfl) (.cons (Fc.block hsT (u12.lo hb12) c12 rfl) (.cons (Fc.block hsT (u13.lo hb13) c13 rfl) (.cons (Fc.block hsT (u14.lo hb14) c14 rfl) (.cons (Fc.block hsT (u15.lo hb15) c15 rfl) (.cons (Fc.block hsT (u16.lo hb16) c16 rfl) (.cons (Fc.block hsT (u17.lo hb17) c17 rfl) (.cons (Fc.block hsT (u18.lo hb18) c18 rfl) (.cons (Fc.block hsT (u19.lo hb19) c19 rfl) (.cons (Fc.block hsT (u20.lo hb20) c20 rfl) (.cons (Fc.block hsT (u21.lo hb21) c21 rfl) (.nil)))))))))))))))))))))));simp(disch:=omega) only[go_sem,↓reduceIte];exact Fc.fin hsT seenT ⟨rfl,rfl⟩
theorem Wz (G:Nat->DVal) (H:Ac) (o:Nat) (a b:Ex):Ai Tryz.prog G 78 [.int .u8 o, .agg (dEx a), .agg (dEx b)] H (Au (.agg (dEx (both o a b))) H):=by
 have hea:both o a b= .mk 12 o 0 [] [a,b] [] a.line 0 0:=rfl;rw[hea];have hab: [a,b].flatMap dEx=dEx a++dEx b:=by simp
 have hla:(dEx a)[6]? =some (dI a.line):=by cases a;rfl
 have hlx:(dEx a).length=9:=Ah a;have hly:(dEx b).length=9:=Ah b;refine Ad Tryz.func78 Tryz.call78 rfl (by kernel_rfl) ?_;simp(disch:=omega) only[go_sem,↓reduceIte,DVal.cells];intro r4 hr4;dsimp only at hr4;simp(disch:=omega) only[go_sem,↓reduceIte,DVal.cells];intro r5 hr5;dsimp only at hr5;obtain⟨m1,m2,hr5'⟩:=De7.1 hr5;simp(disch:=omega) only[go_sem,↓reduceIte];intro r6 hr6;dsimp only at hr6;obtain⟨m3,m4,hr6a⟩:=De7.1 hr6;obtain⟨m5,m6,hr6'⟩:=De7.1 hr6a;simp(disch:=omega) only[go_sem,↓reduceIte,m1,m2,m3,m4,m5,m6];rw[Gk hlx hly];simp(disch:=omega) only[go_sem,↓reduceIte,m1,m2,m3,m4,m5,m6];intro r7 hr7;dsimp only at hr7;obtain⟨p1,p2,hr7a⟩:=De7.1 hr7;obtain⟨p3,p4,hr7b⟩:=De7.1 hr7a;obtain⟨p5,p6,hr7'⟩:=De7.1 hr7b;simp(disch:=omega) only[go_sem,↓reduceIte,m1,m2,m3,m4,m5,m6,p1,p2,p3,p4,p5,p6,hla];have hs:=(((((Sub.refl H).new hr4 (some (.cells (dEx a) 27))).new hr5 (some (.cells (dEx b) 27))).new hr6 (some (.cells [.int .u8 0, .int .u8 0, .int .i64 0, .str [], .nilSlice, .nilSlice, .int .i64 0, .int .i64 0, .int .i64 0] 27))).new hr7 (some (.cells (dEx a++dEx b) 27))).up hr6' (some (.cells [.int .u8 12, .int .u8 o, .int .i64 0, .str [], .oslice 9 r7 0 2 2, .nilSlice, .int .i64 a.line, .int .i64 0, .int .i64 0] 27));refine Fc.fin hs (Fc.agg (Fc.ex (l:= [a,b]) hs (Fc.block (e:=27) hs hr7' ?_ ?_) (.as0 hs))) ⟨rfl,rfl⟩
 ·rw[hab];simp [upd,p1,p2]
 ·rw[hab,List.length_append,hlx,hly]
end
end Go.Dl

-- Chapter 3: the package's reader: operators.
namespace Go.Dl
open Go Go.Proofs
set_option maxRecDepth 100000
def Kn:Nat->Nat->List Nat
 | _,0=> []
 | h,n+1=>h::Kn (h-1) n
theorem Tc {o:Nat} (h:o<22):(Cp4.map dW)[o]? =some (dW (Bp o)):=by
 rw[List.getElem?_map,Bp,List.getD,List.getElem?_eq_getElem (by exact h)];rfl
theorem Ah4 (o:Nat):(Bp o).length<=2:=by
 rw[Bp,List.getD];by_cases h:o<22
 ·have: ∀i:Fin 22,((Cp4[i.1]?).getD []).length<=2:=by decide
  exact this ⟨o,h⟩
 ·rw[List.getElem?_eq_none (by have:Cp4.length=22:=rfl;omega)];decide
section
variable {G:Nat->DVal} {H0 H:Ac} {r k:Nat} {l:List Tok}
theorem Oc (want:Nat) (o:Nat) (m:List Nat):opF l want k (o::m)=if isW l k (Bp o) then(if want≠0/\o≠want then(0,k) else(o,k+(Bp o).length)) else opF l want k m:=rfl
set_option maxHeartbeats 4000000 in
theorem Lk (hG:GX G) (H:Ac) (lo hi want:Nat) (h1:1<=lo) (h2:lo<=hi) (h3:hi<=21) (hr:H r=some (rdO l k)) (hl:l.length<=1000000) (hk:k<=900000):
  Ai Tryz.prog G 77 [.optr r 0, .int .u8 lo, .int .u8 hi, .int .u8 want] H (RdQ r l H (.int .u8 (opF l want k (Kn hi (hi+1-lo))).1) (opF l want k (Kn hi (hi+1-lo))).2):=by
 have hr':=hr;unfold rdO at hr';refine Ad Tryz.func77 Tryz.call77 rfl (by kernel_rfl) ?_;simp(disch:=omega) only[go_sem,↓reduceIte];refine(Hd G H).mono ?_;rintro _ H1 ⟨rfl,rfl⟩;simp(disch:=omega) only[go_sem,↓reduceIte];obtain⟨I,hI⟩: ∃I:Nat->(Nat->DVal)->Ac->Prop,∀j env heap,I j env heap↔(env 0= .optr r 0/\env 1= .int .u8 lo/\env 3= .int .u8 want/\env 9=Jb/\env 10= .int .u8 ((hi-j:Nat):Int)/\j<=hi+1-lo/\opF l want k (Kn hi (hi+1-lo))=opF l want k (Kn (hi-j) (hi+1-lo-j))/\heap=H1):=⟨_,fun _ _ _=>Iff.rfl⟩;refine Bt4.run I (fun j=>hi+1-lo-j) 0 ((hI _ _ _).2 ?_) ?_
 ·simp(disch:=omega) only[go_sem,↓reduceIte];(repeat' apply And.intro)<;>(try first | rfl | assumption | omega)
 ·intro j env heap hi';obtain⟨e0,e1,e3,e9,e10,hj,hm,rfl⟩:=(hI _ _ _).1 hi';by_cases hlt:j<hi+1-lo
  ·obtain⟨o,ho⟩: ∃o,o=hi-j:=⟨_,rfl⟩;have hn:hi+1-lo-j=(hi+1-lo-(j+1))+1:=by omega
   rw[hn,Kn,Oc,<-ho] at hm;rw[<-ho] at e10;have hlt':(lo:Int)<=(o:Int):=by omega
   have hwj:IntKind.u8.wrap ((o:Int)-1)=((hi-(j+1):Nat):Int):=by
    rw[IntKind.wrap_u8];omega
   have hget:=Tc (o:=o) (by omega);have hwl:=Ah4 o;obtain⟨ws,hws⟩: ∃ws,ws=Bp o:=⟨_,rfl⟩;rw[<-hws] at hget hwl hm;have hml:(Cp4.map dW).length=22:=rfl;obtain⟨W,hW⟩: ∃W,W=Cp4.map dW:=⟨_,rfl⟩;rw[<-hW] at hget hml;simp(disch:=omega) only[go_sem,↓reduceIte,e0,e1,e3,e9,e10,hlt',Jb,<-hW,hget,hml,Int.toNat_natCast];refine(Vd hG heap ws hr hl hk (by omega)).mono ?_;rintro _ H2 ⟨rfl,rfl⟩;cases hb:isW l k ws with
   | false=>
    rw[hb] at hm;simp(disch:=omega) only[go_sem,↓reduceIte,e0,e1,e3,e9,e10];refine⟨j+1,_,Ni.refl _,(hI _ _ _).2 ?_,by omega⟩;simp(disch:=omega) only[go_sem,↓reduceIte,e0,e1,e3,e9,e10,hwj];(repeat' apply And.intro)<;>(try first | rfl | assumption | omega);rw[hm,if_neg (by simp),Nat.sub_sub,ho];rfl
   | true=>
    rw[hb,if_pos rfl] at hm;have hwk:IntKind.i64.wrap ((k:Int)+(ws.length:Int))=((k+ws.length:Nat):Int):=by rw[IntKind.wrap_i64];omega
    by_cases c1:want=0
    ·have c1':(want:Int)=0:=by omega
     rw[if_neg (by omega)] at hm;simp(disch:=omega) only[go_sem,↓reduceIte,e0,e1,e3,e9,e10,c1',Jb,<-hW,hget,hml,Int.toNat_natCast];refine Aj (by kernel_rfl) (.take 0 (.take 1 (.take 2 (.take 3 (.take 4 (.take 5 (.take 6 (.take 7 (.take 8 (.take 9 (.take 10 (.take 11 (.go 12 [] .done))))))))))))) (by kernel_rfl) ?_;simp(disch:=omega) only[go_sem,↓reduceIte,e0,e1,e3,e9,e10,Jb,<-hW,hget,hml,Int.toNat_natCast,hr',hwk,dW];rw[hm];exact Nu.refl ⟨rfl,rfl⟩
    ·have c1': ¬(want:Int)=0:=by omega
     by_cases c2:o=want
     ·have c2':(o:Int)=(want:Int):=by omega
      rw[if_neg (by omega)] at hm;simp(disch:=omega) only[go_sem,↓reduceIte,e0,e1,e3,e9,e10,c1',c2',Jb,<-hW,hget,hml,Int.toNat_natCast];refine Aj (by kernel_rfl) (.take 0 (.take 1 (.take 2 (.take 3 (.take 4 (.take 5 (.take 6 (.take 7 (.take 8 (.take 9 (.take 10 (.take 11 (.go 12 [] .done))))))))))))) (by kernel_rfl) ?_;simp(disch:=omega) only[go_sem,↓reduceIte,e0,e1,e3,e9,e10,Jb,<-hW,hget,hml,Int.toNat_natCast,hr',hwk,dW];rw[hm];exact Nu.refl ⟨rfl,rfl⟩
     ·have c2': ¬(o:Int)=(want:Int):=by omega
      rw[if_pos ⟨c1,c2⟩] at hm;simp(disch:=omega) only[go_sem,↓reduceIte,e0,e1,e3,e9,e10,c1',c2'];rw[hm];exact Nu.refl ⟨rfl,(Be hr).symm⟩
  ·have:j=hi+1-lo:=by omega
   subst this;have ho:hi-(hi+1-lo)=lo-1:=by omega
   have hlt': ¬(lo:Int)<=((lo-1:Nat):Int):=by omega
   rw[Nat.sub_self,ho,Kn,opF] at hm;rw[ho] at e10;simp(disch:=omega) only[go_sem,↓reduceIte,e0,e1,e3,e9,e10,hlt'];rw[hm];exact Nu.refl ⟨rfl,(Be hr).symm⟩
end
end Go.Dl

-- Chapter 3: the package's reader: chains of operands.
namespace Go.Dl
open Go Go.Proofs
set_option maxRecDepth 100000
def Res.mp {α:Type} (f:α->DVal):Res α->Res DVal
 | .bot=> .bot
 | .fail k=> .fail k
 | .ok x k=> .ok (f x) k
def dE (e:Ex):DVal:= .agg (dEx e)
section
variable {G:Nat->DVal} {H0 H:Ac} {r k:Nat} {l:List Tok}
def RdC (P:Program) (G:Nat->DVal) (l:List Tok) (f:FuncId) (r:Nat) (res:Nat->Res DVal):Prop:=
 ∀H k,H r=some (rdO l k)->k<=l.length->res k≠ .bot->Ai P G f [.optr r 0] H (RdR r l H (res k))
set_option maxHeartbeats 4000000 in
theorem Ah5 (hG:GX G) (g:FuncId) (T:Nat->Nat->Res Ex) (L:Nat->Ex->Nat->Res Ex) (lo hi:Nat) (h1:1<=lo) (h2:lo<=hi) (h3:hi<=21) (hl:l.length<=800000)
  (hL0: ∀x k,L 0 x k= .bot) (hL: ∀m x k,L (m+1) x k=if(opF l 0 k (Kn hi (hi+1-lo))).1=0 then .ok x k else(T m (opF l 0 k (Kn hi (hi+1-lo))).2).then fun y k'=>L m (both (opF l 0 k (Kn hi (hi+1-lo))).1 x y) k')
  (hT: ∀m k,k<=l.length->Adv l (k+1) (T m k)) (hos: ∀o∈Kn hi (hi+1-lo),o<22/\o≠0)
  (n:Nat) (hg: ∀m<n,RdC Tryz.prog G l g r fun k=>(T m k).mp dE) (H:Ac) (x:Ex) (k:Nat) (hr:H r=some (rdO l k)) (hk:k<=l.length) (hn:L n x k≠ .bot):
  Ai Tryz.prog G 82 [.optr r 0, .agg (dEx x), .int .u8 lo, .int .u8 hi, .func (.func g) [.optr r 0] []] H (RdR r l H ((L n x k).mp dE)):=by
 refine Ad Tryz.func82 Tryz.call82 rfl (by kernel_rfl) ?_;simp(disch:=omega) only[go_sem,↓reduceIte,DVal.cells];intro r6 hr6;dsimp only at hr6;simp(disch:=omega) only[go_sem,↓reduceIte,DVal.cells];intro rx hrx;dsimp only at hrx;obtain⟨m1,m2,hrx'⟩:=De7.1 hrx;have n6:r≠r6:=Ae hr6 hr;have nx:r≠rx:=Ae hrx' hr;have ha:=((RAt.refl hr).new hr6 (some (.cells (dEx x) 27))).new hrx (some (.cells [.int .u8 0, .int .u8 0, .int .i64 0, .str [], .nilSlice, .nilSlice, .int .i64 0, .int .i64 0, .int .i64 0] 27));simp(disch:=omega) only[go_sem,↓reduceIte,m1,m2,n6,nx];refine(Lk hG _ lo hi 0 h1 h2 h3 ha.get (by omega) (by omega)).mono ?_;rintro _ H1 ⟨rfl,rfl⟩;obtain⟨os,hosd⟩: ∃os,os=Kn hi (hi+1-lo):=⟨_,rfl⟩;rw[<-hosd] at hL hos⊢
 have q6:=n6.symm;have qx:=nx.symm;obtain⟨z,hz⟩: ∃z,z=(some (.cells [.int .u8 0, .int .u8 0, .int .i64 0, .str [], .nilSlice, .nilSlice, .int .i64 0, .int .i64 0, .int .i64 0] 27):Option DObj):=⟨_,rfl⟩;rw[<-hz] at ha;obtain⟨n',rfl⟩: ∃n',n=n'+1:=by
  cases n with
  | zero=>exact absurd (hL0 _ _) hn
  | succ n'=>exact⟨n',rfl⟩
 simp(disch:=omega) only[go_sem,↓reduceIte,m1,m2,n6,nx];obtain⟨I,hI⟩: ∃I:Nat×Ex×Nat->(Nat->DVal)->Ac->Prop,∀s env heap,I s env heap↔(env 0= .optr r 0/\env 2= .int .u8 lo/\env 3= .int .u8 hi/\env 4= .func (.func g) [.optr r 0] []/\env 6= .optr r6 0/\env 10= .optr rx 0/\env 11= .int .u8 (opF l 0 s.2.2 os).1/\s.2.2<=l.length/\s.1<=n'/\L (s.1+1) s.2.1 s.2.2=L (n'+1) x k/\RAt r l (opF l 0 s.2.2 os).2 H heap/\heap r6=some (.cells (dEx s.2.1) 27)/\heap rx=z):=⟨_,fun _ _ _=>Iff.rfl⟩;refine Bt4.run I (fun s=>s.1) (n',x,k) ((hI _ _ _).2 ?_) ?_
 ·simp(disch:=omega) only[go_sem,↓reduceIte,<-hz,m1,m2,n6,nx,q6,qx];(repeat' apply And.intro)<;>(try first | rfl | assumption | omega);exact ha.set _
 ·rintro⟨m,y,k1⟩ env heap hi';obtain⟨e0,e2,e3,e4,e6,e10,e11,hk1,hm,hLm,hat,g6,gx⟩:=(hI _ _ _).1 hi';dsimp only at e11 hk1 hm hLm hat g6;rw[hL] at hLm;have hadv:=Ca (want:=0) (os:=os) (k:=k1) (l:=l) hos hk1;obtain⟨o,ho⟩: ∃o,o=(opF l 0 k1 os).1:=⟨_,rfl⟩;obtain⟨k2,hk2⟩: ∃k2,k2=(opF l 0 k1 os).2:=⟨_,rfl⟩;rw[<-ho,<-hk2] at hLm hadv;rw[<-ho] at e11;rw[<-hk2] at hat;by_cases c:o=0
  ·have c':(o:Int)=0:=by omega
   rw[if_pos c] at hLm;rw[hz] at gx;have hk21:k2=k1:=hadv.1 c;rw[hk21] at hat;simp(disch:=omega) only[go_sem,↓reduceIte,e0,e2,e3,e4,e6,e10,e11,c',g6,gx];rw[<-hLm];exact RAt.fin (hat.own hrx' qx _) ⟨rfl,rfl⟩
  ·have c': ¬(o:Int)=0:=by omega
   rw[if_neg c] at hLm;simp(disch:=omega) only[go_sem,↓reduceIte,e0,e2,e3,e4,e6,e10,e11,c'];refine Aj (by kernel_rfl) (.take 0 (.take 1 (.take 2 (.go 3 [1] (.go 4 [] (.go 5 [] .done)))))) (by kernel_rfl) ?_;simp(disch:=omega) only[go_sem,↓reduceIte,e0,e2,e3,e4,e6,e10,e11,g6];have hTm:=hT m k2 (by omega);have hgm:=hg m (by omega) heap k2 hat.get (by omega);dsimp only at hgm;cases hTk:T m k2 with
   | bot=>rw[hTk] at hLm;exact absurd hLm.symm hn
   | fail k3=>
    rw[hTk] at hgm hLm;refine(hgm (by simp [Res.mp])).mono ?_;rintro e H2 ⟨rfl,rfl⟩;simp(disch:=omega) only[go_sem,↓reduceIte];rw[<-hLm];exact RAt.finP (hat.set k3) ⟨rfl,rfl⟩
   | ok y2 k3=>
    rw[hTk] at hgm hLm hTm;dsimp only[Res.then,Adv] at hLm hTm;refine(hgm (by simp [Res.mp])).mono ?_;rintro e H2 ⟨rfl,rfl⟩;simp(disch:=omega) only[go_sem,↓reduceIte,e0,e2,e3,e4,e6,e10,e11,dE,q6];refine(Wz G _ o y y2).mono ?_;rintro _ H3 ⟨rfl,rfl⟩;have hby:=Ah (both o y y2);have hb1:=Al (both o y y2);have hly:=Ah y;have hdr:(dEx y).drop 9= []:=List.drop_eq_nil_of_le (by omega);simp(disch:=omega) only[go_sem,↓reduceIte,e0,e2,e3,e4,e6,e10,e11,g6,n6,q6,hby,hb1,hly,hdr];have hat3:RAt r l k3 H (upd (upd heap r (some (rdO l k3))) r6 (some (.cells (dEx (both o y y2)) 27))):=(hat.set k3).own hr6 q6 _;refine(Lk hG _ lo hi 0 h1 h2 h3 hat3.get (by omega) (by omega)).mono ?_;rintro _ H4 ⟨rfl,rfl⟩;rw[<-hosd];obtain⟨m',rfl⟩: ∃m',m=m'+1:=by
     cases m with
     | zero=>rw[hL0] at hLm;exact absurd hLm.symm hn
     | succ m'=>exact⟨m',rfl⟩
    simp(disch:=omega) only[go_sem,↓reduceIte,e0,e2,e3,e4,e6,e10];refine⟨(m',both o y y2,k3),_,Ni.refl _,(hI _ _ _).2 ?_,by dsimp only;omega⟩;simp(disch:=omega) only[go_sem,↓reduceIte,e0,e2,e3,e4,e6,e10,q6,qx,n6,nx,g6,gx,m1,m2,hLm];(repeat' apply And.intro)<;>(try first | rfl | assumption | omega);exact hat3.set _
end
end Go.Dl

-- Chapter 3: the package's reader: factors, terms, simples.
namespace Go.Dl
open Go Go.Proofs
set_option maxRecDepth 100000
section
variable {G:Nat->DVal} {H0 H:Ac} {r k:Nat} {l:List Tok}
theorem Dc2 (hG:GX G) (H:Ac) (hr:H r=some (rdO l k)) (hl:l.length<=800000) (hk:k<=l.length):Ai Tryz.prog G 77 [.optr r 0, .int .u8 20, .int .u8 21, .int .u8 0] H (RdQ r l H (.int .u8 (opF l 0 k Gy).1) (opF l 0 k Gy).2):=
 Lk hG H 20 21 0 (by decide) (by decide) (by decide) hr (by omega) (by omega)
theorem Cq6 (hG:GX G) (H:Ac) (hr:H r=some (rdO l k)) (hl:l.length<=800000) (hk:k<=l.length):Ai Tryz.prog G 77 [.optr r 0, .int .u8 18, .int .u8 19, .int .u8 0] H (RdQ r l H (.int .u8 (opF l 0 k Fb).1) (opF l 0 k Fb).2):=
 Lk hG H 18 19 0 (by decide) (by decide) (by decide) hr (by omega) (by omega)
theorem Dc3 (hG:GX G) (H:Ac) (hr:H r=some (rdO l k)) (hl:l.length<=800000) (hk:k<=l.length):Ai Tryz.prog G 77 [.optr r 0, .int .u8 7, .int .u8 12, .int .u8 0] H (RdQ r l H (.int .u8 (opF l 0 k Gx).1) (opF l 0 k Gx).2):=
 Lk hG H 7 12 0 (by decide) (by decide) (by decide) hr (by omega) (by omega)
theorem Bw0 (hG:GX G) (H:Ac) (want:Nat) (hr:H r=some (rdO l k)) (hl:l.length<=800000) (hk:k<=l.length):Ai Tryz.prog G 77 [.optr r 0, .int .u8 13, .int .u8 17, .int .u8 want] H (RdQ r l H (.int .u8 (opF l want k Ct).1) (opF l want k Ct).2):=
 Lk hG H 13 17 want (by decide) (by decide) (by decide) hr (by omega) (by omega)
theorem Aw {α:Type} {f:α->DVal} {x:Res α} (h:x≠ .bot):x.mp f≠ .bot:=by cases x<;>simp_all [Res.mp]
theorem Cy {x:List DVal} (hx:x.length=9):
  (if 9<=(Cx 1 [DVal.int .u8 0,DVal.int .u8 0,DVal.int .i64 0,DVal.str [],DVal.nilSlice,DVal.nilSlice,DVal.int .i64 0,DVal.int .i64 0,DVal.int .i64 0]).length then
   some (x++List.drop 9 (Cx 1 [DVal.int .u8 0,DVal.int .u8 0,DVal.int .i64 0,DVal.str [],DVal.nilSlice,DVal.nilSlice,DVal.int .i64 0,DVal.int .i64 0,DVal.int .i64 0]))
  else none)=some x:=by
 have e: ∀u:List DVal,Cx 1 u=u:=fun u=>by simp [Cx]
 rw[e,if_pos (by simp),List.drop_eq_nil_of_le (by simp),List.append_nil]
theorem Cq7 {x:List DVal} (hx:x.length=9) (z:List DVal) (hz:z.length=9):x++z.drop 9=x:=by rw[List.drop_eq_nil_of_le (by omega),List.append_nil]
theorem Ag {H:Ac} {r x:Nat} {y:Option DObj} {o:DObj} (h:H x=some o) (hn:x≠r):upd H r y x=some o:=by rw[Ao _ _ _ _ hn];exact h
set_option maxHeartbeats 4000000 in
theorem Bf1 (hG:GX G) (hl:l.length<=800000) (p:PS) (hA:p.Adv l) (hp:RdC Tryz.prog G l 35 r fun k=>(p.primary k).mp dE):RdC Tryz.prog G l 34 r fun k=>((Ba l p).factor k).mp dE:=by
 intro H k hr hk hn;dsimp only[Ba] at hn⊢
 have hadv:=Ca (want:=0) (os:=Gy) (k:=k) (l:=l) Dr5.2.2.2.2.2 hk;refine Ad Tryz.func34 Tryz.call34 rfl (by kernel_rfl) ?_;simp(disch:=omega) only[go_sem,↓reduceIte];intro r2 hr2;dsimp only at hr2;obtain⟨Ha,hHa⟩: ∃K,K=upd H r2 (some (.cells [.int .u8 0, .int .u8 0, .int .i64 0, .str [], .nilSlice, .nilSlice, .int .i64 0, .int .i64 0, .int .i64 0] 27)):=⟨_,rfl⟩;rw[<-hHa];have gr2:Ha r2=some (.cells [.int .u8 0, .int .u8 0, .int .i64 0, .str [], .nilSlice, .nilSlice, .int .i64 0, .int .i64 0, .int .i64 0] 27):=by rw[hHa];exact Aa _ _ _
 have n2:r≠r2:=Ae hr2 hr;have q2:=n2.symm;have ha:RAt r l k H Ha:=by rw[hHa];exact(RAt.refl hr).new hr2 _
 simp(disch:=omega) only[go_sem,↓reduceIte];refine(Wx G _ ha.get (by omega) (by omega)).mono ?_;rintro _ H1 ⟨rfl,rfl⟩;simp(disch:=omega) only[go_sem,↓reduceIte];refine(Dc2 hG _ ha.get hl hk).mono ?_;rintro _ H2 ⟨rfl,hH2⟩;obtain⟨o,ho⟩: ∃o,o=(opF l 0 k Gy).1:=⟨_,rfl⟩;obtain⟨k2,hk2⟩: ∃k2,k2=(opF l 0 k Gy).2:=⟨_,rfl⟩;rw[<-ho,<-hk2] at hadv hn⊢
 rw[<-hk2] at hH2;have ha2:RAt r l k2 H H2:=by rw[hH2];exact ha.set k2
 have g2:H2 r2=some (.cells [.int .u8 0, .int .u8 0, .int .i64 0, .str [], .nilSlice, .nilSlice, .int .i64 0, .int .i64 0, .int .i64 0] 27):=by rw[hH2];exact Ag gr2 q2
 simp(disch:=omega) only[go_sem,↓reduceIte];have hpk:=hp _ k2 ha2.get (by omega);dsimp only at hpk;cases hpr:p.primary k2 with
 | bot=>rw[hpr] at hn;exact absurd rfl hn
 | fail k3=>
  rw[hpr] at hpk;refine(hpk (Aw (by simp))).mono ?_;rintro e H3 ⟨rfl,rfl⟩;simp(disch:=omega) only[go_sem,↓reduceIte];exact RAt.finP (ha2.set k3) ⟨rfl,rfl⟩
 | ok x k3=>
  rw[hpr] at hpk;refine(hpk (Aw (by simp))).mono ?_;rintro e H3 ⟨rfl,hH3⟩;have ha3:RAt r l k3 H H3:=by rw[hH3];exact ha2.set k3
  dsimp only[Res.then];have g3:H3 r2=some (.cells [.int .u8 0, .int .u8 0, .int .i64 0, .str [], .nilSlice, .nilSlice, .int .i64 0, .int .i64 0, .int .i64 0] 27):=by rw[hH3];exact Ag g2 q2
  simp(disch:=omega) only[go_sem,↓reduceIte,dE];intro r5 hr5;dsimp only at hr5;have n5:r2≠r5:=Ae hr5 g3;have q5:=n5.symm;have hlx:=Ah x;have hox:=Al x;have hc:=Cq7 hlx [.int .u8 0, .int .u8 0, .int .i64 0, .str [], .nilSlice, .nilSlice, .int .i64 0, .int .i64 0, .int .i64 0] rfl;simp(disch:=omega) only[go_sem,↓reduceIte,n5,q5,g3,hlx,hox];by_cases c:o=0
  ·have c':(o:Int)=0:=by omega
   simp(disch:=omega) only[go_sem,↓reduceIte,n5,q5,g3,hlx,hox,c'];rw[show Kk o (tk l k).line x=x by rw[Kk,if_pos c]];exact RAt.fin ((ha3.new hr5 _).own hr2 q2 _) ⟨rfl,rfl⟩
  ·have c': ¬(o:Int)=0:=by omega
   simp(disch:=omega) only[go_sem,↓reduceIte,n5,q5,g3,hlx,hox,c'];rw[Cy hlx];simp(disch:=omega) only[go_sem,↓reduceIte,n5,q5,g3,hlx,hox,c'];intro r8 hr8;dsimp only at hr8;obtain⟨m1,m2,hr8a⟩:=De7.1 hr8;have n8:r2≠r8:=Ae hr8a g3;have q8:=n8.symm;simp(disch:=omega) only[go_sem,↓reduceIte,n5,q5,g3,hlx,hox,m1,m2,n8,q8];rw[show Kk o (tk l k).line x= .mk 11 o 0 [] [x] [] (tk l k).line 0 0 by rw[Kk,if_neg c]];have p5:r≠r5:=Ae hr5 ha3.get;have hs:=(((ha3.new hr5 (some (.cells (dEx x) 27))).new hr8 (some (.cells (dEx x) 27))).own (ha3.lo hr5) p5.symm (some (.cells [.int .u8 11, .int .u8 o, .int .i64 0, .str [], .oslice 9 r8 0 1 1, .nilSlice, .int .i64 (tk l k).line, .int .i64 0, .int .i64 0] 27))).own hr2 q2 (some (.cells [.int .u8 11, .int .u8 o, .int .i64 0, .str [], .oslice 9 r8 0 1 1, .nilSlice, .int .i64 (tk l k).line, .int .i64 0, .int .i64 0] 27));refine Fc.fin hs (Fc.agg (Fc.ex (l:= [x]) hs (Fc.block (e:=27) hs (Sub.lo ha3 hr8a) ?_ ?_) (.as0 hs))) ⟨rfl,rfl⟩
   ·rw[List.flatMap_singleton];simp [upd,m1,m2,n8,q8]
   ·rw[List.flatMap_singleton,hlx]
theorem Cq8 (hG:GX G) (hl:l.length<=800000) (n:Nat) (hg: ∀m<n,RdC Tryz.prog G l 34 r fun k=>((P l m).factor k).mp dE) (H:Ac) (x:Ex) (k:Nat) (hr:H r=some (rdO l k)) (hk:k<=l.length) (hn:(P l n).mulL x k≠ .bot):
  Ai Tryz.prog G 82 [.optr r 0, .agg (dEx x), .int .u8 3, .int .u8 6, .func (.func 34) [.optr r 0] []] H (RdR r l H (((P l n).mulL x k).mp dE)):=
 Ah5 hG _ (fun m=>(P l m).factor) (fun m=>(P l m).mulL) 3 6 (by decide) (by decide) (by decide) hl (fun _ _=>rfl) (fun _ _ _=>rfl) (fun m k hk=>(Bn m).factor k hk) Dr5.2.2.2.2.1 n hg H x k hr hk hn
theorem Bf2 (hG:GX G) (hl:l.length<=800000) (n:Nat) (hg: ∀m<n,RdC Tryz.prog G l 33 r fun k=>((P l m).term k).mp dE) (H:Ac) (x:Ex) (k:Nat) (hr:H r=some (rdO l k)) (hk:k<=l.length) (hn:(P l n).addL x k≠ .bot):
  Ai Tryz.prog G 82 [.optr r 0, .agg (dEx x), .int .u8 1, .int .u8 2, .func (.func 33) [.optr r 0] []] H (RdR r l H (((P l n).addL x k).mp dE)):=
 Ah5 hG _ (fun m=>(P l m).term) (fun m=>(P l m).addL) 1 2 (by decide) (by decide) (by decide) hl (fun _ _=>rfl) (fun _ _ _=>rfl) (fun m k hk=>(Bn m).term k hk) Dr5.2.2.2.1 n hg H x k hr hk hn
set_option maxHeartbeats 4000000 in
theorem Cf2 (hG:GX G) (hl:l.length<=800000) (n:Nat) (hg: ∀m≤n,RdC Tryz.prog G l 34 r fun k=>((P l m).factor k).mp dE):RdC Tryz.prog G l 33 r fun k=>((P l (n+1)).term k).mp dE:=by
 intro H k hr hk hn;have e:(P l (n+1)).term k=((P l n).factor k).then fun x k=>(P l n).mulL x k:=rfl
 dsimp only at hn⊢
 rw[e] at hn⊢
 refine Ad Tryz.func33 Tryz.call33 rfl (by kernel_rfl) ?_;simp(disch:=omega) only[go_sem,↓reduceIte];intro r2 hr2;dsimp only at hr2;obtain⟨Ha,hHa⟩: ∃K,K=upd H r2 (some (.cells [.int .u8 0, .int .u8 0, .int .i64 0, .str [], .nilSlice, .nilSlice, .int .i64 0, .int .i64 0, .int .i64 0] 27)):=⟨_,rfl⟩;rw[<-hHa];have gr2:Ha r2=some (.cells [.int .u8 0, .int .u8 0, .int .i64 0, .str [], .nilSlice, .nilSlice, .int .i64 0, .int .i64 0, .int .i64 0] 27):=by rw[hHa];exact Aa _ _ _
 have n2:r≠r2:=Ae hr2 hr;have q2:=n2.symm;have ha:RAt r l k H Ha:=by rw[hHa];exact(RAt.refl hr).new hr2 _
 simp(disch:=omega) only[go_sem,↓reduceIte];have hpk:=hg n (Nat.le_refl _) _ k ha.get hk;have had:=(Bn (l:=l) n).factor k hk;dsimp only at hpk;cases hpr:(P l n).factor k with
 | bot=>rw[hpr] at hn;exact absurd rfl hn
 | fail k3=>
  rw[hpr] at hpk;refine(hpk (Aw (by simp))).mono ?_;rintro e H3 ⟨rfl,rfl⟩;simp(disch:=omega) only[go_sem,↓reduceIte];exact RAt.finP (ha.set k3) ⟨rfl,rfl⟩
 | ok x k3=>
  rw[hpr] at hpk hn had;refine(hpk (Aw (by simp))).mono ?_;rintro e H3 ⟨rfl,hH3⟩;have ha3:RAt r l k3 H H3:=by rw[hH3];exact ha.set k3
  dsimp only[Res.then,Adv] at hn had⊢
  have g3:H3 r2=some (.cells [.int .u8 0, .int .u8 0, .int .i64 0, .str [], .nilSlice, .nilSlice, .int .i64 0, .int .i64 0, .int .i64 0] 27):=by rw[hH3];exact Ag gr2 q2
  simp(disch:=omega) only[go_sem,↓reduceIte,dE];have hn2:(P l n).mulL x k3≠ .bot:=fun h=>hn (by rw[h];rfl);have hch:=Cq8 hG hl n (fun m hm=>hg m (by omega)) H3 x k3 ha3.get (by omega) hn2;cases hpc:(P l n).mulL x k3 with
  | bot=>exact absurd hpc hn2
  | fail k4=>
   rw[hpc] at hch;refine hch.mono ?_;rintro e H4 ⟨rfl,rfl⟩;simp(disch:=omega) only[go_sem,↓reduceIte];exact RAt.finP (ha3.set k4) ⟨rfl,rfl⟩
  | ok y k4=>
   rw[hpc] at hch;refine hch.mono ?_;rintro e H4 ⟨rfl,hH4⟩;have ha4:RAt r l k4 H H4:=by rw[hH4];exact ha3.set k4
   have g4:H4 r2=some (.cells [.int .u8 0, .int .u8 0, .int .i64 0, .str [], .nilSlice, .nilSlice, .int .i64 0, .int .i64 0, .int .i64 0] 27):=by rw[hH4];exact Ag g3 q2
   have hly:=Ah y;have hoy:=Al y;simp(disch:=omega) only[go_sem,↓reduceIte,dE,g4,hly,hoy];exact RAt.fin (ha4.own hr2 q2 _) ⟨rfl,rfl⟩
end
end Go.Dl
