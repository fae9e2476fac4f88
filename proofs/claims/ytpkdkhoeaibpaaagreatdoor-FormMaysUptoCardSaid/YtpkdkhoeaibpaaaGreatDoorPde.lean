/- The data level and the contracts of the functions that are reached (part 5). -/
import Derived.Test.YtpkdkhoeaibpaaaGreatDoorPdd
set_option linter.unusedSimpArgs false
set_option linter.unusedVariables false
set_option linter.unusedSectionVars false
-- Chapter 3: what is valid: the fields of an expression (printed by gen_u6.py).
namespace Go.Dl
open Go Go.Proofs
set_option maxRecDepth 100000
section
variable {G:Nat->DVal} {H:Bb}
set_option maxHeartbeats 4000000 in
theorem Bf1 (hG:GX G) (H:Bb) (e:Ex) (hb:Hu e<=1099511627776) (hs:e.s.length<=9223372036854775807):Bh Tryz.prog G 147 [.agg (dEx e)] H (Bt (.bool (Bf e)) H):=by
 have hal:= @Bx5 e;have hll:= @Bx4 e;have hfl:=Bq Aa e.l;have hac: ∀a∈e.a,a.c.length<=1099511627776:=fun a ha=>by
  have h1:=Ae7 ha;have h2:=Ho a.c;rw[Na] at h1;omega
 have s1:splice (dEx e) 0 [DVal.int .u8 0]= [DVal.int .u8 0,DVal.int .u8 e.oper,DVal.int .i64 e.n,DVal.str e.s,DVal.vslice (e.l.flatMap dEx) e.l.length,DVal.vslice (e.a.flatMap dAs) e.a.length,DVal.int .i64 e.line,DVal.int .i64 e.ent,DVal.int .i64 e.t]:=by rw[Pk];rfl
 have s2:splice [DVal.int .u8 0,DVal.int .u8 e.oper,DVal.int .i64 e.n,DVal.str e.s,DVal.vslice (e.l.flatMap dEx) e.l.length,DVal.vslice (e.a.flatMap dAs) e.a.length,DVal.int .i64 e.line,DVal.int .i64 e.ent,DVal.int .i64 e.t] 6 [DVal.int .i64 0]= [DVal.int .u8 0,DVal.int .u8 e.oper,DVal.int .i64 e.n,DVal.str e.s,DVal.vslice (e.l.flatMap dEx) e.l.length,DVal.vslice (e.a.flatMap dAs) e.a.length,DVal.int .i64 0,DVal.int .i64 e.ent,DVal.int .i64 e.t]:=rfl;have s3:splice [DVal.int .u8 0,DVal.int .u8 e.oper,DVal.int .i64 e.n,DVal.str e.s,DVal.vslice (e.l.flatMap dEx) e.l.length,DVal.vslice (e.a.flatMap dAs) e.a.length,DVal.int .i64 0,DVal.int .i64 e.ent,DVal.int .i64 e.t] 7 [DVal.int .i64 0]= [DVal.int .u8 0,DVal.int .u8 e.oper,DVal.int .i64 e.n,DVal.str e.s,DVal.vslice (e.l.flatMap dEx) e.l.length,DVal.vslice (e.a.flatMap dAs) e.a.length,DVal.int .i64 0,DVal.int .i64 0,DVal.int .i64 e.t]:=rfl;have s4:splice [DVal.int .u8 0,DVal.int .u8 e.oper,DVal.int .i64 e.n,DVal.str e.s,DVal.vslice (e.l.flatMap dEx) e.l.length,DVal.vslice (e.a.flatMap dAs) e.a.length,DVal.int .i64 0,DVal.int .i64 0,DVal.int .i64 e.t] 8 [DVal.int .i64 0]= [DVal.int .u8 0,DVal.int .u8 e.oper,DVal.int .i64 e.n,DVal.str e.s,DVal.vslice (e.l.flatMap dEx) e.l.length,DVal.vslice (e.a.flatMap dAs) e.a.length,DVal.int .i64 0,DVal.int .i64 0,DVal.int .i64 0]:=rfl;have s5:splice [DVal.int .u8 0,DVal.int .u8 e.oper,DVal.int .i64 e.n,DVal.str e.s,DVal.vslice (e.l.flatMap dEx) e.l.length,DVal.vslice (e.a.flatMap dAs) e.a.length,DVal.int .i64 0,DVal.int .i64 0,DVal.int .i64 0] 4 [DVal.nilSlice]= [DVal.int .u8 0,DVal.int .u8 e.oper,DVal.int .i64 e.n,DVal.str e.s,DVal.nilSlice,DVal.vslice (e.a.flatMap dAs) e.a.length,DVal.int .i64 0,DVal.int .i64 0,DVal.int .i64 0]:=rfl;have sO:splice [DVal.int .u8 0,DVal.int .u8 e.oper,DVal.int .i64 e.n,DVal.str e.s,DVal.nilSlice,DVal.vslice (e.a.flatMap dAs) e.a.length,DVal.int .i64 0,DVal.int .i64 0,DVal.int .i64 0] 1 [DVal.int .u8 0]= [DVal.int .u8 0,DVal.int .u8 0,DVal.int .i64 e.n,DVal.str e.s,DVal.nilSlice,DVal.vslice (e.a.flatMap dAs) e.a.length,DVal.int .i64 0,DVal.int .i64 0,DVal.int .i64 0]:=rfl;have sN:splice [DVal.int .u8 0,DVal.int .u8 e.oper,DVal.int .i64 e.n,DVal.str e.s,DVal.nilSlice,DVal.vslice (e.a.flatMap dAs) e.a.length,DVal.int .i64 0,DVal.int .i64 0,DVal.int .i64 0] 2 [DVal.int .i64 0]= [DVal.int .u8 0,DVal.int .u8 e.oper,DVal.int .i64 0,DVal.str e.s,DVal.nilSlice,DVal.vslice (e.a.flatMap dAs) e.a.length,DVal.int .i64 0,DVal.int .i64 0,DVal.int .i64 0]:=rfl;have sS:splice [DVal.int .u8 0,DVal.int .u8 e.oper,DVal.int .i64 e.n,DVal.str e.s,DVal.nilSlice,DVal.vslice (e.a.flatMap dAs) e.a.length,DVal.int .i64 0,DVal.int .i64 0,DVal.int .i64 0] 3 [DVal.str []]= [DVal.int .u8 0,DVal.int .u8 e.oper,DVal.int .i64 e.n,DVal.str [],DVal.nilSlice,DVal.vslice (e.a.flatMap dAs) e.a.length,DVal.int .i64 0,DVal.int .i64 0,DVal.int .i64 0]:=rfl;have sA:splice [DVal.int .u8 0,DVal.int .u8 e.oper,DVal.int .i64 e.n,DVal.str e.s,DVal.nilSlice,DVal.vslice (e.a.flatMap dAs) e.a.length,DVal.int .i64 0,DVal.int .i64 0,DVal.int .i64 0] 5 [DVal.nilSlice]= [DVal.int .u8 0,DVal.int .u8 e.oper,DVal.int .i64 e.n,DVal.str e.s,DVal.nilSlice,DVal.nilSlice,DVal.int .i64 0,DVal.int .i64 0,DVal.int .i64 0]:=rfl;refine Bc Tryz.func147 Tryz.call147 rfl (by kernel_rfl) ?_;simp(disch:=omega) only[go_sem,↓reduceIte,DVal.cells];intro r1 hr1;dsimp only at hr1;simp(disch:=omega) only[go_sem,↓reduceIte,DVal.cells];intro r3 hr3;dsimp only at hr3;obtain⟨m1,m2,hr3'⟩:=Dl9.1 hr3;by_cases k1:e.kind=1
 ·skip
  by_cases clen0:e.l.length=0
  ·have clen0':(e.l.length:Int)=0:=by omega
   by_cases ca:0<=e.n
   ·by_cases cb:e.n<=2147483647
    ·skip
     by_cases zo:e.oper=0
     ·skip
      by_cases zs:e.s= []
      ·skip
       by_cases za:e.a.length=0
       ·have za':(e.a.length:Int)=0:=by omega
        have ya:e.a= []:=List.length_eq_zero_iff.1 za;simp(disch:=omega) only[go_sem,↓reduceIte,m1,m2,s1,s2,s3,s4,s5,sO,sN,sS,sA,List.length_cons,List.length_nil,k1,clen0',ca,cb,zo,zs,za'];exact Rm.sub (show Sub H _ from(by repeat (first | exact Sub.refl _ | assumption | refine Sub.up ?_ (by assumption) _))) (Rm.refl ⟨by simp [Bf,zO,zN,zS,zA,Aq,k1,clen0,ca,cb,zo,zs,ya],rfl⟩)
       ·have za': ¬((e.a.length:Int)=0):=by omega
        simp(disch:=omega) only[go_sem,↓reduceIte,m1,m2,s1,s2,s3,s4,s5,sO,sN,sS,sA,List.length_cons,List.length_nil,k1,clen0',ca,cb,zo,zs,za'];exact Rm.sub (show Sub H _ from(by repeat (first | exact Sub.refl _ | assumption | refine Sub.up ?_ (by assumption) _))) (Rm.refl ⟨by simp [Bf,zO,zN,zS,zA,Aq,k1,clen0,ca,cb,zo,zs,za],rfl⟩)
      ·skip
       simp(disch:=omega) only[go_sem,↓reduceIte,m1,m2,s1,s2,s3,s4,s5,sO,sN,sS,sA,List.length_cons,List.length_nil,k1,clen0',ca,cb,zo,zs];exact Rm.sub (show Sub H _ from(by repeat (first | exact Sub.refl _ | assumption | refine Sub.up ?_ (by assumption) _))) (Rm.refl ⟨by simp [Bf,zO,zN,zS,zA,Aq,k1,clen0,ca,cb,zo,zs],rfl⟩)
     ·skip
      simp(disch:=omega) only[go_sem,↓reduceIte,m1,m2,s1,s2,s3,s4,s5,sO,sN,sS,sA,List.length_cons,List.length_nil,k1,clen0',ca,cb,zo];exact Rm.sub (show Sub H _ from(by repeat (first | exact Sub.refl _ | assumption | refine Sub.up ?_ (by assumption) _))) (Rm.refl ⟨by simp [Bf,zO,zN,zS,zA,Aq,k1,clen0,ca,cb,zo],rfl⟩)
    ·simp(disch:=omega) only[go_sem,↓reduceIte,m1,m2,s1,s2,s3,s4,s5,sO,sN,sS,sA,List.length_cons,List.length_nil,k1,clen0',ca,cb];exact Rm.sub (show Sub H _ from(by repeat (first | exact Sub.refl _ | assumption | refine Sub.up ?_ (by assumption) _))) (Rm.refl ⟨by simp [Bf,zO,zN,zS,zA,Aq,k1,clen0,ca,cb],rfl⟩)
   ·simp(disch:=omega) only[go_sem,↓reduceIte,m1,m2,s1,s2,s3,s4,s5,sO,sN,sS,sA,List.length_cons,List.length_nil,k1,clen0',ca];exact Rm.sub (show Sub H _ from(by repeat (first | exact Sub.refl _ | assumption | refine Sub.up ?_ (by assumption) _))) (Rm.refl ⟨by simp [Bf,zO,zN,zS,zA,Aq,k1,clen0,ca],rfl⟩)
  ·have clen0': ¬((e.l.length:Int)=0):=by omega
   simp(disch:=omega) only[go_sem,↓reduceIte,m1,m2,s1,s2,s3,s4,s5,sO,sN,sS,sA,List.length_cons,List.length_nil,k1,clen0'];exact Rm.sub (show Sub H _ from(by repeat (first | exact Sub.refl _ | assumption | refine Sub.up ?_ (by assumption) _))) (Rm.refl ⟨by simp [Bf,zO,zN,zS,zA,Aq,k1,clen0],rfl⟩)
 by_cases k2:e.kind=2
 ·skip
  by_cases clen0:e.l.length=0
  ·have clen0':(e.l.length:Int)=0:=by omega
   by_cases zo:e.oper=0
   ·skip
    by_cases zn:e.n=0
    ·skip
     by_cases zs:e.s= []
     ·skip
      by_cases za:e.a.length=0
      ·have za':(e.a.length:Int)=0:=by omega
       have ya:e.a= []:=List.length_eq_zero_iff.1 za;simp(disch:=omega) only[go_sem,↓reduceIte,m1,m2,s1,s2,s3,s4,s5,sO,sN,sS,sA,List.length_cons,List.length_nil,k2,clen0',zo,zn,zs,za'];exact Rm.sub (show Sub H _ from(by repeat (first | exact Sub.refl _ | assumption | refine Sub.up ?_ (by assumption) _))) (Rm.refl ⟨by simp [Bf,zO,zN,zS,zA,Aq,k2,clen0,zo,zn,zs,ya],rfl⟩)
      ·have za': ¬((e.a.length:Int)=0):=by omega
       simp(disch:=omega) only[go_sem,↓reduceIte,m1,m2,s1,s2,s3,s4,s5,sO,sN,sS,sA,List.length_cons,List.length_nil,k2,clen0',zo,zn,zs,za'];exact Rm.sub (show Sub H _ from(by repeat (first | exact Sub.refl _ | assumption | refine Sub.up ?_ (by assumption) _))) (Rm.refl ⟨by simp [Bf,zO,zN,zS,zA,Aq,k2,clen0,zo,zn,zs,za],rfl⟩)
     ·skip
      simp(disch:=omega) only[go_sem,↓reduceIte,m1,m2,s1,s2,s3,s4,s5,sO,sN,sS,sA,List.length_cons,List.length_nil,k2,clen0',zo,zn,zs];exact Rm.sub (show Sub H _ from(by repeat (first | exact Sub.refl _ | assumption | refine Sub.up ?_ (by assumption) _))) (Rm.refl ⟨by simp [Bf,zO,zN,zS,zA,Aq,k2,clen0,zo,zn,zs],rfl⟩)
    ·skip
     simp(disch:=omega) only[go_sem,↓reduceIte,m1,m2,s1,s2,s3,s4,s5,sO,sN,sS,sA,List.length_cons,List.length_nil,k2,clen0',zo,zn];exact Rm.sub (show Sub H _ from(by repeat (first | exact Sub.refl _ | assumption | refine Sub.up ?_ (by assumption) _))) (Rm.refl ⟨by simp [Bf,zO,zN,zS,zA,Aq,k2,clen0,zo,zn],rfl⟩)
   ·skip
    simp(disch:=omega) only[go_sem,↓reduceIte,m1,m2,s1,s2,s3,s4,s5,sO,sN,sS,sA,List.length_cons,List.length_nil,k2,clen0',zo];exact Rm.sub (show Sub H _ from(by repeat (first | exact Sub.refl _ | assumption | refine Sub.up ?_ (by assumption) _))) (Rm.refl ⟨by simp [Bf,zO,zN,zS,zA,Aq,k2,clen0,zo],rfl⟩)
  ·have clen0': ¬((e.l.length:Int)=0):=by omega
   simp(disch:=omega) only[go_sem,↓reduceIte,m1,m2,s1,s2,s3,s4,s5,sO,sN,sS,sA,List.length_cons,List.length_nil,k2,clen0'];exact Rm.sub (show Sub H _ from(by repeat (first | exact Sub.refl _ | assumption | refine Sub.up ?_ (by assumption) _))) (Rm.refl ⟨by simp [Bf,zO,zN,zS,zA,Aq,k2,clen0],rfl⟩)
 by_cases k3:e.kind=3
 ·skip
  by_cases clen0:e.l.length=0
  ·have clen0':(e.l.length:Int)=0:=by omega
   simp(disch:=omega) only[go_sem,↓reduceIte,m1,m2,s1,s2,s3,s4,s5,sO,sN,sS,sA,List.length_cons,List.length_nil,k3,clen0'];refine(Kb hG _ e.s hs).mono ?_;rintro _ H1 ⟨rfl,rfl⟩;cases vname:Gk e.s with
   | true=>
    by_cases zo:e.oper=0
    ·skip
     by_cases zn:e.n=0
     ·skip
      by_cases za:e.a.length=0
      ·have za':(e.a.length:Int)=0:=by omega
       have ya:e.a= []:=List.length_eq_zero_iff.1 za;simp(disch:=omega) only[go_sem,↓reduceIte,m1,m2,s1,s2,s3,s4,s5,sO,sN,sS,sA,List.length_cons,List.length_nil,k3,clen0',zo,zn,za'];exact Rm.sub (show Sub H _ from(by repeat (first | exact Sub.refl _ | assumption | refine Sub.up ?_ (by assumption) _))) (Rm.refl ⟨by simp [Bf,zO,zN,zS,zA,Aq,k3,clen0,vname,zo,zn,ya],rfl⟩)
      ·have za': ¬((e.a.length:Int)=0):=by omega
       simp(disch:=omega) only[go_sem,↓reduceIte,m1,m2,s1,s2,s3,s4,s5,sO,sN,sS,sA,List.length_cons,List.length_nil,k3,clen0',zo,zn,za'];exact Rm.sub (show Sub H _ from(by repeat (first | exact Sub.refl _ | assumption | refine Sub.up ?_ (by assumption) _))) (Rm.refl ⟨by simp [Bf,zO,zN,zS,zA,Aq,k3,clen0,vname,zo,zn,za],rfl⟩)
     ·skip
      simp(disch:=omega) only[go_sem,↓reduceIte,m1,m2,s1,s2,s3,s4,s5,sO,sN,sS,sA,List.length_cons,List.length_nil,k3,clen0',zo,zn];exact Rm.sub (show Sub H _ from(by repeat (first | exact Sub.refl _ | assumption | refine Sub.up ?_ (by assumption) _))) (Rm.refl ⟨by simp [Bf,zO,zN,zS,zA,Aq,k3,clen0,vname,zo,zn],rfl⟩)
    ·skip
     simp(disch:=omega) only[go_sem,↓reduceIte,m1,m2,s1,s2,s3,s4,s5,sO,sN,sS,sA,List.length_cons,List.length_nil,k3,clen0',zo];exact Rm.sub (show Sub H _ from(by repeat (first | exact Sub.refl _ | assumption | refine Sub.up ?_ (by assumption) _))) (Rm.refl ⟨by simp [Bf,zO,zN,zS,zA,Aq,k3,clen0,vname,zo],rfl⟩)
   | false=>
    simp(disch:=omega) only[go_sem,↓reduceIte,m1,m2,s1,s2,s3,s4,s5,sO,sN,sS,sA,List.length_cons,List.length_nil,k3,clen0'];exact Rm.sub (show Sub H _ from(by repeat (first | exact Sub.refl _ | assumption | refine Sub.up ?_ (by assumption) _))) (Rm.refl ⟨by simp [Bf,zO,zN,zS,zA,Aq,k3,clen0,vname],rfl⟩)
  ·have clen0': ¬((e.l.length:Int)=0):=by omega
   simp(disch:=omega) only[go_sem,↓reduceIte,m1,m2,s1,s2,s3,s4,s5,sO,sN,sS,sA,List.length_cons,List.length_nil,k3,clen0'];exact Rm.sub (show Sub H _ from(by repeat (first | exact Sub.refl _ | assumption | refine Sub.up ?_ (by assumption) _))) (Rm.refl ⟨by simp [Bf,zO,zN,zS,zA,Aq,k3,clen0],rfl⟩)
 by_cases k4:e.kind=4
 ·skip
  simp(disch:=omega) only[go_sem,↓reduceIte,m1,m2,s1,s2,s3,s4,s5,sO,sN,sS,sA,List.length_cons,List.length_nil,k4];refine(Mc G _ e 1 (by decide)).mono ?_;rintro _ H1 ⟨rfl,rfl⟩;cases vnamed1:Jh e 1 with
  | true=>
   simp(disch:=omega) only[go_sem,↓reduceIte,m1,m2,s1,s2,s3,s4,s5,sO,sN,sS,sA,List.length_cons,List.length_nil,k4];refine(Kb hG _ e.s hs).mono ?_;rintro _ H1 ⟨rfl,rfl⟩;cases vname:Gk e.s with
   | true=>
    by_cases zo:e.oper=0
    ·skip
     by_cases zn:e.n=0
     ·skip
      by_cases za:e.a.length=0
      ·have za':(e.a.length:Int)=0:=by omega
       have ya:e.a= []:=List.length_eq_zero_iff.1 za;simp(disch:=omega) only[go_sem,↓reduceIte,m1,m2,s1,s2,s3,s4,s5,sO,sN,sS,sA,List.length_cons,List.length_nil,k4,zo,zn,za'];exact Rm.sub (show Sub H _ from(by repeat (first | exact Sub.refl _ | assumption | refine Sub.up ?_ (by assumption) _))) (Rm.refl ⟨by simp [Bf,zO,zN,zS,zA,Aq,k4,vnamed1,vname,zo,zn,ya],rfl⟩)
      ·have za': ¬((e.a.length:Int)=0):=by omega
       simp(disch:=omega) only[go_sem,↓reduceIte,m1,m2,s1,s2,s3,s4,s5,sO,sN,sS,sA,List.length_cons,List.length_nil,k4,zo,zn,za'];exact Rm.sub (show Sub H _ from(by repeat (first | exact Sub.refl _ | assumption | refine Sub.up ?_ (by assumption) _))) (Rm.refl ⟨by simp [Bf,zO,zN,zS,zA,Aq,k4,vnamed1,vname,zo,zn,za],rfl⟩)
     ·skip
      simp(disch:=omega) only[go_sem,↓reduceIte,m1,m2,s1,s2,s3,s4,s5,sO,sN,sS,sA,List.length_cons,List.length_nil,k4,zo,zn];exact Rm.sub (show Sub H _ from(by repeat (first | exact Sub.refl _ | assumption | refine Sub.up ?_ (by assumption) _))) (Rm.refl ⟨by simp [Bf,zO,zN,zS,zA,Aq,k4,vnamed1,vname,zo,zn],rfl⟩)
    ·skip
     simp(disch:=omega) only[go_sem,↓reduceIte,m1,m2,s1,s2,s3,s4,s5,sO,sN,sS,sA,List.length_cons,List.length_nil,k4,zo];exact Rm.sub (show Sub H _ from(by repeat (first | exact Sub.refl _ | assumption | refine Sub.up ?_ (by assumption) _))) (Rm.refl ⟨by simp [Bf,zO,zN,zS,zA,Aq,k4,vnamed1,vname,zo],rfl⟩)
   | false=>
    simp(disch:=omega) only[go_sem,↓reduceIte,m1,m2,s1,s2,s3,s4,s5,sO,sN,sS,sA,List.length_cons,List.length_nil,k4];exact Rm.sub (show Sub H _ from(by repeat (first | exact Sub.refl _ | assumption | refine Sub.up ?_ (by assumption) _))) (Rm.refl ⟨by simp [Bf,zO,zN,zS,zA,Aq,k4,vnamed1,vname],rfl⟩)
  | false=>
   simp(disch:=omega) only[go_sem,↓reduceIte,m1,m2,s1,s2,s3,s4,s5,sO,sN,sS,sA,List.length_cons,List.length_nil,k4];exact Rm.sub (show Sub H _ from(by repeat (first | exact Sub.refl _ | assumption | refine Sub.up ?_ (by assumption) _))) (Rm.refl ⟨by simp [Bf,zO,zN,zS,zA,Aq,k4,vnamed1],rfl⟩)
 by_cases k6:e.kind=6
 ·skip
  simp(disch:=omega) only[go_sem,↓reduceIte,m1,m2,s1,s2,s3,s4,s5,sO,sN,sS,sA,List.length_cons,List.length_nil,k6];refine(Mc G _ e 1 (by decide)).mono ?_;rintro _ H1 ⟨rfl,rfl⟩;cases vnamed1:Jh e 1 with
  | true=>
   simp(disch:=omega) only[go_sem,↓reduceIte,m1,m2,s1,s2,s3,s4,s5,sO,sN,sS,sA,List.length_cons,List.length_nil,k6];refine(Kb hG _ e.s hs).mono ?_;rintro _ H1 ⟨rfl,rfl⟩;cases vname:Gk e.s with
   | true=>
    by_cases zo:e.oper=0
    ·skip
     by_cases zn:e.n=0
     ·skip
      by_cases za:e.a.length=0
      ·have za':(e.a.length:Int)=0:=by omega
       have ya:e.a= []:=List.length_eq_zero_iff.1 za;simp(disch:=omega) only[go_sem,↓reduceIte,m1,m2,s1,s2,s3,s4,s5,sO,sN,sS,sA,List.length_cons,List.length_nil,k6,zo,zn,za'];exact Rm.sub (show Sub H _ from(by repeat (first | exact Sub.refl _ | assumption | refine Sub.up ?_ (by assumption) _))) (Rm.refl ⟨by simp [Bf,zO,zN,zS,zA,Aq,k6,vnamed1,vname,zo,zn,ya],rfl⟩)
      ·have za': ¬((e.a.length:Int)=0):=by omega
       simp(disch:=omega) only[go_sem,↓reduceIte,m1,m2,s1,s2,s3,s4,s5,sO,sN,sS,sA,List.length_cons,List.length_nil,k6,zo,zn,za'];exact Rm.sub (show Sub H _ from(by repeat (first | exact Sub.refl _ | assumption | refine Sub.up ?_ (by assumption) _))) (Rm.refl ⟨by simp [Bf,zO,zN,zS,zA,Aq,k6,vnamed1,vname,zo,zn,za],rfl⟩)
     ·skip
      simp(disch:=omega) only[go_sem,↓reduceIte,m1,m2,s1,s2,s3,s4,s5,sO,sN,sS,sA,List.length_cons,List.length_nil,k6,zo,zn];exact Rm.sub (show Sub H _ from(by repeat (first | exact Sub.refl _ | assumption | refine Sub.up ?_ (by assumption) _))) (Rm.refl ⟨by simp [Bf,zO,zN,zS,zA,Aq,k6,vnamed1,vname,zo,zn],rfl⟩)
    ·skip
     simp(disch:=omega) only[go_sem,↓reduceIte,m1,m2,s1,s2,s3,s4,s5,sO,sN,sS,sA,List.length_cons,List.length_nil,k6,zo];exact Rm.sub (show Sub H _ from(by repeat (first | exact Sub.refl _ | assumption | refine Sub.up ?_ (by assumption) _))) (Rm.refl ⟨by simp [Bf,zO,zN,zS,zA,Aq,k6,vnamed1,vname,zo],rfl⟩)
   | false=>
    simp(disch:=omega) only[go_sem,↓reduceIte,m1,m2,s1,s2,s3,s4,s5,sO,sN,sS,sA,List.length_cons,List.length_nil,k6];exact Rm.sub (show Sub H _ from(by repeat (first | exact Sub.refl _ | assumption | refine Sub.up ?_ (by assumption) _))) (Rm.refl ⟨by simp [Bf,zO,zN,zS,zA,Aq,k6,vnamed1,vname],rfl⟩)
  | false=>
   simp(disch:=omega) only[go_sem,↓reduceIte,m1,m2,s1,s2,s3,s4,s5,sO,sN,sS,sA,List.length_cons,List.length_nil,k6];exact Rm.sub (show Sub H _ from(by repeat (first | exact Sub.refl _ | assumption | refine Sub.up ?_ (by assumption) _))) (Rm.refl ⟨by simp [Bf,zO,zN,zS,zA,Aq,k6,vnamed1],rfl⟩)
 by_cases k5:e.kind=5
 ·skip
  simp(disch:=omega) only[go_sem,↓reduceIte,m1,m2,s1,s2,s3,s4,s5,sO,sN,sS,sA,List.length_cons,List.length_nil,k5];refine(Mc G _ e 1 (by decide)).mono ?_;rintro _ H1 ⟨rfl,rfl⟩;cases vnamed1:Jh e 1 with
  | true=>
   by_cases zo:e.oper=0
   ·skip
    by_cases zn:e.n=0
    ·skip
     by_cases zs:e.s= []
     ·skip
      by_cases za:e.a.length=0
      ·have za':(e.a.length:Int)=0:=by omega
       have ya:e.a= []:=List.length_eq_zero_iff.1 za;simp(disch:=omega) only[go_sem,↓reduceIte,m1,m2,s1,s2,s3,s4,s5,sO,sN,sS,sA,List.length_cons,List.length_nil,k5,zo,zn,zs,za'];exact Rm.sub (show Sub H _ from(by repeat (first | exact Sub.refl _ | assumption | refine Sub.up ?_ (by assumption) _))) (Rm.refl ⟨by simp [Bf,zO,zN,zS,zA,Aq,k5,vnamed1,zo,zn,zs,ya],rfl⟩)
      ·have za': ¬((e.a.length:Int)=0):=by omega
       simp(disch:=omega) only[go_sem,↓reduceIte,m1,m2,s1,s2,s3,s4,s5,sO,sN,sS,sA,List.length_cons,List.length_nil,k5,zo,zn,zs,za'];exact Rm.sub (show Sub H _ from(by repeat (first | exact Sub.refl _ | assumption | refine Sub.up ?_ (by assumption) _))) (Rm.refl ⟨by simp [Bf,zO,zN,zS,zA,Aq,k5,vnamed1,zo,zn,zs,za],rfl⟩)
     ·skip
      simp(disch:=omega) only[go_sem,↓reduceIte,m1,m2,s1,s2,s3,s4,s5,sO,sN,sS,sA,List.length_cons,List.length_nil,k5,zo,zn,zs];exact Rm.sub (show Sub H _ from(by repeat (first | exact Sub.refl _ | assumption | refine Sub.up ?_ (by assumption) _))) (Rm.refl ⟨by simp [Bf,zO,zN,zS,zA,Aq,k5,vnamed1,zo,zn,zs],rfl⟩)
    ·skip
     simp(disch:=omega) only[go_sem,↓reduceIte,m1,m2,s1,s2,s3,s4,s5,sO,sN,sS,sA,List.length_cons,List.length_nil,k5,zo,zn];exact Rm.sub (show Sub H _ from(by repeat (first | exact Sub.refl _ | assumption | refine Sub.up ?_ (by assumption) _))) (Rm.refl ⟨by simp [Bf,zO,zN,zS,zA,Aq,k5,vnamed1,zo,zn],rfl⟩)
   ·skip
    simp(disch:=omega) only[go_sem,↓reduceIte,m1,m2,s1,s2,s3,s4,s5,sO,sN,sS,sA,List.length_cons,List.length_nil,k5,zo];exact Rm.sub (show Sub H _ from(by repeat (first | exact Sub.refl _ | assumption | refine Sub.up ?_ (by assumption) _))) (Rm.refl ⟨by simp [Bf,zO,zN,zS,zA,Aq,k5,vnamed1,zo],rfl⟩)
  | false=>
   simp(disch:=omega) only[go_sem,↓reduceIte,m1,m2,s1,s2,s3,s4,s5,sO,sN,sS,sA,List.length_cons,List.length_nil,k5];exact Rm.sub (show Sub H _ from(by repeat (first | exact Sub.refl _ | assumption | refine Sub.up ?_ (by assumption) _))) (Rm.refl ⟨by simp [Bf,zO,zN,zS,zA,Aq,k5,vnamed1],rfl⟩)
 by_cases k7:e.kind=7
 ·skip
  simp(disch:=omega) only[go_sem,↓reduceIte,m1,m2,s1,s2,s3,s4,s5,sO,sN,sS,sA,List.length_cons,List.length_nil,k7];refine(Mc G _ e 1 (by decide)).mono ?_;rintro _ H1 ⟨rfl,rfl⟩;cases vnamed1:Jh e 1 with
  | true=>
   simp(disch:=omega) only[go_sem,↓reduceIte,m1,m2,s1,s2,s3,s4,s5,sO,sN,sS,sA,List.length_cons,List.length_nil,k7];refine(Ae9 G _ e.a (by omega)).mono ?_;rintro _ H1 ⟨rfl,rfl⟩;cases vargs:Kd e.a with
   | true=>
    by_cases zo:e.oper=0
    ·skip
     by_cases zn:e.n=0
     ·skip
      by_cases zs:e.s= []
      ·skip
       simp(disch:=omega) only[go_sem,↓reduceIte,m1,m2,s1,s2,s3,s4,s5,sO,sN,sS,sA,List.length_cons,List.length_nil,k7,zo,zn,zs];exact Rm.sub (show Sub H _ from(by repeat (first | exact Sub.refl _ | assumption | refine Sub.up ?_ (by assumption) _))) (Rm.refl ⟨by simp [Bf,zO,zN,zS,zA,Aq,k7,vnamed1,vargs,zo,zn,zs],rfl⟩)
      ·skip
       simp(disch:=omega) only[go_sem,↓reduceIte,m1,m2,s1,s2,s3,s4,s5,sO,sN,sS,sA,List.length_cons,List.length_nil,k7,zo,zn,zs];exact Rm.sub (show Sub H _ from(by repeat (first | exact Sub.refl _ | assumption | refine Sub.up ?_ (by assumption) _))) (Rm.refl ⟨by simp [Bf,zO,zN,zS,zA,Aq,k7,vnamed1,vargs,zo,zn,zs],rfl⟩)
     ·skip
      simp(disch:=omega) only[go_sem,↓reduceIte,m1,m2,s1,s2,s3,s4,s5,sO,sN,sS,sA,List.length_cons,List.length_nil,k7,zo,zn];exact Rm.sub (show Sub H _ from(by repeat (first | exact Sub.refl _ | assumption | refine Sub.up ?_ (by assumption) _))) (Rm.refl ⟨by simp [Bf,zO,zN,zS,zA,Aq,k7,vnamed1,vargs,zo,zn],rfl⟩)
    ·skip
     simp(disch:=omega) only[go_sem,↓reduceIte,m1,m2,s1,s2,s3,s4,s5,sO,sN,sS,sA,List.length_cons,List.length_nil,k7,zo];exact Rm.sub (show Sub H _ from(by repeat (first | exact Sub.refl _ | assumption | refine Sub.up ?_ (by assumption) _))) (Rm.refl ⟨by simp [Bf,zO,zN,zS,zA,Aq,k7,vnamed1,vargs,zo],rfl⟩)
   | false=>
    simp(disch:=omega) only[go_sem,↓reduceIte,m1,m2,s1,s2,s3,s4,s5,sO,sN,sS,sA,List.length_cons,List.length_nil,k7];exact Rm.sub (show Sub H _ from(by repeat (first | exact Sub.refl _ | assumption | refine Sub.up ?_ (by assumption) _))) (Rm.refl ⟨by simp [Bf,zO,zN,zS,zA,Aq,k7,vnamed1,vargs],rfl⟩)
  | false=>
   simp(disch:=omega) only[go_sem,↓reduceIte,m1,m2,s1,s2,s3,s4,s5,sO,sN,sS,sA,List.length_cons,List.length_nil,k7];exact Rm.sub (show Sub H _ from(by repeat (first | exact Sub.refl _ | assumption | refine Sub.up ?_ (by assumption) _))) (Rm.refl ⟨by simp [Bf,zO,zN,zS,zA,Aq,k7,vnamed1],rfl⟩)
 by_cases k8:e.kind=8
 ·skip
  simp(disch:=omega) only[go_sem,↓reduceIte,m1,m2,s1,s2,s3,s4,s5,sO,sN,sS,sA,List.length_cons,List.length_nil,k8];refine(Mc G _ e 2 (by decide)).mono ?_;rintro _ H1 ⟨rfl,rfl⟩;cases vnamed2:Jh e 2 with
  | true=>
   by_cases zo:e.oper=0
   ·skip
    by_cases zn:e.n=0
    ·skip
     by_cases zs:e.s= []
     ·skip
      by_cases za:e.a.length=0
      ·have za':(e.a.length:Int)=0:=by omega
       have ya:e.a= []:=List.length_eq_zero_iff.1 za;simp(disch:=omega) only[go_sem,↓reduceIte,m1,m2,s1,s2,s3,s4,s5,sO,sN,sS,sA,List.length_cons,List.length_nil,k8,zo,zn,zs,za'];exact Rm.sub (show Sub H _ from(by repeat (first | exact Sub.refl _ | assumption | refine Sub.up ?_ (by assumption) _))) (Rm.refl ⟨by simp [Bf,zO,zN,zS,zA,Aq,k8,vnamed2,zo,zn,zs,ya],rfl⟩)
      ·have za': ¬((e.a.length:Int)=0):=by omega
       simp(disch:=omega) only[go_sem,↓reduceIte,m1,m2,s1,s2,s3,s4,s5,sO,sN,sS,sA,List.length_cons,List.length_nil,k8,zo,zn,zs,za'];exact Rm.sub (show Sub H _ from(by repeat (first | exact Sub.refl _ | assumption | refine Sub.up ?_ (by assumption) _))) (Rm.refl ⟨by simp [Bf,zO,zN,zS,zA,Aq,k8,vnamed2,zo,zn,zs,za],rfl⟩)
     ·skip
      simp(disch:=omega) only[go_sem,↓reduceIte,m1,m2,s1,s2,s3,s4,s5,sO,sN,sS,sA,List.length_cons,List.length_nil,k8,zo,zn,zs];exact Rm.sub (show Sub H _ from(by repeat (first | exact Sub.refl _ | assumption | refine Sub.up ?_ (by assumption) _))) (Rm.refl ⟨by simp [Bf,zO,zN,zS,zA,Aq,k8,vnamed2,zo,zn,zs],rfl⟩)
    ·skip
     simp(disch:=omega) only[go_sem,↓reduceIte,m1,m2,s1,s2,s3,s4,s5,sO,sN,sS,sA,List.length_cons,List.length_nil,k8,zo,zn];exact Rm.sub (show Sub H _ from(by repeat (first | exact Sub.refl _ | assumption | refine Sub.up ?_ (by assumption) _))) (Rm.refl ⟨by simp [Bf,zO,zN,zS,zA,Aq,k8,vnamed2,zo,zn],rfl⟩)
   ·skip
    simp(disch:=omega) only[go_sem,↓reduceIte,m1,m2,s1,s2,s3,s4,s5,sO,sN,sS,sA,List.length_cons,List.length_nil,k8,zo];exact Rm.sub (show Sub H _ from(by repeat (first | exact Sub.refl _ | assumption | refine Sub.up ?_ (by assumption) _))) (Rm.refl ⟨by simp [Bf,zO,zN,zS,zA,Aq,k8,vnamed2,zo],rfl⟩)
  | false=>
   simp(disch:=omega) only[go_sem,↓reduceIte,m1,m2,s1,s2,s3,s4,s5,sO,sN,sS,sA,List.length_cons,List.length_nil,k8];exact Rm.sub (show Sub H _ from(by repeat (first | exact Sub.refl _ | assumption | refine Sub.up ?_ (by assumption) _))) (Rm.refl ⟨by simp [Bf,zO,zN,zS,zA,Aq,k8,vnamed2],rfl⟩)
 by_cases k9:e.kind=9
 ·skip
  by_cases clen0:e.l.length=0
  ·have clen0':(e.l.length:Int)=0:=by omega
   simp(disch:=omega) only[go_sem,↓reduceIte,m1,m2,s1,s2,s3,s4,s5,sO,sN,sS,sA,List.length_cons,List.length_nil,k9,clen0'];refine(Vj G _ e.a (by omega) hac).mono ?_;rintro _ H1 ⟨rfl,rfl⟩;cases vassocs:Gd e.a with
   | true=>
    by_cases zo:e.oper=0
    ·skip
     by_cases zn:e.n=0
     ·skip
      by_cases zs:e.s= []
      ·skip
       simp(disch:=omega) only[go_sem,↓reduceIte,m1,m2,s1,s2,s3,s4,s5,sO,sN,sS,sA,List.length_cons,List.length_nil,k9,clen0',zo,zn,zs];exact Rm.sub (show Sub H _ from(by repeat (first | exact Sub.refl _ | assumption | refine Sub.up ?_ (by assumption) _))) (Rm.refl ⟨by simp [Bf,zO,zN,zS,zA,Aq,k9,clen0,vassocs,zo,zn,zs],rfl⟩)
      ·skip
       simp(disch:=omega) only[go_sem,↓reduceIte,m1,m2,s1,s2,s3,s4,s5,sO,sN,sS,sA,List.length_cons,List.length_nil,k9,clen0',zo,zn,zs];exact Rm.sub (show Sub H _ from(by repeat (first | exact Sub.refl _ | assumption | refine Sub.up ?_ (by assumption) _))) (Rm.refl ⟨by simp [Bf,zO,zN,zS,zA,Aq,k9,clen0,vassocs,zo,zn,zs],rfl⟩)
     ·skip
      simp(disch:=omega) only[go_sem,↓reduceIte,m1,m2,s1,s2,s3,s4,s5,sO,sN,sS,sA,List.length_cons,List.length_nil,k9,clen0',zo,zn];exact Rm.sub (show Sub H _ from(by repeat (first | exact Sub.refl _ | assumption | refine Sub.up ?_ (by assumption) _))) (Rm.refl ⟨by simp [Bf,zO,zN,zS,zA,Aq,k9,clen0,vassocs,zo,zn],rfl⟩)
    ·skip
     simp(disch:=omega) only[go_sem,↓reduceIte,m1,m2,s1,s2,s3,s4,s5,sO,sN,sS,sA,List.length_cons,List.length_nil,k9,clen0',zo];exact Rm.sub (show Sub H _ from(by repeat (first | exact Sub.refl _ | assumption | refine Sub.up ?_ (by assumption) _))) (Rm.refl ⟨by simp [Bf,zO,zN,zS,zA,Aq,k9,clen0,vassocs,zo],rfl⟩)
   | false=>
    simp(disch:=omega) only[go_sem,↓reduceIte,m1,m2,s1,s2,s3,s4,s5,sO,sN,sS,sA,List.length_cons,List.length_nil,k9,clen0'];exact Rm.sub (show Sub H _ from(by repeat (first | exact Sub.refl _ | assumption | refine Sub.up ?_ (by assumption) _))) (Rm.refl ⟨by simp [Bf,zO,zN,zS,zA,Aq,k9,clen0,vassocs],rfl⟩)
  ·have clen0': ¬((e.l.length:Int)=0):=by omega
   simp(disch:=omega) only[go_sem,↓reduceIte,m1,m2,s1,s2,s3,s4,s5,sO,sN,sS,sA,List.length_cons,List.length_nil,k9,clen0'];exact Rm.sub (show Sub H _ from(by repeat (first | exact Sub.refl _ | assumption | refine Sub.up ?_ (by assumption) _))) (Rm.refl ⟨by simp [Bf,zO,zN,zS,zA,Aq,k9,clen0],rfl⟩)
 by_cases k10:e.kind=10
 ·skip
  by_cases clen3:e.l.length=3
  ·have clen3':(e.l.length:Int)=3:=by omega
   by_cases zo:e.oper=0
   ·skip
    by_cases zn:e.n=0
    ·skip
     by_cases zs:e.s= []
     ·skip
      by_cases za:e.a.length=0
      ·have za':(e.a.length:Int)=0:=by omega
       have ya:e.a= []:=List.length_eq_zero_iff.1 za;simp(disch:=omega) only[go_sem,↓reduceIte,m1,m2,s1,s2,s3,s4,s5,sO,sN,sS,sA,List.length_cons,List.length_nil,k10,clen3',zo,zn,zs,za'];exact Rm.sub (show Sub H _ from(by repeat (first | exact Sub.refl _ | assumption | refine Sub.up ?_ (by assumption) _))) (Rm.refl ⟨by simp [Bf,zO,zN,zS,zA,Aq,k10,clen3,zo,zn,zs,ya],rfl⟩)
      ·have za': ¬((e.a.length:Int)=0):=by omega
       simp(disch:=omega) only[go_sem,↓reduceIte,m1,m2,s1,s2,s3,s4,s5,sO,sN,sS,sA,List.length_cons,List.length_nil,k10,clen3',zo,zn,zs,za'];exact Rm.sub (show Sub H _ from(by repeat (first | exact Sub.refl _ | assumption | refine Sub.up ?_ (by assumption) _))) (Rm.refl ⟨by simp [Bf,zO,zN,zS,zA,Aq,k10,clen3,zo,zn,zs,za],rfl⟩)
     ·skip
      simp(disch:=omega) only[go_sem,↓reduceIte,m1,m2,s1,s2,s3,s4,s5,sO,sN,sS,sA,List.length_cons,List.length_nil,k10,clen3',zo,zn,zs];exact Rm.sub (show Sub H _ from(by repeat (first | exact Sub.refl _ | assumption | refine Sub.up ?_ (by assumption) _))) (Rm.refl ⟨by simp [Bf,zO,zN,zS,zA,Aq,k10,clen3,zo,zn,zs],rfl⟩)
    ·skip
     simp(disch:=omega) only[go_sem,↓reduceIte,m1,m2,s1,s2,s3,s4,s5,sO,sN,sS,sA,List.length_cons,List.length_nil,k10,clen3',zo,zn];exact Rm.sub (show Sub H _ from(by repeat (first | exact Sub.refl _ | assumption | refine Sub.up ?_ (by assumption) _))) (Rm.refl ⟨by simp [Bf,zO,zN,zS,zA,Aq,k10,clen3,zo,zn],rfl⟩)
   ·skip
    simp(disch:=omega) only[go_sem,↓reduceIte,m1,m2,s1,s2,s3,s4,s5,sO,sN,sS,sA,List.length_cons,List.length_nil,k10,clen3',zo];exact Rm.sub (show Sub H _ from(by repeat (first | exact Sub.refl _ | assumption | refine Sub.up ?_ (by assumption) _))) (Rm.refl ⟨by simp [Bf,zO,zN,zS,zA,Aq,k10,clen3,zo],rfl⟩)
  ·have clen3': ¬((e.l.length:Int)=3):=by omega
   simp(disch:=omega) only[go_sem,↓reduceIte,m1,m2,s1,s2,s3,s4,s5,sO,sN,sS,sA,List.length_cons,List.length_nil,k10,clen3'];exact Rm.sub (show Sub H _ from(by repeat (first | exact Sub.refl _ | assumption | refine Sub.up ?_ (by assumption) _))) (Rm.refl ⟨by simp [Bf,zO,zN,zS,zA,Aq,k10,clen3],rfl⟩)
 by_cases k11:e.kind=11
 ·skip
  by_cases clen1:e.l.length=1
  ·have clen1':(e.l.length:Int)=1:=by omega
   by_cases ca:18<=e.oper
   ·by_cases cb:e.oper<=21
    ·skip
     by_cases zn:e.n=0
     ·skip
      by_cases zs:e.s= []
      ·skip
       by_cases za:e.a.length=0
       ·have za':(e.a.length:Int)=0:=by omega
        have ya:e.a= []:=List.length_eq_zero_iff.1 za;simp(disch:=omega) only[go_sem,↓reduceIte,m1,m2,s1,s2,s3,s4,s5,sO,sN,sS,sA,List.length_cons,List.length_nil,k11,clen1',ca,cb,zn,zs,za'];exact Rm.sub (show Sub H _ from(by repeat (first | exact Sub.refl _ | assumption | refine Sub.up ?_ (by assumption) _))) (Rm.refl ⟨by simp [Bf,zO,zN,zS,zA,Aq,k11,clen1,ca,cb,zn,zs,ya],rfl⟩)
       ·have za': ¬((e.a.length:Int)=0):=by omega
        simp(disch:=omega) only[go_sem,↓reduceIte,m1,m2,s1,s2,s3,s4,s5,sO,sN,sS,sA,List.length_cons,List.length_nil,k11,clen1',ca,cb,zn,zs,za'];exact Rm.sub (show Sub H _ from(by repeat (first | exact Sub.refl _ | assumption | refine Sub.up ?_ (by assumption) _))) (Rm.refl ⟨by simp [Bf,zO,zN,zS,zA,Aq,k11,clen1,ca,cb,zn,zs,za],rfl⟩)
      ·skip
       simp(disch:=omega) only[go_sem,↓reduceIte,m1,m2,s1,s2,s3,s4,s5,sO,sN,sS,sA,List.length_cons,List.length_nil,k11,clen1',ca,cb,zn,zs];exact Rm.sub (show Sub H _ from(by repeat (first | exact Sub.refl _ | assumption | refine Sub.up ?_ (by assumption) _))) (Rm.refl ⟨by simp [Bf,zO,zN,zS,zA,Aq,k11,clen1,ca,cb,zn,zs],rfl⟩)
     ·skip
      simp(disch:=omega) only[go_sem,↓reduceIte,m1,m2,s1,s2,s3,s4,s5,sO,sN,sS,sA,List.length_cons,List.length_nil,k11,clen1',ca,cb,zn];exact Rm.sub (show Sub H _ from(by repeat (first | exact Sub.refl _ | assumption | refine Sub.up ?_ (by assumption) _))) (Rm.refl ⟨by simp [Bf,zO,zN,zS,zA,Aq,k11,clen1,ca,cb,zn],rfl⟩)
    ·simp(disch:=omega) only[go_sem,↓reduceIte,m1,m2,s1,s2,s3,s4,s5,sO,sN,sS,sA,List.length_cons,List.length_nil,k11,clen1',ca,cb];exact Rm.sub (show Sub H _ from(by repeat (first | exact Sub.refl _ | assumption | refine Sub.up ?_ (by assumption) _))) (Rm.refl ⟨by simp [Bf,zO,zN,zS,zA,Aq,k11,clen1,ca,cb],rfl⟩)
   ·simp(disch:=omega) only[go_sem,↓reduceIte,m1,m2,s1,s2,s3,s4,s5,sO,sN,sS,sA,List.length_cons,List.length_nil,k11,clen1',ca];exact Rm.sub (show Sub H _ from(by repeat (first | exact Sub.refl _ | assumption | refine Sub.up ?_ (by assumption) _))) (Rm.refl ⟨by simp [Bf,zO,zN,zS,zA,Aq,k11,clen1,ca],rfl⟩)
  ·have clen1': ¬((e.l.length:Int)=1):=by omega
   simp(disch:=omega) only[go_sem,↓reduceIte,m1,m2,s1,s2,s3,s4,s5,sO,sN,sS,sA,List.length_cons,List.length_nil,k11,clen1'];exact Rm.sub (show Sub H _ from(by repeat (first | exact Sub.refl _ | assumption | refine Sub.up ?_ (by assumption) _))) (Rm.refl ⟨by simp [Bf,zO,zN,zS,zA,Aq,k11,clen1],rfl⟩)
 by_cases k12:e.kind=12
 ·skip
  by_cases clen2:e.l.length=2
  ·have clen2':(e.l.length:Int)=2:=by omega
   by_cases ca:1<=e.oper
   ·by_cases cb:e.oper<=17
    ·skip
     by_cases zn:e.n=0
     ·skip
      by_cases zs:e.s= []
      ·skip
       by_cases za:e.a.length=0
       ·have za':(e.a.length:Int)=0:=by omega
        have ya:e.a= []:=List.length_eq_zero_iff.1 za;simp(disch:=omega) only[go_sem,↓reduceIte,m1,m2,s1,s2,s3,s4,s5,sO,sN,sS,sA,List.length_cons,List.length_nil,k12,clen2',ca,cb,zn,zs,za'];exact Rm.sub (show Sub H _ from(by repeat (first | exact Sub.refl _ | assumption | refine Sub.up ?_ (by assumption) _))) (Rm.refl ⟨by simp [Bf,zO,zN,zS,zA,Aq,k12,clen2,ca,cb,zn,zs,ya],rfl⟩)
       ·have za': ¬((e.a.length:Int)=0):=by omega
        simp(disch:=omega) only[go_sem,↓reduceIte,m1,m2,s1,s2,s3,s4,s5,sO,sN,sS,sA,List.length_cons,List.length_nil,k12,clen2',ca,cb,zn,zs,za'];exact Rm.sub (show Sub H _ from(by repeat (first | exact Sub.refl _ | assumption | refine Sub.up ?_ (by assumption) _))) (Rm.refl ⟨by simp [Bf,zO,zN,zS,zA,Aq,k12,clen2,ca,cb,zn,zs,za],rfl⟩)
      ·skip
       simp(disch:=omega) only[go_sem,↓reduceIte,m1,m2,s1,s2,s3,s4,s5,sO,sN,sS,sA,List.length_cons,List.length_nil,k12,clen2',ca,cb,zn,zs];exact Rm.sub (show Sub H _ from(by repeat (first | exact Sub.refl _ | assumption | refine Sub.up ?_ (by assumption) _))) (Rm.refl ⟨by simp [Bf,zO,zN,zS,zA,Aq,k12,clen2,ca,cb,zn,zs],rfl⟩)
     ·skip
      simp(disch:=omega) only[go_sem,↓reduceIte,m1,m2,s1,s2,s3,s4,s5,sO,sN,sS,sA,List.length_cons,List.length_nil,k12,clen2',ca,cb,zn];exact Rm.sub (show Sub H _ from(by repeat (first | exact Sub.refl _ | assumption | refine Sub.up ?_ (by assumption) _))) (Rm.refl ⟨by simp [Bf,zO,zN,zS,zA,Aq,k12,clen2,ca,cb,zn],rfl⟩)
    ·simp(disch:=omega) only[go_sem,↓reduceIte,m1,m2,s1,s2,s3,s4,s5,sO,sN,sS,sA,List.length_cons,List.length_nil,k12,clen2',ca,cb];exact Rm.sub (show Sub H _ from(by repeat (first | exact Sub.refl _ | assumption | refine Sub.up ?_ (by assumption) _))) (Rm.refl ⟨by simp [Bf,zO,zN,zS,zA,Aq,k12,clen2,ca,cb],rfl⟩)
   ·simp(disch:=omega) only[go_sem,↓reduceIte,m1,m2,s1,s2,s3,s4,s5,sO,sN,sS,sA,List.length_cons,List.length_nil,k12,clen2',ca];exact Rm.sub (show Sub H _ from(by repeat (first | exact Sub.refl _ | assumption | refine Sub.up ?_ (by assumption) _))) (Rm.refl ⟨by simp [Bf,zO,zN,zS,zA,Aq,k12,clen2,ca],rfl⟩)
  ·have clen2': ¬((e.l.length:Int)=2):=by omega
   simp(disch:=omega) only[go_sem,↓reduceIte,m1,m2,s1,s2,s3,s4,s5,sO,sN,sS,sA,List.length_cons,List.length_nil,k12,clen2'];exact Rm.sub (show Sub H _ from(by repeat (first | exact Sub.refl _ | assumption | refine Sub.up ?_ (by assumption) _))) (Rm.refl ⟨by simp [Bf,zO,zN,zS,zA,Aq,k12,clen2],rfl⟩)
 by_cases k13:e.kind=13
 ·skip
  by_cases c3:e.l.length=3
  ·have c3':(e.l.length:Int)=3:=by omega
   by_cases zo:e.oper=0
   ·skip
    by_cases zn:e.n=0
    ·skip
     by_cases zs:e.s= []
     ·skip
      by_cases za:e.a.length=0
      ·have za':(e.a.length:Int)=0:=by omega
       have ya:e.a= []:=List.length_eq_zero_iff.1 za;simp(disch:=omega) only[go_sem,↓reduceIte,m1,m2,s1,s2,s3,s4,s5,sO,sN,sS,sA,List.length_cons,List.length_nil,k13,c3',zo,zn,zs,za'];exact Rm.sub (show Sub H _ from(by repeat (first | exact Sub.refl _ | assumption | refine Sub.up ?_ (by assumption) _))) (Rm.refl ⟨by simp [Bf,zO,zN,zS,zA,Aq,k13,c3,zo,zn,zs,ya],rfl⟩)
      ·have za': ¬((e.a.length:Int)=0):=by omega
       simp(disch:=omega) only[go_sem,↓reduceIte,m1,m2,s1,s2,s3,s4,s5,sO,sN,sS,sA,List.length_cons,List.length_nil,k13,c3',zo,zn,zs,za'];exact Rm.sub (show Sub H _ from(by repeat (first | exact Sub.refl _ | assumption | refine Sub.up ?_ (by assumption) _))) (Rm.refl ⟨by simp [Bf,zO,zN,zS,zA,Aq,k13,c3,zo,zn,zs,za],rfl⟩)
     ·skip
      simp(disch:=omega) only[go_sem,↓reduceIte,m1,m2,s1,s2,s3,s4,s5,sO,sN,sS,sA,List.length_cons,List.length_nil,k13,c3',zo,zn,zs];exact Rm.sub (show Sub H _ from(by repeat (first | exact Sub.refl _ | assumption | refine Sub.up ?_ (by assumption) _))) (Rm.refl ⟨by simp [Bf,zO,zN,zS,zA,Aq,k13,c3,zo,zn,zs],rfl⟩)
    ·skip
     simp(disch:=omega) only[go_sem,↓reduceIte,m1,m2,s1,s2,s3,s4,s5,sO,sN,sS,sA,List.length_cons,List.length_nil,k13,c3',zo,zn];exact Rm.sub (show Sub H _ from(by repeat (first | exact Sub.refl _ | assumption | refine Sub.up ?_ (by assumption) _))) (Rm.refl ⟨by simp [Bf,zO,zN,zS,zA,Aq,k13,c3,zo,zn],rfl⟩)
   ·skip
    simp(disch:=omega) only[go_sem,↓reduceIte,m1,m2,s1,s2,s3,s4,s5,sO,sN,sS,sA,List.length_cons,List.length_nil,k13,c3',zo];exact Rm.sub (show Sub H _ from(by repeat (first | exact Sub.refl _ | assumption | refine Sub.up ?_ (by assumption) _))) (Rm.refl ⟨by simp [Bf,zO,zN,zS,zA,Aq,k13,c3,zo],rfl⟩)
  ·have c3': ¬(e.l.length:Int)=3:=by omega
   by_cases c2:e.l.length=2
   ·have c2':(e.l.length:Int)=2:=by omega
    have hp1:1<e.l.length:=by omega
    have hg:=Cm Aa e.l 1 hp1;have hgd:e.l.getD 1 ex0=e.l[1]:=by rw[List.getD,List.getElem?_eq_getElem hp1];rfl
    rw[Nat.one_mul] at hg;simp(disch:=omega) only[go_sem,↓reduceIte,m1,m2,s1,s2,s3,s4,s5,sO,sN,sS,sA,List.length_cons,List.length_nil,k13,c3',c2',hg,hfl];refine(Rs G _ e.l[1]).mono ?_;rintro _ H1 ⟨rfl,rfl⟩;cases ct:Gc e.l[1] with
    | true=>
     by_cases zo:e.oper=0
     ·skip
      by_cases zn:e.n=0
      ·skip
       by_cases zs:e.s= []
       ·skip
        by_cases za:e.a.length=0
        ·have za':(e.a.length:Int)=0:=by omega
         have ya:e.a= []:=List.length_eq_zero_iff.1 za;simp(disch:=omega) only[go_sem,↓reduceIte,m1,m2,s1,s2,s3,s4,s5,sO,sN,sS,sA,List.length_cons,List.length_nil,k13,c3',c2',zo,zn,zs,za'];exact Rm.sub (show Sub H _ from(by repeat (first | exact Sub.refl _ | assumption | refine Sub.up ?_ (by assumption) _))) (Rm.refl ⟨by simp [Bf,zO,zN,zS,zA,Aq,k13,c3,c2,hgd,ct,zo,zn,zs,ya],rfl⟩)
        ·have za': ¬((e.a.length:Int)=0):=by omega
         simp(disch:=omega) only[go_sem,↓reduceIte,m1,m2,s1,s2,s3,s4,s5,sO,sN,sS,sA,List.length_cons,List.length_nil,k13,c3',c2',zo,zn,zs,za'];exact Rm.sub (show Sub H _ from(by repeat (first | exact Sub.refl _ | assumption | refine Sub.up ?_ (by assumption) _))) (Rm.refl ⟨by simp [Bf,zO,zN,zS,zA,Aq,k13,c3,c2,hgd,ct,zo,zn,zs,za],rfl⟩)
       ·skip
        simp(disch:=omega) only[go_sem,↓reduceIte,m1,m2,s1,s2,s3,s4,s5,sO,sN,sS,sA,List.length_cons,List.length_nil,k13,c3',c2',zo,zn,zs];exact Rm.sub (show Sub H _ from(by repeat (first | exact Sub.refl _ | assumption | refine Sub.up ?_ (by assumption) _))) (Rm.refl ⟨by simp [Bf,zO,zN,zS,zA,Aq,k13,c3,c2,hgd,ct,zo,zn,zs],rfl⟩)
      ·skip
       simp(disch:=omega) only[go_sem,↓reduceIte,m1,m2,s1,s2,s3,s4,s5,sO,sN,sS,sA,List.length_cons,List.length_nil,k13,c3',c2',zo,zn];exact Rm.sub (show Sub H _ from(by repeat (first | exact Sub.refl _ | assumption | refine Sub.up ?_ (by assumption) _))) (Rm.refl ⟨by simp [Bf,zO,zN,zS,zA,Aq,k13,c3,c2,hgd,ct,zo,zn],rfl⟩)
     ·skip
      simp(disch:=omega) only[go_sem,↓reduceIte,m1,m2,s1,s2,s3,s4,s5,sO,sN,sS,sA,List.length_cons,List.length_nil,k13,c3',c2',zo];exact Rm.sub (show Sub H _ from(by repeat (first | exact Sub.refl _ | assumption | refine Sub.up ?_ (by assumption) _))) (Rm.refl ⟨by simp [Bf,zO,zN,zS,zA,Aq,k13,c3,c2,hgd,ct,zo],rfl⟩)
    | false=>
     simp(disch:=omega) only[go_sem,↓reduceIte,m1,m2,s1,s2,s3,s4,s5,sO,sN,sS,sA,List.length_cons,List.length_nil,k13,c3',c2'];exact Rm.sub (show Sub H _ from(by repeat (first | exact Sub.refl _ | assumption | refine Sub.up ?_ (by assumption) _))) (Rm.refl ⟨by simp [Bf,zO,zN,zS,zA,Aq,k13,c3,c2,hgd,ct],rfl⟩)
   ·have c2': ¬(e.l.length:Int)=2:=by omega
    simp(disch:=omega) only[go_sem,↓reduceIte,m1,m2,s1,s2,s3,s4,s5,sO,sN,sS,sA,List.length_cons,List.length_nil,k13,c3',c2'];exact Rm.sub (show Sub H _ from(by repeat (first | exact Sub.refl _ | assumption | refine Sub.up ?_ (by assumption) _))) (Rm.refl ⟨by simp [Bf,zO,zN,zS,zA,Aq,k13,c3,c2],rfl⟩)
 by_cases k14:e.kind=14
 ·skip
  by_cases c3:e.l.length=3
  ·have c3':(e.l.length:Int)=3:=by omega
   by_cases zo:e.oper=0
   ·skip
    by_cases zn:e.n=0
    ·skip
     by_cases zs:e.s= []
     ·skip
      by_cases za:e.a.length=0
      ·have za':(e.a.length:Int)=0:=by omega
       have ya:e.a= []:=List.length_eq_zero_iff.1 za;simp(disch:=omega) only[go_sem,↓reduceIte,m1,m2,s1,s2,s3,s4,s5,sO,sN,sS,sA,List.length_cons,List.length_nil,k14,c3',zo,zn,zs,za'];exact Rm.sub (show Sub H _ from(by repeat (first | exact Sub.refl _ | assumption | refine Sub.up ?_ (by assumption) _))) (Rm.refl ⟨by simp [Bf,zO,zN,zS,zA,Aq,k14,c3,zo,zn,zs,ya],rfl⟩)
      ·have za': ¬((e.a.length:Int)=0):=by omega
       simp(disch:=omega) only[go_sem,↓reduceIte,m1,m2,s1,s2,s3,s4,s5,sO,sN,sS,sA,List.length_cons,List.length_nil,k14,c3',zo,zn,zs,za'];exact Rm.sub (show Sub H _ from(by repeat (first | exact Sub.refl _ | assumption | refine Sub.up ?_ (by assumption) _))) (Rm.refl ⟨by simp [Bf,zO,zN,zS,zA,Aq,k14,c3,zo,zn,zs,za],rfl⟩)
     ·skip
      simp(disch:=omega) only[go_sem,↓reduceIte,m1,m2,s1,s2,s3,s4,s5,sO,sN,sS,sA,List.length_cons,List.length_nil,k14,c3',zo,zn,zs];exact Rm.sub (show Sub H _ from(by repeat (first | exact Sub.refl _ | assumption | refine Sub.up ?_ (by assumption) _))) (Rm.refl ⟨by simp [Bf,zO,zN,zS,zA,Aq,k14,c3,zo,zn,zs],rfl⟩)
    ·skip
     simp(disch:=omega) only[go_sem,↓reduceIte,m1,m2,s1,s2,s3,s4,s5,sO,sN,sS,sA,List.length_cons,List.length_nil,k14,c3',zo,zn];exact Rm.sub (show Sub H _ from(by repeat (first | exact Sub.refl _ | assumption | refine Sub.up ?_ (by assumption) _))) (Rm.refl ⟨by simp [Bf,zO,zN,zS,zA,Aq,k14,c3,zo,zn],rfl⟩)
   ·skip
    simp(disch:=omega) only[go_sem,↓reduceIte,m1,m2,s1,s2,s3,s4,s5,sO,sN,sS,sA,List.length_cons,List.length_nil,k14,c3',zo];exact Rm.sub (show Sub H _ from(by repeat (first | exact Sub.refl _ | assumption | refine Sub.up ?_ (by assumption) _))) (Rm.refl ⟨by simp [Bf,zO,zN,zS,zA,Aq,k14,c3,zo],rfl⟩)
  ·have c3': ¬(e.l.length:Int)=3:=by omega
   by_cases c2:e.l.length=2
   ·have c2':(e.l.length:Int)=2:=by omega
    have hp1:1<e.l.length:=by omega
    have hg:=Cm Aa e.l 1 hp1;have hgd:e.l.getD 1 ex0=e.l[1]:=by rw[List.getD,List.getElem?_eq_getElem hp1];rfl
    rw[Nat.one_mul] at hg;simp(disch:=omega) only[go_sem,↓reduceIte,m1,m2,s1,s2,s3,s4,s5,sO,sN,sS,sA,List.length_cons,List.length_nil,k14,c3',c2',hg,hfl];refine(Rs G _ e.l[1]).mono ?_;rintro _ H1 ⟨rfl,rfl⟩;cases ct:Gc e.l[1] with
    | true=>
     by_cases zo:e.oper=0
     ·skip
      by_cases zn:e.n=0
      ·skip
       by_cases zs:e.s= []
       ·skip
        by_cases za:e.a.length=0
        ·have za':(e.a.length:Int)=0:=by omega
         have ya:e.a= []:=List.length_eq_zero_iff.1 za;simp(disch:=omega) only[go_sem,↓reduceIte,m1,m2,s1,s2,s3,s4,s5,sO,sN,sS,sA,List.length_cons,List.length_nil,k14,c3',c2',zo,zn,zs,za'];exact Rm.sub (show Sub H _ from(by repeat (first | exact Sub.refl _ | assumption | refine Sub.up ?_ (by assumption) _))) (Rm.refl ⟨by simp [Bf,zO,zN,zS,zA,Aq,k14,c3,c2,hgd,ct,zo,zn,zs,ya],rfl⟩)
        ·have za': ¬((e.a.length:Int)=0):=by omega
         simp(disch:=omega) only[go_sem,↓reduceIte,m1,m2,s1,s2,s3,s4,s5,sO,sN,sS,sA,List.length_cons,List.length_nil,k14,c3',c2',zo,zn,zs,za'];exact Rm.sub (show Sub H _ from(by repeat (first | exact Sub.refl _ | assumption | refine Sub.up ?_ (by assumption) _))) (Rm.refl ⟨by simp [Bf,zO,zN,zS,zA,Aq,k14,c3,c2,hgd,ct,zo,zn,zs,za],rfl⟩)
       ·skip
        simp(disch:=omega) only[go_sem,↓reduceIte,m1,m2,s1,s2,s3,s4,s5,sO,sN,sS,sA,List.length_cons,List.length_nil,k14,c3',c2',zo,zn,zs];exact Rm.sub (show Sub H _ from(by repeat (first | exact Sub.refl _ | assumption | refine Sub.up ?_ (by assumption) _))) (Rm.refl ⟨by simp [Bf,zO,zN,zS,zA,Aq,k14,c3,c2,hgd,ct,zo,zn,zs],rfl⟩)
      ·skip
       simp(disch:=omega) only[go_sem,↓reduceIte,m1,m2,s1,s2,s3,s4,s5,sO,sN,sS,sA,List.length_cons,List.length_nil,k14,c3',c2',zo,zn];exact Rm.sub (show Sub H _ from(by repeat (first | exact Sub.refl _ | assumption | refine Sub.up ?_ (by assumption) _))) (Rm.refl ⟨by simp [Bf,zO,zN,zS,zA,Aq,k14,c3,c2,hgd,ct,zo,zn],rfl⟩)
     ·skip
      simp(disch:=omega) only[go_sem,↓reduceIte,m1,m2,s1,s2,s3,s4,s5,sO,sN,sS,sA,List.length_cons,List.length_nil,k14,c3',c2',zo];exact Rm.sub (show Sub H _ from(by repeat (first | exact Sub.refl _ | assumption | refine Sub.up ?_ (by assumption) _))) (Rm.refl ⟨by simp [Bf,zO,zN,zS,zA,Aq,k14,c3,c2,hgd,ct,zo],rfl⟩)
    | false=>
     simp(disch:=omega) only[go_sem,↓reduceIte,m1,m2,s1,s2,s3,s4,s5,sO,sN,sS,sA,List.length_cons,List.length_nil,k14,c3',c2'];exact Rm.sub (show Sub H _ from(by repeat (first | exact Sub.refl _ | assumption | refine Sub.up ?_ (by assumption) _))) (Rm.refl ⟨by simp [Bf,zO,zN,zS,zA,Aq,k14,c3,c2,hgd,ct],rfl⟩)
   ·have c2': ¬(e.l.length:Int)=2:=by omega
    simp(disch:=omega) only[go_sem,↓reduceIte,m1,m2,s1,s2,s3,s4,s5,sO,sN,sS,sA,List.length_cons,List.length_nil,k14,c3',c2'];exact Rm.sub (show Sub H _ from(by repeat (first | exact Sub.refl _ | assumption | refine Sub.up ?_ (by assumption) _))) (Rm.refl ⟨by simp [Bf,zO,zN,zS,zA,Aq,k14,c3,c2],rfl⟩)
 simp(disch:=omega) only[go_sem,↓reduceIte,m1,m2,s1,s2,s3,s4,s5,sO,sN,sS,sA,List.length_cons,List.length_nil,k1,k2,k3,k4,k6,k5,k7,k8,k9,k10,k11,k12,k13,k14];exact Rm.sub (show Sub H _ from(by repeat (first | exact Sub.refl _ | assumption | refine Sub.up ?_ (by assumption) _))) (Rm.refl ⟨by simp [Bf,k1,k2,k3,k4,k6,k5,k7,k8,k9,k10,k11,k12,k13,k14],rfl⟩)
end
end Go.Dl

-- Chapter 3: May, MayArgs, MayChoices, Size.
namespace Go.Dl
open Go Go.Proofs
set_option maxRecDepth 100000
mutual
def okE:Ex->Prop
 | .mk _ _ _ s l a _ _ _=>s.length<=9223372036854775807/\okL l/\Bf2 a
def okL:List Ex->Prop
 | []=>True
 | x::l=>okE x/\okL l
def okA:As->Prop
 | .mk c e=>Ak8 c/\okE e
def Bf2:List As->Prop
 | []=>True
 | x::l=>okA x/\Bf2 l
def okC:Ch->Prop
 | .mk _ l=>okL l
def Ak8:List Ch->Prop
 | []=>True
 | x::l=>okC x/\Ak8 l
end
theorem Aa0: ∀ {l:List Ex},okL l-> ∀x∈l,okE x
 | y::l,h,x,hx=>by
  rw[okL] at h;rcases List.mem_cons.1 hx with rfl | hx
  ·exact h.1
  ·exact Aa0 h.2 x hx
theorem Bf3: ∀ {l:List As},Bf2 l-> ∀x∈l,okA x
 | y::l,h,x,hx=>by
  rw[Bf2] at h;rcases List.mem_cons.1 hx with rfl | hx
  ·exact h.1
  ·exact Bf3 h.2 x hx
theorem Af0: ∀ {l:List Ch},Ak8 l-> ∀x∈l,okC x
 | y::l,h,x,hx=>by
  rw[Ak8] at h;rcases List.mem_cons.1 hx with rfl | hx
  ·exact h.1
  ·exact Af0 h.2 x hx
theorem Du1 {e:Ex}:okE e↔e.s.length<=9223372036854775807/\okL e.l/\Bf2 e.a:=by cases e;rw[okE];rfl
theorem Du2 {e:As}:okA e↔Ak8 e.c/\okE e.e:=by cases e;rw[okA];rfl
theorem Ei1 {e:Ch}:okC e↔okL e.l:=by cases e;rw[okC];rfl
theorem Ci8 {a:As} (h:okA a): ∀x∈Dh a,okE x:=fun x hx=>by
 rw[Du2] at h;rcases List.mem_append.1 hx with hx | hx
 ·obtain⟨c,hc,hx⟩:=List.mem_flatMap.1 hx;exact Aa0 (Ei1.1 (Af0 h.1 c hc)) x hx
 ·rw[List.mem_singleton] at hx;subst hx;exact h.2
theorem Ci9 {e:Ex} (h:okE e): ∀x∈parts e,okE x:=fun x hx=>by
 rw[Du1] at h;rcases List.mem_append.1 hx with hx | hx
 ·exact Aa0 h.2.1 x hx
 ·obtain⟨a,ha,hx⟩:=List.mem_flatMap.1 hx;exact Ci8 (Bf3 h.2.2 a ha) x hx
theorem Bq8 {a:As}: ∀x∈Dh a,Hu x<=Zj a:=fun x hx=>by
 rw[Na];rcases List.mem_append.1 hx with hx | hx
 ·obtain⟨c,hc,hx⟩:=List.mem_flatMap.1 hx;have h1:=Is hc;have h2:=Ru hx;rw[Nb] at h1;omega
 ·rw[List.mem_singleton] at hx;subst hx;omega
theorem Po {e x:Ex} (hx:x∈parts e):Hu x<Hu e:=by
 rcases List.mem_append.1 hx with hx | hx
 ·exact Du0 hx
 ·obtain⟨a,ha,hx⟩:=List.mem_flatMap.1 hx;have h1:=Ae7 ha;have h2:=Bq8 x hx;omega
structure Fit (e:Ex):Prop where
 big:Hu e<=1099511627776
 ok:okE e
theorem Fit.parts {e x:Ex} (h:Fit e) (hx:x∈Dl.parts e):Fit x:=⟨by have:=Po hx;have:=h.big;omega,Ci9 h.ok x hx⟩
theorem Fit.s {e:Ex} (h:Fit e):e.s.length<=9223372036854775807:=(Du1.1 h.ok).1
def Du3 (d:Nat) (x:Ex) (s:Int) (b:Bool) (s':Int):Prop:=0<=s->s<=256->b=(Ef d x&&decide ((Fa x:Int)<=s))/\(b=true->s'=s-Fa x)
theorem Bx6 (d:Nat): ∀(l:List Ex) (s:Int) (b:Bool) (s':Int),Bq7 (Du3 d) l s b s'->0<=s->s<=256->b=(l.all (Ef d)&&decide ((Ih l:Int)<=s))/\(b=true->s'=s-Ih l)
 | [],s,b,s',h,h0,_=>by
  obtain⟨rfl,rfl⟩:=h;exact⟨by simp [Ih,h0],fun _=>by simp [Ih]⟩
 | x::l,s,b,s',h,h0,h1=>by
  obtain⟨b1,s1,hx,h⟩:=h;obtain⟨hb,hs⟩:=hx h0 h1;have hsum:Ih (x::l)=Fa x+Ih l:=by simp [Ih]
  rcases h with⟨rfl,h⟩ | ⟨rfl,rfl,rfl⟩
  ·have e1:=hs rfl;have hb':=hb.symm;rw[Bool.and_eq_true,decide_eq_true_eq] at hb';obtain⟨k1,k2⟩:=Bx6 d l s1 b s' h (by omega) (by omega);refine⟨?_,fun hb=> ?_⟩
   ·rw[k1,List.all_cons,hb'.1,Bool.true_and,hsum];congr 1;exact decide_eq_decide.2 ⟨fun h=>by omega,fun h=>by omega⟩
   ·rw[k2 hb,hsum];omega
  ·refine⟨?_,fun h=>(by cases h)⟩;rw[List.all_cons,hsum];cases hv:Ef d x with
   | false=>rfl
   | true=>
    rw[hv,Bool.true_and] at hb;have:=of_decide_eq_false hb.symm;rw[decide_eq_false (by omega),Bool.and_false]
section
variable {G:Nat->DVal} {H:Bb}
theorem Af1 (G:Nat->DVal) (H:Bb) (d:Int) (rl ra:Nat):Bh Tryz.prog G 145 ([]++ [.int .i64 d]++ [.optr rl 0, .optr ra 0]) H
  (fun e H'=> ∃rd,H rd=none/\e= .ret (.func (.func 146) [] [.optr rl 0, .optr rd 0, .optr ra 0])/\H'=upd H rd (some (Oh d))):=by
 refine Bc Tryz.func145 Tryz.call145 rfl (by kernel_rfl) ?_;simp(disch:=omega) only[go_sem,↓reduceIte,DVal.cells,List.nil_append,List.cons_append];intro rd hrd;dsimp only at hrd;simp(disch:=omega) only[go_sem,↓reduceIte];exact Rm.refl ⟨rd,hrd,rfl,rfl⟩
theorem Cj0 (hG:GX G) (rl ra:Nat) (hla:rl≠ra): ∀(x:Ex) (H:Bb) (d:Nat) (s:Int) (rd:Nat),Fit x->d<=1000000->H rl=some (Oh s)->H rd=some (Oh d)->rl≠rd->H ra=some (.cells [.func (.func 145) [] [.optr rl 0, .optr ra 0]] 182)->
  Bh Tryz.prog G 146 ([]++ [.agg (dEx x)]++ [.optr rl 0, .optr rd 0, .optr ra 0]) H (Dm6 (Du3 d) x s rl H):=by
 intro x
 induction x using Ex.ind with
 | h x ih=>
  intro H d s rd hx hd hl hdd hld ha;refine Bc Tryz.func146 Tryz.call146 rfl (by kernel_rfl) ?_;simp(disch:=omega) only[go_sem,↓reduceIte,DVal.cells,List.nil_append,List.cons_append];intro r4 hr4;dsimp only at hr4;have n1:rl≠r4:=Dz hr4 hl;have n2:rd≠r4:=Dz hr4 hdd;have n3:ra≠r4:=Dz hr4 ha;unfold Oh at hl hdd;obtain⟨s1,hs1⟩: ∃s1,s1=IntKind.i64.wrap (s-1):=⟨_,rfl⟩;have hdl:rd≠rl:=hld.symm;have hal:ra≠rl:=hla.symm;simp(disch:=omega) only[go_sem,↓reduceIte,n1,n2,n3,hl,hdd,ha,hld,hla,hdl,hal,<-hs1];refine Gs (by kernel_rfl) (.take 0 (.take 1 (.take 2 (.take 3 (.take 4 (.take 5 (.take 6 (.take 7 (.go 8 [] (.take 9 (.take 10 (.take 11 (.take 12 (.take 13 (.take 14 (.go 15 [11] (.go 16 [] (.take 17 (.take 18 .done))))))))))))))))))) (by kernel_rfl) ?_;have q1:r4≠rl:=n1.symm;have q2:r4≠rd:=n2.symm;have q3:r4≠ra:=n3.symm;obtain⟨H4,hH4⟩: ∃H4,H4=upd (upd H r4 (some (.cells (dEx x) 29))) rl (some (.cells [.int .i64 s1] 3)):=⟨_,rfl⟩;have ht4:Qs rl H H4:=by rw[hH4];exact((Qs.refl rl H).new hr4 _).set _
  have g1:H4 rl=some (.cells [.int .i64 s1] 3):=by rw[hH4];exact Bp _ _ _
  have g2:H4 rd=some (.cells [.int .i64 d] 3):=ht4 _ _ hdl hdd;have g3:H4 ra=some (.cells [.func (.func 145) [] [.optr rl 0, .optr ra 0]] 182):=ht4 _ _ hal ha;have g4:H4 r4=some (.cells (dEx x) 29):=by rw[hH4];simp [upd,q1]
  rw[<-hH4];have sv: ∀b:Bool,0<=s->s<=256->s1=s-1:=fun _ h0 h1=>by rw[hs1,IntKind.wrap_i64];omega
  have hsz:(Fa x:Int)=1+(Ih (parts x):Int):=by rw[Oe x];omega
  by_cases c1:0<=s1
  ·by_cases c2:d<=32
   ·have c2':(d:Int)<=32:=by omega
    simp(disch:=omega) only[go_sem,↓reduceIte,g1,g2,g3,g4,c1,c2'];refine(Bf1 hG _ x hx.big hx.s).mono ?_;rintro _ H5 ⟨rfl,rfl⟩;cases hf:Bf x with
    | true=>
     have hwd:IntKind.i64.wrap ((d:Int)+1)=((d+1:Nat):Int):=by rw[IntKind.wrap_i64];omega
     simp(disch:=omega) only[go_sem,↓reduceIte,g1,g2,g3,g4,hwd];refine(Af1 G _ ((d+1:Nat):Int) rl ra).mono ?_;rintro _ H6 ⟨r6,hr6,rfl,rfl⟩;have p1:rl≠r6:=Dz hr6 g1;have p2:ra≠r6:=Dz hr6 g3;have p3:rd≠r6:=Dz hr6 g2;have p4:r4≠r6:=Dz hr6 g4;have ht6:Qs rl H (upd H5 r6 (some (Oh ((d+1:Nat):Int)))):=ht4.new hr6 _;simp(disch:=omega) only[go_sem,↓reduceIte,g1,g2,g3,g4,p1,p3,p4];refine(Ci7 G _ x hx.big 146 [] [.optr rl 0, .optr r6 0, .optr ra 0] (Du3 (d+1)) rl s1 (by simp only[upd,if_neg p1];exact g1) fun y hy t K hK hT=>ih y hy K (d+1) t r6 (hx.parts hy) (by omega) hK (hT _ _ p1.symm (Bp _ _ _)) p1 (hT _ _ hal (by simp only[upd,if_neg p2];exact g3))).mono ?_;rintro _ H7 ⟨b,t,rfl,hR,ht,hT⟩;have k2:H7 rd=some (.cells [.int .i64 d] 3):=hT _ _ hdl (by simp only[upd,if_neg p3];exact g2);have k4:H7 r4=some (.cells (dEx x) 29):=hT _ _ q1 (by simp only[upd,if_neg p4];exact g4);simp(disch:=omega) only[go_sem,↓reduceIte,g1,g2,g3,g4,p1,p3,p4,k2,k4]
     trace_state
     refine Rm.refl ⟨b,t,rfl,fun h0 h1=> ?_,ht,ht6.trans hT⟩;have e1:=sv true h0 h1;obtain⟨w1,w2⟩:=Bx6 (d+1) _ _ _ _ hR c1 (by omega);refine⟨?_,fun hb=>by rw[w2 hb,hsz];omega⟩;rw[w1,Of,hf,decide_eq_true c2,Bool.true_and,Bool.true_and];congr 1;exact decide_eq_decide.2 ⟨fun h=>by omega,fun h=>by omega⟩
    | false=>
     simp(disch:=omega) only[go_sem,↓reduceIte,g1,g2,g3,g4];refine Rm.refl ⟨false,s1,rfl,fun _ _=>⟨?_,fun h=>(by cases h)⟩,g1,ht4⟩;rw[Of,hf,Bool.and_false,Bool.false_and,Bool.false_and]
   ·have c2': ¬(d:Int)<=32:=by omega
    simp(disch:=omega) only[go_sem,↓reduceIte,g1,g2,g3,g4,c1,c2'];refine Rm.refl ⟨false,s1,rfl,fun _ _=>⟨?_,fun h=>(by cases h)⟩,g1,ht4⟩;rw[Of,decide_eq_false c2,Bool.false_and,Bool.false_and,Bool.false_and]
  ·simp(disch:=omega) only[go_sem,↓reduceIte,g1,g2,g3,g4,c1];refine Rm.refl ⟨false,s1,rfl,fun h0 h1=>⟨?_,fun h=>(by cases h)⟩,g1,ht4⟩;have:=sv true h0 h1;rw[decide_eq_false (by omega),Bool.and_false]
theorem Af2 (hG:GX G) (H:Bb) (e:Ex) (he:Fit e):Bh Tryz.prog G 68 [.agg (dEx e)] H (Bt (.bool (Cp e)) H):=by
 refine Bc Tryz.func68 Tryz.call68 rfl (by kernel_rfl) ?_;simp(disch:=omega) only[go_sem,↓reduceIte,DVal.cells];intro r1 hr1;dsimp only at hr1;simp(disch:=omega) only[go_sem,↓reduceIte,DVal.cells];intro r3 hr3;dsimp only at hr3;obtain⟨m1,m2,hr3'⟩:=Dl9.1 hr3;simp(disch:=omega) only[go_sem,↓reduceIte,DVal.cells,m1,m2];intro r4 hr4;dsimp only at hr4;obtain⟨p1,p2,hr4a⟩:=Dl9.1 hr4;obtain⟨p3,p4,hr4'⟩:=Dl9.1 hr4a;simp(disch:=omega) only[go_sem,↓reduceIte,DVal.cells,m1,m2,p1,p2,p3,p4];have hub:Sub H (upd (upd (upd H r1 (some (.cells (dEx e) 29))) r3 (some (Oh 256))) r4 (some (.cells [.func (.func 145) [] [.optr r3 0, .optr r4 0]] 182))):=((Sub.refl H).new hr1 _ |>.new hr3 _).new hr4 _;have y1:upd (upd (upd H r1 (some (.cells (dEx e) 29))) r3 (some (Oh 256))) r4 (some (.cells [.func (.func 145) [] [.optr r3 0, .optr r4 0]] 182)) r1=some (.cells (dEx e) 29):=by simp [upd,m2,p4]
 have y3:upd (upd (upd H r1 (some (.cells (dEx e) 29))) r3 (some (Oh 256))) r4 (some (.cells [.func (.func 145) [] [.optr r3 0, .optr r4 0]] 182)) r3=some (Oh 256):=by simp [upd,p2]
 have y4:upd (upd (upd H r1 (some (.cells (dEx e) 29))) r3 (some (Oh 256))) r4 (some (.cells [.func (.func 145) [] [.optr r3 0, .optr r4 0]] 182)) r4=some (.cells [.func (.func 145) [] [.optr r3 0, .optr r4 0]] 182):=Bp _ _ _;change dwp _ _ _ _ _ ⟨_,upd (upd (upd H r1 (some (.cells (dEx e) 29))) r3 (some (Oh 256))) r4 (some (.cells [.func (.func 145) [] [.optr r3 0, .optr r4 0]] 182))⟩;generalize upd (upd (upd H r1 (some (.cells (dEx e) 29))) r3 (some (Oh 256))) r4 (some (.cells [.func (.func 145) [] [.optr r3 0, .optr r4 0]] 182))=K at hub y1 y3 y4;refine Gs (by kernel_rfl) (.take 0 (.take 2 (.go 1 [2] (.go 3 [] (.take 4 .done))))) (by kernel_rfl) ?_;simp(disch:=omega) only[go_sem,↓reduceIte,y1,y3,y4];refine(Af1 G _ 1 r3 r4).mono ?_;rintro _ H6 ⟨r6,hr6,rfl,rfl⟩;have x1:r1≠r6:=Dz hr6 y1;have x3:r3≠r6:=Dz hr6 y3;have x4:r4≠r6:=Dz hr6 y4;simp(disch:=omega) only[go_sem,↓reduceIte,y1,y3,y4,x1,x3,x4];refine(Cj0 hG r3 r4 p2 e _ 1 256 r6 he (by decide) (by simp only[upd,if_neg x3];exact y3) (Bp _ _ _) x3 (by simp only[upd,if_neg x4];exact y4)).mono ?_;rintro _ H7 ⟨b,t,rfl,hR,ht,hT⟩;obtain⟨w1,_⟩:=hR (by decide) (by decide);have z1:H7 r1=some (.cells (dEx e) 29):=hT _ _ m2 (by simp only[upd,if_neg x1];exact y1);have z4:H7 r4=some (.cells [.func (.func 145) [] [.optr r3 0, .optr r4 0]] 182):=hT _ _ p1 (by simp only[upd,if_neg x4];exact y4);simp(disch:=omega) only[go_sem,↓reduceIte,y1,y3,y4,x1,x3,x4,z1,z4];refine Rm.sub (hT.sub (hub.new hr6 _) hr3') (Rm.refl ⟨?_,rfl⟩);rw[w1,Cp];have:((Fa e:Int)<=256)↔Fa e<=256:=by omega
 simp only[this]
end
end Go.Dl

-- Chapter 3: values that are put together, seen as trees; MayArgs, MayChoices, Size, Level.
namespace Go.Dl
open Go Go.Proofs
set_option maxRecDepth 100000
def Zl (H':Bb) (v:DVal) (H:Bb) (v':DVal):Prop:= ∀w,Bw w H'-> ∀x,Rel w H' v x->Rel w H v' x
def Tc (H':Bb) (vs:List DVal) (H:Bb) (vs':List DVal):Prop:= ∀w,Bw w H'-> ∀xs,Br w H' vs xs->Br w H vs' xs
section
variable {H H':Bb}
theorem Zl.keep (h:Sub H H') (v:DVal):Zl H' v H v:=fun w _ x hx=>Rel.lasts (Ka h w) _ _ hx
theorem Zl.le {v v':DVal} (h:Sub H H') (k:DLe v v'):Zl H' v H v':=fun w _ x hx=>Rel.lasts (Ka h w) _ _ (k w H' x hx)
theorem Tc.nil:Tc H' [] H []:=fun w _ xs hx=>by simpa [Br] using hx
theorem Tc.cons {v v':DVal} {vs vs':List DVal} (h:Zl H' v H v') (k:Tc H' vs H vs'):Tc H' (v::vs) H (v'::vs'):=fun w hw xs hx=>by
 simp only[Br] at hx⊢
 obtain⟨y,ys,rfl,h1,h2⟩:=hx;exact⟨y,ys,rfl,h w hw y h1,k w hw ys h2⟩
theorem Tc.keep (h:Sub H H') (vs:List DVal):Tc H' vs H vs:=fun w _ xs hx=>Br.lasts (Ka h w) _ _ hx
theorem Zl.agg {vs vs':List DVal} (h:Tc H' vs H vs'):Zl H' (.agg vs) H (.agg vs'):=fun w hw x hx=>by
 simp only[Rel] at hx⊢
 obtain⟨xs,rfl,h1⟩:=hx;exact⟨xs,rfl,h w hw _ h1⟩
theorem Zl.tuple {vs vs':List DVal} (h:Tc H' vs H vs'):Zl H' (.tuple vs) H (.tuple vs'):=fun w hw x hx=>by
 simp only[Rel] at hx⊢
 obtain⟨xs,rfl,h1⟩:=hx;exact⟨xs,rfl,h w hw _ h1⟩
theorem Zl.nil (h:Sub H H'):Zl H' .nilSlice H (.vslice [] 0):=Zl.le h .nil
theorem Zl.cells {e:TypeId} {size r n:Nat} {cs cs':List DVal} (h:Sub H H') (hr:H r=none) (hc:H' r=some (.cells cs e)) (hl:cs.length=n*size) (hs:Tc H' cs H cs'):Zl H' (.oslice size r 0 n n) H (.vslice cs' n):=fun w hw x hx=>by
 obtain⟨_,_,k3⟩:=Lb.fz (v:= .oslice size r 0 n n) hc w hw;obtain⟨ys,hy1,hy2⟩:=Rn hw hc;simp only[Rel] at hx⊢
 obtain⟨o,cap,rfl,h1,h2,h3,h4⟩:=hx;refine⟨_,cap,rfl,h2, ?_⟩;by_cases h0:cs= []
 ·subst h0;have:=hs w hw [] (by simp [Br]);cases cs' with
  | nil=>exact .inl rfl
  | cons c cs'=>simp [Br] at this
 ·obtain⟨zs,hl1,hh⟩:=hw.holds hc;have ho:o=0:=by
   rcases h3 with h3 | h3
   ·exfalso;have:n=0:=by omega
    subst this;rw[Nat.zero_mul] at hl;exact h0 (List.length_eq_zero_iff.1 hl)
   ·exact h3
  subst ho;exact .inr ⟨r,0,zs,rfl, .inr ⟨hr,fun i y hy=>by simpa using hh i y hy⟩,hs w hw zs hl1⟩
theorem Tc.call {P:Program} {G:Nat->DVal} {f:FuncId} {args args':List DVal} {R:DEnd->Bb->Prop} (hs:Sub H H') (h:Tc H' args H args') (k:Bh P G f args' H R):Bh P G f args H' R:=
 Bh.pre (fun w hw=>⟨((Lb.sub hs (.tuple args)) w hw).1,((Lb.sub hs (.tuple args)) w hw).2.1,Zl.tuple h w hw⟩) k
theorem Tc.lent {P:Program} {G:Nat->DVal} {f:FuncId} {args args':List DVal} {v:DVal} (h:Tc H' args H args') (k:Bh P G f args' h0 (Bt v h0)) (hv:Vg v=true):Bh P G f args H' (Bt v H'):=
 k.lent (fun w vs hw hr=>Br.lasts (Bd3 H w) _ _ (h w hw vs hr)) hv
theorem Zl.ex {k o n:Int} {s:List UInt8} {vl va:DVal} {l:List Ex} {a:List As} {li en t:Int} (hs:Sub H H') (hl:Zl H' vl H (dXs l)) (ha:Zl H' va H (dAl a)):
  Tc H' [.int .u8 k, .int .u8 o, .int .i64 n, .str s,vl,va, .int .i64 li, .int .i64 en, .int .i64 t] H (dEx (.mk k o n s l a li en t)):=by
 rw[Au8];exact .cons (.keep hs _) (.cons (.keep hs _) (.cons (.keep hs _) (.cons (.keep hs _) (.cons hl (.cons ha (.keep hs _))))))
theorem Zl.exs0 (hs:Sub H H'):Zl H' .nilSlice H (dXs []):=Zl.nil hs
theorem Zl.as0 (hs:Sub H H'):Zl H' .nilSlice H (dAl []):=Zl.nil hs
end
section
variable {G:Nat->DVal} {H:Bb}
theorem Bf4 (hG:GX G) (H:Bb) (e:Ex) (he:Fit e):Bh Tryz.prog G 223 ([]++ [.agg (dEx e)]++ []) H (Bt (.bool (!Cp e)) H):=by
 refine Bc Tryz.func223 Tryz.call223 rfl (by kernel_rfl) ?_;simp(disch:=omega) only[go_sem,↓reduceIte,DVal.cells,List.nil_append,List.append_nil];intro r hr;dsimp only at hr;simp(disch:=omega) only[go_sem,↓reduceIte];refine(Af2 hG _ e he).mono ?_;rintro _ H1 ⟨rfl,rfl⟩;simp(disch:=omega) only[go_sem,↓reduceIte];exact Rm.dropA r hr (Rm.refl ⟨rfl,rfl⟩)
theorem Bf5 (hG:GX G) (H:Bb) (c:Ch) (hc: ∀x∈c.l,Fit x) (hl:c.l.length<=1099511627776):Bh Tryz.prog G 222 ([]++ [.agg (dCh c)]++ []) H (Bt (.bool (!c.l.all Cp)) H):=by
 refine Bc Tryz.func222 Tryz.call222 rfl (by kernel_rfl) ?_;simp(disch:=omega) only[go_sem,↓reduceIte,DVal.cells,List.nil_append,List.append_nil];intro r hr;dsimp only at hr;simp(disch:=omega) only[go_sem,↓reduceIte];refine(Ua G _ (fun e=>!Cp e) c.l 223 [] [] hl fun x hx=>Bf4 hG _ x (hc x hx)).mono ?_;rintro _ H1 ⟨rfl,rfl⟩;rw[Nc];simp(disch:=omega) only[go_sem,↓reduceIte];exact Rm.dropA r hr (Rm.refl ⟨rfl,rfl⟩)
theorem Qi (hG:GX G) (H:Bb) (l:List Ch) (hb:Jr l<=1000000000000) (hk:Ak8 l):Bh Tryz.prog G 164 [dCl l] H (Bt (.bool (Og l)) H):=by
 have hll:=Ho l;refine Bc Tryz.func164 Tryz.call164 rfl (by kernel_rfl) ?_;simp(disch:=omega) only[go_sem,↓reduceIte,dCl];refine(Ub G _ l (by omega)).mono ?_;rintro _ H1 ⟨rfl,rfl⟩;cases h:Fh l with
 | false=>
  simp(disch:=omega) only[go_sem,↓reduceIte];exact Rm.refl ⟨by rw[Og,h,Bool.false_and],rfl⟩
 | true=>
  simp(disch:=omega) only[go_sem,↓reduceIte];refine(Ae8 G H1 (fun c=>!c.l.all Cp) l 222 [] [] (by omega) fun c hc=> ?_).mono ?_
  ·have h1:=Is hc;have h2:=Hd c.l;rw[Nb] at h1;refine Bf5 hG _ c (fun x hx=> ?_) (by omega);have h3:=Ru hx;exact⟨by omega,Aa0 (Ei1.1 (Af0 hk c hc)) x hx⟩
  ·rintro _ H2 ⟨rfl,rfl⟩;rw[Nc];simp(disch:=omega) only[go_sem,↓reduceIte];exact Rm.refl ⟨by rw[Og,h,Bool.true_and,Bool.not_not],rfl⟩
end
end Go.Dl

-- Chapter 3: Size, Level, Same, SameArgs, SameChoices (printed by gen_ua.py).
namespace Go.Dl
open Go Go.Proofs
set_option maxRecDepth 100000
def eqF {α:Type} (p:α->α->Bool):List α->List α->Bool
 | [],[]=>true
 | x::l,y::m=>p x y&&eqF p l m
 | _,_=>false
theorem Bx7 {α:Type} {p:α->α->Bool}: ∀ {l m:List α},eqF p l m=true->l.length=m.length
 | [],[],_=>rfl
 | [],_::_,h=>by cases h
 | _::_,[],h=>by cases h
 | x::l,y::m,h=>by
  rw[eqF,Bool.and_eq_true] at h;rw[List.length_cons,List.length_cons,Bx7 h.2]
theorem Xb {α:Type} {p:α->α->Bool} {l m:List α} (h:l.length≠m.length):eqF p l m=false:=by
 cases e:eqF p l m with
 | false=>rfl
 | true=>exact absurd (Bx7 e) h
theorem Vk {α:Type} {p:α->α->Bool} {l m:List α} {k:Nat} (h1:k<l.length) (h2:k<m.length):eqF p (l.drop k) (m.drop k)=(p l[k] m[k]&&eqF p (l.drop (k+1)) (m.drop (k+1))):=by
 rw[List.drop_eq_getElem_cons h1,List.drop_eq_getElem_cons h2,eqF]
theorem Md: ∀l m:List Ex,Nm l m=eqF Ji l m
 | [],[]=>by simp [Nm,eqF]
 | [],_::_=>by simp [Nm,eqF]
 | _::_,[]=>by simp [Nm,eqF]
 | x::l,y::m=>by rw[Nm,eqF,Md l m]
theorem Uc: ∀l m:List As,Pj l m=eqF Rr l m
 | [],[]=>by simp [Pj,eqF]
 | [],_::_=>by simp [Pj,eqF]
 | _::_,[]=>by simp [Pj,eqF]
 | x::l,y::m=>by rw[Pj,eqF,Uc l m]
theorem Ud: ∀l m:List Ch,Nn l m=eqF Qh l m
 | [],[]=>by simp [Nn,eqF]
 | [],_::_=>by simp [Nn,eqF]
 | _::_,[]=>by simp [Nn,eqF]
 | x::l,y::m=>by rw[Nn,eqF,Ud l m]
theorem Bf6 (x y:As):Rr x y=(Nn x.c y.c&&Ji x.e y.e):=by cases x;rw[Rr];rfl
theorem Bf7 (x y:Ch):Qh x y=(decide (x.kind=y.kind)&&Nm x.l y.l):=by cases x;rw[Qh];rfl
theorem Bx8 (G:Nat->DVal) (H:Bb) (p:Ex->Ex->Bool) (l m:List Ex) (g:FuncId) (hl:l.length<=1099511627776)
  (hp: ∀x∈l,∀y∈m,∀H,Bh Tryz.prog G g ([]++ [.agg (dEx x), .agg (dEx y)]++ []) H (Bt (.bool (p x y)) H)):
  Bh Tryz.prog G 141 [.vslice (l.flatMap dEx) l.length, .vslice (m.flatMap dEx) m.length, .func (.func g) [] []] H (Bt (.bool (eqF p l m)) H):=by
 refine Bc Tryz.func141 Tryz.call141 rfl (by kernel_rfl) ?_;by_cases hlen:l.length=m.length
 ·have hlen':(l.length:Int)=(m.length:Int):=by omega
  simp(disch:=omega) only[go_sem,↓reduceIte,hlen'];obtain⟨I,hI⟩: ∃I:Nat->(Nat->DVal)->Bb->Prop,∀k env heap,I k env heap↔(env 0= .vslice (l.flatMap dEx) l.length/\env 1= .vslice (m.flatMap dEx) m.length/\env 2= .func (.func g) [] []/\env 15= .vslice (l.flatMap dEx) l.length/\env 16=dI m.length/\env 17=dI k/\k<=l.length/\eqF p l m=eqF p (l.drop k) (m.drop k)/\Sub H heap):=⟨_,fun _ _ _=>Iff.rfl⟩;refine Cn3.run I (fun k=>l.length-k) 0 ((hI _ _ _).2 ?_) ?_
  ·simp(disch:=omega) only[go_sem,↓reduceIte];(repeat' apply And.intro)<;>(try first | rfl | assumption | omega);exact Sub.refl _
  ·intro k env heap hi;obtain⟨e0,e1,e2,e15,e16,e17,hk,hsm,hsub⟩:=(hI _ _ _).1 hi;have hfl:=Bq Aa l;have hfm:=Bq Aa m;by_cases hlt:k<l.length
   ·have hlt':(k:Int)<(m.length:Int):=by omega
    have hlt2:(k:Int)<(l.length:Int):=by omega
    have hkm:k<m.length:=by omega
    have Cc:=Cm Aa l k hlt;have hgetm:=Cm Aa m k hkm;have hwd:IntKind.i64.wrap ((k:Int)+1)=((k+1:Nat):Int):=by rw[IntKind.wrap_i64];omega
    simp(disch:=omega) only[go_sem,↓reduceIte,e0,e1,e2,e15,e16,e17,hlt',hlt2,Cc,hgetm,hfl,hfm,Int.toNat_natCast];intro r8 hr8;dsimp only at hr8;simp(disch:=omega) only[go_sem,↓reduceIte,e0,e1,e2,e15,e16,e17,hlt',hlt2,Cc,hgetm,hfl,hfm,Int.toNat_natCast];intro r9 hr9;dsimp only at hr9;obtain⟨m2,m1,hr9'⟩:=Dl9.1 hr9;simp(disch:=omega) only[go_sem,↓reduceIte,e0,e1,e2,e15,e16,e17,m1,m2,Cc,hgetm,hfl,hfm,Int.toNat_natCast];refine(hp l[k] (List.getElem_mem hlt) m[k] (List.getElem_mem hkm) _).mono ?_;rintro _ H1 ⟨rfl,rfl⟩;rw[Vk hlt hkm] at hsm;have hs1:=(hsub.new hr8 (some (DObj.cells (dEx l[k]) 29))).new hr9 (some (DObj.cells (dEx m[k]) 29));cases hb:p l[k] m[k] with
    | true=>
     rw[hb,Bool.true_and] at hsm;simp(disch:=omega) only[go_sem,↓reduceIte,e0,e1,e2,e15,e16,e17];refine⟨k+1,_,Rd.refl _,(hI _ _ _).2 ?_,by omega⟩;simp(disch:=omega) only[go_sem,↓reduceIte,e0,e1,e2,e15,e16,e17,hwd];(repeat' apply And.intro)<;>(try first | rfl | assumption | omega)
    | false=>
     rw[hb,Bool.false_and] at hsm;simp(disch:=omega) only[go_sem,↓reduceIte,e0,e1,e2,e15,e16,e17];exact Rm.sub hs1 (Rm.refl ⟨by rw[hsm],rfl⟩)
   ·have:k=l.length:=by omega
    subst this;have hlt': ¬(l.length:Int)<(m.length:Int):=by omega
    simp(disch:=omega) only[go_sem,↓reduceIte,e0,e1,e2,e15,e16,e17,hlt'];refine Rm.sub hsub (Rm.refl ⟨?_,rfl⟩);rw[hsm,List.drop_length,hlen,List.drop_length];rfl
 ·have hlen': ¬(l.length:Int)=(m.length:Int):=by omega
  simp(disch:=omega) only[go_sem,↓reduceIte,hlen'];exact Rm.refl ⟨by rw[Xb hlen],rfl⟩
theorem Di5 (G:Nat->DVal) (H:Bb) (p:As->As->Bool) (l m:List As) (g:FuncId) (hl:l.length<=1099511627776)
  (hp: ∀x∈l,∀y∈m,∀H,Bh Tryz.prog G g ([]++ [.agg (dAs x), .agg (dAs y)]++ []) H (Bt (.bool (p x y)) H)):
  Bh Tryz.prog G 201 [.vslice (l.flatMap dAs) l.length, .vslice (m.flatMap dAs) m.length, .func (.func g) [] []] H (Bt (.bool (eqF p l m)) H):=by
 refine Bc Tryz.func201 Tryz.call201 rfl (by kernel_rfl) ?_;by_cases hlen:l.length=m.length
 ·have hlen':(l.length:Int)=(m.length:Int):=by omega
  simp(disch:=omega) only[go_sem,↓reduceIte,hlen'];obtain⟨I,hI⟩: ∃I:Nat->(Nat->DVal)->Bb->Prop,∀k env heap,I k env heap↔(env 0= .vslice (l.flatMap dAs) l.length/\env 1= .vslice (m.flatMap dAs) m.length/\env 2= .func (.func g) [] []/\env 15= .vslice (l.flatMap dAs) l.length/\env 16=dI m.length/\env 17=dI k/\k<=l.length/\eqF p l m=eqF p (l.drop k) (m.drop k)/\Sub H heap):=⟨_,fun _ _ _=>Iff.rfl⟩;refine Cn3.run I (fun k=>l.length-k) 0 ((hI _ _ _).2 ?_) ?_
  ·simp(disch:=omega) only[go_sem,↓reduceIte];(repeat' apply And.intro)<;>(try first | rfl | assumption | omega);exact Sub.refl _
  ·intro k env heap hi;obtain⟨e0,e1,e2,e15,e16,e17,hk,hsm,hsub⟩:=(hI _ _ _).1 hi;have hfl:=Bq Cr l;have hfm:=Bq Cr m;by_cases hlt:k<l.length
   ·have hlt':(k:Int)<(m.length:Int):=by omega
    have hlt2:(k:Int)<(l.length:Int):=by omega
    have hkm:k<m.length:=by omega
    have Cc:=Cm Cr l k hlt;have hgetm:=Cm Cr m k hkm;have hwd:IntKind.i64.wrap ((k:Int)+1)=((k+1:Nat):Int):=by rw[IntKind.wrap_i64];omega
    simp(disch:=omega) only[go_sem,↓reduceIte,e0,e1,e2,e15,e16,e17,hlt',hlt2,Cc,hgetm,hfl,hfm,Int.toNat_natCast];intro r8 hr8;dsimp only at hr8;simp(disch:=omega) only[go_sem,↓reduceIte,e0,e1,e2,e15,e16,e17,hlt',hlt2,Cc,hgetm,hfl,hfm,Int.toNat_natCast];intro r9 hr9;dsimp only at hr9;obtain⟨m2,m1,hr9'⟩:=Dl9.1 hr9;simp(disch:=omega) only[go_sem,↓reduceIte,e0,e1,e2,e15,e16,e17,m1,m2,Cc,hgetm,hfl,hfm,Int.toNat_natCast];refine(hp l[k] (List.getElem_mem hlt) m[k] (List.getElem_mem hkm) _).mono ?_;rintro _ H1 ⟨rfl,rfl⟩;rw[Vk hlt hkm] at hsm;have hs1:=(hsub.new hr8 (some (DObj.cells (dAs l[k]) 222))).new hr9 (some (DObj.cells (dAs m[k]) 222));cases hb:p l[k] m[k] with
    | true=>
     rw[hb,Bool.true_and] at hsm;simp(disch:=omega) only[go_sem,↓reduceIte,e0,e1,e2,e15,e16,e17];refine⟨k+1,_,Rd.refl _,(hI _ _ _).2 ?_,by omega⟩;simp(disch:=omega) only[go_sem,↓reduceIte,e0,e1,e2,e15,e16,e17,hwd];(repeat' apply And.intro)<;>(try first | rfl | assumption | omega)
    | false=>
     rw[hb,Bool.false_and] at hsm;simp(disch:=omega) only[go_sem,↓reduceIte,e0,e1,e2,e15,e16,e17];exact Rm.sub hs1 (Rm.refl ⟨by rw[hsm],rfl⟩)
   ·have:k=l.length:=by omega
    subst this;have hlt': ¬(l.length:Int)<(m.length:Int):=by omega
    simp(disch:=omega) only[go_sem,↓reduceIte,e0,e1,e2,e15,e16,e17,hlt'];refine Rm.sub hsub (Rm.refl ⟨?_,rfl⟩);rw[hsm,List.drop_length,hlen,List.drop_length];rfl
 ·have hlen': ¬(l.length:Int)=(m.length:Int):=by omega
  simp(disch:=omega) only[go_sem,↓reduceIte,hlen'];exact Rm.refl ⟨by rw[Xb hlen],rfl⟩
theorem Di6 (G:Nat->DVal) (H:Bb) (p:Ch->Ch->Bool) (l m:List Ch) (g:FuncId) (hl:l.length<=1099511627776)
  (hp: ∀x∈l,∀y∈m,∀H,Bh Tryz.prog G g ([]++ [.agg (dCh x), .agg (dCh y)]++ []) H (Bt (.bool (p x y)) H)):
  Bh Tryz.prog G 169 [.vslice (l.flatMap dCh) l.length, .vslice (m.flatMap dCh) m.length, .func (.func g) [] []] H (Bt (.bool (eqF p l m)) H):=by
 refine Bc Tryz.func169 Tryz.call169 rfl (by kernel_rfl) ?_;by_cases hlen:l.length=m.length
 ·have hlen':(l.length:Int)=(m.length:Int):=by omega
  simp(disch:=omega) only[go_sem,↓reduceIte,hlen'];obtain⟨I,hI⟩: ∃I:Nat->(Nat->DVal)->Bb->Prop,∀k env heap,I k env heap↔(env 0= .vslice (l.flatMap dCh) l.length/\env 1= .vslice (m.flatMap dCh) m.length/\env 2= .func (.func g) [] []/\env 15= .vslice (l.flatMap dCh) l.length/\env 16=dI m.length/\env 17=dI k/\k<=l.length/\eqF p l m=eqF p (l.drop k) (m.drop k)/\Sub H heap):=⟨_,fun _ _ _=>Iff.rfl⟩;refine Cn3.run I (fun k=>l.length-k) 0 ((hI _ _ _).2 ?_) ?_
  ·simp(disch:=omega) only[go_sem,↓reduceIte];(repeat' apply And.intro)<;>(try first | rfl | assumption | omega);exact Sub.refl _
  ·intro k env heap hi;obtain⟨e0,e1,e2,e15,e16,e17,hk,hsm,hsub⟩:=(hI _ _ _).1 hi;have hfl:=Bq Cu l;have hfm:=Bq Cu m;by_cases hlt:k<l.length
   ·have hlt':(k:Int)<(m.length:Int):=by omega
    have hlt2:(k:Int)<(l.length:Int):=by omega
    have hkm:k<m.length:=by omega
    have Cc:=Cm Cu l k hlt;have hgetm:=Cm Cu m k hkm;have hwd:IntKind.i64.wrap ((k:Int)+1)=((k+1:Nat):Int):=by rw[IntKind.wrap_i64];omega
    simp(disch:=omega) only[go_sem,↓reduceIte,e0,e1,e2,e15,e16,e17,hlt',hlt2,Cc,hgetm,hfl,hfm,Int.toNat_natCast];intro r8 hr8;dsimp only at hr8;simp(disch:=omega) only[go_sem,↓reduceIte,e0,e1,e2,e15,e16,e17,hlt',hlt2,Cc,hgetm,hfl,hfm,Int.toNat_natCast];intro r9 hr9;dsimp only at hr9;obtain⟨m2,m1,hr9'⟩:=Dl9.1 hr9;simp(disch:=omega) only[go_sem,↓reduceIte,e0,e1,e2,e15,e16,e17,m1,m2,Cc,hgetm,hfl,hfm,Int.toNat_natCast];refine(hp l[k] (List.getElem_mem hlt) m[k] (List.getElem_mem hkm) _).mono ?_;rintro _ H1 ⟨rfl,rfl⟩;rw[Vk hlt hkm] at hsm;have hs1:=(hsub.new hr8 (some (DObj.cells (dCh l[k]) 198))).new hr9 (some (DObj.cells (dCh m[k]) 198));cases hb:p l[k] m[k] with
    | true=>
     rw[hb,Bool.true_and] at hsm;simp(disch:=omega) only[go_sem,↓reduceIte,e0,e1,e2,e15,e16,e17];refine⟨k+1,_,Rd.refl _,(hI _ _ _).2 ?_,by omega⟩;simp(disch:=omega) only[go_sem,↓reduceIte,e0,e1,e2,e15,e16,e17,hwd];(repeat' apply And.intro)<;>(try first | rfl | assumption | omega)
    | false=>
     rw[hb,Bool.false_and] at hsm;simp(disch:=omega) only[go_sem,↓reduceIte,e0,e1,e2,e15,e16,e17];exact Rm.sub hs1 (Rm.refl ⟨by rw[hsm],rfl⟩)
   ·have:k=l.length:=by omega
    subst this;have hlt': ¬(l.length:Int)<(m.length:Int):=by omega
    simp(disch:=omega) only[go_sem,↓reduceIte,e0,e1,e2,e15,e16,e17,hlt'];refine Rm.sub hsub (Rm.refl ⟨?_,rfl⟩);rw[hsm,List.drop_length,hlen,List.drop_length];rfl
 ·have hlen': ¬(l.length:Int)=(m.length:Int):=by omega
  simp(disch:=omega) only[go_sem,↓reduceIte,hlen'];exact Rm.refl ⟨by rw[Xb hlen],rfl⟩
def Xc (P:Program) (G:Nat->DVal) (f:FuncId) (x:Ex):Prop:= ∀y H,Bh P G f ([]++ [.agg (dEx x), .agg (dEx y)]++ []) H (Bt (.bool (Ji x y)) H)
theorem Bq9 (G:Nat->DVal) (H:Bb) (x y:Ch) (hl:x.l.length<=1099511627776) (hS: ∀e∈x.l,Xc Tryz.prog G 66 e):Bh Tryz.prog G 170 ([]++ [.agg (dCh x), .agg (dCh y)]++ []) H (Bt (.bool (Qh x y)) H):=by
 rw[Bf7,Md];refine Bc Tryz.func170 Tryz.call170 rfl (by kernel_rfl) ?_;simp(disch:=omega) only[go_sem,↓reduceIte,DVal.cells,List.nil_append,List.append_nil];intro r2 hr2;dsimp only at hr2;simp(disch:=omega) only[go_sem,↓reduceIte,DVal.cells];intro r3 hr3;dsimp only at hr3;obtain⟨m2,m1,hr3'⟩:=Dl9.1 hr3;by_cases h1:x.kind=y.kind
 ·simp(disch:=omega) only[go_sem,↓reduceIte,m1,m2,h1];refine(Bx8 G _ Ji x.l y.l 66 hl fun e he f _ K=>hS e he f K).mono ?_;rintro _ H1 ⟨rfl,rfl⟩;simp(disch:=omega) only[go_sem,↓reduceIte];exact Rm.sub (show Sub H _ from(by repeat (first | exact Sub.refl _ | assumption | refine Sub.up ?_ (by assumption) _))) (Rm.refl ⟨by simp,rfl⟩)
 ·simp(disch:=omega) only[go_sem,↓reduceIte,m1,m2,h1];exact Rm.sub (show Sub H _ from(by repeat (first | exact Sub.refl _ | assumption | refine Sub.up ?_ (by assumption) _))) (Rm.refl ⟨by simp,rfl⟩)
theorem Cj1 (G:Nat->DVal) (H:Bb) (l m:List Ch) (hl:Jr l<=1099511627776) (hS: ∀e∈l.flatMap Ch.l,Xc Tryz.prog G 66 e):Bh Tryz.prog G 106 [dCl l,dCl m] H (Bt (.bool (Nn l m)) H):=by
 have hll:=Ho l;refine Bc Tryz.func106 Tryz.call106 rfl (by kernel_rfl) ?_;simp(disch:=omega) only[go_sem,↓reduceIte,dCl];refine(Di6 G _ Qh l m 170 (by omega) fun c hc d _ K=>Bq9 G K c d (by have:=Is hc;have:=Hd c.l;rw[Nb] at*;omega) fun e he=>hS e (List.mem_flatMap.2 ⟨c,hc,he⟩)).mono ?_;rintro _ H1 ⟨rfl,rfl⟩;simp(disch:=omega) only[go_sem,↓reduceIte];exact Rm.refl ⟨by rw[Ud],rfl⟩
theorem Br0 (G:Nat->DVal) (H:Bb) (x y:As) (hl:Zj x<=1099511627776) (hS: ∀e∈Dh x,Xc Tryz.prog G 66 e):Bh Tryz.prog G 202 ([]++ [.agg (dAs x), .agg (dAs y)]++ []) H (Bt (.bool (Rr x y)) H):=by
 have hb:=Na x;have dx:=Ae6 x;have dy:=Ae6 y;rw[Bf6];refine Bc Tryz.func202 Tryz.call202 rfl (by kernel_rfl) ?_;simp(disch:=omega) only[go_sem,↓reduceIte,DVal.cells,List.nil_append,List.append_nil];intro r2 hr2;dsimp only at hr2;simp(disch:=omega) only[go_sem,↓reduceIte,DVal.cells];intro r3 hr3;dsimp only at hr3;obtain⟨m2,m1,hr3'⟩:=Dl9.1 hr3;simp(disch:=omega) only[go_sem,↓reduceIte,m1,m2];refine(Cj1 G _ x.c y.c (by omega) fun e he=>hS e (List.mem_append_left _ he)).mono ?_;rintro _ H1 ⟨rfl,rfl⟩;cases h:Nn x.c y.c with
 | false=>
  simp(disch:=omega) only[go_sem,↓reduceIte,m1,m2];exact Rm.sub (show Sub H _ from(by repeat (first | exact Sub.refl _ | assumption | refine Sub.up ?_ (by assumption) _))) (Rm.refl ⟨by simp,rfl⟩)
 | true=>
  simp(disch:=omega) only[go_sem,↓reduceIte,m1,m2,dx,dy];refine(hS x.e (Ph x) y.e _).mono ?_;rintro _ H1 ⟨rfl,rfl⟩;simp(disch:=omega) only[go_sem,↓reduceIte];exact Rm.sub (show Sub H _ from(by repeat (first | exact Sub.refl _ | assumption | refine Sub.up ?_ (by assumption) _))) (Rm.refl ⟨by simp,rfl⟩)
theorem Bf8 (G:Nat->DVal) (H:Bb) (l m:List As) (hl:Mb l<=1099511627776) (hS: ∀e∈l.flatMap Dh,Xc Tryz.prog G 66 e):Bh Tryz.prog G 142 [dAl l,dAl m] H (Bt (.bool (Pj l m)) H):=by
 have hll:=Ss l;refine Bc Tryz.func142 Tryz.call142 rfl (by kernel_rfl) ?_;simp(disch:=omega) only[go_sem,↓reduceIte,dAl];refine(Di5 G _ Rr l m 202 (by omega) fun a ha b _ K=>Br0 G K a b (by have:=Sr ha;omega) fun e he=>hS e (List.mem_flatMap.2 ⟨a,ha,he⟩)).mono ?_;rintro _ H1 ⟨rfl,rfl⟩;simp(disch:=omega) only[go_sem,↓reduceIte];exact Rm.refl ⟨by rw[Uc],rfl⟩
theorem Di7 (G:Nat->DVal): ∀x:Ex,Hu x<=1099511627776->Xc Tryz.prog G 66 x:=by
 intro x
 induction x using Ex.ind with
 | h x ih=>
  intro hb y H;have hbe:=Pm x;have hbl:=Hd x.l;have ih': ∀e∈parts x,Xc Tryz.prog G 66 e:=fun e he=>ih e he (by have:=Po he;omega);rw[Be4,Md];refine Bc Tryz.func66 Tryz.call66 rfl (by kernel_rfl) ?_;simp(disch:=omega) only[go_sem,↓reduceIte,DVal.cells,List.nil_append,List.append_nil];intro r2 hr2;dsimp only at hr2;simp(disch:=omega) only[go_sem,↓reduceIte,DVal.cells];intro r3 hr3;dsimp only at hr3;obtain⟨m2,m1,hr3'⟩:=Dl9.1 hr3;by_cases h1:x.kind=y.kind
  ·by_cases h2:x.oper=y.oper
   ·by_cases h3:x.n=y.n
    ·by_cases h4:x.s=y.s
     ·simp(disch:=omega) only[go_sem,↓reduceIte,m1,m2,h1,h2,h3,h4];refine(Bx8 G _ Ji x.l y.l 66 (by omega) fun e he f _ K=>ih' e (Rp he) f K).mono ?_;rintro _ H1 ⟨rfl,rfl⟩;cases h5:eqF Ji x.l y.l with
      | true=>
       simp(disch:=omega) only[go_sem,↓reduceIte,m1,m2];refine(Bf8 G _ x.a y.a (by omega) fun e he=>ih' e (List.mem_append_right _ he)).mono ?_;rintro _ H1 ⟨rfl,rfl⟩;simp(disch:=omega) only[go_sem,↓reduceIte];exact Rm.sub (show Sub H _ from(by repeat (first | exact Sub.refl _ | assumption | refine Sub.up ?_ (by assumption) _))) (Rm.refl ⟨by simp,rfl⟩)
      | false=>
       simp(disch:=omega) only[go_sem,↓reduceIte,m1,m2];exact Rm.sub (show Sub H _ from(by repeat (first | exact Sub.refl _ | assumption | refine Sub.up ?_ (by assumption) _))) (Rm.refl ⟨by simp,rfl⟩)
     ·simp(disch:=omega) only[go_sem,↓reduceIte,m1,m2,h1,h2,h3,h4];exact Rm.sub (show Sub H _ from(by repeat (first | exact Sub.refl _ | assumption | refine Sub.up ?_ (by assumption) _))) (Rm.refl ⟨by simp,rfl⟩)
    ·simp(disch:=omega) only[go_sem,↓reduceIte,m1,m2,h1,h2,h3];exact Rm.sub (show Sub H _ from(by repeat (first | exact Sub.refl _ | assumption | refine Sub.up ?_ (by assumption) _))) (Rm.refl ⟨by simp,rfl⟩)
   ·simp(disch:=omega) only[go_sem,↓reduceIte,m1,m2,h1,h2];exact Rm.sub (show Sub H _ from(by repeat (first | exact Sub.refl _ | assumption | refine Sub.up ?_ (by assumption) _))) (Rm.refl ⟨by simp,rfl⟩)
  ·simp(disch:=omega) only[go_sem,↓reduceIte,m1,m2,h1];exact Rm.sub (show Sub H _ from(by repeat (first | exact Sub.refl _ | assumption | refine Sub.up ?_ (by assumption) _))) (Rm.refl ⟨by simp,rfl⟩)
theorem Cj2 (G:Nat->DVal) (H:Bb) (x y:Ex) (hx:Hu x<=1099511627776):Bh Tryz.prog G 66 [.agg (dEx x), .agg (dEx y)] H (Bt (.bool (Ji x y)) H):=Di7 G x hx y H
end Go.Dl

-- Chapter 3: the reference's Same, SameArgs, SameChoices; Level (printed by gen_ub.py).
namespace Go.Dl
open Go Go.Proofs
set_option maxRecDepth 100000
theorem Nd {α:Type} {p:α->α->Bool} {l m:List α} {k:Nat} (h1:k<l.length) (h2:k<m.length) {b:Bool} (hb:p l[k] m[k]=b) (h:eqF p l m=eqF p (l.drop k) (m.drop k)):eqF p l m=(b&&eqF p (l.drop (k+1)) (m.drop (k+1))):=by
 rw[h,Vk h1 h2,hb]
section
variable {G:Nat->DVal} {H:Bb}
def Vl (P:Program) (G:Nat->DVal) (f:FuncId) (x:Ex):Prop:= ∀y H,Bh P G f [.agg (dEx x), .agg (dEx y)] H (Bt (.bool (Ji x y)) H)
theorem Yl (G:Nat->DVal) (H:Bb) (l m:List Ex) (hl:l.length<=1099511627776) (hS: ∀e∈l,Vl Tryz.prog G 98 e):Bh Tryz.prog G 167 [.vslice (l.flatMap dEx) l.length, .vslice (m.flatMap dEx) m.length] H (Bt (.bool (eqF Ji l m)) H):=by
 refine Bc Tryz.func167 Tryz.call167 rfl (by kernel_rfl) ?_;by_cases hlen:l.length=m.length
 ·have hlen':(l.length:Int)=(m.length:Int):=by omega
  simp(disch:=omega) only[go_sem,↓reduceIte,hlen'];obtain⟨I,hI⟩: ∃I:Nat->(Nat->DVal)->Bb->Prop,∀k env heap,I k env heap↔(env 0= .vslice (l.flatMap dEx) l.length/\env 1= .vslice (m.flatMap dEx) m.length/\env 5=dI k/\k<=l.length/\eqF Ji l m=eqF Ji (l.drop k) (m.drop k)/\heap=H):=⟨_,fun _ _ _=>Iff.rfl⟩;refine Cn3.run I (fun k=>l.length-k) 0 ((hI _ _ _).2 ?_) ?_
  ·simp(disch:=omega) only[go_sem,↓reduceIte];(repeat' apply And.intro)<;>(try first | rfl | assumption | omega)
  ·intro k env heap hi;obtain⟨e0,e1,e5,hk,hsm,rfl⟩:=(hI _ _ _).1 hi;have hfl:=Bq Aa l;have hfm:=Bq Aa m;by_cases hlt:k<l.length
   ·have hlt':(k:Int)<(m.length:Int):=by omega
    have hlt2:(k:Int)<(l.length:Int):=by omega
    have hkm:k<m.length:=by omega
    have Cc:=Cm Aa l k hlt;have hgetm:=Cm Aa m k hkm;have hwd:IntKind.i64.wrap ((k:Int)+1)=((k+1:Nat):Int):=by rw[IntKind.wrap_i64];omega
    have hml:=List.getElem_mem hlt;simp(disch:=omega) only[go_sem,↓reduceIte,e0,e1,e5,hlt',hlt2,Cc,hgetm,hfl,hfm,Int.toNat_natCast];refine Gs (by kernel_rfl) (.take 0 (.take 1 (.take 2 (.take 3 (.take 4 (.take 5 (.take 6 (.take 7 (.go 8 [] (.take 9 .done)))))))))) (by kernel_rfl) ?_;simp(disch:=omega) only[go_sem,↓reduceIte,e0,e1,e5,hlt',hlt2,Cc,hgetm,hfl,hfm,Int.toNat_natCast];refine(hS l[k] hml m[k] _).mono ?_;rintro _ H1 ⟨rfl,rfl⟩;cases hb:Ji l[k] m[k] with
    | true=>
     simp(disch:=omega) only[go_sem,↓reduceIte,e0,e1,e5];refine⟨k+1,_,Rd.refl _,(hI _ _ _).2 ?_,by omega⟩;simp(disch:=omega) only[go_sem,↓reduceIte,e0,e1,e5,hwd];(repeat' apply And.intro)<;>(try first | rfl | assumption | omega);all_goals rw[Nd hlt hkm hb hsm,Bool.true_and]
    | false=>
     simp(disch:=omega) only[go_sem,↓reduceIte,e0,e1,e5];exact Rm.refl ⟨by rw[Nd hlt hkm hb hsm,Bool.false_and],rfl⟩
   ·have:k=l.length:=by omega
    subst this;have hlt': ¬(l.length:Int)<(m.length:Int):=by omega
    simp(disch:=omega) only[go_sem,↓reduceIte,e0,e1,e5,hlt'];refine Rm.refl ⟨?_,rfl⟩;rw[hsm,List.drop_length,hlen,List.drop_length];rfl
 ·have hlen': ¬(l.length:Int)=(m.length:Int):=by omega
  simp(disch:=omega) only[go_sem,↓reduceIte,hlen'];exact Rm.refl ⟨by rw[Xb hlen],rfl⟩
theorem Br1 (G:Nat->DVal) (H:Bb) (l m:List Ch) (hl:Jr l<=1099511627776) (hS: ∀e∈l.flatMap Ch.l,Vl Tryz.prog G 98 e):Bh Tryz.prog G 107 [.vslice (l.flatMap dCh) l.length, .vslice (m.flatMap dCh) m.length] H (Bt (.bool (eqF Qh l m)) H):=by
 have hll:=Ho l;refine Bc Tryz.func107 Tryz.call107 rfl (by kernel_rfl) ?_;by_cases hlen:l.length=m.length
 ·have hlen':(l.length:Int)=(m.length:Int):=by omega
  simp(disch:=omega) only[go_sem,↓reduceIte,hlen'];obtain⟨I,hI⟩: ∃I:Nat->(Nat->DVal)->Bb->Prop,∀k env heap,I k env heap↔(env 0= .vslice (l.flatMap dCh) l.length/\env 1= .vslice (m.flatMap dCh) m.length/\env 5=dI k/\k<=l.length/\eqF Qh l m=eqF Qh (l.drop k) (m.drop k)/\heap=H):=⟨_,fun _ _ _=>Iff.rfl⟩;refine Cn3.run I (fun k=>l.length-k) 0 ((hI _ _ _).2 ?_) ?_
  ·simp(disch:=omega) only[go_sem,↓reduceIte];(repeat' apply And.intro)<;>(try first | rfl | assumption | omega)
  ·intro k env heap hi;obtain⟨e0,e1,e5,hk,hsm,rfl⟩:=(hI _ _ _).1 hi;have hfl:=Bq Cu l;have hfm:=Bq Cu m;by_cases hlt:k<l.length
   ·have hlt':(k:Int)<(m.length:Int):=by omega
    have hlt2:(k:Int)<(l.length:Int):=by omega
    have hkm:k<m.length:=by omega
    have Cc:=Cm Cu l k hlt;have hgetm:=Cm Cu m k hkm;have hwd:IntKind.i64.wrap ((k:Int)+1)=((k+1:Nat):Int):=by rw[IntKind.wrap_i64];omega
    have hml:=List.getElem_mem hlt;have gk:=Cy Cu l k hlt 0 (by decide);have gl:=Cy Cu l k hlt 1 (by decide);have mk:=Cy Cu m k hkm 0 (by decide);have ml:=Cy Cu m k hkm 1 (by decide);rw[Bx3,Nat.add_zero] at gk mk;rw[An8] at gl ml;have hbl:=Hd l[k].l;have hbc:=Is hml;rw[Nb] at hbc;have hpe:=Bf7 l[k] m[k];rw[Md] at hpe;simp(disch:=omega) only[go_sem,↓reduceIte,e0,e1,e5,hlt',hlt2,hfl,hfm,Int.toNat_natCast];refine Gs (by kernel_rfl) (.take 0 (.take 1 (.take 2 (.take 3 (.take 4 (.take 5 (.take 6 (.take 7 (.take 8 (.take 9 (.take 10 (.take 11 (.take 12 (.take 13 (.take 14 (.take 15 (.take 16 (.take 17 (.take 18 (.take 19 (.take 20 (.take 21 (.go 22 [] (.take 23 (.take 24 .done))))))))))))))))))))))))) (by kernel_rfl) ?_;by_cases hkk:l[k].kind=m[k].kind
    ·simp(disch:=omega) only[go_sem,↓reduceIte,e0,e1,e5,hlt',hlt2,gk,mk,gl,ml,hkk,hfl,hfm,Int.toNat_natCast];refine(Yl G _ l[k].l m[k].l (by omega) fun e he=>hS e (List.mem_flatMap.2 ⟨l[k],hml,he⟩)).mono ?_;rintro _ H1 ⟨rfl,rfl⟩;rw[decide_eq_true hkk,Bool.true_and] at hpe;rw[<-hpe];cases hb:Qh l[k] m[k] with
     | true=>
      simp(disch:=omega) only[go_sem,↓reduceIte,e0,e1,e5];refine⟨k+1,_,Rd.refl _,(hI _ _ _).2 ?_,by omega⟩;simp(disch:=omega) only[go_sem,↓reduceIte,e0,e1,e5,hwd];(repeat' apply And.intro)<;>(try first | rfl | assumption | omega);all_goals rw[Nd hlt hkm hb hsm,Bool.true_and]
     | false=>
      simp(disch:=omega) only[go_sem,↓reduceIte,e0,e1,e5];exact Rm.refl ⟨by rw[Nd hlt hkm hb hsm,Bool.false_and],rfl⟩
    ·have hb:Qh l[k] m[k]=false:=by rw[hpe,decide_eq_false hkk,Bool.false_and]
     simp(disch:=omega) only[go_sem,↓reduceIte,e0,e1,e5,hlt',hlt2,gk,mk,gl,ml,hkk,hfl,hfm,Int.toNat_natCast];exact Rm.refl ⟨by rw[Nd hlt hkm hb hsm,Bool.false_and],rfl⟩
   ·have:k=l.length:=by omega
    subst this;have hlt': ¬(l.length:Int)<(m.length:Int):=by omega
    simp(disch:=omega) only[go_sem,↓reduceIte,e0,e1,e5,hlt'];refine Rm.refl ⟨?_,rfl⟩;rw[hsm,List.drop_length,hlen,List.drop_length];rfl
 ·have hlen': ¬(l.length:Int)=(m.length:Int):=by omega
  simp(disch:=omega) only[go_sem,↓reduceIte,hlen'];exact Rm.refl ⟨by rw[Xb hlen],rfl⟩
theorem Au9 (G:Nat->DVal) (H:Bb) (l m:List As) (hl:Mb l<=1099511627776) (hS: ∀e∈l.flatMap Dh,Vl Tryz.prog G 98 e):Bh Tryz.prog G 168 [.vslice (l.flatMap dAs) l.length, .vslice (m.flatMap dAs) m.length] H (Bt (.bool (eqF Rr l m)) H):=by
 have hll:=Ss l;refine Bc Tryz.func168 Tryz.call168 rfl (by kernel_rfl) ?_;by_cases hlen:l.length=m.length
 ·have hlen':(l.length:Int)=(m.length:Int):=by omega
  simp(disch:=omega) only[go_sem,↓reduceIte,hlen'];obtain⟨I,hI⟩: ∃I:Nat->(Nat->DVal)->Bb->Prop,∀k env heap,I k env heap↔(env 0= .vslice (l.flatMap dAs) l.length/\env 1= .vslice (m.flatMap dAs) m.length/\env 5=dI k/\k<=l.length/\eqF Rr l m=eqF Rr (l.drop k) (m.drop k)/\heap=H):=⟨_,fun _ _ _=>Iff.rfl⟩;refine Cn3.run I (fun k=>l.length-k) 0 ((hI _ _ _).2 ?_) ?_
  ·simp(disch:=omega) only[go_sem,↓reduceIte];(repeat' apply And.intro)<;>(try first | rfl | assumption | omega)
  ·intro k env heap hi;obtain⟨e0,e1,e5,hk,hsm,rfl⟩:=(hI _ _ _).1 hi;have hfl:=Bq Cr l;have hfm:=Bq Cr m;by_cases hlt:k<l.length
   ·have hlt':(k:Int)<(m.length:Int):=by omega
    have hlt2:(k:Int)<(l.length:Int):=by omega
    have hkm:k<m.length:=by omega
    have Cc:=Cm Cr l k hlt;have hgetm:=Cm Cr m k hkm;have hwd:IntKind.i64.wrap ((k:Int)+1)=((k+1:Nat):Int):=by rw[IntKind.wrap_i64];omega
    have hml:=List.getElem_mem hlt;have gk:=Cy Cr l k hlt 0 (by decide);have mk:=Cy Cr m k hkm 0 (by decide);rw[Yi,Nat.add_zero] at gk mk;have gl:((l.flatMap dAs).drop (k*10+1)).take 9=dEx l[k].e:=by
     rw[<-Ae6,<-Cc,List.drop_take,List.take_take,List.drop_drop];rfl
    have ml:((m.flatMap dAs).drop (k*10+1)).take 9=dEx m[k].e:=by
     rw[<-Ae6,<-hgetm,List.drop_take,List.take_take,List.drop_drop];rfl
    have hba:=Sr hml;rw[Na] at hba;have hpe:=Bf6 l[k] m[k];rw[Ud] at hpe;simp(disch:=omega) only[go_sem,↓reduceIte,e0,e1,e5,hlt',hlt2,hfl,hfm,Int.toNat_natCast];refine Gs (by kernel_rfl) (.take 0 (.take 1 (.take 2 (.take 3 (.take 4 (.take 5 (.take 6 (.take 7 (.take 8 (.take 9 (.go 10 [] (.take 11 (.take 12 (.take 13 (.take 14 (.take 15 (.take 16 (.take 17 (.take 18 (.take 19 (.take 20 (.take 21 (.take 22 (.go 23 [] (.take 24 (.take 25 .done)))))))))))))))))))))))))) (by kernel_rfl) ?_;simp(disch:=omega) only[go_sem,↓reduceIte,e0,e1,e5,hlt',hlt2,gk,mk,gl,ml,hfl,hfm,Int.toNat_natCast];refine(Br1 G _ l[k].c m[k].c (by omega) fun e he=>hS e (List.mem_flatMap.2 ⟨l[k],hml,List.mem_append_left _ he⟩)).mono ?_;rintro _ H1 ⟨rfl,rfl⟩;cases hc:eqF Qh l[k].c m[k].c with
    | true=>
     rw[hc,Bool.true_and] at hpe;simp(disch:=omega) only[go_sem,↓reduceIte,e0,e1,e5,hlt',hlt2,gk,mk,gl,ml,hfl,hfm,Int.toNat_natCast];refine(hS l[k].e (List.mem_flatMap.2 ⟨l[k],hml,Ph _⟩) m[k].e _).mono ?_;rintro _ H1 ⟨rfl,rfl⟩;rw[<-hpe];cases hb:Rr l[k] m[k] with
     | true=>
      simp(disch:=omega) only[go_sem,↓reduceIte,e0,e1,e5];refine⟨k+1,_,Rd.refl _,(hI _ _ _).2 ?_,by omega⟩;simp(disch:=omega) only[go_sem,↓reduceIte,e0,e1,e5,hwd];(repeat' apply And.intro)<;>(try first | rfl | assumption | omega);all_goals rw[Nd hlt hkm hb hsm,Bool.true_and]
     | false=>
      simp(disch:=omega) only[go_sem,↓reduceIte,e0,e1,e5];exact Rm.refl ⟨by rw[Nd hlt hkm hb hsm,Bool.false_and],rfl⟩
    | false=>
     have hb:Rr l[k] m[k]=false:=by rw[hpe,hc,Bool.false_and]
     simp(disch:=omega) only[go_sem,↓reduceIte,e0,e1,e5,hlt',hlt2,gk,mk,gl,ml,hfl,hfm,Int.toNat_natCast];exact Rm.refl ⟨by rw[Nd hlt hkm hb hsm,Bool.false_and],rfl⟩
   ·have:k=l.length:=by omega
    subst this;have hlt': ¬(l.length:Int)<(m.length:Int):=by omega
    simp(disch:=omega) only[go_sem,↓reduceIte,e0,e1,e5,hlt'];refine Rm.refl ⟨?_,rfl⟩;rw[hsm,List.drop_length,hlen,List.drop_length];rfl
 ·have hlen': ¬(l.length:Int)=(m.length:Int):=by omega
  simp(disch:=omega) only[go_sem,↓reduceIte,hlen'];exact Rm.refl ⟨by rw[Xb hlen],rfl⟩
theorem Cv9 (G:Nat->DVal): ∀x:Ex,Hu x<=1099511627776->Vl Tryz.prog G 98 x:=by
 intro x
 induction x using Ex.ind with
 | h x ih=>
  intro hb y H;have hbe:=Pm x;have hbl:=Hd x.l;have ih': ∀e∈parts x,Vl Tryz.prog G 98 e:=fun e he=>ih e he (by have:=Po he;omega);rw[Be4,Md,Uc];refine Bc Tryz.func98 Tryz.call98 rfl (by kernel_rfl) ?_;simp(disch:=omega) only[go_sem,↓reduceIte,DVal.cells];intro r2 hr2;dsimp only at hr2;simp(disch:=omega) only[go_sem,↓reduceIte,DVal.cells];intro r3 hr3;dsimp only at hr3;obtain⟨m2,m1,hr3'⟩:=Dl9.1 hr3;by_cases h1:x.kind=y.kind
  ·by_cases h2:x.oper=y.oper
   ·by_cases h3:x.n=y.n
    ·by_cases h4:x.s=y.s
     ·simp(disch:=omega) only[go_sem,↓reduceIte,m1,m2,h1,h2,h3,h4];refine(Yl G _ x.l y.l (by omega) fun e he=>ih' e (Rp he)).mono ?_;rintro _ H1 ⟨rfl,rfl⟩;cases h5:eqF Ji x.l y.l with
      | true=>
       simp(disch:=omega) only[go_sem,↓reduceIte,m1,m2];refine(Au9 G _ x.a y.a (by omega) fun e he=>ih' e (List.mem_append_right _ he)).mono ?_;rintro _ H1 ⟨rfl,rfl⟩;simp(disch:=omega) only[go_sem,↓reduceIte];exact Rm.sub (show Sub H _ from(by repeat (first | exact Sub.refl _ | assumption | refine Sub.up ?_ (by assumption) _))) (Rm.refl ⟨by simp,rfl⟩)
      | false=>
       simp(disch:=omega) only[go_sem,↓reduceIte,m1,m2];exact Rm.sub (show Sub H _ from(by repeat (first | exact Sub.refl _ | assumption | refine Sub.up ?_ (by assumption) _))) (Rm.refl ⟨by simp,rfl⟩)
     ·simp(disch:=omega) only[go_sem,↓reduceIte,m1,m2,h1,h2,h3,h4];exact Rm.sub (show Sub H _ from(by repeat (first | exact Sub.refl _ | assumption | refine Sub.up ?_ (by assumption) _))) (Rm.refl ⟨by simp,rfl⟩)
    ·simp(disch:=omega) only[go_sem,↓reduceIte,m1,m2,h1,h2,h3];exact Rm.sub (show Sub H _ from(by repeat (first | exact Sub.refl _ | assumption | refine Sub.up ?_ (by assumption) _))) (Rm.refl ⟨by simp,rfl⟩)
   ·simp(disch:=omega) only[go_sem,↓reduceIte,m1,m2,h1,h2];exact Rm.sub (show Sub H _ from(by repeat (first | exact Sub.refl _ | assumption | refine Sub.up ?_ (by assumption) _))) (Rm.refl ⟨by simp,rfl⟩)
  ·simp(disch:=omega) only[go_sem,↓reduceIte,m1,m2,h1];exact Rm.sub (show Sub H _ from(by repeat (first | exact Sub.refl _ | assumption | refine Sub.up ?_ (by assumption) _))) (Rm.refl ⟨by simp,rfl⟩)
theorem Br2 (G:Nat->DVal) (H:Bb) (x y:Ex) (hx:Hu x<=1099511627776):Bh Tryz.prog G 98 [.agg (dEx x), .agg (dEx y)] H (Bt (.bool (Ji x y)) H):=Cv9 G x hx y H
end
end Go.Dl

-- Chapter 3: the reference: what is valid: arguments, choices, associations.
namespace Go.Dl
open Go Go.Proofs
set_option maxRecDepth 100000
def Bj (e:Ex) (o n s a:Bool):Bool:=(o || zO e)&&(n || zN e)&&(s || zS e)&&(a || zA e)
section
variable {G:Nat->DVal} {H:Bb}
theorem Ak9 (G:Nat->DVal) (H:Bb) (o:Int):Bh Tryz.prog G 207 [.int .u8 o] H (Bt (.bool (decide (18<=o)&&decide (o<=21))) H):=by
 refine Bc Tryz.func207 Tryz.call207 rfl (by kernel_rfl) ?_;by_cases h:18<=o
 ·simp(disch:=omega) only[go_sem,↓reduceIte,h];exact Rm.refl ⟨by simp,rfl⟩
 ·simp(disch:=omega) only[go_sem,↓reduceIte,h];exact Rm.refl ⟨by simp,rfl⟩
theorem Av0 (G:Nat->DVal) (H:Bb) (o:Int):Bh Tryz.prog G 208 [.int .u8 o] H (Bt (.bool (decide (1<=o)&&decide (o<=17))) H):=by
 refine Bc Tryz.func208 Tryz.call208 rfl (by kernel_rfl) ?_;by_cases h:1<=o
 ·simp(disch:=omega) only[go_sem,↓reduceIte,h];exact Rm.refl ⟨by simp,rfl⟩
 ·simp(disch:=omega) only[go_sem,↓reduceIte,h];exact Rm.refl ⟨by simp,rfl⟩
theorem By (G:Nat->DVal) (H:Bb) (e:Ex) (o n s a:Bool):Bh Tryz.prog G 204 [.agg (dEx e), .bool o, .bool n, .bool s, .bool a] H (Bt (.bool (Bj e o n s a)) H):=by
 refine Bc Tryz.func204 Tryz.call204 rfl (by kernel_rfl) ?_;simp(disch:=omega) only[go_sem,↓reduceIte,DVal.cells];intro r hr;dsimp only at hr;have fin: ∀b,b=Bj e o n s a->Rm (Bt (.bool (Bj e o n s a)) H) (.bool b) (upd H r (some (.cells (dEx e) 29))):=fun b hb=>Rm.dropA r hr (Rm.refl ⟨by rw[hb],rfl⟩);cases o with
 | true=>
  cases n with
  | true=>
   cases s with
   | true=>
    cases a with
    | true=>
     simp(disch:=omega) only[go_sem,↓reduceIte];exact fin _ (by simp [Bj,zO,zN,zS,zA,Aq])
    | false=>
     by_cases h4:e.a.length=0
     ·have h4':(e.a.length:Int)=0:=by omega
      have y4:e.a= []:=List.length_eq_zero_iff.1 h4;simp(disch:=omega) only[go_sem,↓reduceIte,h4'];exact fin _ (by simp [Bj,zO,zN,zS,zA,Aq,y4])
     ·have h4': ¬((e.a.length:Int)=0):=by omega
      have y4: ¬e.a= []:=fun e4=>h4 (by rw[e4];rfl);simp(disch:=omega) only[go_sem,↓reduceIte,h4'];exact fin _ (by simp [Bj,zO,zN,zS,zA,Aq,y4])
   | false=>
    by_cases h3:e.s= []
    ·skip
     cases a with
     | true=>
      simp(disch:=omega) only[go_sem,↓reduceIte,h3];exact fin _ (by simp [Bj,zO,zN,zS,zA,Aq,h3])
     | false=>
      by_cases h4:e.a.length=0
      ·have h4':(e.a.length:Int)=0:=by omega
       have y4:e.a= []:=List.length_eq_zero_iff.1 h4;simp(disch:=omega) only[go_sem,↓reduceIte,h3,h4'];exact fin _ (by simp [Bj,zO,zN,zS,zA,Aq,h3,y4])
      ·have h4': ¬((e.a.length:Int)=0):=by omega
       have y4: ¬e.a= []:=fun e4=>h4 (by rw[e4];rfl);simp(disch:=omega) only[go_sem,↓reduceIte,h3,h4'];exact fin _ (by simp [Bj,zO,zN,zS,zA,Aq,h3,y4])
    ·skip
     simp(disch:=omega) only[go_sem,↓reduceIte,h3];exact fin _ (by simp [Bj,zO,zN,zS,zA,Aq,h3])
  | false=>
   by_cases h2:e.n=0
   ·skip
    cases s with
    | true=>
     cases a with
     | true=>
      simp(disch:=omega) only[go_sem,↓reduceIte,h2];exact fin _ (by simp [Bj,zO,zN,zS,zA,Aq,h2])
     | false=>
      by_cases h4:e.a.length=0
      ·have h4':(e.a.length:Int)=0:=by omega
       have y4:e.a= []:=List.length_eq_zero_iff.1 h4;simp(disch:=omega) only[go_sem,↓reduceIte,h2,h4'];exact fin _ (by simp [Bj,zO,zN,zS,zA,Aq,h2,y4])
      ·have h4': ¬((e.a.length:Int)=0):=by omega
       have y4: ¬e.a= []:=fun e4=>h4 (by rw[e4];rfl);simp(disch:=omega) only[go_sem,↓reduceIte,h2,h4'];exact fin _ (by simp [Bj,zO,zN,zS,zA,Aq,h2,y4])
    | false=>
     by_cases h3:e.s= []
     ·skip
      cases a with
      | true=>
       simp(disch:=omega) only[go_sem,↓reduceIte,h2,h3];exact fin _ (by simp [Bj,zO,zN,zS,zA,Aq,h2,h3])
      | false=>
       by_cases h4:e.a.length=0
       ·have h4':(e.a.length:Int)=0:=by omega
        have y4:e.a= []:=List.length_eq_zero_iff.1 h4;simp(disch:=omega) only[go_sem,↓reduceIte,h2,h3,h4'];exact fin _ (by simp [Bj,zO,zN,zS,zA,Aq,h2,h3,y4])
       ·have h4': ¬((e.a.length:Int)=0):=by omega
        have y4: ¬e.a= []:=fun e4=>h4 (by rw[e4];rfl);simp(disch:=omega) only[go_sem,↓reduceIte,h2,h3,h4'];exact fin _ (by simp [Bj,zO,zN,zS,zA,Aq,h2,h3,y4])
     ·skip
      simp(disch:=omega) only[go_sem,↓reduceIte,h2,h3];exact fin _ (by simp [Bj,zO,zN,zS,zA,Aq,h2,h3])
   ·skip
    simp(disch:=omega) only[go_sem,↓reduceIte,h2];exact fin _ (by simp [Bj,zO,zN,zS,zA,Aq,h2])
 | false=>
  by_cases h1:e.oper=0
  ·skip
   cases n with
   | true=>
    cases s with
    | true=>
     cases a with
     | true=>
      simp(disch:=omega) only[go_sem,↓reduceIte,h1];exact fin _ (by simp [Bj,zO,zN,zS,zA,Aq,h1])
     | false=>
      by_cases h4:e.a.length=0
      ·have h4':(e.a.length:Int)=0:=by omega
       have y4:e.a= []:=List.length_eq_zero_iff.1 h4;simp(disch:=omega) only[go_sem,↓reduceIte,h1,h4'];exact fin _ (by simp [Bj,zO,zN,zS,zA,Aq,h1,y4])
      ·have h4': ¬((e.a.length:Int)=0):=by omega
       have y4: ¬e.a= []:=fun e4=>h4 (by rw[e4];rfl);simp(disch:=omega) only[go_sem,↓reduceIte,h1,h4'];exact fin _ (by simp [Bj,zO,zN,zS,zA,Aq,h1,y4])
    | false=>
     by_cases h3:e.s= []
     ·skip
      cases a with
      | true=>
       simp(disch:=omega) only[go_sem,↓reduceIte,h1,h3];exact fin _ (by simp [Bj,zO,zN,zS,zA,Aq,h1,h3])
      | false=>
       by_cases h4:e.a.length=0
       ·have h4':(e.a.length:Int)=0:=by omega
        have y4:e.a= []:=List.length_eq_zero_iff.1 h4;simp(disch:=omega) only[go_sem,↓reduceIte,h1,h3,h4'];exact fin _ (by simp [Bj,zO,zN,zS,zA,Aq,h1,h3,y4])
       ·have h4': ¬((e.a.length:Int)=0):=by omega
        have y4: ¬e.a= []:=fun e4=>h4 (by rw[e4];rfl);simp(disch:=omega) only[go_sem,↓reduceIte,h1,h3,h4'];exact fin _ (by simp [Bj,zO,zN,zS,zA,Aq,h1,h3,y4])
     ·skip
      simp(disch:=omega) only[go_sem,↓reduceIte,h1,h3];exact fin _ (by simp [Bj,zO,zN,zS,zA,Aq,h1,h3])
   | false=>
    by_cases h2:e.n=0
    ·skip
     cases s with
     | true=>
      cases a with
      | true=>
       simp(disch:=omega) only[go_sem,↓reduceIte,h1,h2];exact fin _ (by simp [Bj,zO,zN,zS,zA,Aq,h1,h2])
      | false=>
       by_cases h4:e.a.length=0
       ·have h4':(e.a.length:Int)=0:=by omega
        have y4:e.a= []:=List.length_eq_zero_iff.1 h4;simp(disch:=omega) only[go_sem,↓reduceIte,h1,h2,h4'];exact fin _ (by simp [Bj,zO,zN,zS,zA,Aq,h1,h2,y4])
       ·have h4': ¬((e.a.length:Int)=0):=by omega
        have y4: ¬e.a= []:=fun e4=>h4 (by rw[e4];rfl);simp(disch:=omega) only[go_sem,↓reduceIte,h1,h2,h4'];exact fin _ (by simp [Bj,zO,zN,zS,zA,Aq,h1,h2,y4])
     | false=>
      by_cases h3:e.s= []
      ·skip
       cases a with
       | true=>
        simp(disch:=omega) only[go_sem,↓reduceIte,h1,h2,h3];exact fin _ (by simp [Bj,zO,zN,zS,zA,Aq,h1,h2,h3])
       | false=>
        by_cases h4:e.a.length=0
        ·have h4':(e.a.length:Int)=0:=by omega
         have y4:e.a= []:=List.length_eq_zero_iff.1 h4;simp(disch:=omega) only[go_sem,↓reduceIte,h1,h2,h3,h4'];exact fin _ (by simp [Bj,zO,zN,zS,zA,Aq,h1,h2,h3,y4])
        ·have h4': ¬((e.a.length:Int)=0):=by omega
         have y4: ¬e.a= []:=fun e4=>h4 (by rw[e4];rfl);simp(disch:=omega) only[go_sem,↓reduceIte,h1,h2,h3,h4'];exact fin _ (by simp [Bj,zO,zN,zS,zA,Aq,h1,h2,h3,y4])
      ·skip
       simp(disch:=omega) only[go_sem,↓reduceIte,h1,h2,h3];exact fin _ (by simp [Bj,zO,zN,zS,zA,Aq,h1,h2,h3])
    ·skip
     simp(disch:=omega) only[go_sem,↓reduceIte,h1,h2];exact fin _ (by simp [Bj,zO,zN,zS,zA,Aq,h1,h2])
  ·skip
   simp(disch:=omega) only[go_sem,↓reduceIte,h1];exact fin _ (by simp [Bj,zO,zN,zS,zA,Aq,h1])
theorem Ao0 {l:List As} {k:Nat} (h: ∀i (_:i+1<k) (hi:i+1<l.length),(l[i].c.isEmpty || !l[i+1].c.isEmpty)=true) (hk:k<l.length) (hx: ∀(h0:0<k),((l[k-1]'(by omega)).c.isEmpty || !l[k].c.isEmpty)=true):
  ∀i (_:i+1<k+1) (hi:i+1<l.length),(l[i].c.isEmpty || !l[i+1].c.isEmpty)=true:=fun i hi hil=>by
 by_cases e:i+1<k
 ·exact h i e hil
 ·have:i+1=k:=by omega
  subst this;exact hx (by omega)
theorem Ym (G:Nat->DVal) (H:Bb) (l:List As) (hl:l.length<=1099511627776):Bh Tryz.prog G 256 [.vslice (l.flatMap dAs) l.length] H (Bt (.bool (Kv l)) H):=by
 refine Bc Tryz.func256 Tryz.call256 rfl (by kernel_rfl) ?_;simp(disch:=omega) only[go_sem,↓reduceIte];obtain⟨I,hI⟩: ∃I:Nat->(Nat->DVal)->Bb->Prop,∀k env heap,I k env heap↔(env 0= .vslice (l.flatMap dAs) l.length/\env 3=dI k/\1<=k/\(k<=l.length\/k=1)/\(∀i (_:i+1<k) (hi:i+1<l.length),(l[i].c.isEmpty || !l[i+1].c.isEmpty)=true)/\heap=H):=⟨_,fun _ _ _=>Iff.rfl⟩;refine Cn3.run I (fun k=>l.length-k) 1 ((hI _ _ _).2 ?_) ?_
 ·simp(disch:=omega) only[go_sem,↓reduceIte];(repeat' apply And.intro)<;>(try first | rfl | assumption | omega);all_goals first | exact .inr trivial | (intro i h1 h2;omega)
 ·intro k env heap hi;obtain⟨e0,e3,hk1,hk,hn,rfl⟩:=(hI _ _ _).1 hi;have hfl:=Bq Cr l;by_cases hlt:k<l.length
  ·have hlt':(k:Int)<(l.length:Int):=by omega
   have gk:=Cy Cr l k hlt 0 (by decide);have gp:=Cy Cr l (k-1) (by omega) 0 (by decide);rw[Yi,Nat.add_zero] at gk gp;have hwd:IntKind.i64.wrap ((k:Int)+1)=((k+1:Nat):Int):=by rw[IntKind.wrap_i64];omega
   have hwk:IntKind.i64.wrap ((k:Int)-1)=((k-1:Nat):Int):=by rw[IntKind.wrap_i64];omega
   have hkp:((k-1:Nat):Int)<(l.length:Int):=by omega
   by_cases q1:l[k].c.length=0
   ·have q1':(l[k].c.length:Int)=0:=by omega
    have y1:l[k].c.isEmpty=true:=by rw[Aq];exact decide_eq_true q1
    by_cases q2:0<l[k-1].c.length
    ·have q2':(0:Int)<(l[k-1].c.length:Int):=by omega
     have y2:l[k-1].c.isEmpty=false:=by rw[Aq];exact decide_eq_false (by omega)
     simp(disch:=omega) only[go_sem,↓reduceIte,e0,e3,hlt',hfl,gk,gp,hwk,hkp,q1',q2',Int.toNat_natCast];refine Rm.refl ⟨?_,rfl⟩;have:Kv l=false:=by
      rw[<-Bool.not_eq_true,Xa];intro h;have:=h (k-1) (by omega);rw[y2] at this;have e:k-1+1=k:=by omega
      simp only[e] at this;rw[y1] at this;cases this
     rw[this]
    ·have q2': ¬(0:Int)<(l[k-1].c.length:Int):=by omega
     have y2:l[k-1].c.isEmpty=true:=by rw[Aq];exact decide_eq_true (by omega)
     simp(disch:=omega) only[go_sem,↓reduceIte,e0,e3,hlt',hfl,gk,gp,hwk,hkp,q1',q2',Int.toNat_natCast];refine⟨k+1,_,Rd.refl _,(hI _ _ _).2 ?_,by omega⟩;simp(disch:=omega) only[go_sem,↓reduceIte,e0,e3,hwd];(repeat' apply And.intro)<;>(try first | rfl | assumption | omega);exact Ao0 hn hlt fun _=>by rw[y2];rfl
   ·have q1': ¬(l[k].c.length:Int)=0:=by omega
    have y1:l[k].c.isEmpty=false:=by rw[Aq];exact decide_eq_false q1
    simp(disch:=omega) only[go_sem,↓reduceIte,e0,e3,hlt',hfl,gk,q1',Int.toNat_natCast];refine⟨k+1,_,Rd.refl _,(hI _ _ _).2 ?_,by omega⟩;simp(disch:=omega) only[go_sem,↓reduceIte,e0,e3,hwd];(repeat' apply And.intro)<;>(try first | rfl | assumption | omega);exact Ao0 hn hlt fun _=>by rw[y1];simp
  ·have hlt': ¬(k:Int)<(l.length:Int):=by omega
   simp(disch:=omega) only[go_sem,↓reduceIte,e0,e3,hlt'];exact Rm.refl ⟨by rw[Xa.2 fun i h=>hn i (by omega) h],rfl⟩
theorem Zm (G:Nat->DVal) (H:Bb) (l:List As) (hl:l.length<=1099511627776):Bh Tryz.prog G 205 [.vslice (l.flatMap dAs) l.length] H (Bt (.bool (Kd l)) H):=by
 have hfl:=Bq Cr l;refine Bc Tryz.func205 Tryz.call205 rfl (by kernel_rfl) ?_;by_cases h1:l.length<1
 ·have h1':(l.length:Int)<1:=by omega
  simp(disch:=omega) only[go_sem,↓reduceIte,h1'];exact Rm.refl ⟨by rw[Kd,decide_eq_false (show¬0<l.length by omega),Bool.false_and,Bool.false_and,Bool.false_and],rfl⟩
 have h1': ¬(l.length:Int)<1:=by omega
 by_cases h2:8<l.length
 ·have h2':(8:Int)<(l.length:Int):=by omega
  simp(disch:=omega) only[go_sem,↓reduceIte,h1',h2'];exact Rm.refl ⟨by rw[Kd,decide_eq_false (show¬l.length<=8 by omega),Bool.and_false,Bool.false_and,Bool.false_and],rfl⟩
 have h2': ¬(8:Int)<(l.length:Int):=by omega
 simp(disch:=omega) only[go_sem,↓reduceIte,h1',h2'];refine(Ym G _ l hl).mono ?_;rintro _ H1 ⟨rfl,rfl⟩;have hd:Kd l=(Kv l&&l.all fun a=>a.c.isEmpty || Da a.c):=by
  rw[Kd,decide_eq_true (show 0<l.length by omega),decide_eq_true (show l.length<=8 by omega),Bool.true_and,Bool.true_and]
 rw[hd];cases h3:Kv l with
 | false=>
  simp(disch:=omega) only[go_sem,↓reduceIte];exact Rm.refl ⟨rfl,rfl⟩
 | true=>
  simp(disch:=omega) only[go_sem,↓reduceIte];obtain⟨I,hI⟩: ∃I:Nat->(Nat->DVal)->Bb->Prop,∀k env heap,I k env heap↔(env 0= .vslice (l.flatMap dAs) l.length/\env 3=dI k/\k<=l.length/\(∀a∈l.take k,(a.c.isEmpty || Da a.c)=true)/\heap=H1):=⟨_,fun _ _ _=>Iff.rfl⟩;refine Cn3.run I (fun k=>l.length-k) 0 ((hI _ _ _).2 ?_) ?_
  ·simp(disch:=omega) only[go_sem,↓reduceIte];(repeat' apply And.intro)<;>(try first | rfl | assumption | omega);intro a ha;simp at ha
  ·intro k env heap hi;obtain⟨e0,e3,hk,hn,rfl⟩:=(hI _ _ _).1 hi;by_cases hlt:k<l.length
   ·have hlt':(k:Int)<(l.length:Int):=by omega
    have gk:=Cy Cr l k hlt 0 (by decide);rw[Yi,Nat.add_zero] at gk;have hwd:IntKind.i64.wrap ((k:Int)+1)=((k+1:Nat):Int):=by rw[IntKind.wrap_i64];omega
    obtain⟨a,ha⟩: ∃a,a=l[k]:=⟨_,rfl⟩;rw[<-ha] at gk;have no:(a.c.isEmpty || Da a.c)=false->(l.all fun a=>a.c.isEmpty || Da a.c)=false:=fun h=>by
     rw[List.all_eq_false];exact⟨l[k],List.getElem_mem hlt,by rw[<-ha,h];simp⟩
    have yes:(a.c.isEmpty || Da a.c)=true-> ∀x∈l.take (k+1),(x.c.isEmpty || Da x.c)=true:=fun h=>Hm (p:=fun x=>(x.c.isEmpty || Da x.c)=true) hlt hn (by rw[<-ha];exact h);have hfc:=Bq Cu a.c;by_cases q1:1<a.c.length
    ·have q1':(1:Int)<(a.c.length:Int):=by omega
     have hs:(a.c.isEmpty || Da a.c)=false:=by
      rw[Aq,decide_eq_false (by omega),Bool.false_or];unfold Da;split
      ·rename_i h;rw[h] at q1;simp at q1
      ·rfl
     simp(disch:=omega) only[go_sem,↓reduceIte,e0,e3,hlt',hfl,gk,q1',Int.toNat_natCast];exact Rm.refl ⟨by rw[no hs],rfl⟩
    have q1': ¬(1:Int)<(a.c.length:Int):=by omega
    by_cases q2:a.c.length=1
    ·have q2':(a.c.length:Int)=1:=by omega
     obtain⟨g0,g1⟩:=ch0 (l:=a.c) (by omega);obtain⟨c,hc⟩:=List.length_eq_one_iff.1 q2;have ec:a.c[0]=c:=by simp [hc]
     rw[ec] at g0 g1;have he:a.c.isEmpty=false:=by rw[hc];rfl
     by_cases q3:c.kind=1
     ·by_cases q4:c.l.length=1
      ·have q4':(c.l.length:Int)=1:=by omega
       have g2:=Eb7 (l:=c.l) (by omega);have hfe:=Bq Aa c.l;obtain⟨x,hx⟩:=List.length_eq_one_iff.1 q4;have e:c.l[0]=x:=by simp [hx]
       rw[e] at g2;have hs:Da a.c=decide (x.kind=3):=by rw[hc];simp [Da,q3,hx]
       by_cases q5:x.kind=3
       ·simp(disch:=omega) only[go_sem,↓reduceIte,e0,e3,hlt',hfl,gk,q1',q2',g0,g1,q3,q4',g2,hfe,hfc,q5,Int.toNat_natCast];refine⟨k+1,_,Rd.refl _,(hI _ _ _).2 ?_,by omega⟩;simp(disch:=omega) only[go_sem,↓reduceIte,e0,e3,hwd];(repeat' apply And.intro)<;>(try first | rfl | assumption | omega);exact yes (by rw[hs,decide_eq_true q5,Bool.or_true])
       ·simp(disch:=omega) only[go_sem,↓reduceIte,e0,e3,hlt',hfl,gk,q1',q2',g0,g1,q3,q4',g2,hfe,hfc,q5,Int.toNat_natCast];exact Rm.refl ⟨by rw[no (by rw[he,hs,decide_eq_false q5];rfl)],rfl⟩
      ·have q4': ¬(c.l.length:Int)=1:=by omega
       have hs:Da a.c=false:=by
        rw[hc,Da];split
        ·rename_i hx;rw[hx] at q4;simp at q4
        ·simp
       simp(disch:=omega) only[go_sem,↓reduceIte,e0,e3,hlt',hfl,gk,q1',q2',g0,g1,q3,q4',hfc,Int.toNat_natCast];exact Rm.refl ⟨by rw[no (by rw[he,hs];rfl)],rfl⟩
     ·simp(disch:=omega) only[go_sem,↓reduceIte,e0,e3,hlt',hfl,gk,q1',q2',g0,g1,q3,hfc,Int.toNat_natCast];exact Rm.refl ⟨by rw[no (by rw[he,hc];simp [Da,q3])],rfl⟩
    ·have q2': ¬(a.c.length:Int)=1:=by omega
     simp(disch:=omega) only[go_sem,↓reduceIte,e0,e3,hlt',hfl,gk,q1',q2',Int.toNat_natCast];refine⟨k+1,_,Rd.refl _,(hI _ _ _).2 ?_,by omega⟩;simp(disch:=omega) only[go_sem,↓reduceIte,e0,e3,hwd];(repeat' apply And.intro)<;>(try first | rfl | assumption | omega);exact yes (by rw[Aq,decide_eq_true (by omega),Bool.true_or])
   ·have:k=l.length:=by omega
    subst this;rw[List.take_length] at hn;simp(disch:=omega) only[go_sem,↓reduceIte,e0,e3];exact Rm.refl ⟨by simp [List.all_eq_true.2 hn],rfl⟩
theorem Np (G:Nat->DVal) (H:Bb) (l:List Ch) (hl:l.length<=1099511627776):Bh Tryz.prog G 224 [.vslice (l.flatMap dCh) l.length] H (Bt (.bool (Fh l)) H):=by
 have hfl:=Bq Cu l;refine Bc Tryz.func224 Tryz.call224 rfl (by kernel_rfl) ?_;by_cases h1:l.length<1
 ·have h1':(l.length:Int)<1:=by omega
  simp(disch:=omega) only[go_sem,↓reduceIte,h1'];exact Rm.refl ⟨by rw[Fh,decide_eq_false (show¬0<l.length by omega),Bool.false_and,Bool.false_and],rfl⟩
 have h1': ¬(l.length:Int)<1:=by omega
 by_cases h2:16<l.length
 ·have h2':(16:Int)<(l.length:Int):=by omega
  simp(disch:=omega) only[go_sem,↓reduceIte,h1',h2'];exact Rm.refl ⟨by rw[Fh,decide_eq_false (show¬l.length<=16 by omega),Bool.and_false,Bool.false_and],rfl⟩
 have h2': ¬(16:Int)<(l.length:Int):=by omega
 have hd:Fh l=l.all (Em l.length):=by
  rw[Fh,decide_eq_true (show 0<l.length by omega),decide_eq_true (show l.length<=16 by omega),Bool.true_and,Bool.true_and]
 rw[hd];simp(disch:=omega) only[go_sem,↓reduceIte,h1',h2'];obtain⟨I,hI⟩: ∃I:Nat->(Nat->DVal)->Bb->Prop,∀k env heap,I k env heap↔(env 0= .vslice (l.flatMap dCh) l.length/\env 3=dI k/\k<=l.length/\(∀a∈l.take k,Em l.length a=true)/\heap=H):=⟨_,fun _ _ _=>Iff.rfl⟩;refine Cn3.run I (fun k=>l.length-k) 0 ((hI _ _ _).2 ?_) ?_
 ·simp(disch:=omega) only[go_sem,↓reduceIte];(repeat' apply And.intro)<;>(try first | rfl | assumption | omega);intro a ha;simp at ha
 ·intro k env heap hi;obtain⟨e0,e3,hk,hn,rfl⟩:=(hI _ _ _).1 hi;by_cases hlt:k<l.length
  ·have hlt':(k:Int)<(l.length:Int):=by omega
   have gk:=Cy Cu l k hlt 0 (by decide);have gl:=Cy Cu l k hlt 1 (by decide);rw[Bx3,Nat.add_zero] at gk;rw[An8] at gl;have hwd:IntKind.i64.wrap ((k:Int)+1)=((k+1:Nat):Int):=by rw[IntKind.wrap_i64];omega
   have no:Em l.length l[k]=false->l.all (Em l.length)=false:=fun h=>by
    rw[List.all_eq_false];exact⟨l[k],List.getElem_mem hlt,by rw[h];simp⟩
   have yes:Em l.length l[k]=true-> ∀x∈l.take (k+1),Em l.length x=true:=fun h=>Hm (p:=fun x=>Em l.length x=true) hlt hn h;obtain⟨c,hc⟩: ∃c,c=l[k]:=⟨_,rfl⟩;rw[<-hc] at gk gl no yes;by_cases k1:c.kind=1
   ·by_cases q:c.l.length=1
    ·have q':(c.l.length:Int)=1:=by omega
     simp(disch:=omega) only[go_sem,↓reduceIte,e0,e3,hlt',hfl,gk,gl,k1,q',Int.toNat_natCast];refine⟨k+1,_,Rd.refl _,(hI _ _ _).2 ?_,by omega⟩;simp(disch:=omega) only[go_sem,↓reduceIte,e0,e3,hwd];(repeat' apply And.intro)<;>(try first | rfl | assumption | omega);exact yes (by simp [Em,k1,q])
    ·have q': ¬(c.l.length:Int)=1:=by omega
     simp(disch:=omega) only[go_sem,↓reduceIte,e0,e3,hlt',hfl,gk,gl,k1,q',Int.toNat_natCast];exact Rm.refl ⟨by rw[no (by simp [Em,k1,q])],rfl⟩
   by_cases k2:c.kind=2
   ·by_cases q:c.l.length=2
    ·have q':(c.l.length:Int)=2:=by omega
     simp(disch:=omega) only[go_sem,↓reduceIte,e0,e3,hlt',hfl,gk,gl,k2,q',Int.toNat_natCast];refine⟨k+1,_,Rd.refl _,(hI _ _ _).2 ?_,by omega⟩;simp(disch:=omega) only[go_sem,↓reduceIte,e0,e3,hwd];(repeat' apply And.intro)<;>(try first | rfl | assumption | omega);exact yes (by simp [Em,k2,q])
    ·have q': ¬(c.l.length:Int)=2:=by omega
     simp(disch:=omega) only[go_sem,↓reduceIte,e0,e3,hlt',hfl,gk,gl,k2,q',Int.toNat_natCast];exact Rm.refl ⟨by rw[no (by simp [Em,k2,q])],rfl⟩
   by_cases k3:c.kind=3
   ·by_cases q:c.l.length=0
    ·have q':(c.l.length:Int)=0:=by omega
     by_cases q2:1<l.length
     ·have q2':(1:Int)<(l.length:Int):=by omega
      simp(disch:=omega) only[go_sem,↓reduceIte,e0,e3,hlt',hfl,gk,gl,k3,q',q2',Int.toNat_natCast];exact Rm.refl ⟨by rw[no (by simp [Em,k3,q];omega)],rfl⟩
     ·have q2': ¬(1:Int)<(l.length:Int):=by omega
      simp(disch:=omega) only[go_sem,↓reduceIte,e0,e3,hlt',hfl,gk,gl,k3,q',q2',Int.toNat_natCast];refine⟨k+1,_,Rd.refl _,(hI _ _ _).2 ?_,by omega⟩;simp(disch:=omega) only[go_sem,↓reduceIte,e0,e3,hwd];(repeat' apply And.intro)<;>(try first | rfl | assumption | omega);exact yes (by simp [Em,k3,q];omega)
    ·have q': ¬(c.l.length:Int)=0:=by omega
     simp(disch:=omega) only[go_sem,↓reduceIte,e0,e3,hlt',hfl,gk,gl,k3,q',Int.toNat_natCast];exact Rm.refl ⟨by rw[no (by simp [Em,k3,q])],rfl⟩
   ·have q': ¬(c.l.length:Int)= -1:=by omega
    simp(disch:=omega) only[go_sem,↓reduceIte,e0,e3,hlt',hfl,gk,gl,k1,k2,k3,q',Int.toNat_natCast];exact Rm.refl ⟨by rw[no (by simp [Em,k1,k2,k3])],rfl⟩
  ·have:k=l.length:=by omega
   subst this;rw[List.take_length] at hn;simp(disch:=omega) only[go_sem,↓reduceIte,e0,e3];exact Rm.refl ⟨by rw[List.all_eq_true.2 hn],rfl⟩
end
end Go.Dl
