/- The data level and the contracts of the functions that are reached (part 5). -/
import Derived.RecoverIn
import Derived.Test.YtkieniphnglaaaaGreatDoorPcd
set_option linter.unusedSimpArgs false
set_option linter.unusedVariables false
set_option linter.unusedSectionVars false
-- Chapter 3: what is valid: the fields of an expression (printed by gen_u6.py).
namespace Go.Dl
open Go Go.Proofs
set_option maxRecDepth 100000
section
variable {G:Nat->DVal} {H:Ab}
set_option maxHeartbeats 4000000 in
theorem Bc3 (hG:GX G) (H:Ab) (e:Ex) (hb:Cp e<=1099511627776) (hs:e.s.length<=9223372036854775807):Ah Tryz.prog G 125 [.agg (dEx e)] H (Bp (.bool (Ae e)) H):=by
 have hal:= @Dj7 e;have hll:= @Dj6 e;have hfl:=Bj Aj e.l;have hac: ∀a∈e.a,a.c.length<=1099511627776:=fun a ha=>by
  have h1:=Bn4 ha;have h2:=Rh a.c;rw[Ur] at h1;omega
 have s1:Ck (dEx e) 0 [DVal.int .u8 0]= [DVal.int .u8 0,DVal.int .u8 e.oper,DVal.int .i64 e.n,DVal.str e.s,DVal.vslice (e.l.flatMap dEx) e.l.length,DVal.vslice (e.a.flatMap dAs) e.a.length,DVal.int .i64 e.line,DVal.int .i64 e.ent,DVal.int .i64 e.t]:=by rw[Ju];rfl
 have s2:Ck [DVal.int .u8 0,DVal.int .u8 e.oper,DVal.int .i64 e.n,DVal.str e.s,DVal.vslice (e.l.flatMap dEx) e.l.length,DVal.vslice (e.a.flatMap dAs) e.a.length,DVal.int .i64 e.line,DVal.int .i64 e.ent,DVal.int .i64 e.t] 6 [DVal.int .i64 0]= [DVal.int .u8 0,DVal.int .u8 e.oper,DVal.int .i64 e.n,DVal.str e.s,DVal.vslice (e.l.flatMap dEx) e.l.length,DVal.vslice (e.a.flatMap dAs) e.a.length,DVal.int .i64 0,DVal.int .i64 e.ent,DVal.int .i64 e.t]:=rfl;have s3:Ck [DVal.int .u8 0,DVal.int .u8 e.oper,DVal.int .i64 e.n,DVal.str e.s,DVal.vslice (e.l.flatMap dEx) e.l.length,DVal.vslice (e.a.flatMap dAs) e.a.length,DVal.int .i64 0,DVal.int .i64 e.ent,DVal.int .i64 e.t] 7 [DVal.int .i64 0]= [DVal.int .u8 0,DVal.int .u8 e.oper,DVal.int .i64 e.n,DVal.str e.s,DVal.vslice (e.l.flatMap dEx) e.l.length,DVal.vslice (e.a.flatMap dAs) e.a.length,DVal.int .i64 0,DVal.int .i64 0,DVal.int .i64 e.t]:=rfl;have s4:Ck [DVal.int .u8 0,DVal.int .u8 e.oper,DVal.int .i64 e.n,DVal.str e.s,DVal.vslice (e.l.flatMap dEx) e.l.length,DVal.vslice (e.a.flatMap dAs) e.a.length,DVal.int .i64 0,DVal.int .i64 0,DVal.int .i64 e.t] 8 [DVal.int .i64 0]= [DVal.int .u8 0,DVal.int .u8 e.oper,DVal.int .i64 e.n,DVal.str e.s,DVal.vslice (e.l.flatMap dEx) e.l.length,DVal.vslice (e.a.flatMap dAs) e.a.length,DVal.int .i64 0,DVal.int .i64 0,DVal.int .i64 0]:=rfl;have s5:Ck [DVal.int .u8 0,DVal.int .u8 e.oper,DVal.int .i64 e.n,DVal.str e.s,DVal.vslice (e.l.flatMap dEx) e.l.length,DVal.vslice (e.a.flatMap dAs) e.a.length,DVal.int .i64 0,DVal.int .i64 0,DVal.int .i64 0] 4 [DVal.nilSlice]= [DVal.int .u8 0,DVal.int .u8 e.oper,DVal.int .i64 e.n,DVal.str e.s,DVal.nilSlice,DVal.vslice (e.a.flatMap dAs) e.a.length,DVal.int .i64 0,DVal.int .i64 0,DVal.int .i64 0]:=rfl;have sO:Ck [DVal.int .u8 0,DVal.int .u8 e.oper,DVal.int .i64 e.n,DVal.str e.s,DVal.nilSlice,DVal.vslice (e.a.flatMap dAs) e.a.length,DVal.int .i64 0,DVal.int .i64 0,DVal.int .i64 0] 1 [DVal.int .u8 0]= [DVal.int .u8 0,DVal.int .u8 0,DVal.int .i64 e.n,DVal.str e.s,DVal.nilSlice,DVal.vslice (e.a.flatMap dAs) e.a.length,DVal.int .i64 0,DVal.int .i64 0,DVal.int .i64 0]:=rfl;have sN:Ck [DVal.int .u8 0,DVal.int .u8 e.oper,DVal.int .i64 e.n,DVal.str e.s,DVal.nilSlice,DVal.vslice (e.a.flatMap dAs) e.a.length,DVal.int .i64 0,DVal.int .i64 0,DVal.int .i64 0] 2 [DVal.int .i64 0]= [DVal.int .u8 0,DVal.int .u8 e.oper,DVal.int .i64 0,DVal.str e.s,DVal.nilSlice,DVal.vslice (e.a.flatMap dAs) e.a.length,DVal.int .i64 0,DVal.int .i64 0,DVal.int .i64 0]:=rfl;have sS:Ck [DVal.int .u8 0,DVal.int .u8 e.oper,DVal.int .i64 e.n,DVal.str e.s,DVal.nilSlice,DVal.vslice (e.a.flatMap dAs) e.a.length,DVal.int .i64 0,DVal.int .i64 0,DVal.int .i64 0] 3 [DVal.str []]= [DVal.int .u8 0,DVal.int .u8 e.oper,DVal.int .i64 e.n,DVal.str [],DVal.nilSlice,DVal.vslice (e.a.flatMap dAs) e.a.length,DVal.int .i64 0,DVal.int .i64 0,DVal.int .i64 0]:=rfl;have sA:Ck [DVal.int .u8 0,DVal.int .u8 e.oper,DVal.int .i64 e.n,DVal.str e.s,DVal.nilSlice,DVal.vslice (e.a.flatMap dAs) e.a.length,DVal.int .i64 0,DVal.int .i64 0,DVal.int .i64 0] 5 [DVal.nilSlice]= [DVal.int .u8 0,DVal.int .u8 e.oper,DVal.int .i64 e.n,DVal.str e.s,DVal.nilSlice,DVal.nilSlice,DVal.int .i64 0,DVal.int .i64 0,DVal.int .i64 0]:=rfl;refine Ac Tryz.func125 Tryz.call125 rfl (by kernel_rfl) ?_;simp(disch:=omega) only[go_sem,↓reduceIte,DVal.cells];intro r1 hr1;dsimp only at hr1;simp(disch:=omega) only[go_sem,↓reduceIte,DVal.cells];intro r3 hr3;dsimp only at hr3;obtain⟨m1,m2,hr3'⟩:=Dj1.1 hr3;by_cases k1:e.kind=1
 ·skip
  by_cases clen0:e.l.length=0
  ·have clen0':(e.l.length:Int)=0:=by omega
   by_cases ca:0<=e.n
   ·by_cases cb:e.n<=2147483647
    ·skip
     by_cases zo:e.oper=0
     ·skip
      by_cases zs:e.s= []
      ·skip
       by_cases za:e.a.length=0
       ·have za':(e.a.length:Int)=0:=by omega
        have ya:e.a= []:=List.length_eq_zero_iff.1 za;simp(disch:=omega) only[go_sem,↓reduceIte,m1,m2,s1,s2,s3,s4,s5,sO,sN,sS,sA,List.length_cons,List.length_nil,k1,clen0',ca,cb,zo,zs,za'];exact Pm.sub (show Sub H _ from(by repeat (first | exact Sub.refl _ | assumption | refine Sub.up ?_ (by assumption) _))) (Pm.refl ⟨by simp [Ae,zO,zN,zS,zA,Ad,k1,clen0,ca,cb,zo,zs,ya],rfl⟩)
       ·have za': ¬((e.a.length:Int)=0):=by omega
        simp(disch:=omega) only[go_sem,↓reduceIte,m1,m2,s1,s2,s3,s4,s5,sO,sN,sS,sA,List.length_cons,List.length_nil,k1,clen0',ca,cb,zo,zs,za'];exact Pm.sub (show Sub H _ from(by repeat (first | exact Sub.refl _ | assumption | refine Sub.up ?_ (by assumption) _))) (Pm.refl ⟨by simp [Ae,zO,zN,zS,zA,Ad,k1,clen0,ca,cb,zo,zs,za],rfl⟩)
      ·skip
       simp(disch:=omega) only[go_sem,↓reduceIte,m1,m2,s1,s2,s3,s4,s5,sO,sN,sS,sA,List.length_cons,List.length_nil,k1,clen0',ca,cb,zo,zs];exact Pm.sub (show Sub H _ from(by repeat (first | exact Sub.refl _ | assumption | refine Sub.up ?_ (by assumption) _))) (Pm.refl ⟨by simp [Ae,zO,zN,zS,zA,Ad,k1,clen0,ca,cb,zo,zs],rfl⟩)
     ·skip
      simp(disch:=omega) only[go_sem,↓reduceIte,m1,m2,s1,s2,s3,s4,s5,sO,sN,sS,sA,List.length_cons,List.length_nil,k1,clen0',ca,cb,zo];exact Pm.sub (show Sub H _ from(by repeat (first | exact Sub.refl _ | assumption | refine Sub.up ?_ (by assumption) _))) (Pm.refl ⟨by simp [Ae,zO,zN,zS,zA,Ad,k1,clen0,ca,cb,zo],rfl⟩)
    ·simp(disch:=omega) only[go_sem,↓reduceIte,m1,m2,s1,s2,s3,s4,s5,sO,sN,sS,sA,List.length_cons,List.length_nil,k1,clen0',ca,cb];exact Pm.sub (show Sub H _ from(by repeat (first | exact Sub.refl _ | assumption | refine Sub.up ?_ (by assumption) _))) (Pm.refl ⟨by simp [Ae,zO,zN,zS,zA,Ad,k1,clen0,ca,cb],rfl⟩)
   ·simp(disch:=omega) only[go_sem,↓reduceIte,m1,m2,s1,s2,s3,s4,s5,sO,sN,sS,sA,List.length_cons,List.length_nil,k1,clen0',ca];exact Pm.sub (show Sub H _ from(by repeat (first | exact Sub.refl _ | assumption | refine Sub.up ?_ (by assumption) _))) (Pm.refl ⟨by simp [Ae,zO,zN,zS,zA,Ad,k1,clen0,ca],rfl⟩)
  ·have clen0': ¬((e.l.length:Int)=0):=by omega
   simp(disch:=omega) only[go_sem,↓reduceIte,m1,m2,s1,s2,s3,s4,s5,sO,sN,sS,sA,List.length_cons,List.length_nil,k1,clen0'];exact Pm.sub (show Sub H _ from(by repeat (first | exact Sub.refl _ | assumption | refine Sub.up ?_ (by assumption) _))) (Pm.refl ⟨by simp [Ae,zO,zN,zS,zA,Ad,k1,clen0],rfl⟩)
 by_cases k2:e.kind=2
 ·skip
  by_cases clen0:e.l.length=0
  ·have clen0':(e.l.length:Int)=0:=by omega
   by_cases zo:e.oper=0
   ·skip
    by_cases zn:e.n=0
    ·skip
     by_cases zs:e.s= []
     ·skip
      by_cases za:e.a.length=0
      ·have za':(e.a.length:Int)=0:=by omega
       have ya:e.a= []:=List.length_eq_zero_iff.1 za;simp(disch:=omega) only[go_sem,↓reduceIte,m1,m2,s1,s2,s3,s4,s5,sO,sN,sS,sA,List.length_cons,List.length_nil,k2,clen0',zo,zn,zs,za'];exact Pm.sub (show Sub H _ from(by repeat (first | exact Sub.refl _ | assumption | refine Sub.up ?_ (by assumption) _))) (Pm.refl ⟨by simp [Ae,zO,zN,zS,zA,Ad,k2,clen0,zo,zn,zs,ya],rfl⟩)
      ·have za': ¬((e.a.length:Int)=0):=by omega
       simp(disch:=omega) only[go_sem,↓reduceIte,m1,m2,s1,s2,s3,s4,s5,sO,sN,sS,sA,List.length_cons,List.length_nil,k2,clen0',zo,zn,zs,za'];exact Pm.sub (show Sub H _ from(by repeat (first | exact Sub.refl _ | assumption | refine Sub.up ?_ (by assumption) _))) (Pm.refl ⟨by simp [Ae,zO,zN,zS,zA,Ad,k2,clen0,zo,zn,zs,za],rfl⟩)
     ·skip
      simp(disch:=omega) only[go_sem,↓reduceIte,m1,m2,s1,s2,s3,s4,s5,sO,sN,sS,sA,List.length_cons,List.length_nil,k2,clen0',zo,zn,zs];exact Pm.sub (show Sub H _ from(by repeat (first | exact Sub.refl _ | assumption | refine Sub.up ?_ (by assumption) _))) (Pm.refl ⟨by simp [Ae,zO,zN,zS,zA,Ad,k2,clen0,zo,zn,zs],rfl⟩)
    ·skip
     simp(disch:=omega) only[go_sem,↓reduceIte,m1,m2,s1,s2,s3,s4,s5,sO,sN,sS,sA,List.length_cons,List.length_nil,k2,clen0',zo,zn];exact Pm.sub (show Sub H _ from(by repeat (first | exact Sub.refl _ | assumption | refine Sub.up ?_ (by assumption) _))) (Pm.refl ⟨by simp [Ae,zO,zN,zS,zA,Ad,k2,clen0,zo,zn],rfl⟩)
   ·skip
    simp(disch:=omega) only[go_sem,↓reduceIte,m1,m2,s1,s2,s3,s4,s5,sO,sN,sS,sA,List.length_cons,List.length_nil,k2,clen0',zo];exact Pm.sub (show Sub H _ from(by repeat (first | exact Sub.refl _ | assumption | refine Sub.up ?_ (by assumption) _))) (Pm.refl ⟨by simp [Ae,zO,zN,zS,zA,Ad,k2,clen0,zo],rfl⟩)
  ·have clen0': ¬((e.l.length:Int)=0):=by omega
   simp(disch:=omega) only[go_sem,↓reduceIte,m1,m2,s1,s2,s3,s4,s5,sO,sN,sS,sA,List.length_cons,List.length_nil,k2,clen0'];exact Pm.sub (show Sub H _ from(by repeat (first | exact Sub.refl _ | assumption | refine Sub.up ?_ (by assumption) _))) (Pm.refl ⟨by simp [Ae,zO,zN,zS,zA,Ad,k2,clen0],rfl⟩)
 by_cases k3:e.kind=3
 ·skip
  by_cases clen0:e.l.length=0
  ·have clen0':(e.l.length:Int)=0:=by omega
   simp(disch:=omega) only[go_sem,↓reduceIte,m1,m2,s1,s2,s3,s4,s5,sO,sN,sS,sA,List.length_cons,List.length_nil,k3,clen0'];refine(Sr hG _ e.s hs).mono ?_;rintro _ H1 ⟨rfl,rfl⟩;cases vname:Lx e.s with
   | true=>
    by_cases zo:e.oper=0
    ·skip
     by_cases zn:e.n=0
     ·skip
      by_cases za:e.a.length=0
      ·have za':(e.a.length:Int)=0:=by omega
       have ya:e.a= []:=List.length_eq_zero_iff.1 za;simp(disch:=omega) only[go_sem,↓reduceIte,m1,m2,s1,s2,s3,s4,s5,sO,sN,sS,sA,List.length_cons,List.length_nil,k3,clen0',zo,zn,za'];exact Pm.sub (show Sub H _ from(by repeat (first | exact Sub.refl _ | assumption | refine Sub.up ?_ (by assumption) _))) (Pm.refl ⟨by simp [Ae,zO,zN,zS,zA,Ad,k3,clen0,vname,zo,zn,ya],rfl⟩)
      ·have za': ¬((e.a.length:Int)=0):=by omega
       simp(disch:=omega) only[go_sem,↓reduceIte,m1,m2,s1,s2,s3,s4,s5,sO,sN,sS,sA,List.length_cons,List.length_nil,k3,clen0',zo,zn,za'];exact Pm.sub (show Sub H _ from(by repeat (first | exact Sub.refl _ | assumption | refine Sub.up ?_ (by assumption) _))) (Pm.refl ⟨by simp [Ae,zO,zN,zS,zA,Ad,k3,clen0,vname,zo,zn,za],rfl⟩)
     ·skip
      simp(disch:=omega) only[go_sem,↓reduceIte,m1,m2,s1,s2,s3,s4,s5,sO,sN,sS,sA,List.length_cons,List.length_nil,k3,clen0',zo,zn];exact Pm.sub (show Sub H _ from(by repeat (first | exact Sub.refl _ | assumption | refine Sub.up ?_ (by assumption) _))) (Pm.refl ⟨by simp [Ae,zO,zN,zS,zA,Ad,k3,clen0,vname,zo,zn],rfl⟩)
    ·skip
     simp(disch:=omega) only[go_sem,↓reduceIte,m1,m2,s1,s2,s3,s4,s5,sO,sN,sS,sA,List.length_cons,List.length_nil,k3,clen0',zo];exact Pm.sub (show Sub H _ from(by repeat (first | exact Sub.refl _ | assumption | refine Sub.up ?_ (by assumption) _))) (Pm.refl ⟨by simp [Ae,zO,zN,zS,zA,Ad,k3,clen0,vname,zo],rfl⟩)
   | false=>
    simp(disch:=omega) only[go_sem,↓reduceIte,m1,m2,s1,s2,s3,s4,s5,sO,sN,sS,sA,List.length_cons,List.length_nil,k3,clen0'];exact Pm.sub (show Sub H _ from(by repeat (first | exact Sub.refl _ | assumption | refine Sub.up ?_ (by assumption) _))) (Pm.refl ⟨by simp [Ae,zO,zN,zS,zA,Ad,k3,clen0,vname],rfl⟩)
  ·have clen0': ¬((e.l.length:Int)=0):=by omega
   simp(disch:=omega) only[go_sem,↓reduceIte,m1,m2,s1,s2,s3,s4,s5,sO,sN,sS,sA,List.length_cons,List.length_nil,k3,clen0'];exact Pm.sub (show Sub H _ from(by repeat (first | exact Sub.refl _ | assumption | refine Sub.up ?_ (by assumption) _))) (Pm.refl ⟨by simp [Ae,zO,zN,zS,zA,Ad,k3,clen0],rfl⟩)
 by_cases k4:e.kind=4
 ·skip
  simp(disch:=omega) only[go_sem,↓reduceIte,m1,m2,s1,s2,s3,s4,s5,sO,sN,sS,sA,List.length_cons,List.length_nil,k4];refine(Mb G _ e 1 (by decide)).mono ?_;rintro _ H1 ⟨rfl,rfl⟩;cases vnamed1:Ev e 1 with
  | true=>
   simp(disch:=omega) only[go_sem,↓reduceIte,m1,m2,s1,s2,s3,s4,s5,sO,sN,sS,sA,List.length_cons,List.length_nil,k4];refine(Sr hG _ e.s hs).mono ?_;rintro _ H1 ⟨rfl,rfl⟩;cases vname:Lx e.s with
   | true=>
    by_cases zo:e.oper=0
    ·skip
     by_cases zn:e.n=0
     ·skip
      by_cases za:e.a.length=0
      ·have za':(e.a.length:Int)=0:=by omega
       have ya:e.a= []:=List.length_eq_zero_iff.1 za;simp(disch:=omega) only[go_sem,↓reduceIte,m1,m2,s1,s2,s3,s4,s5,sO,sN,sS,sA,List.length_cons,List.length_nil,k4,zo,zn,za'];exact Pm.sub (show Sub H _ from(by repeat (first | exact Sub.refl _ | assumption | refine Sub.up ?_ (by assumption) _))) (Pm.refl ⟨by simp [Ae,zO,zN,zS,zA,Ad,k4,vnamed1,vname,zo,zn,ya],rfl⟩)
      ·have za': ¬((e.a.length:Int)=0):=by omega
       simp(disch:=omega) only[go_sem,↓reduceIte,m1,m2,s1,s2,s3,s4,s5,sO,sN,sS,sA,List.length_cons,List.length_nil,k4,zo,zn,za'];exact Pm.sub (show Sub H _ from(by repeat (first | exact Sub.refl _ | assumption | refine Sub.up ?_ (by assumption) _))) (Pm.refl ⟨by simp [Ae,zO,zN,zS,zA,Ad,k4,vnamed1,vname,zo,zn,za],rfl⟩)
     ·skip
      simp(disch:=omega) only[go_sem,↓reduceIte,m1,m2,s1,s2,s3,s4,s5,sO,sN,sS,sA,List.length_cons,List.length_nil,k4,zo,zn];exact Pm.sub (show Sub H _ from(by repeat (first | exact Sub.refl _ | assumption | refine Sub.up ?_ (by assumption) _))) (Pm.refl ⟨by simp [Ae,zO,zN,zS,zA,Ad,k4,vnamed1,vname,zo,zn],rfl⟩)
    ·skip
     simp(disch:=omega) only[go_sem,↓reduceIte,m1,m2,s1,s2,s3,s4,s5,sO,sN,sS,sA,List.length_cons,List.length_nil,k4,zo];exact Pm.sub (show Sub H _ from(by repeat (first | exact Sub.refl _ | assumption | refine Sub.up ?_ (by assumption) _))) (Pm.refl ⟨by simp [Ae,zO,zN,zS,zA,Ad,k4,vnamed1,vname,zo],rfl⟩)
   | false=>
    simp(disch:=omega) only[go_sem,↓reduceIte,m1,m2,s1,s2,s3,s4,s5,sO,sN,sS,sA,List.length_cons,List.length_nil,k4];exact Pm.sub (show Sub H _ from(by repeat (first | exact Sub.refl _ | assumption | refine Sub.up ?_ (by assumption) _))) (Pm.refl ⟨by simp [Ae,zO,zN,zS,zA,Ad,k4,vnamed1,vname],rfl⟩)
  | false=>
   simp(disch:=omega) only[go_sem,↓reduceIte,m1,m2,s1,s2,s3,s4,s5,sO,sN,sS,sA,List.length_cons,List.length_nil,k4];exact Pm.sub (show Sub H _ from(by repeat (first | exact Sub.refl _ | assumption | refine Sub.up ?_ (by assumption) _))) (Pm.refl ⟨by simp [Ae,zO,zN,zS,zA,Ad,k4,vnamed1],rfl⟩)
 by_cases k6:e.kind=6
 ·skip
  simp(disch:=omega) only[go_sem,↓reduceIte,m1,m2,s1,s2,s3,s4,s5,sO,sN,sS,sA,List.length_cons,List.length_nil,k6];refine(Mb G _ e 1 (by decide)).mono ?_;rintro _ H1 ⟨rfl,rfl⟩;cases vnamed1:Ev e 1 with
  | true=>
   simp(disch:=omega) only[go_sem,↓reduceIte,m1,m2,s1,s2,s3,s4,s5,sO,sN,sS,sA,List.length_cons,List.length_nil,k6];refine(Sr hG _ e.s hs).mono ?_;rintro _ H1 ⟨rfl,rfl⟩;cases vname:Lx e.s with
   | true=>
    by_cases zo:e.oper=0
    ·skip
     by_cases zn:e.n=0
     ·skip
      by_cases za:e.a.length=0
      ·have za':(e.a.length:Int)=0:=by omega
       have ya:e.a= []:=List.length_eq_zero_iff.1 za;simp(disch:=omega) only[go_sem,↓reduceIte,m1,m2,s1,s2,s3,s4,s5,sO,sN,sS,sA,List.length_cons,List.length_nil,k6,zo,zn,za'];exact Pm.sub (show Sub H _ from(by repeat (first | exact Sub.refl _ | assumption | refine Sub.up ?_ (by assumption) _))) (Pm.refl ⟨by simp [Ae,zO,zN,zS,zA,Ad,k6,vnamed1,vname,zo,zn,ya],rfl⟩)
      ·have za': ¬((e.a.length:Int)=0):=by omega
       simp(disch:=omega) only[go_sem,↓reduceIte,m1,m2,s1,s2,s3,s4,s5,sO,sN,sS,sA,List.length_cons,List.length_nil,k6,zo,zn,za'];exact Pm.sub (show Sub H _ from(by repeat (first | exact Sub.refl _ | assumption | refine Sub.up ?_ (by assumption) _))) (Pm.refl ⟨by simp [Ae,zO,zN,zS,zA,Ad,k6,vnamed1,vname,zo,zn,za],rfl⟩)
     ·skip
      simp(disch:=omega) only[go_sem,↓reduceIte,m1,m2,s1,s2,s3,s4,s5,sO,sN,sS,sA,List.length_cons,List.length_nil,k6,zo,zn];exact Pm.sub (show Sub H _ from(by repeat (first | exact Sub.refl _ | assumption | refine Sub.up ?_ (by assumption) _))) (Pm.refl ⟨by simp [Ae,zO,zN,zS,zA,Ad,k6,vnamed1,vname,zo,zn],rfl⟩)
    ·skip
     simp(disch:=omega) only[go_sem,↓reduceIte,m1,m2,s1,s2,s3,s4,s5,sO,sN,sS,sA,List.length_cons,List.length_nil,k6,zo];exact Pm.sub (show Sub H _ from(by repeat (first | exact Sub.refl _ | assumption | refine Sub.up ?_ (by assumption) _))) (Pm.refl ⟨by simp [Ae,zO,zN,zS,zA,Ad,k6,vnamed1,vname,zo],rfl⟩)
   | false=>
    simp(disch:=omega) only[go_sem,↓reduceIte,m1,m2,s1,s2,s3,s4,s5,sO,sN,sS,sA,List.length_cons,List.length_nil,k6];exact Pm.sub (show Sub H _ from(by repeat (first | exact Sub.refl _ | assumption | refine Sub.up ?_ (by assumption) _))) (Pm.refl ⟨by simp [Ae,zO,zN,zS,zA,Ad,k6,vnamed1,vname],rfl⟩)
  | false=>
   simp(disch:=omega) only[go_sem,↓reduceIte,m1,m2,s1,s2,s3,s4,s5,sO,sN,sS,sA,List.length_cons,List.length_nil,k6];exact Pm.sub (show Sub H _ from(by repeat (first | exact Sub.refl _ | assumption | refine Sub.up ?_ (by assumption) _))) (Pm.refl ⟨by simp [Ae,zO,zN,zS,zA,Ad,k6,vnamed1],rfl⟩)
 by_cases k5:e.kind=5
 ·skip
  simp(disch:=omega) only[go_sem,↓reduceIte,m1,m2,s1,s2,s3,s4,s5,sO,sN,sS,sA,List.length_cons,List.length_nil,k5];refine(Mb G _ e 1 (by decide)).mono ?_;rintro _ H1 ⟨rfl,rfl⟩;cases vnamed1:Ev e 1 with
  | true=>
   by_cases zo:e.oper=0
   ·skip
    by_cases zn:e.n=0
    ·skip
     by_cases zs:e.s= []
     ·skip
      by_cases za:e.a.length=0
      ·have za':(e.a.length:Int)=0:=by omega
       have ya:e.a= []:=List.length_eq_zero_iff.1 za;simp(disch:=omega) only[go_sem,↓reduceIte,m1,m2,s1,s2,s3,s4,s5,sO,sN,sS,sA,List.length_cons,List.length_nil,k5,zo,zn,zs,za'];exact Pm.sub (show Sub H _ from(by repeat (first | exact Sub.refl _ | assumption | refine Sub.up ?_ (by assumption) _))) (Pm.refl ⟨by simp [Ae,zO,zN,zS,zA,Ad,k5,vnamed1,zo,zn,zs,ya],rfl⟩)
      ·have za': ¬((e.a.length:Int)=0):=by omega
       simp(disch:=omega) only[go_sem,↓reduceIte,m1,m2,s1,s2,s3,s4,s5,sO,sN,sS,sA,List.length_cons,List.length_nil,k5,zo,zn,zs,za'];exact Pm.sub (show Sub H _ from(by repeat (first | exact Sub.refl _ | assumption | refine Sub.up ?_ (by assumption) _))) (Pm.refl ⟨by simp [Ae,zO,zN,zS,zA,Ad,k5,vnamed1,zo,zn,zs,za],rfl⟩)
     ·skip
      simp(disch:=omega) only[go_sem,↓reduceIte,m1,m2,s1,s2,s3,s4,s5,sO,sN,sS,sA,List.length_cons,List.length_nil,k5,zo,zn,zs];exact Pm.sub (show Sub H _ from(by repeat (first | exact Sub.refl _ | assumption | refine Sub.up ?_ (by assumption) _))) (Pm.refl ⟨by simp [Ae,zO,zN,zS,zA,Ad,k5,vnamed1,zo,zn,zs],rfl⟩)
    ·skip
     simp(disch:=omega) only[go_sem,↓reduceIte,m1,m2,s1,s2,s3,s4,s5,sO,sN,sS,sA,List.length_cons,List.length_nil,k5,zo,zn];exact Pm.sub (show Sub H _ from(by repeat (first | exact Sub.refl _ | assumption | refine Sub.up ?_ (by assumption) _))) (Pm.refl ⟨by simp [Ae,zO,zN,zS,zA,Ad,k5,vnamed1,zo,zn],rfl⟩)
   ·skip
    simp(disch:=omega) only[go_sem,↓reduceIte,m1,m2,s1,s2,s3,s4,s5,sO,sN,sS,sA,List.length_cons,List.length_nil,k5,zo];exact Pm.sub (show Sub H _ from(by repeat (first | exact Sub.refl _ | assumption | refine Sub.up ?_ (by assumption) _))) (Pm.refl ⟨by simp [Ae,zO,zN,zS,zA,Ad,k5,vnamed1,zo],rfl⟩)
  | false=>
   simp(disch:=omega) only[go_sem,↓reduceIte,m1,m2,s1,s2,s3,s4,s5,sO,sN,sS,sA,List.length_cons,List.length_nil,k5];exact Pm.sub (show Sub H _ from(by repeat (first | exact Sub.refl _ | assumption | refine Sub.up ?_ (by assumption) _))) (Pm.refl ⟨by simp [Ae,zO,zN,zS,zA,Ad,k5,vnamed1],rfl⟩)
 by_cases k7:e.kind=7
 ·skip
  simp(disch:=omega) only[go_sem,↓reduceIte,m1,m2,s1,s2,s3,s4,s5,sO,sN,sS,sA,List.length_cons,List.length_nil,k7];refine(Mb G _ e 1 (by decide)).mono ?_;rintro _ H1 ⟨rfl,rfl⟩;cases vnamed1:Ev e 1 with
  | true=>
   simp(disch:=omega) only[go_sem,↓reduceIte,m1,m2,s1,s2,s3,s4,s5,sO,sN,sS,sA,List.length_cons,List.length_nil,k7];refine(Ad8 G _ e.a (by omega)).mono ?_;rintro _ H1 ⟨rfl,rfl⟩;cases vargs:Hx e.a with
   | true=>
    by_cases zo:e.oper=0
    ·skip
     by_cases zn:e.n=0
     ·skip
      by_cases zs:e.s= []
      ·skip
       simp(disch:=omega) only[go_sem,↓reduceIte,m1,m2,s1,s2,s3,s4,s5,sO,sN,sS,sA,List.length_cons,List.length_nil,k7,zo,zn,zs];exact Pm.sub (show Sub H _ from(by repeat (first | exact Sub.refl _ | assumption | refine Sub.up ?_ (by assumption) _))) (Pm.refl ⟨by simp [Ae,zO,zN,zS,zA,Ad,k7,vnamed1,vargs,zo,zn,zs],rfl⟩)
      ·skip
       simp(disch:=omega) only[go_sem,↓reduceIte,m1,m2,s1,s2,s3,s4,s5,sO,sN,sS,sA,List.length_cons,List.length_nil,k7,zo,zn,zs];exact Pm.sub (show Sub H _ from(by repeat (first | exact Sub.refl _ | assumption | refine Sub.up ?_ (by assumption) _))) (Pm.refl ⟨by simp [Ae,zO,zN,zS,zA,Ad,k7,vnamed1,vargs,zo,zn,zs],rfl⟩)
     ·skip
      simp(disch:=omega) only[go_sem,↓reduceIte,m1,m2,s1,s2,s3,s4,s5,sO,sN,sS,sA,List.length_cons,List.length_nil,k7,zo,zn];exact Pm.sub (show Sub H _ from(by repeat (first | exact Sub.refl _ | assumption | refine Sub.up ?_ (by assumption) _))) (Pm.refl ⟨by simp [Ae,zO,zN,zS,zA,Ad,k7,vnamed1,vargs,zo,zn],rfl⟩)
    ·skip
     simp(disch:=omega) only[go_sem,↓reduceIte,m1,m2,s1,s2,s3,s4,s5,sO,sN,sS,sA,List.length_cons,List.length_nil,k7,zo];exact Pm.sub (show Sub H _ from(by repeat (first | exact Sub.refl _ | assumption | refine Sub.up ?_ (by assumption) _))) (Pm.refl ⟨by simp [Ae,zO,zN,zS,zA,Ad,k7,vnamed1,vargs,zo],rfl⟩)
   | false=>
    simp(disch:=omega) only[go_sem,↓reduceIte,m1,m2,s1,s2,s3,s4,s5,sO,sN,sS,sA,List.length_cons,List.length_nil,k7];exact Pm.sub (show Sub H _ from(by repeat (first | exact Sub.refl _ | assumption | refine Sub.up ?_ (by assumption) _))) (Pm.refl ⟨by simp [Ae,zO,zN,zS,zA,Ad,k7,vnamed1,vargs],rfl⟩)
  | false=>
   simp(disch:=omega) only[go_sem,↓reduceIte,m1,m2,s1,s2,s3,s4,s5,sO,sN,sS,sA,List.length_cons,List.length_nil,k7];exact Pm.sub (show Sub H _ from(by repeat (first | exact Sub.refl _ | assumption | refine Sub.up ?_ (by assumption) _))) (Pm.refl ⟨by simp [Ae,zO,zN,zS,zA,Ad,k7,vnamed1],rfl⟩)
 by_cases k8:e.kind=8
 ·skip
  simp(disch:=omega) only[go_sem,↓reduceIte,m1,m2,s1,s2,s3,s4,s5,sO,sN,sS,sA,List.length_cons,List.length_nil,k8];refine(Mb G _ e 2 (by decide)).mono ?_;rintro _ H1 ⟨rfl,rfl⟩;cases vnamed2:Ev e 2 with
  | true=>
   by_cases zo:e.oper=0
   ·skip
    by_cases zn:e.n=0
    ·skip
     by_cases zs:e.s= []
     ·skip
      by_cases za:e.a.length=0
      ·have za':(e.a.length:Int)=0:=by omega
       have ya:e.a= []:=List.length_eq_zero_iff.1 za;simp(disch:=omega) only[go_sem,↓reduceIte,m1,m2,s1,s2,s3,s4,s5,sO,sN,sS,sA,List.length_cons,List.length_nil,k8,zo,zn,zs,za'];exact Pm.sub (show Sub H _ from(by repeat (first | exact Sub.refl _ | assumption | refine Sub.up ?_ (by assumption) _))) (Pm.refl ⟨by simp [Ae,zO,zN,zS,zA,Ad,k8,vnamed2,zo,zn,zs,ya],rfl⟩)
      ·have za': ¬((e.a.length:Int)=0):=by omega
       simp(disch:=omega) only[go_sem,↓reduceIte,m1,m2,s1,s2,s3,s4,s5,sO,sN,sS,sA,List.length_cons,List.length_nil,k8,zo,zn,zs,za'];exact Pm.sub (show Sub H _ from(by repeat (first | exact Sub.refl _ | assumption | refine Sub.up ?_ (by assumption) _))) (Pm.refl ⟨by simp [Ae,zO,zN,zS,zA,Ad,k8,vnamed2,zo,zn,zs,za],rfl⟩)
     ·skip
      simp(disch:=omega) only[go_sem,↓reduceIte,m1,m2,s1,s2,s3,s4,s5,sO,sN,sS,sA,List.length_cons,List.length_nil,k8,zo,zn,zs];exact Pm.sub (show Sub H _ from(by repeat (first | exact Sub.refl _ | assumption | refine Sub.up ?_ (by assumption) _))) (Pm.refl ⟨by simp [Ae,zO,zN,zS,zA,Ad,k8,vnamed2,zo,zn,zs],rfl⟩)
    ·skip
     simp(disch:=omega) only[go_sem,↓reduceIte,m1,m2,s1,s2,s3,s4,s5,sO,sN,sS,sA,List.length_cons,List.length_nil,k8,zo,zn];exact Pm.sub (show Sub H _ from(by repeat (first | exact Sub.refl _ | assumption | refine Sub.up ?_ (by assumption) _))) (Pm.refl ⟨by simp [Ae,zO,zN,zS,zA,Ad,k8,vnamed2,zo,zn],rfl⟩)
   ·skip
    simp(disch:=omega) only[go_sem,↓reduceIte,m1,m2,s1,s2,s3,s4,s5,sO,sN,sS,sA,List.length_cons,List.length_nil,k8,zo];exact Pm.sub (show Sub H _ from(by repeat (first | exact Sub.refl _ | assumption | refine Sub.up ?_ (by assumption) _))) (Pm.refl ⟨by simp [Ae,zO,zN,zS,zA,Ad,k8,vnamed2,zo],rfl⟩)
  | false=>
   simp(disch:=omega) only[go_sem,↓reduceIte,m1,m2,s1,s2,s3,s4,s5,sO,sN,sS,sA,List.length_cons,List.length_nil,k8];exact Pm.sub (show Sub H _ from(by repeat (first | exact Sub.refl _ | assumption | refine Sub.up ?_ (by assumption) _))) (Pm.refl ⟨by simp [Ae,zO,zN,zS,zA,Ad,k8,vnamed2],rfl⟩)
 by_cases k9:e.kind=9
 ·skip
  by_cases clen0:e.l.length=0
  ·have clen0':(e.l.length:Int)=0:=by omega
   simp(disch:=omega) only[go_sem,↓reduceIte,m1,m2,s1,s2,s3,s4,s5,sO,sN,sS,sA,List.length_cons,List.length_nil,k9,clen0'];refine(Ut G _ e.a (by omega) hac).mono ?_;rintro _ H1 ⟨rfl,rfl⟩;cases vassocs:Ey e.a with
   | true=>
    by_cases zo:e.oper=0
    ·skip
     by_cases zn:e.n=0
     ·skip
      by_cases zs:e.s= []
      ·skip
       simp(disch:=omega) only[go_sem,↓reduceIte,m1,m2,s1,s2,s3,s4,s5,sO,sN,sS,sA,List.length_cons,List.length_nil,k9,clen0',zo,zn,zs];exact Pm.sub (show Sub H _ from(by repeat (first | exact Sub.refl _ | assumption | refine Sub.up ?_ (by assumption) _))) (Pm.refl ⟨by simp [Ae,zO,zN,zS,zA,Ad,k9,clen0,vassocs,zo,zn,zs],rfl⟩)
      ·skip
       simp(disch:=omega) only[go_sem,↓reduceIte,m1,m2,s1,s2,s3,s4,s5,sO,sN,sS,sA,List.length_cons,List.length_nil,k9,clen0',zo,zn,zs];exact Pm.sub (show Sub H _ from(by repeat (first | exact Sub.refl _ | assumption | refine Sub.up ?_ (by assumption) _))) (Pm.refl ⟨by simp [Ae,zO,zN,zS,zA,Ad,k9,clen0,vassocs,zo,zn,zs],rfl⟩)
     ·skip
      simp(disch:=omega) only[go_sem,↓reduceIte,m1,m2,s1,s2,s3,s4,s5,sO,sN,sS,sA,List.length_cons,List.length_nil,k9,clen0',zo,zn];exact Pm.sub (show Sub H _ from(by repeat (first | exact Sub.refl _ | assumption | refine Sub.up ?_ (by assumption) _))) (Pm.refl ⟨by simp [Ae,zO,zN,zS,zA,Ad,k9,clen0,vassocs,zo,zn],rfl⟩)
    ·skip
     simp(disch:=omega) only[go_sem,↓reduceIte,m1,m2,s1,s2,s3,s4,s5,sO,sN,sS,sA,List.length_cons,List.length_nil,k9,clen0',zo];exact Pm.sub (show Sub H _ from(by repeat (first | exact Sub.refl _ | assumption | refine Sub.up ?_ (by assumption) _))) (Pm.refl ⟨by simp [Ae,zO,zN,zS,zA,Ad,k9,clen0,vassocs,zo],rfl⟩)
   | false=>
    simp(disch:=omega) only[go_sem,↓reduceIte,m1,m2,s1,s2,s3,s4,s5,sO,sN,sS,sA,List.length_cons,List.length_nil,k9,clen0'];exact Pm.sub (show Sub H _ from(by repeat (first | exact Sub.refl _ | assumption | refine Sub.up ?_ (by assumption) _))) (Pm.refl ⟨by simp [Ae,zO,zN,zS,zA,Ad,k9,clen0,vassocs],rfl⟩)
  ·have clen0': ¬((e.l.length:Int)=0):=by omega
   simp(disch:=omega) only[go_sem,↓reduceIte,m1,m2,s1,s2,s3,s4,s5,sO,sN,sS,sA,List.length_cons,List.length_nil,k9,clen0'];exact Pm.sub (show Sub H _ from(by repeat (first | exact Sub.refl _ | assumption | refine Sub.up ?_ (by assumption) _))) (Pm.refl ⟨by simp [Ae,zO,zN,zS,zA,Ad,k9,clen0],rfl⟩)
 by_cases k10:e.kind=10
 ·skip
  by_cases clen3:e.l.length=3
  ·have clen3':(e.l.length:Int)=3:=by omega
   by_cases zo:e.oper=0
   ·skip
    by_cases zn:e.n=0
    ·skip
     by_cases zs:e.s= []
     ·skip
      by_cases za:e.a.length=0
      ·have za':(e.a.length:Int)=0:=by omega
       have ya:e.a= []:=List.length_eq_zero_iff.1 za;simp(disch:=omega) only[go_sem,↓reduceIte,m1,m2,s1,s2,s3,s4,s5,sO,sN,sS,sA,List.length_cons,List.length_nil,k10,clen3',zo,zn,zs,za'];exact Pm.sub (show Sub H _ from(by repeat (first | exact Sub.refl _ | assumption | refine Sub.up ?_ (by assumption) _))) (Pm.refl ⟨by simp [Ae,zO,zN,zS,zA,Ad,k10,clen3,zo,zn,zs,ya],rfl⟩)
      ·have za': ¬((e.a.length:Int)=0):=by omega
       simp(disch:=omega) only[go_sem,↓reduceIte,m1,m2,s1,s2,s3,s4,s5,sO,sN,sS,sA,List.length_cons,List.length_nil,k10,clen3',zo,zn,zs,za'];exact Pm.sub (show Sub H _ from(by repeat (first | exact Sub.refl _ | assumption | refine Sub.up ?_ (by assumption) _))) (Pm.refl ⟨by simp [Ae,zO,zN,zS,zA,Ad,k10,clen3,zo,zn,zs,za],rfl⟩)
     ·skip
      simp(disch:=omega) only[go_sem,↓reduceIte,m1,m2,s1,s2,s3,s4,s5,sO,sN,sS,sA,List.length_cons,List.length_nil,k10,clen3',zo,zn,zs];exact Pm.sub (show Sub H _ from(by repeat (first | exact Sub.refl _ | assumption | refine Sub.up ?_ (by assumption) _))) (Pm.refl ⟨by simp [Ae,zO,zN,zS,zA,Ad,k10,clen3,zo,zn,zs],rfl⟩)
    ·skip
     simp(disch:=omega) only[go_sem,↓reduceIte,m1,m2,s1,s2,s3,s4,s5,sO,sN,sS,sA,List.length_cons,List.length_nil,k10,clen3',zo,zn];exact Pm.sub (show Sub H _ from(by repeat (first | exact Sub.refl _ | assumption | refine Sub.up ?_ (by assumption) _))) (Pm.refl ⟨by simp [Ae,zO,zN,zS,zA,Ad,k10,clen3,zo,zn],rfl⟩)
   ·skip
    simp(disch:=omega) only[go_sem,↓reduceIte,m1,m2,s1,s2,s3,s4,s5,sO,sN,sS,sA,List.length_cons,List.length_nil,k10,clen3',zo];exact Pm.sub (show Sub H _ from(by repeat (first | exact Sub.refl _ | assumption | refine Sub.up ?_ (by assumption) _))) (Pm.refl ⟨by simp [Ae,zO,zN,zS,zA,Ad,k10,clen3,zo],rfl⟩)
  ·have clen3': ¬((e.l.length:Int)=3):=by omega
   simp(disch:=omega) only[go_sem,↓reduceIte,m1,m2,s1,s2,s3,s4,s5,sO,sN,sS,sA,List.length_cons,List.length_nil,k10,clen3'];exact Pm.sub (show Sub H _ from(by repeat (first | exact Sub.refl _ | assumption | refine Sub.up ?_ (by assumption) _))) (Pm.refl ⟨by simp [Ae,zO,zN,zS,zA,Ad,k10,clen3],rfl⟩)
 by_cases k11:e.kind=11
 ·skip
  by_cases clen1:e.l.length=1
  ·have clen1':(e.l.length:Int)=1:=by omega
   by_cases ca:18<=e.oper
   ·by_cases cb:e.oper<=21
    ·skip
     by_cases zn:e.n=0
     ·skip
      by_cases zs:e.s= []
      ·skip
       by_cases za:e.a.length=0
       ·have za':(e.a.length:Int)=0:=by omega
        have ya:e.a= []:=List.length_eq_zero_iff.1 za;simp(disch:=omega) only[go_sem,↓reduceIte,m1,m2,s1,s2,s3,s4,s5,sO,sN,sS,sA,List.length_cons,List.length_nil,k11,clen1',ca,cb,zn,zs,za'];exact Pm.sub (show Sub H _ from(by repeat (first | exact Sub.refl _ | assumption | refine Sub.up ?_ (by assumption) _))) (Pm.refl ⟨by simp [Ae,zO,zN,zS,zA,Ad,k11,clen1,ca,cb,zn,zs,ya],rfl⟩)
       ·have za': ¬((e.a.length:Int)=0):=by omega
        simp(disch:=omega) only[go_sem,↓reduceIte,m1,m2,s1,s2,s3,s4,s5,sO,sN,sS,sA,List.length_cons,List.length_nil,k11,clen1',ca,cb,zn,zs,za'];exact Pm.sub (show Sub H _ from(by repeat (first | exact Sub.refl _ | assumption | refine Sub.up ?_ (by assumption) _))) (Pm.refl ⟨by simp [Ae,zO,zN,zS,zA,Ad,k11,clen1,ca,cb,zn,zs,za],rfl⟩)
      ·skip
       simp(disch:=omega) only[go_sem,↓reduceIte,m1,m2,s1,s2,s3,s4,s5,sO,sN,sS,sA,List.length_cons,List.length_nil,k11,clen1',ca,cb,zn,zs];exact Pm.sub (show Sub H _ from(by repeat (first | exact Sub.refl _ | assumption | refine Sub.up ?_ (by assumption) _))) (Pm.refl ⟨by simp [Ae,zO,zN,zS,zA,Ad,k11,clen1,ca,cb,zn,zs],rfl⟩)
     ·skip
      simp(disch:=omega) only[go_sem,↓reduceIte,m1,m2,s1,s2,s3,s4,s5,sO,sN,sS,sA,List.length_cons,List.length_nil,k11,clen1',ca,cb,zn];exact Pm.sub (show Sub H _ from(by repeat (first | exact Sub.refl _ | assumption | refine Sub.up ?_ (by assumption) _))) (Pm.refl ⟨by simp [Ae,zO,zN,zS,zA,Ad,k11,clen1,ca,cb,zn],rfl⟩)
    ·simp(disch:=omega) only[go_sem,↓reduceIte,m1,m2,s1,s2,s3,s4,s5,sO,sN,sS,sA,List.length_cons,List.length_nil,k11,clen1',ca,cb];exact Pm.sub (show Sub H _ from(by repeat (first | exact Sub.refl _ | assumption | refine Sub.up ?_ (by assumption) _))) (Pm.refl ⟨by simp [Ae,zO,zN,zS,zA,Ad,k11,clen1,ca,cb],rfl⟩)
   ·simp(disch:=omega) only[go_sem,↓reduceIte,m1,m2,s1,s2,s3,s4,s5,sO,sN,sS,sA,List.length_cons,List.length_nil,k11,clen1',ca];exact Pm.sub (show Sub H _ from(by repeat (first | exact Sub.refl _ | assumption | refine Sub.up ?_ (by assumption) _))) (Pm.refl ⟨by simp [Ae,zO,zN,zS,zA,Ad,k11,clen1,ca],rfl⟩)
  ·have clen1': ¬((e.l.length:Int)=1):=by omega
   simp(disch:=omega) only[go_sem,↓reduceIte,m1,m2,s1,s2,s3,s4,s5,sO,sN,sS,sA,List.length_cons,List.length_nil,k11,clen1'];exact Pm.sub (show Sub H _ from(by repeat (first | exact Sub.refl _ | assumption | refine Sub.up ?_ (by assumption) _))) (Pm.refl ⟨by simp [Ae,zO,zN,zS,zA,Ad,k11,clen1],rfl⟩)
 by_cases k12:e.kind=12
 ·skip
  by_cases clen2:e.l.length=2
  ·have clen2':(e.l.length:Int)=2:=by omega
   by_cases ca:1<=e.oper
   ·by_cases cb:e.oper<=17
    ·skip
     by_cases zn:e.n=0
     ·skip
      by_cases zs:e.s= []
      ·skip
       by_cases za:e.a.length=0
       ·have za':(e.a.length:Int)=0:=by omega
        have ya:e.a= []:=List.length_eq_zero_iff.1 za;simp(disch:=omega) only[go_sem,↓reduceIte,m1,m2,s1,s2,s3,s4,s5,sO,sN,sS,sA,List.length_cons,List.length_nil,k12,clen2',ca,cb,zn,zs,za'];exact Pm.sub (show Sub H _ from(by repeat (first | exact Sub.refl _ | assumption | refine Sub.up ?_ (by assumption) _))) (Pm.refl ⟨by simp [Ae,zO,zN,zS,zA,Ad,k12,clen2,ca,cb,zn,zs,ya],rfl⟩)
       ·have za': ¬((e.a.length:Int)=0):=by omega
        simp(disch:=omega) only[go_sem,↓reduceIte,m1,m2,s1,s2,s3,s4,s5,sO,sN,sS,sA,List.length_cons,List.length_nil,k12,clen2',ca,cb,zn,zs,za'];exact Pm.sub (show Sub H _ from(by repeat (first | exact Sub.refl _ | assumption | refine Sub.up ?_ (by assumption) _))) (Pm.refl ⟨by simp [Ae,zO,zN,zS,zA,Ad,k12,clen2,ca,cb,zn,zs,za],rfl⟩)
      ·skip
       simp(disch:=omega) only[go_sem,↓reduceIte,m1,m2,s1,s2,s3,s4,s5,sO,sN,sS,sA,List.length_cons,List.length_nil,k12,clen2',ca,cb,zn,zs];exact Pm.sub (show Sub H _ from(by repeat (first | exact Sub.refl _ | assumption | refine Sub.up ?_ (by assumption) _))) (Pm.refl ⟨by simp [Ae,zO,zN,zS,zA,Ad,k12,clen2,ca,cb,zn,zs],rfl⟩)
     ·skip
      simp(disch:=omega) only[go_sem,↓reduceIte,m1,m2,s1,s2,s3,s4,s5,sO,sN,sS,sA,List.length_cons,List.length_nil,k12,clen2',ca,cb,zn];exact Pm.sub (show Sub H _ from(by repeat (first | exact Sub.refl _ | assumption | refine Sub.up ?_ (by assumption) _))) (Pm.refl ⟨by simp [Ae,zO,zN,zS,zA,Ad,k12,clen2,ca,cb,zn],rfl⟩)
    ·simp(disch:=omega) only[go_sem,↓reduceIte,m1,m2,s1,s2,s3,s4,s5,sO,sN,sS,sA,List.length_cons,List.length_nil,k12,clen2',ca,cb];exact Pm.sub (show Sub H _ from(by repeat (first | exact Sub.refl _ | assumption | refine Sub.up ?_ (by assumption) _))) (Pm.refl ⟨by simp [Ae,zO,zN,zS,zA,Ad,k12,clen2,ca,cb],rfl⟩)
   ·simp(disch:=omega) only[go_sem,↓reduceIte,m1,m2,s1,s2,s3,s4,s5,sO,sN,sS,sA,List.length_cons,List.length_nil,k12,clen2',ca];exact Pm.sub (show Sub H _ from(by repeat (first | exact Sub.refl _ | assumption | refine Sub.up ?_ (by assumption) _))) (Pm.refl ⟨by simp [Ae,zO,zN,zS,zA,Ad,k12,clen2,ca],rfl⟩)
  ·have clen2': ¬((e.l.length:Int)=2):=by omega
   simp(disch:=omega) only[go_sem,↓reduceIte,m1,m2,s1,s2,s3,s4,s5,sO,sN,sS,sA,List.length_cons,List.length_nil,k12,clen2'];exact Pm.sub (show Sub H _ from(by repeat (first | exact Sub.refl _ | assumption | refine Sub.up ?_ (by assumption) _))) (Pm.refl ⟨by simp [Ae,zO,zN,zS,zA,Ad,k12,clen2],rfl⟩)
 by_cases k13:e.kind=13
 ·skip
  by_cases c3:e.l.length=3
  ·have c3':(e.l.length:Int)=3:=by omega
   by_cases zo:e.oper=0
   ·skip
    by_cases zn:e.n=0
    ·skip
     by_cases zs:e.s= []
     ·skip
      by_cases za:e.a.length=0
      ·have za':(e.a.length:Int)=0:=by omega
       have ya:e.a= []:=List.length_eq_zero_iff.1 za;simp(disch:=omega) only[go_sem,↓reduceIte,m1,m2,s1,s2,s3,s4,s5,sO,sN,sS,sA,List.length_cons,List.length_nil,k13,c3',zo,zn,zs,za'];exact Pm.sub (show Sub H _ from(by repeat (first | exact Sub.refl _ | assumption | refine Sub.up ?_ (by assumption) _))) (Pm.refl ⟨by simp [Ae,zO,zN,zS,zA,Ad,k13,c3,zo,zn,zs,ya],rfl⟩)
      ·have za': ¬((e.a.length:Int)=0):=by omega
       simp(disch:=omega) only[go_sem,↓reduceIte,m1,m2,s1,s2,s3,s4,s5,sO,sN,sS,sA,List.length_cons,List.length_nil,k13,c3',zo,zn,zs,za'];exact Pm.sub (show Sub H _ from(by repeat (first | exact Sub.refl _ | assumption | refine Sub.up ?_ (by assumption) _))) (Pm.refl ⟨by simp [Ae,zO,zN,zS,zA,Ad,k13,c3,zo,zn,zs,za],rfl⟩)
     ·skip
      simp(disch:=omega) only[go_sem,↓reduceIte,m1,m2,s1,s2,s3,s4,s5,sO,sN,sS,sA,List.length_cons,List.length_nil,k13,c3',zo,zn,zs];exact Pm.sub (show Sub H _ from(by repeat (first | exact Sub.refl _ | assumption | refine Sub.up ?_ (by assumption) _))) (Pm.refl ⟨by simp [Ae,zO,zN,zS,zA,Ad,k13,c3,zo,zn,zs],rfl⟩)
    ·skip
     simp(disch:=omega) only[go_sem,↓reduceIte,m1,m2,s1,s2,s3,s4,s5,sO,sN,sS,sA,List.length_cons,List.length_nil,k13,c3',zo,zn];exact Pm.sub (show Sub H _ from(by repeat (first | exact Sub.refl _ | assumption | refine Sub.up ?_ (by assumption) _))) (Pm.refl ⟨by simp [Ae,zO,zN,zS,zA,Ad,k13,c3,zo,zn],rfl⟩)
   ·skip
    simp(disch:=omega) only[go_sem,↓reduceIte,m1,m2,s1,s2,s3,s4,s5,sO,sN,sS,sA,List.length_cons,List.length_nil,k13,c3',zo];exact Pm.sub (show Sub H _ from(by repeat (first | exact Sub.refl _ | assumption | refine Sub.up ?_ (by assumption) _))) (Pm.refl ⟨by simp [Ae,zO,zN,zS,zA,Ad,k13,c3,zo],rfl⟩)
  ·have c3': ¬(e.l.length:Int)=3:=by omega
   by_cases c2:e.l.length=2
   ·have c2':(e.l.length:Int)=2:=by omega
    have hp1:1<e.l.length:=by omega
    have hg:=Df Aj e.l 1 hp1;have hgd:e.l.getD 1 ex0=e.l[1]:=by rw[List.getD,List.getElem?_eq_getElem hp1];rfl
    rw[Nat.one_mul] at hg;simp(disch:=omega) only[go_sem,↓reduceIte,m1,m2,s1,s2,s3,s4,s5,sO,sN,sS,sA,List.length_cons,List.length_nil,k13,c3',c2',hg,hfl];refine(Dn G _ e.l[1]).mono ?_;rintro _ H1 ⟨rfl,rfl⟩;cases ct:Az e.l[1] with
    | true=>
     by_cases zo:e.oper=0
     ·skip
      by_cases zn:e.n=0
      ·skip
       by_cases zs:e.s= []
       ·skip
        by_cases za:e.a.length=0
        ·have za':(e.a.length:Int)=0:=by omega
         have ya:e.a= []:=List.length_eq_zero_iff.1 za;simp(disch:=omega) only[go_sem,↓reduceIte,m1,m2,s1,s2,s3,s4,s5,sO,sN,sS,sA,List.length_cons,List.length_nil,k13,c3',c2',zo,zn,zs,za'];exact Pm.sub (show Sub H _ from(by repeat (first | exact Sub.refl _ | assumption | refine Sub.up ?_ (by assumption) _))) (Pm.refl ⟨by simp [Ae,zO,zN,zS,zA,Ad,k13,c3,c2,hgd,ct,zo,zn,zs,ya],rfl⟩)
        ·have za': ¬((e.a.length:Int)=0):=by omega
         simp(disch:=omega) only[go_sem,↓reduceIte,m1,m2,s1,s2,s3,s4,s5,sO,sN,sS,sA,List.length_cons,List.length_nil,k13,c3',c2',zo,zn,zs,za'];exact Pm.sub (show Sub H _ from(by repeat (first | exact Sub.refl _ | assumption | refine Sub.up ?_ (by assumption) _))) (Pm.refl ⟨by simp [Ae,zO,zN,zS,zA,Ad,k13,c3,c2,hgd,ct,zo,zn,zs,za],rfl⟩)
       ·skip
        simp(disch:=omega) only[go_sem,↓reduceIte,m1,m2,s1,s2,s3,s4,s5,sO,sN,sS,sA,List.length_cons,List.length_nil,k13,c3',c2',zo,zn,zs];exact Pm.sub (show Sub H _ from(by repeat (first | exact Sub.refl _ | assumption | refine Sub.up ?_ (by assumption) _))) (Pm.refl ⟨by simp [Ae,zO,zN,zS,zA,Ad,k13,c3,c2,hgd,ct,zo,zn,zs],rfl⟩)
      ·skip
       simp(disch:=omega) only[go_sem,↓reduceIte,m1,m2,s1,s2,s3,s4,s5,sO,sN,sS,sA,List.length_cons,List.length_nil,k13,c3',c2',zo,zn];exact Pm.sub (show Sub H _ from(by repeat (first | exact Sub.refl _ | assumption | refine Sub.up ?_ (by assumption) _))) (Pm.refl ⟨by simp [Ae,zO,zN,zS,zA,Ad,k13,c3,c2,hgd,ct,zo,zn],rfl⟩)
     ·skip
      simp(disch:=omega) only[go_sem,↓reduceIte,m1,m2,s1,s2,s3,s4,s5,sO,sN,sS,sA,List.length_cons,List.length_nil,k13,c3',c2',zo];exact Pm.sub (show Sub H _ from(by repeat (first | exact Sub.refl _ | assumption | refine Sub.up ?_ (by assumption) _))) (Pm.refl ⟨by simp [Ae,zO,zN,zS,zA,Ad,k13,c3,c2,hgd,ct,zo],rfl⟩)
    | false=>
     simp(disch:=omega) only[go_sem,↓reduceIte,m1,m2,s1,s2,s3,s4,s5,sO,sN,sS,sA,List.length_cons,List.length_nil,k13,c3',c2'];exact Pm.sub (show Sub H _ from(by repeat (first | exact Sub.refl _ | assumption | refine Sub.up ?_ (by assumption) _))) (Pm.refl ⟨by simp [Ae,zO,zN,zS,zA,Ad,k13,c3,c2,hgd,ct],rfl⟩)
   ·have c2': ¬(e.l.length:Int)=2:=by omega
    simp(disch:=omega) only[go_sem,↓reduceIte,m1,m2,s1,s2,s3,s4,s5,sO,sN,sS,sA,List.length_cons,List.length_nil,k13,c3',c2'];exact Pm.sub (show Sub H _ from(by repeat (first | exact Sub.refl _ | assumption | refine Sub.up ?_ (by assumption) _))) (Pm.refl ⟨by simp [Ae,zO,zN,zS,zA,Ad,k13,c3,c2],rfl⟩)
 by_cases k14:e.kind=14
 ·skip
  by_cases c3:e.l.length=3
  ·have c3':(e.l.length:Int)=3:=by omega
   by_cases zo:e.oper=0
   ·skip
    by_cases zn:e.n=0
    ·skip
     by_cases zs:e.s= []
     ·skip
      by_cases za:e.a.length=0
      ·have za':(e.a.length:Int)=0:=by omega
       have ya:e.a= []:=List.length_eq_zero_iff.1 za;simp(disch:=omega) only[go_sem,↓reduceIte,m1,m2,s1,s2,s3,s4,s5,sO,sN,sS,sA,List.length_cons,List.length_nil,k14,c3',zo,zn,zs,za'];exact Pm.sub (show Sub H _ from(by repeat (first | exact Sub.refl _ | assumption | refine Sub.up ?_ (by assumption) _))) (Pm.refl ⟨by simp [Ae,zO,zN,zS,zA,Ad,k14,c3,zo,zn,zs,ya],rfl⟩)
      ·have za': ¬((e.a.length:Int)=0):=by omega
       simp(disch:=omega) only[go_sem,↓reduceIte,m1,m2,s1,s2,s3,s4,s5,sO,sN,sS,sA,List.length_cons,List.length_nil,k14,c3',zo,zn,zs,za'];exact Pm.sub (show Sub H _ from(by repeat (first | exact Sub.refl _ | assumption | refine Sub.up ?_ (by assumption) _))) (Pm.refl ⟨by simp [Ae,zO,zN,zS,zA,Ad,k14,c3,zo,zn,zs,za],rfl⟩)
     ·skip
      simp(disch:=omega) only[go_sem,↓reduceIte,m1,m2,s1,s2,s3,s4,s5,sO,sN,sS,sA,List.length_cons,List.length_nil,k14,c3',zo,zn,zs];exact Pm.sub (show Sub H _ from(by repeat (first | exact Sub.refl _ | assumption | refine Sub.up ?_ (by assumption) _))) (Pm.refl ⟨by simp [Ae,zO,zN,zS,zA,Ad,k14,c3,zo,zn,zs],rfl⟩)
    ·skip
     simp(disch:=omega) only[go_sem,↓reduceIte,m1,m2,s1,s2,s3,s4,s5,sO,sN,sS,sA,List.length_cons,List.length_nil,k14,c3',zo,zn];exact Pm.sub (show Sub H _ from(by repeat (first | exact Sub.refl _ | assumption | refine Sub.up ?_ (by assumption) _))) (Pm.refl ⟨by simp [Ae,zO,zN,zS,zA,Ad,k14,c3,zo,zn],rfl⟩)
   ·skip
    simp(disch:=omega) only[go_sem,↓reduceIte,m1,m2,s1,s2,s3,s4,s5,sO,sN,sS,sA,List.length_cons,List.length_nil,k14,c3',zo];exact Pm.sub (show Sub H _ from(by repeat (first | exact Sub.refl _ | assumption | refine Sub.up ?_ (by assumption) _))) (Pm.refl ⟨by simp [Ae,zO,zN,zS,zA,Ad,k14,c3,zo],rfl⟩)
  ·have c3': ¬(e.l.length:Int)=3:=by omega
   by_cases c2:e.l.length=2
   ·have c2':(e.l.length:Int)=2:=by omega
    have hp1:1<e.l.length:=by omega
    have hg:=Df Aj e.l 1 hp1;have hgd:e.l.getD 1 ex0=e.l[1]:=by rw[List.getD,List.getElem?_eq_getElem hp1];rfl
    rw[Nat.one_mul] at hg;simp(disch:=omega) only[go_sem,↓reduceIte,m1,m2,s1,s2,s3,s4,s5,sO,sN,sS,sA,List.length_cons,List.length_nil,k14,c3',c2',hg,hfl];refine(Dn G _ e.l[1]).mono ?_;rintro _ H1 ⟨rfl,rfl⟩;cases ct:Az e.l[1] with
    | true=>
     by_cases zo:e.oper=0
     ·skip
      by_cases zn:e.n=0
      ·skip
       by_cases zs:e.s= []
       ·skip
        by_cases za:e.a.length=0
        ·have za':(e.a.length:Int)=0:=by omega
         have ya:e.a= []:=List.length_eq_zero_iff.1 za;simp(disch:=omega) only[go_sem,↓reduceIte,m1,m2,s1,s2,s3,s4,s5,sO,sN,sS,sA,List.length_cons,List.length_nil,k14,c3',c2',zo,zn,zs,za'];exact Pm.sub (show Sub H _ from(by repeat (first | exact Sub.refl _ | assumption | refine Sub.up ?_ (by assumption) _))) (Pm.refl ⟨by simp [Ae,zO,zN,zS,zA,Ad,k14,c3,c2,hgd,ct,zo,zn,zs,ya],rfl⟩)
        ·have za': ¬((e.a.length:Int)=0):=by omega
         simp(disch:=omega) only[go_sem,↓reduceIte,m1,m2,s1,s2,s3,s4,s5,sO,sN,sS,sA,List.length_cons,List.length_nil,k14,c3',c2',zo,zn,zs,za'];exact Pm.sub (show Sub H _ from(by repeat (first | exact Sub.refl _ | assumption | refine Sub.up ?_ (by assumption) _))) (Pm.refl ⟨by simp [Ae,zO,zN,zS,zA,Ad,k14,c3,c2,hgd,ct,zo,zn,zs,za],rfl⟩)
       ·skip
        simp(disch:=omega) only[go_sem,↓reduceIte,m1,m2,s1,s2,s3,s4,s5,sO,sN,sS,sA,List.length_cons,List.length_nil,k14,c3',c2',zo,zn,zs];exact Pm.sub (show Sub H _ from(by repeat (first | exact Sub.refl _ | assumption | refine Sub.up ?_ (by assumption) _))) (Pm.refl ⟨by simp [Ae,zO,zN,zS,zA,Ad,k14,c3,c2,hgd,ct,zo,zn,zs],rfl⟩)
      ·skip
       simp(disch:=omega) only[go_sem,↓reduceIte,m1,m2,s1,s2,s3,s4,s5,sO,sN,sS,sA,List.length_cons,List.length_nil,k14,c3',c2',zo,zn];exact Pm.sub (show Sub H _ from(by repeat (first | exact Sub.refl _ | assumption | refine Sub.up ?_ (by assumption) _))) (Pm.refl ⟨by simp [Ae,zO,zN,zS,zA,Ad,k14,c3,c2,hgd,ct,zo,zn],rfl⟩)
     ·skip
      simp(disch:=omega) only[go_sem,↓reduceIte,m1,m2,s1,s2,s3,s4,s5,sO,sN,sS,sA,List.length_cons,List.length_nil,k14,c3',c2',zo];exact Pm.sub (show Sub H _ from(by repeat (first | exact Sub.refl _ | assumption | refine Sub.up ?_ (by assumption) _))) (Pm.refl ⟨by simp [Ae,zO,zN,zS,zA,Ad,k14,c3,c2,hgd,ct,zo],rfl⟩)
    | false=>
     simp(disch:=omega) only[go_sem,↓reduceIte,m1,m2,s1,s2,s3,s4,s5,sO,sN,sS,sA,List.length_cons,List.length_nil,k14,c3',c2'];exact Pm.sub (show Sub H _ from(by repeat (first | exact Sub.refl _ | assumption | refine Sub.up ?_ (by assumption) _))) (Pm.refl ⟨by simp [Ae,zO,zN,zS,zA,Ad,k14,c3,c2,hgd,ct],rfl⟩)
   ·have c2': ¬(e.l.length:Int)=2:=by omega
    simp(disch:=omega) only[go_sem,↓reduceIte,m1,m2,s1,s2,s3,s4,s5,sO,sN,sS,sA,List.length_cons,List.length_nil,k14,c3',c2'];exact Pm.sub (show Sub H _ from(by repeat (first | exact Sub.refl _ | assumption | refine Sub.up ?_ (by assumption) _))) (Pm.refl ⟨by simp [Ae,zO,zN,zS,zA,Ad,k14,c3,c2],rfl⟩)
 simp(disch:=omega) only[go_sem,↓reduceIte,m1,m2,s1,s2,s3,s4,s5,sO,sN,sS,sA,List.length_cons,List.length_nil,k1,k2,k3,k4,k6,k5,k7,k8,k9,k10,k11,k12,k13,k14];exact Pm.sub (show Sub H _ from(by repeat (first | exact Sub.refl _ | assumption | refine Sub.up ?_ (by assumption) _))) (Pm.refl ⟨by simp [Ae,k1,k2,k3,k4,k6,k5,k7,k8,k9,k10,k11,k12,k13,k14],rfl⟩)
end
end Go.Dl

-- Chapter 3: May, MayArgs, MayChoices, Size.
namespace Go.Dl
open Go Go.Proofs
set_option maxRecDepth 100000
mutual
def okE:Ex->Prop
 | .mk _ _ _ s l a _ _ _=>s.length<=9223372036854775807/\okL l/\Kz a
def okL:List Ex->Prop
 | []=>True
 | x::l=>okE x/\okL l
def okA:As->Prop
 | .mk c e=>Uu c/\okE e
def Kz:List As->Prop
 | []=>True
 | x::l=>okA x/\Kz l
def okC:Ch->Prop
 | .mk _ l=>okL l
def Uu:List Ch->Prop
 | []=>True
 | x::l=>okC x/\Uu l
end
theorem At2: ∀ {l:List Ex},okL l-> ∀x∈l,okE x
 | y::l,h,x,hx=>by
  rw[okL] at h;rcases List.mem_cons.1 hx with rfl | hx
  ·exact h.1
  ·exact At2 h.2 x hx
theorem Bc4: ∀ {l:List As},Kz l-> ∀x∈l,okA x
 | y::l,h,x,hx=>by
  rw[Kz] at h;rcases List.mem_cons.1 hx with rfl | hx
  ·exact h.1
  ·exact Bc4 h.2 x hx
theorem Bc5: ∀ {l:List Ch},Uu l-> ∀x∈l,okC x
 | y::l,h,x,hx=>by
  rw[Uu] at h;rcases List.mem_cons.1 hx with rfl | hx
  ·exact h.1
  ·exact Bc5 h.2 x hx
theorem Dp8 {e:Ex}:okE e↔e.s.length<=9223372036854775807/\okL e.l/\Kz e.a:=by cases e;rw[okE];rfl
theorem Dp9 {e:As}:okA e↔Uu e.c/\okE e.e:=by cases e;rw[okA];rfl
theorem Dq0 {e:Ch}:okC e↔okL e.l:=by cases e;rw[okC];rfl
theorem Ce5 {a:As} (h:okA a): ∀x∈Cu a,okE x:=fun x hx=>by
 rw[Dp9] at h;rcases List.mem_append.1 hx with hx | hx
 ·obtain⟨c,hc,hx⟩:=List.mem_flatMap.1 hx;exact At2 (Dq0.1 (Bc5 h.1 c hc)) x hx
 ·rw[List.mem_singleton] at hx;subst hx;exact h.2
theorem Ce6 {e:Ex} (h:okE e): ∀x∈parts e,okE x:=fun x hx=>by
 rw[Dp8] at h;rcases List.mem_append.1 hx with hx | hx
 ·exact At2 h.2.1 x hx
 ·obtain⟨a,ha,hx⟩:=List.mem_flatMap.1 hx;exact Ce5 (Bc4 h.2.2 a ha) x hx
theorem Bn7 {a:As}: ∀x∈Cu a,Cp x<=Ma a:=fun x hx=>by
 rw[Ur];rcases List.mem_append.1 hx with hx | hx
 ·obtain⟨c,hc,hx⟩:=List.mem_flatMap.1 hx;have h1:=Rg hc;have h2:=Ad7 hx;rw[Rf] at h1;omega
 ·rw[List.mem_singleton] at hx;subst hx;omega
theorem Sv {e x:Ex} (hx:x∈parts e):Cp x<Cp e:=by
 rcases List.mem_append.1 hx with hx | hx
 ·exact Dp7 hx
 ·obtain⟨a,ha,hx⟩:=List.mem_flatMap.1 hx;have h1:=Bn4 ha;have h2:=Bn7 x hx;omega
structure Fit (e:Ex):Prop where
 big:Cp e<=1099511627776
 ok:okE e
theorem Fit.parts {e x:Ex} (h:Fit e) (hx:x∈Dl.parts e):Fit x:=⟨by have:=Sv hx;have:=h.big;omega,Ce6 h.ok x hx⟩
theorem Fit.s {e:Ex} (h:Fit e):e.s.length<=9223372036854775807:=(Dp8.1 h.ok).1
mutual
theorem Wp: ∀e:Ex,Ee e<=Cp e
 | .mk _ _ _ _ l a _ _ _=>by rw[Ee,Cp];have:=Wq l;have:=Ae1 a;omega
theorem Wq: ∀l:List Ex,Ad1 l<=Ho l
 | []=>Nat.le_refl _
 | x::l=>by rw[Ad1,Ho];have:=Wp x;have:=Wq l;omega
theorem Ce7: ∀a:As,Bb3 a<=Ma a
 | .mk c e=>by rw[Bb3,Ma];have:=Ae2 c;have:=Wp e;omega
theorem Ae1: ∀l:List As,Wi l<=Dg l
 | []=>Nat.le_refl _
 | x::l=>by rw[Wi,Dg];have:=Ce7 x;have:=Ae1 l;omega
theorem Ce8: ∀c:Ch,Bu3 c<=Po c
 | .mk _ l=>by rw[Bu3,Po];have:=Wq l;omega
theorem Ae2: ∀l:List Ch,Wj l<=Fz l
 | []=>Nat.le_refl _
 | x::l=>by rw[Wj,Fz];have:=Ce8 x;have:=Ae2 l;omega
end
mutual
theorem At3 (r:Nat) (cs:List DVal): ∀e:Ex,fzs r cs (dEx e)=dEx e
 | .mk _ _ _ _ l a _ _ _=>by simp only[dEx,fzs,fz,At4 r cs l,Bu8 r cs a]
theorem At4 (r:Nat) (cs:List DVal): ∀l:List Ex,fzs r cs (At1 l)=At1 l
 | []=>by simp only[At1,fzs]
 | x::l=>by rw[At1,Sp,At3 r cs x,At4 r cs l]
theorem Dq1 (r:Nat) (cs:List DVal): ∀a:As,fzs r cs (dAs a)=dAs a
 | .mk c e=>by simp only[dAs,fzs,fz,Bu9 r cs c,At3 r cs e]
theorem Bu8 (r:Nat) (cs:List DVal): ∀l:List As,fzs r cs (Bb5 l)=Bb5 l
 | []=>by simp only[Bb5,fzs]
 | x::l=>by rw[Bb5,Sp,Dq1 r cs x,Bu8 r cs l]
theorem Dq2 (r:Nat) (cs:List DVal): ∀c:Ch,fzs r cs (dCh c)=dCh c
 | .mk _ l=>by simp only[dCh,fzs,fz,At4 r cs l]
theorem Bu9 (r:Nat) (cs:List DVal): ∀l:List Ch,fzs r cs (Bb6 l)=Bb6 l
 | []=>by simp only[Bb6,fzs]
 | x::l=>by rw[Bb6,Sp,Dq2 r cs x,Bu9 r cs l]
end
def Dq3 (d:Nat) (x:Ex) (s:Int) (b:Bool) (s':Int):Prop:=0<=s->s<=256->b=(Cv d x&&decide ((Ee x:Int)<=s))/\(b=true->s'=s-Ee x)
theorem Bv0 (d:Nat): ∀(l:List Ex) (s:Int) (b:Bool) (s':Int),Bc2 (Dq3 d) l s b s'->0<=s->s<=256->b=(l.all (Cv d)&&decide ((Hm l:Int)<=s))/\(b=true->s'=s-Hm l)
 | [],s,b,s',h,h0,_=>by
  obtain⟨rfl,rfl⟩:=h;exact⟨by simp [Hm,h0],fun _=>by simp [Hm]⟩
 | x::l,s,b,s',h,h0,h1=>by
  obtain⟨b1,s1,hx,h⟩:=h;obtain⟨hb,hs⟩:=hx h0 h1;have hsum:Hm (x::l)=Ee x+Hm l:=by simp [Hm]
  rcases h with⟨rfl,h⟩ | ⟨rfl,rfl,rfl⟩
  ·have e1:=hs rfl;have hb':=hb.symm;rw[Bool.and_eq_true,decide_eq_true_eq] at hb';obtain⟨k1,k2⟩:=Bv0 d l s1 b s' h (by omega) (by omega);refine⟨?_,fun hb=> ?_⟩
   ·rw[k1,List.all_cons,hb'.1,Bool.true_and,hsum];congr 1;exact decide_eq_decide.2 ⟨fun h=>by omega,fun h=>by omega⟩
   ·rw[k2 hb,hsum];omega
  ·refine⟨?_,fun h=>(by cases h)⟩;rw[List.all_cons,hsum];cases hv:Cv d x with
   | false=>rfl
   | true=>
    rw[hv,Bool.true_and] at hb;have:=of_decide_eq_false hb.symm;rw[decide_eq_false (by omega),Bool.and_false]
section
variable {G:Nat->DVal} {H:Ab}
theorem Ae3 (G:Nat->DVal) (H:Ab) (d:Int) (rl ra:Nat):Ah Tryz.prog G 123 ([]++ [.int .i64 d]++ [.optr rl 0, .optr ra 0]) H
  (fun e H'=> ∃rd,H rd=none/\e= .ret (.func (.func 124) [] [.optr rl 0, .optr rd 0, .optr ra 0])/\H'=upd H rd (some (Mc d))):=by
 refine Ac Tryz.func123 Tryz.call123 rfl (by kernel_rfl) ?_;simp(disch:=omega) only[go_sem,↓reduceIte,DVal.cells,List.nil_append,List.cons_append];intro rd hrd;dsimp only at hrd;simp(disch:=omega) only[go_sem,↓reduceIte];exact Pm.refl ⟨rd,hrd,rfl,rfl⟩
theorem Ce9 (hG:GX G) (rl ra:Nat) (hla:rl≠ra): ∀(x:Ex) (H:Ab) (d:Nat) (s:Int) (rd:Nat),Fit x->d<=1000000->H rl=some (Mc s)->H rd=some (Mc d)->rl≠rd->H ra=some (.cells [.func (.func 123) [] [.optr rl 0, .optr ra 0]] 149)->
  Ah Tryz.prog G 124 ([]++ [.agg (dEx x)]++ [.optr rl 0, .optr rd 0, .optr ra 0]) H (Dj8 (Dq3 d) x s rl H):=by
 intro x
 induction x using Ex.ind with
 | h x ih=>
  intro H d s rd hx hd hl hdd hld ha;refine Ac Tryz.func124 Tryz.call124 rfl (by kernel_rfl) ?_;simp(disch:=omega) only[go_sem,↓reduceIte,DVal.cells,List.nil_append,List.cons_append];intro r4 hr4;dsimp only at hr4;have n1:rl≠r4:=Af hr4 hl;have n2:rd≠r4:=Af hr4 hdd;have n3:ra≠r4:=Af hr4 ha;unfold Mc at hl hdd;obtain⟨s1,hs1⟩: ∃s1,s1=IntKind.i64.wrap (s-1):=⟨_,rfl⟩;have hdl:rd≠rl:=hld.symm;have hal:ra≠rl:=hla.symm;simp(disch:=omega) only[go_sem,↓reduceIte,n1,n2,n3,hl,hdd,ha,hld,hla,hdl,hal,<-hs1];refine An (by kernel_rfl) (.take 0 (.take 1 (.take 2 (.take 3 (.take 4 (.take 5 (.take 6 (.take 7 (.go 8 [] (.take 9 (.take 10 (.take 11 (.take 12 (.take 13 (.take 14 (.go 15 [11] (.go 16 [] (.take 17 (.take 18 .done))))))))))))))))))) (by kernel_rfl) ?_;have q1:r4≠rl:=n1.symm;have q2:r4≠rd:=n2.symm;have q3:r4≠ra:=n3.symm;obtain⟨H4,hH4⟩: ∃H4,H4=upd (upd H r4 (some (.cells (dEx x) 36))) rl (some (.cells [.int .i64 s1] 3)):=⟨_,rfl⟩;have ht4:Pp rl H H4:=by rw[hH4];exact((Pp.refl rl H).new hr4 _).set _
  have g1:H4 rl=some (.cells [.int .i64 s1] 3):=by rw[hH4];exact Aa _ _ _
  have g2:H4 rd=some (.cells [.int .i64 d] 3):=ht4 _ _ hdl hdd;have g3:H4 ra=some (.cells [.func (.func 123) [] [.optr rl 0, .optr ra 0]] 149):=ht4 _ _ hal ha;have g4:H4 r4=some (.cells (dEx x) 36):=by rw[hH4];simp [upd,q1]
  rw[<-hH4];have sv: ∀b:Bool,0<=s->s<=256->s1=s-1:=fun _ h0 h1=>by rw[hs1,IntKind.wrap_i64];omega
  have hsz:(Ee x:Int)=1+(Hm (parts x):Int):=by rw[Lh x];omega
  by_cases c1:0<=s1
  ·by_cases c2:d<=32
   ·have c2':(d:Int)<=32:=by omega
    simp(disch:=omega) only[go_sem,↓reduceIte,g1,g2,g3,g4,c1,c2'];refine(Bc3 hG _ x hx.big hx.s).mono ?_;rintro _ H5 ⟨rfl,rfl⟩;cases hf:Ae x with
    | true=>
     have hwd:IntKind.i64.wrap ((d:Int)+1)=((d+1:Nat):Int):=by rw[IntKind.wrap_i64];omega
     simp(disch:=omega) only[go_sem,↓reduceIte,g1,g2,g3,g4,hwd];refine(Ae3 G _ ((d+1:Nat):Int) rl ra).mono ?_;rintro _ H6 ⟨r6,hr6,rfl,rfl⟩;have p1:rl≠r6:=Af hr6 g1;have p2:ra≠r6:=Af hr6 g3;have p3:rd≠r6:=Af hr6 g2;have p4:r4≠r6:=Af hr6 g4;have ht6:Pp rl H (upd H5 r6 (some (Mc ((d+1:Nat):Int)))):=ht4.new hr6 _;simp(disch:=omega) only[go_sem,↓reduceIte,g1,g2,g3,g4,p1,p3,p4];refine(An7 G _ x hx.big 124 [] [.optr rl 0, .optr r6 0, .optr ra 0] (Dq3 (d+1)) rl s1 (by simp only[upd,if_neg p1];exact g1) fun y hy t K hK hT=>ih y hy K (d+1) t r6 (hx.parts hy) (by omega) hK (hT _ _ p1.symm (Aa _ _ _)) p1 (hT _ _ hal (by simp only[upd,if_neg p2];exact g3))).mono ?_;rintro _ H7 ⟨b,t,rfl,hR,ht,hT⟩;have k2:H7 rd=some (.cells [.int .i64 d] 3):=hT _ _ hdl (by simp only[upd,if_neg p3];exact g2);have k4:H7 r4=some (.cells (dEx x) 36):=hT _ _ q1 (by simp only[upd,if_neg p4];exact g4);simp(disch:=omega) only[go_sem,↓reduceIte,g1,g2,g3,g4,p1,p3,p4,k2,k4]
     trace_state
     refine Pm.refl ⟨b,t,rfl,fun h0 h1=> ?_,ht,ht6.trans hT⟩;have e1:=sv true h0 h1;obtain⟨w1,w2⟩:=Bv0 (d+1) _ _ _ _ hR c1 (by omega);refine⟨?_,fun hb=>by rw[w2 hb,hsz];omega⟩;rw[w1,Iv,hf,decide_eq_true c2,Bool.true_and,Bool.true_and];congr 1;exact decide_eq_decide.2 ⟨fun h=>by omega,fun h=>by omega⟩
    | false=>
     simp(disch:=omega) only[go_sem,↓reduceIte,g1,g2,g3,g4];refine Pm.refl ⟨false,s1,rfl,fun _ _=>⟨?_,fun h=>(by cases h)⟩,g1,ht4⟩;rw[Iv,hf,Bool.and_false,Bool.false_and,Bool.false_and]
   ·have c2': ¬(d:Int)<=32:=by omega
    simp(disch:=omega) only[go_sem,↓reduceIte,g1,g2,g3,g4,c1,c2'];refine Pm.refl ⟨false,s1,rfl,fun _ _=>⟨?_,fun h=>(by cases h)⟩,g1,ht4⟩;rw[Iv,decide_eq_false c2,Bool.false_and,Bool.false_and,Bool.false_and]
  ·simp(disch:=omega) only[go_sem,↓reduceIte,g1,g2,g3,g4,c1];refine Pm.refl ⟨false,s1,rfl,fun h0 h1=>⟨?_,fun h=>(by cases h)⟩,g1,ht4⟩;have:=sv true h0 h1;rw[decide_eq_false (by omega),Bool.and_false]
theorem Kh (hG:GX G) (H:Ab) (e:Ex) (he:Fit e):Ah Tryz.prog G 23 [.agg (dEx e)] H (Bp (.bool (Ko e)) H):=by
 refine Ac Tryz.func23 Tryz.call23 rfl (by kernel_rfl) ?_;simp(disch:=omega) only[go_sem,↓reduceIte,DVal.cells];intro r1 hr1;dsimp only at hr1;simp(disch:=omega) only[go_sem,↓reduceIte,DVal.cells];intro r3 hr3;dsimp only at hr3;obtain⟨m1,m2,hr3'⟩:=Dj1.1 hr3;simp(disch:=omega) only[go_sem,↓reduceIte,DVal.cells,m1,m2];intro r4 hr4;dsimp only at hr4;obtain⟨p1,p2,hr4a⟩:=Dj1.1 hr4;obtain⟨p3,p4,hr4'⟩:=Dj1.1 hr4a;simp(disch:=omega) only[go_sem,↓reduceIte,DVal.cells,m1,m2,p1,p2,p3,p4];have hub:Sub H (upd (upd (upd H r1 (some (.cells (dEx e) 36))) r3 (some (Mc 256))) r4 (some (.cells [.func (.func 123) [] [.optr r3 0, .optr r4 0]] 149))):=((Sub.refl H).new hr1 _ |>.new hr3 _).new hr4 _;have y1:upd (upd (upd H r1 (some (.cells (dEx e) 36))) r3 (some (Mc 256))) r4 (some (.cells [.func (.func 123) [] [.optr r3 0, .optr r4 0]] 149)) r1=some (.cells (dEx e) 36):=by simp [upd,m2,p4]
 have y3:upd (upd (upd H r1 (some (.cells (dEx e) 36))) r3 (some (Mc 256))) r4 (some (.cells [.func (.func 123) [] [.optr r3 0, .optr r4 0]] 149)) r3=some (Mc 256):=by simp [upd,p2]
 have y4:upd (upd (upd H r1 (some (.cells (dEx e) 36))) r3 (some (Mc 256))) r4 (some (.cells [.func (.func 123) [] [.optr r3 0, .optr r4 0]] 149)) r4=some (.cells [.func (.func 123) [] [.optr r3 0, .optr r4 0]] 149):=Aa _ _ _;change dwp _ _ _ _ _ ⟨_,upd (upd (upd H r1 (some (.cells (dEx e) 36))) r3 (some (Mc 256))) r4 (some (.cells [.func (.func 123) [] [.optr r3 0, .optr r4 0]] 149))⟩;generalize upd (upd (upd H r1 (some (.cells (dEx e) 36))) r3 (some (Mc 256))) r4 (some (.cells [.func (.func 123) [] [.optr r3 0, .optr r4 0]] 149))=K at hub y1 y3 y4;refine An (by kernel_rfl) (.take 0 (.take 2 (.go 1 [2] (.go 3 [] (.take 4 .done))))) (by kernel_rfl) ?_;simp(disch:=omega) only[go_sem,↓reduceIte,y1,y3,y4];refine(Ae3 G _ 1 r3 r4).mono ?_;rintro _ H6 ⟨r6,hr6,rfl,rfl⟩;have x1:r1≠r6:=Af hr6 y1;have x3:r3≠r6:=Af hr6 y3;have x4:r4≠r6:=Af hr6 y4;simp(disch:=omega) only[go_sem,↓reduceIte,y1,y3,y4,x1,x3,x4];refine(Ce9 hG r3 r4 p2 e _ 1 256 r6 he (by decide) (by simp only[upd,if_neg x3];exact y3) (Aa _ _ _) x3 (by simp only[upd,if_neg x4];exact y4)).mono ?_;rintro _ H7 ⟨b,t,rfl,hR,ht,hT⟩;obtain⟨w1,_⟩:=hR (by decide) (by decide);have z1:H7 r1=some (.cells (dEx e) 36):=hT _ _ m2 (by simp only[upd,if_neg x1];exact y1);have z4:H7 r4=some (.cells [.func (.func 123) [] [.optr r3 0, .optr r4 0]] 149):=hT _ _ p1 (by simp only[upd,if_neg x4];exact y4);simp(disch:=omega) only[go_sem,↓reduceIte,y1,y3,y4,x1,x3,x4,z1,z4];refine Pm.sub (hT.sub (hub.new hr6 _) hr3') (Pm.refl ⟨?_,rfl⟩);rw[w1,Ko];have:((Ee e:Int)<=256)↔Ee e<=256:=by omega
 simp only[this]
end
end Go.Dl

-- Chapter 3: values that are put together, seen as trees; MayArgs, MayChoices, Size, Level.
namespace Go.Dl
open Go Go.Proofs
set_option maxRecDepth 100000
def Fv (H':Ab) (v:DVal) (H:Ab) (v':DVal):Prop:= ∀w,Au w H'-> ∀x,Rel w H' v x->Rel w H v' x
def Dp (H':Ab) (vs:List DVal) (H:Ab) (vs':List DVal):Prop:= ∀w,Au w H'-> ∀xs,Ap w H' vs xs->Ap w H vs' xs
section
variable {H H':Ab}
theorem Fv.keep (h:Sub H H') (v:DVal):Fv H' v H v:=fun w _ x hx=>Rel.lasts (Fg h w) _ _ hx
theorem Fv.le {v v':DVal} (h:Sub H H') (k:DLe v v'):Fv H' v H v':=fun w _ x hx=>Rel.lasts (Fg h w) _ _ (k w H' x hx)
theorem Fv.own {e:TypeId} {size n:Nat} {cs:List DVal} {v:DVal} (h:Ea H e size n cs v H'):Fv H' v H (.vslice cs n):=fun w hw x hx=>(h.ghost w hw).2.2 x hx
theorem Fv.block {e:TypeId} {size r n:Nat} {cs:List DVal} (h:Sub H H') (hr:H r=none) (hc:H' r=some (.cells cs e)) (hl:cs.length=n*size):Fv H' (.oslice size r 0 n n) H (.vslice cs n):=
 Fv.own (e:=e) (.inr ⟨r,hr,hl,rfl,hc,h⟩)
theorem Dp.nil:Dp H' [] H []:=fun w _ xs hx=>by simpa [Ap] using hx
theorem Dp.cons {v v':DVal} {vs vs':List DVal} (h:Fv H' v H v') (k:Dp H' vs H vs'):Dp H' (v::vs) H (v'::vs'):=fun w hw xs hx=>by
 simp only[Ap] at hx⊢
 obtain⟨y,ys,rfl,h1,h2⟩:=hx;exact⟨y,ys,rfl,h w hw y h1,k w hw ys h2⟩
theorem Dp.keep (h:Sub H H') (vs:List DVal):Dp H' vs H vs:=fun w _ xs hx=>Ap.lasts (Fg h w) _ _ hx
theorem Dp.append {a a' b b':List DVal} (h:Dp H' a H a') (k:Dp H' b H b'):Dp H' (a++b) H (a'++b'):=fun w hw x hx=>by
 have e:x=x.take a.length++x.drop a.length:=(List.take_append_drop _ _).symm;have h1:=hx.take a.length;have h2:=hx.drop a.length;rw[List.take_left] at h1;rw[List.drop_left] at h2;rw[e];exact(h w hw _ h1).append (k w hw _ h2)
theorem Fv.agg {vs vs':List DVal} (h:Dp H' vs H vs'):Fv H' (.agg vs) H (.agg vs'):=fun w hw x hx=>by
 simp only[Rel] at hx⊢
 obtain⟨xs,rfl,h1⟩:=hx;exact⟨xs,rfl,h w hw _ h1⟩
theorem Fv.tuple {vs vs':List DVal} (h:Dp H' vs H vs'):Fv H' (.tuple vs) H (.tuple vs'):=fun w hw x hx=>by
 simp only[Rel] at hx⊢
 obtain⟨xs,rfl,h1⟩:=hx;exact⟨xs,rfl,h w hw _ h1⟩
theorem Fv.nil (h:Sub H H'):Fv H' .nilSlice H (.vslice [] 0):=Fv.le h .nil
theorem Fv.cells {e:TypeId} {size r n:Nat} {cs cs':List DVal} (h:Sub H H') (hr:H r=none) (hc:H' r=some (.cells cs e)) (hl:cs.length=n*size) (hs:Dp H' cs H cs'):Fv H' (.oslice size r 0 n n) H (.vslice cs' n):=fun w hw x hx=>by
 obtain⟨_,_,k3⟩:=Hw.fz (v:= .oslice size r 0 n n) hc w hw;obtain⟨ys,hy1,hy2⟩:=Qc hw hc;simp only[Rel] at hx⊢
 obtain⟨o,cap,rfl,h1,h2,h3,h4⟩:=hx;refine⟨_,cap,rfl,h2,?_⟩;by_cases h0:cs= []
 ·subst h0;have:=hs w hw [] (by simp [Ap]);cases cs' with
  | nil=>exact .inl rfl
  | cons c cs'=>simp [Ap] at this
 ·obtain⟨zs,hl1,hh⟩:=hw.holds hc;have ho:o=0:=by
   rcases h3 with h3 | h3
   ·exfalso;have:n=0:=by omega
    subst this;rw[Nat.zero_mul] at hl;exact h0 (List.length_eq_zero_iff.1 hl)
   ·exact h3
  subst ho;exact .inr ⟨r,0,zs,rfl, .inr ⟨hr,fun i y hy=>by simpa using hh i y hy⟩,hs w hw zs hl1⟩
theorem Fv.fin {R:DEnd->Ab->Prop} {v v':DVal} (hs:Sub H H') (h:Fv H' v H v') (k:R (.ret v') H):Pm R v H':= .ghost (fun w hw=>⟨((Hw.sub hs v) w hw).1,((Hw.sub hs v) w hw).2.1,h w hw⟩) (.refl k)
theorem Dp.call {P:Program} {G:Nat->DVal} {f:FuncId} {args args':List DVal} {R:DEnd->Ab->Prop} (hs:Sub H H') (h:Dp H' args H args') (k:Ah P G f args' H R):Ah P G f args H' R:=
 Ah.pre (fun w hw=>⟨((Hw.sub hs (.tuple args)) w hw).1,((Hw.sub hs (.tuple args)) w hw).2.1,Fv.tuple h w hw⟩) k
theorem Dp.lent {P:Program} {G:Nat->DVal} {f:FuncId} {args args':List DVal} {v:DVal} (h:Dp H' args H args') (k:Ah P G f args' h0 (Bp v h0)) (hv:loose v=true):Ah P G f args H' (Bp v H'):=
 k.lent (fun w vs hw hr=>Ap.lasts (Ba0 H w) _ _ (h w hw vs hr)) hv
theorem Fv.ex {k o n:Int} {s:List UInt8} {vl va:DVal} {l:List Ex} {a:List As} {li en t:Int} (hs:Sub H H') (hl:Fv H' vl H (dXs l)) (ha:Fv H' va H (dAl a)):
  Dp H' [.int .u8 k, .int .u8 o, .int .i64 n, .str s,vl,va, .int .i64 li, .int .i64 en, .int .i64 t] H (dEx (.mk k o n s l a li en t)):=by
 rw[Bl];exact .cons (.keep hs _) (.cons (.keep hs _) (.cons (.keep hs _) (.cons (.keep hs _) (.cons hl (.cons ha (.keep hs _))))))
theorem Fv.exs0 (hs:Sub H H'):Fv H' .nilSlice H (dXs []):=Fv.nil hs
theorem Fv.as0 (hs:Sub H H'):Fv H' .nilSlice H (dAl []):=Fv.nil hs
theorem Fv.ch0 (hs:Sub H H'):Fv H' .nilSlice H (dCl []):=Fv.nil hs
end
section
end
end Go.Dl

-- Chapter 3: Size, Level, Same, SameArgs, SameChoices (printed by gen_ua.py).
namespace Go.Dl
open Go Go.Proofs
set_option maxRecDepth 100000
def eqF {α:Type} (p:α->α->Bool):List α->List α->Bool
 | [],[]=>true
 | x::l,y::m=>p x y&&eqF p l m
 | _,_=>false
theorem Bv1 {α:Type} {p:α->α->Bool}: ∀ {l m:List α},eqF p l m=true->l.length=m.length
 | [],[],_=>rfl
 | [],_::_,h=>by cases h
 | _::_,[],h=>by cases h
 | x::l,y::m,h=>by
  rw[eqF,Bool.and_eq_true] at h;rw[List.length_cons,List.length_cons,Bv1 h.2]
theorem Bn8 {α:Type} {p:α->α->Bool} {l m:List α} (h:l.length≠m.length):eqF p l m=false:=by
 cases e:eqF p l m with
 | false=>rfl
 | true=>exact absurd (Bv1 e) h
theorem Ae4 {α:Type} {p:α->α->Bool} {l m:List α} {k:Nat} (h1:k<l.length) (h2:k<m.length):eqF p (l.drop k) (m.drop k)=(p l[k] m[k]&&eqF p (l.drop (k+1)) (m.drop (k+1))):=by
 rw[List.drop_eq_getElem_cons h1,List.drop_eq_getElem_cons h2,eqF]
theorem Sw: ∀l m:List Ex,Gw l m=eqF Jl l m
 | [],[]=>by simp [Gw,eqF]
 | [],_::_=>by simp [Gw,eqF]
 | _::_,[]=>by simp [Gw,eqF]
 | x::l,y::m=>by rw[Gw,eqF,Sw l m]
theorem Ae5: ∀l m:List As,Im l m=eqF Yh l m
 | [],[]=>by simp [Im,eqF]
 | [],_::_=>by simp [Im,eqF]
 | _::_,[]=>by simp [Im,eqF]
 | x::l,y::m=>by rw[Im,eqF,Ae5 l m]
theorem Ae6: ∀l m:List Ch,Hy l m=eqF Yi l m
 | [],[]=>by simp [Hy,eqF]
 | [],_::_=>by simp [Hy,eqF]
 | _::_,[]=>by simp [Hy,eqF]
 | x::l,y::m=>by rw[Hy,eqF,Ae6 l m]
theorem Cs1 (x y:As):Yh x y=(Hy x.c y.c&&Jl x.e y.e):=by cases x;rw[Yh];rfl
theorem Cs2 (x y:Ch):Yi x y=(decide (x.kind=y.kind)&&Gw x.l y.l):=by cases x;rw[Yi];rfl
theorem Bv2 (G:Nat->DVal) (H:Ab) (p:Ex->Ex->Bool) (l m:List Ex) (g:FuncId) (hl:l.length<=1099511627776)
  (hp: ∀x∈l,∀y∈m,∀H,Ah Tryz.prog G g ([]++ [.agg (dEx x), .agg (dEx y)]++ []) H (Bp (.bool (p x y)) H)):
  Ah Tryz.prog G 114 [.vslice (l.flatMap dEx) l.length, .vslice (m.flatMap dEx) m.length, .func (.func g) [] []] H (Bp (.bool (eqF p l m)) H):=by
 refine Ac Tryz.func114 Tryz.call114 rfl (by kernel_rfl) ?_;by_cases hlen:l.length=m.length
 ·have hlen':(l.length:Int)=(m.length:Int):=by omega
  simp(disch:=omega) only[go_sem,↓reduceIte,hlen'];obtain⟨I,hI⟩: ∃I:Nat->(Nat->DVal)->Ab->Prop,∀k env heap,I k env heap↔(env 0= .vslice (l.flatMap dEx) l.length/\env 1= .vslice (m.flatMap dEx) m.length/\env 2= .func (.func g) [] []/\env 15= .vslice (l.flatMap dEx) l.length/\env 16=dI m.length/\env 17=dI k/\k<=l.length/\eqF p l m=eqF p (l.drop k) (m.drop k)/\Sub H heap):=⟨_,fun _ _ _=>Iff.rfl⟩;refine Bs7.run I (fun k=>l.length-k) 0 ((hI _ _ _).2 ?_) ?_
  ·simp(disch:=omega) only[go_sem,↓reduceIte];(repeat' apply And.intro)<;>(try first | rfl | assumption | omega);exact Sub.refl _
  ·intro k env heap hi;obtain⟨e0,e1,e2,e15,e16,e17,hk,hsm,hsub⟩:=(hI _ _ _).1 hi;have hfl:=Bj Aj l;have hfm:=Bj Aj m;by_cases hlt:k<l.length
   ·have hlt':(k:Int)<(m.length:Int):=by omega
    have hlt2:(k:Int)<(l.length:Int):=by omega
    have hkm:k<m.length:=by omega
    have hget:=Df Aj l k hlt;have hgetm:=Df Aj m k hkm;have hwd:IntKind.i64.wrap ((k:Int)+1)=((k+1:Nat):Int):=by rw[IntKind.wrap_i64];omega
    simp(disch:=omega) only[go_sem,↓reduceIte,e0,e1,e2,e15,e16,e17,hlt',hlt2,hget,hgetm,hfl,hfm,Int.toNat_natCast];intro r8 hr8;dsimp only at hr8;simp(disch:=omega) only[go_sem,↓reduceIte,e0,e1,e2,e15,e16,e17,hlt',hlt2,hget,hgetm,hfl,hfm,Int.toNat_natCast];intro r9 hr9;dsimp only at hr9;obtain⟨m2,m1,hr9'⟩:=Dj1.1 hr9;simp(disch:=omega) only[go_sem,↓reduceIte,e0,e1,e2,e15,e16,e17,m1,m2,hget,hgetm,hfl,hfm,Int.toNat_natCast];refine(hp l[k] (List.getElem_mem hlt) m[k] (List.getElem_mem hkm) _).mono ?_;rintro _ H1 ⟨rfl,rfl⟩;rw[Ae4 hlt hkm] at hsm;have hs1:=(hsub.new hr8 (some (DObj.cells (dEx l[k]) 36))).new hr9 (some (DObj.cells (dEx m[k]) 36));cases hb:p l[k] m[k] with
    | true=>
     rw[hb,Bool.true_and] at hsm;simp(disch:=omega) only[go_sem,↓reduceIte,e0,e1,e2,e15,e16,e17];refine⟨k+1,_,Ik.refl _,(hI _ _ _).2 ?_,by omega⟩;simp(disch:=omega) only[go_sem,↓reduceIte,e0,e1,e2,e15,e16,e17,hwd];(repeat' apply And.intro)<;>(try first | rfl | assumption | omega)
    | false=>
     rw[hb,Bool.false_and] at hsm;simp(disch:=omega) only[go_sem,↓reduceIte,e0,e1,e2,e15,e16,e17];exact Pm.sub hs1 (Pm.refl ⟨by rw[hsm],rfl⟩)
   ·have:k=l.length:=by omega
    subst this;have hlt': ¬(l.length:Int)<(m.length:Int):=by omega
    simp(disch:=omega) only[go_sem,↓reduceIte,e0,e1,e2,e15,e16,e17,hlt'];refine Pm.sub hsub (Pm.refl ⟨?_,rfl⟩);rw[hsm,List.drop_length,hlen,List.drop_length];rfl
 ·have hlen': ¬(l.length:Int)=(m.length:Int):=by omega
  simp(disch:=omega) only[go_sem,↓reduceIte,hlen'];exact Pm.refl ⟨by rw[Bn8 hlen],rfl⟩
theorem Df5 (G:Nat->DVal) (H:Ab) (p:As->As->Bool) (l m:List As) (g:FuncId) (hl:l.length<=1099511627776)
  (hp: ∀x∈l,∀y∈m,∀H,Ah Tryz.prog G g ([]++ [.agg (dAs x), .agg (dAs y)]++ []) H (Bp (.bool (p x y)) H)):
  Ah Tryz.prog G 253 [.vslice (l.flatMap dAs) l.length, .vslice (m.flatMap dAs) m.length, .func (.func g) [] []] H (Bp (.bool (eqF p l m)) H):=by
 refine Ac Tryz.func253 Tryz.call253 rfl (by kernel_rfl) ?_;by_cases hlen:l.length=m.length
 ·have hlen':(l.length:Int)=(m.length:Int):=by omega
  simp(disch:=omega) only[go_sem,↓reduceIte,hlen'];obtain⟨I,hI⟩: ∃I:Nat->(Nat->DVal)->Ab->Prop,∀k env heap,I k env heap↔(env 0= .vslice (l.flatMap dAs) l.length/\env 1= .vslice (m.flatMap dAs) m.length/\env 2= .func (.func g) [] []/\env 15= .vslice (l.flatMap dAs) l.length/\env 16=dI m.length/\env 17=dI k/\k<=l.length/\eqF p l m=eqF p (l.drop k) (m.drop k)/\Sub H heap):=⟨_,fun _ _ _=>Iff.rfl⟩;refine Bs7.run I (fun k=>l.length-k) 0 ((hI _ _ _).2 ?_) ?_
  ·simp(disch:=omega) only[go_sem,↓reduceIte];(repeat' apply And.intro)<;>(try first | rfl | assumption | omega);exact Sub.refl _
  ·intro k env heap hi;obtain⟨e0,e1,e2,e15,e16,e17,hk,hsm,hsub⟩:=(hI _ _ _).1 hi;have hfl:=Bj Dv l;have hfm:=Bj Dv m;by_cases hlt:k<l.length
   ·have hlt':(k:Int)<(m.length:Int):=by omega
    have hlt2:(k:Int)<(l.length:Int):=by omega
    have hkm:k<m.length:=by omega
    have hget:=Df Dv l k hlt;have hgetm:=Df Dv m k hkm;have hwd:IntKind.i64.wrap ((k:Int)+1)=((k+1:Nat):Int):=by rw[IntKind.wrap_i64];omega
    simp(disch:=omega) only[go_sem,↓reduceIte,e0,e1,e2,e15,e16,e17,hlt',hlt2,hget,hgetm,hfl,hfm,Int.toNat_natCast];intro r8 hr8;dsimp only at hr8;simp(disch:=omega) only[go_sem,↓reduceIte,e0,e1,e2,e15,e16,e17,hlt',hlt2,hget,hgetm,hfl,hfm,Int.toNat_natCast];intro r9 hr9;dsimp only at hr9;obtain⟨m2,m1,hr9'⟩:=Dj1.1 hr9;simp(disch:=omega) only[go_sem,↓reduceIte,e0,e1,e2,e15,e16,e17,m1,m2,hget,hgetm,hfl,hfm,Int.toNat_natCast];refine(hp l[k] (List.getElem_mem hlt) m[k] (List.getElem_mem hkm) _).mono ?_;rintro _ H1 ⟨rfl,rfl⟩;rw[Ae4 hlt hkm] at hsm;have hs1:=(hsub.new hr8 (some (DObj.cells (dAs l[k]) 51))).new hr9 (some (DObj.cells (dAs m[k]) 51));cases hb:p l[k] m[k] with
    | true=>
     rw[hb,Bool.true_and] at hsm;simp(disch:=omega) only[go_sem,↓reduceIte,e0,e1,e2,e15,e16,e17];refine⟨k+1,_,Ik.refl _,(hI _ _ _).2 ?_,by omega⟩;simp(disch:=omega) only[go_sem,↓reduceIte,e0,e1,e2,e15,e16,e17,hwd];(repeat' apply And.intro)<;>(try first | rfl | assumption | omega)
    | false=>
     rw[hb,Bool.false_and] at hsm;simp(disch:=omega) only[go_sem,↓reduceIte,e0,e1,e2,e15,e16,e17];exact Pm.sub hs1 (Pm.refl ⟨by rw[hsm],rfl⟩)
   ·have:k=l.length:=by omega
    subst this;have hlt': ¬(l.length:Int)<(m.length:Int):=by omega
    simp(disch:=omega) only[go_sem,↓reduceIte,e0,e1,e2,e15,e16,e17,hlt'];refine Pm.sub hsub (Pm.refl ⟨?_,rfl⟩);rw[hsm,List.drop_length,hlen,List.drop_length];rfl
 ·have hlen': ¬(l.length:Int)=(m.length:Int):=by omega
  simp(disch:=omega) only[go_sem,↓reduceIte,hlen'];exact Pm.refl ⟨by rw[Bn8 hlen],rfl⟩
theorem Df6 (G:Nat->DVal) (H:Ab) (p:Ch->Ch->Bool) (l m:List Ch) (g:FuncId) (hl:l.length<=1099511627776)
  (hp: ∀x∈l,∀y∈m,∀H,Ah Tryz.prog G g ([]++ [.agg (dCh x), .agg (dCh y)]++ []) H (Bp (.bool (p x y)) H)):
  Ah Tryz.prog G 309 [.vslice (l.flatMap dCh) l.length, .vslice (m.flatMap dCh) m.length, .func (.func g) [] []] H (Bp (.bool (eqF p l m)) H):=by
 refine Ac Tryz.func309 Tryz.call309 rfl (by kernel_rfl) ?_;by_cases hlen:l.length=m.length
 ·have hlen':(l.length:Int)=(m.length:Int):=by omega
  simp(disch:=omega) only[go_sem,↓reduceIte,hlen'];obtain⟨I,hI⟩: ∃I:Nat->(Nat->DVal)->Ab->Prop,∀k env heap,I k env heap↔(env 0= .vslice (l.flatMap dCh) l.length/\env 1= .vslice (m.flatMap dCh) m.length/\env 2= .func (.func g) [] []/\env 15= .vslice (l.flatMap dCh) l.length/\env 16=dI m.length/\env 17=dI k/\k<=l.length/\eqF p l m=eqF p (l.drop k) (m.drop k)/\Sub H heap):=⟨_,fun _ _ _=>Iff.rfl⟩;refine Bs7.run I (fun k=>l.length-k) 0 ((hI _ _ _).2 ?_) ?_
  ·simp(disch:=omega) only[go_sem,↓reduceIte];(repeat' apply And.intro)<;>(try first | rfl | assumption | omega);exact Sub.refl _
  ·intro k env heap hi;obtain⟨e0,e1,e2,e15,e16,e17,hk,hsm,hsub⟩:=(hI _ _ _).1 hi;have hfl:=Bj Ec l;have hfm:=Bj Ec m;by_cases hlt:k<l.length
   ·have hlt':(k:Int)<(m.length:Int):=by omega
    have hlt2:(k:Int)<(l.length:Int):=by omega
    have hkm:k<m.length:=by omega
    have hget:=Df Ec l k hlt;have hgetm:=Df Ec m k hkm;have hwd:IntKind.i64.wrap ((k:Int)+1)=((k+1:Nat):Int):=by rw[IntKind.wrap_i64];omega
    simp(disch:=omega) only[go_sem,↓reduceIte,e0,e1,e2,e15,e16,e17,hlt',hlt2,hget,hgetm,hfl,hfm,Int.toNat_natCast];intro r8 hr8;dsimp only at hr8;simp(disch:=omega) only[go_sem,↓reduceIte,e0,e1,e2,e15,e16,e17,hlt',hlt2,hget,hgetm,hfl,hfm,Int.toNat_natCast];intro r9 hr9;dsimp only at hr9;obtain⟨m2,m1,hr9'⟩:=Dj1.1 hr9;simp(disch:=omega) only[go_sem,↓reduceIte,e0,e1,e2,e15,e16,e17,m1,m2,hget,hgetm,hfl,hfm,Int.toNat_natCast];refine(hp l[k] (List.getElem_mem hlt) m[k] (List.getElem_mem hkm) _).mono ?_;rintro _ H1 ⟨rfl,rfl⟩;rw[Ae4 hlt hkm] at hsm;have hs1:=(hsub.new hr8 (some (DObj.cells (dCh l[k]) 54))).new hr9 (some (DObj.cells (dCh m[k]) 54));cases hb:p l[k] m[k] with
    | true=>
     rw[hb,Bool.true_and] at hsm;simp(disch:=omega) only[go_sem,↓reduceIte,e0,e1,e2,e15,e16,e17];refine⟨k+1,_,Ik.refl _,(hI _ _ _).2 ?_,by omega⟩;simp(disch:=omega) only[go_sem,↓reduceIte,e0,e1,e2,e15,e16,e17,hwd];(repeat' apply And.intro)<;>(try first | rfl | assumption | omega)
    | false=>
     rw[hb,Bool.false_and] at hsm;simp(disch:=omega) only[go_sem,↓reduceIte,e0,e1,e2,e15,e16,e17];exact Pm.sub hs1 (Pm.refl ⟨by rw[hsm],rfl⟩)
   ·have:k=l.length:=by omega
    subst this;have hlt': ¬(l.length:Int)<(m.length:Int):=by omega
    simp(disch:=omega) only[go_sem,↓reduceIte,e0,e1,e2,e15,e16,e17,hlt'];refine Pm.sub hsub (Pm.refl ⟨?_,rfl⟩);rw[hsm,List.drop_length,hlen,List.drop_length];rfl
 ·have hlen': ¬(l.length:Int)=(m.length:Int):=by omega
  simp(disch:=omega) only[go_sem,↓reduceIte,hlen'];exact Pm.refl ⟨by rw[Bn8 hlen],rfl⟩
def Wr (P:Program) (G:Nat->DVal) (f:FuncId) (x:Ex):Prop:= ∀y H,Ah P G f ([]++ [.agg (dEx x), .agg (dEx y)]++ []) H (Bp (.bool (Jl x y)) H)
theorem Bn9 (G:Nat->DVal) (H:Ab) (x y:Ch) (hl:x.l.length<=1099511627776) (hS: ∀e∈x.l,Wr Tryz.prog G 20 e):Ah Tryz.prog G 310 ([]++ [.agg (dCh x), .agg (dCh y)]++ []) H (Bp (.bool (Yi x y)) H):=by
 rw[Cs2,Sw];refine Ac Tryz.func310 Tryz.call310 rfl (by kernel_rfl) ?_;simp(disch:=omega) only[go_sem,↓reduceIte,DVal.cells,List.nil_append,List.append_nil];intro r2 hr2;dsimp only at hr2;simp(disch:=omega) only[go_sem,↓reduceIte,DVal.cells];intro r3 hr3;dsimp only at hr3;obtain⟨m2,m1,hr3'⟩:=Dj1.1 hr3;by_cases h1:x.kind=y.kind
 ·simp(disch:=omega) only[go_sem,↓reduceIte,m1,m2,h1];refine(Bv2 G _ Jl x.l y.l 20 hl fun e he f _ K=>hS e he f K).mono ?_;rintro _ H1 ⟨rfl,rfl⟩;simp(disch:=omega) only[go_sem,↓reduceIte];exact Pm.sub (show Sub H _ from(by repeat (first | exact Sub.refl _ | assumption | refine Sub.up ?_ (by assumption) _))) (Pm.refl ⟨by simp,rfl⟩)
 ·simp(disch:=omega) only[go_sem,↓reduceIte,m1,m2,h1];exact Pm.sub (show Sub H _ from(by repeat (first | exact Sub.refl _ | assumption | refine Sub.up ?_ (by assumption) _))) (Pm.refl ⟨by simp,rfl⟩)
theorem Cf0 (G:Nat->DVal) (H:Ab) (l m:List Ch) (hl:Fz l<=1099511627776) (hS: ∀e∈l.flatMap Ch.l,Wr Tryz.prog G 20 e):Ah Tryz.prog G 195 [dCl l,dCl m] H (Bp (.bool (Hy l m)) H):=by
 have hll:=Rh l;refine Ac Tryz.func195 Tryz.call195 rfl (by kernel_rfl) ?_;simp(disch:=omega) only[go_sem,↓reduceIte,dCl];refine(Df6 G _ Yi l m 310 (by omega) fun c hc d _ K=>Bn9 G K c d (by have:=Rg hc;have:=Qk c.l;rw[Rf] at*;omega) fun e he=>hS e (List.mem_flatMap.2 ⟨c,hc,he⟩)).mono ?_;rintro _ H1 ⟨rfl,rfl⟩;simp(disch:=omega) only[go_sem,↓reduceIte];exact Pm.refl ⟨by rw[Ae6],rfl⟩
theorem Bo0 (G:Nat->DVal) (H:Ab) (x y:As) (hl:Ma x<=1099511627776) (hS: ∀e∈Cu x,Wr Tryz.prog G 20 e):Ah Tryz.prog G 254 ([]++ [.agg (dAs x), .agg (dAs y)]++ []) H (Bp (.bool (Yh x y)) H):=by
 have hb:=Ur x;have dx:=Bb7 x;have dy:=Bb7 y;rw[Cs1];refine Ac Tryz.func254 Tryz.call254 rfl (by kernel_rfl) ?_;simp(disch:=omega) only[go_sem,↓reduceIte,DVal.cells,List.nil_append,List.append_nil];intro r2 hr2;dsimp only at hr2;simp(disch:=omega) only[go_sem,↓reduceIte,DVal.cells];intro r3 hr3;dsimp only at hr3;obtain⟨m2,m1,hr3'⟩:=Dj1.1 hr3;simp(disch:=omega) only[go_sem,↓reduceIte,m1,m2];refine(Cf0 G _ x.c y.c (by omega) fun e he=>hS e (List.mem_append_left _ he)).mono ?_;rintro _ H1 ⟨rfl,rfl⟩;cases h:Hy x.c y.c with
 | false=>
  simp(disch:=omega) only[go_sem,↓reduceIte,m1,m2];exact Pm.sub (show Sub H _ from(by repeat (first | exact Sub.refl _ | assumption | refine Sub.up ?_ (by assumption) _))) (Pm.refl ⟨by simp,rfl⟩)
 | true=>
  simp(disch:=omega) only[go_sem,↓reduceIte,m1,m2,dx,dy];refine(hS x.e (Je x) y.e _).mono ?_;rintro _ H1 ⟨rfl,rfl⟩;simp(disch:=omega) only[go_sem,↓reduceIte];exact Pm.sub (show Sub H _ from(by repeat (first | exact Sub.refl _ | assumption | refine Sub.up ?_ (by assumption) _))) (Pm.refl ⟨by simp,rfl⟩)
theorem Bc6 (G:Nat->DVal) (H:Ab) (l m:List As) (hl:Dg l<=1099511627776) (hS: ∀e∈l.flatMap Cu,Wr Tryz.prog G 20 e):Ah Tryz.prog G 115 [dAl l,dAl m] H (Bp (.bool (Im l m)) H):=by
 have hll:=Wo l;refine Ac Tryz.func115 Tryz.call115 rfl (by kernel_rfl) ?_;simp(disch:=omega) only[go_sem,↓reduceIte,dAl];refine(Df5 G _ Yh l m 254 (by omega) fun a ha b _ K=>Bo0 G K a b (by have:=Wn ha;omega) fun e he=>hS e (List.mem_flatMap.2 ⟨a,ha,he⟩)).mono ?_;rintro _ H1 ⟨rfl,rfl⟩;simp(disch:=omega) only[go_sem,↓reduceIte];exact Pm.refl ⟨by rw[Ae5],rfl⟩
theorem Df7 (G:Nat->DVal): ∀x:Ex,Cp x<=1099511627776->Wr Tryz.prog G 20 x:=by
 intro x
 induction x using Ex.ind with
 | h x ih=>
  intro hb y H;have hbe:=Uq x;have hbl:=Qk x.l;have ih': ∀e∈parts x,Wr Tryz.prog G 20 e:=fun e he=>ih e he (by have:=Sv he;omega);rw[Cr3,Sw];refine Ac Tryz.func20 Tryz.call20 rfl (by kernel_rfl) ?_;simp(disch:=omega) only[go_sem,↓reduceIte,DVal.cells,List.nil_append,List.append_nil];intro r2 hr2;dsimp only at hr2;simp(disch:=omega) only[go_sem,↓reduceIte,DVal.cells];intro r3 hr3;dsimp only at hr3;obtain⟨m2,m1,hr3'⟩:=Dj1.1 hr3;by_cases h1:x.kind=y.kind
  ·by_cases h2:x.oper=y.oper
   ·by_cases h3:x.n=y.n
    ·by_cases h4:x.s=y.s
     ·simp(disch:=omega) only[go_sem,↓reduceIte,m1,m2,h1,h2,h3,h4];refine(Bv2 G _ Jl x.l y.l 20 (by omega) fun e he f _ K=>ih' e (Ar he) f K).mono ?_;rintro _ H1 ⟨rfl,rfl⟩;cases h5:eqF Jl x.l y.l with
      | true=>
       simp(disch:=omega) only[go_sem,↓reduceIte,m1,m2];refine(Bc6 G _ x.a y.a (by omega) fun e he=>ih' e (List.mem_append_right _ he)).mono ?_;rintro _ H1 ⟨rfl,rfl⟩;simp(disch:=omega) only[go_sem,↓reduceIte];exact Pm.sub (show Sub H _ from(by repeat (first | exact Sub.refl _ | assumption | refine Sub.up ?_ (by assumption) _))) (Pm.refl ⟨by simp,rfl⟩)
      | false=>
       simp(disch:=omega) only[go_sem,↓reduceIte,m1,m2];exact Pm.sub (show Sub H _ from(by repeat (first | exact Sub.refl _ | assumption | refine Sub.up ?_ (by assumption) _))) (Pm.refl ⟨by simp,rfl⟩)
     ·simp(disch:=omega) only[go_sem,↓reduceIte,m1,m2,h1,h2,h3,h4];exact Pm.sub (show Sub H _ from(by repeat (first | exact Sub.refl _ | assumption | refine Sub.up ?_ (by assumption) _))) (Pm.refl ⟨by simp,rfl⟩)
    ·simp(disch:=omega) only[go_sem,↓reduceIte,m1,m2,h1,h2,h3];exact Pm.sub (show Sub H _ from(by repeat (first | exact Sub.refl _ | assumption | refine Sub.up ?_ (by assumption) _))) (Pm.refl ⟨by simp,rfl⟩)
   ·simp(disch:=omega) only[go_sem,↓reduceIte,m1,m2,h1,h2];exact Pm.sub (show Sub H _ from(by repeat (first | exact Sub.refl _ | assumption | refine Sub.up ?_ (by assumption) _))) (Pm.refl ⟨by simp,rfl⟩)
  ·simp(disch:=omega) only[go_sem,↓reduceIte,m1,m2,h1];exact Pm.sub (show Sub H _ from(by repeat (first | exact Sub.refl _ | assumption | refine Sub.up ?_ (by assumption) _))) (Pm.refl ⟨by simp,rfl⟩)
theorem Li (G:Nat->DVal) (H:Ab) (x y:Ex) (hx:Cp x<=1099511627776):Ah Tryz.prog G 20 [.agg (dEx x), .agg (dEx y)] H (Bp (.bool (Jl x y)) H):=Df7 G x hx y H
def Dj9 (x:Ex) (s:Int) (b:Bool) (s':Int):Prop:=0<=s->s+Ee x<=4611686018427387904->b=true/\s'=s+Ee x
theorem Bc7: ∀(l:List Ex) (s:Int) (b:Bool) (s':Int),Bc2 Dj9 l s b s'->0<=s->s+Hm l<=4611686018427387904->b=true/\s'=s+Hm l
 | [],s,b,s',h,_,_=>by
  obtain⟨rfl,rfl⟩:=h;exact⟨rfl,by simp [Hm]⟩
 | x::l,s,b,s',h,h0,h1=>by
  obtain⟨b1,s1,hx,h⟩:=h;have hsum:Hm (x::l)=Ee x+Hm l:=by simp [Hm]
  obtain⟨rfl,rfl⟩:=hx h0 (by omega);rcases h with⟨_,h⟩ | ⟨h,_⟩
  ·obtain⟨k1,k2⟩:=Bc7 l _ b s' h (by omega) (by omega);exact⟨k1,by rw[k2,hsum];omega⟩
  ·cases h
theorem Ws (G:Nat->DVal): ∀(e:Ex) (H:Ab),Cp e<=1099511627776->Ah Tryz.prog G 120 [.agg (dEx e)] H (Bp (dI (Ee e)) H):=by
 intro e
 induction e using Ex.ind with
 | h e ih=>
  intro H hb;have hsz:=Wp e;have hsum:=Lh e;refine Ac Tryz.func120 Tryz.call120 rfl (by kernel_rfl) ?_;simp(disch:=omega) only[go_sem,↓reduceIte,DVal.cells];intro r1 hr1;dsimp only at hr1;simp(disch:=omega) only[go_sem,↓reduceIte,DVal.cells];intro r3 hr3;dsimp only at hr3;obtain⟨m1,m2,hr3'⟩:=Dj1.1 hr3;simp(disch:=omega) only[go_sem,↓reduceIte,m1,m2];have hs1:Sub H (upd (upd H r1 (some (.cells (dEx e) 36))) r3 (some (Mc 1))):=((Sub.refl H).new hr1 _).new hr3 _;refine(An7 G _ e hb 256 [] [.optr r3 0] Dj9 r3 1 (Aa _ _ _) fun x hx s K hK hT=> ?_).mono ?_
  ·have hbx:=Sv hx;unfold Mc at hK;refine Ac Tryz.func256 Tryz.call256 rfl (by kernel_rfl) ?_;simp(disch:=omega) only[go_sem,↓reduceIte,DVal.cells,List.nil_append,List.cons_append];intro q hq;dsimp only at hq;have n1:r3≠q:=Af hq hK;have n2:q≠r3:=n1.symm;simp(disch:=omega) only[go_sem,↓reduceIte,n1,n2,hK];refine An (by kernel_rfl) (.take 0 (.take 1 (.go 2 [0] (.take 3 (.go 4 [] .done))))) (by kernel_rfl) ?_;simp(disch:=omega) only[go_sem,↓reduceIte,n1,n2,hK];refine(ih x hx _ (by omega)).mono ?_;rintro _ H2 ⟨rfl,rfl⟩;simp(disch:=omega) only[go_sem,↓reduceIte,n1,n2,hK];refine Pm.refl ⟨true,_,rfl,fun h0 h1=>⟨rfl,?_⟩,Aa _ _ _,((Pp.refl r3 _).new hq _).set _⟩;rw[IntKind.wrap_i64];omega
  ·rintro _ H7 ⟨b,t,rfl,hR,ht,hT⟩;unfold Mc at ht;obtain⟨_,w2⟩:=Bc7 _ _ _ _ hR (by decide) (by omega);simp(disch:=omega) only[go_sem,↓reduceIte,ht];refine Pm.sub (hT.sub hs1 hr3') (Pm.refl ⟨?_,rfl⟩);have e1:t=(Ee e:Int):=by rw[w2,hsum];omega
   rw[e1]
end Go.Dl

-- Chapter 3: the reference's Same, SameArgs, SameChoices; Level (printed by gen_ub.py).
namespace Go.Dl
open Go Go.Proofs
set_option maxRecDepth 100000
section
variable {G:Nat->DVal} {H:Ab}
theorem Jw (G:Nat->DVal) (H:Ab) (e:Ex):Ah Tryz.prog G 121 [.agg (dEx e)] H (Bp (dI (Ak e)) H):=by
 refine Ac Tryz.func121 Tryz.call121 rfl (by kernel_rfl) ?_;simp(disch:=omega) only[go_sem,↓reduceIte,DVal.cells];intro r hr;dsimp only at hr;by_cases k13:e.kind=13
 ·skip
  simp(disch:=omega) only[go_sem,↓reduceIte,k13];exact Pm.dropA r hr (Pm.refl ⟨by simp [Ak,k13],rfl⟩)
 by_cases k14:e.kind=14
 ·skip
  simp(disch:=omega) only[go_sem,↓reduceIte,k13,k14];exact Pm.dropA r hr (Pm.refl ⟨by simp [Ak,k13,k14],rfl⟩)
 by_cases k11:e.kind=11
 ·by_cases o18:e.oper=18
  ·skip
   simp(disch:=omega) only[go_sem,↓reduceIte,k11,o18];exact Pm.dropA r hr (Pm.refl ⟨by simp [Ak,k11,o18],rfl⟩)
  by_cases o19:e.oper=19
  ·skip
   simp(disch:=omega) only[go_sem,↓reduceIte,k11,o18,o19];exact Pm.dropA r hr (Pm.refl ⟨by simp [Ak,k11,o18,o19],rfl⟩)
  by_cases o20:e.oper=20
  ·skip
   simp(disch:=omega) only[go_sem,↓reduceIte,k11,o18,o19,o20];exact Pm.dropA r hr (Pm.refl ⟨by simp [Ak,k11,o18,o19,o20],rfl⟩)
  by_cases o21:e.oper=21
  ·skip
   simp(disch:=omega) only[go_sem,↓reduceIte,k11,o18,o19,o20,o21];exact Pm.dropA r hr (Pm.refl ⟨by simp [Ak,k11,o18,o19,o20,o21],rfl⟩)
  simp(disch:=omega) only[go_sem,↓reduceIte,k11,o18,o19,o20,o21];exact Pm.dropA r hr (Pm.refl ⟨by simp [Ak,k11,o18,o19,o20,o21],rfl⟩)
 by_cases k12:e.kind=12
 ·by_cases a1:13<=e.oper
  ·by_cases a2:e.oper<=17
   ·skip
    simp(disch:=omega) only[go_sem,↓reduceIte,k12,k11,a1,a2];refine Pm.dropA r hr (Pm.refl ⟨?_,rfl⟩);congr 2;rw[Ak,if_neg (by omega),if_neg (by omega),if_pos (by omega)];(repeat (first | rfl | rw[if_pos (by omega)] | rw[if_neg (by omega)]))
   ·have b1:7<=e.oper:=by omega
    have b2: ¬e.oper<=12:=by omega
    have c1:3<=e.oper:=by omega
    have c2: ¬e.oper<=6:=by omega
    have x1: ¬e.oper=1:=by omega
    have x2: ¬e.oper=2:=by omega
    simp(disch:=omega) only[go_sem,↓reduceIte,k12,k11,a1,a2,b1,b2,x1,x2,c1,c2];refine Pm.dropA r hr (Pm.refl ⟨?_,rfl⟩);congr 2;rw[Ak,if_neg (by omega),if_neg (by omega),if_pos (by omega)];(repeat (first | rfl | rw[if_pos (by omega)] | rw[if_neg (by omega)]))
  ·by_cases b1:7<=e.oper
   ·have b2:e.oper<=12:=by omega
    simp(disch:=omega) only[go_sem,↓reduceIte,k12,k11,a1,b1,b2];refine Pm.dropA r hr (Pm.refl ⟨?_,rfl⟩);congr 2;rw[Ak,if_neg (by omega),if_neg (by omega),if_pos (by omega)];(repeat (first | rfl | rw[if_pos (by omega)] | rw[if_neg (by omega)]))
   ·by_cases x1:e.oper=1
    ·skip
     simp(disch:=omega) only[go_sem,↓reduceIte,k12,k11,x1];refine Pm.dropA r hr (Pm.refl ⟨?_,rfl⟩);congr 2;rw[Ak,if_neg (by omega),if_neg (by omega),if_pos (by omega)];(repeat (first | rfl | rw[if_pos (by omega)] | rw[if_neg (by omega)]))
    by_cases x2:e.oper=2
    ·skip
     simp(disch:=omega) only[go_sem,↓reduceIte,k12,k11,x2];refine Pm.dropA r hr (Pm.refl ⟨?_,rfl⟩);congr 2;rw[Ak,if_neg (by omega),if_neg (by omega),if_pos (by omega)];(repeat (first | rfl | rw[if_pos (by omega)] | rw[if_neg (by omega)]))
    by_cases c1:3<=e.oper
    ·have c2:e.oper<=6:=by omega
     simp(disch:=omega) only[go_sem,↓reduceIte,k12,k11,a1,b1,x1,x2,c1,c2];refine Pm.dropA r hr (Pm.refl ⟨?_,rfl⟩);congr 2;rw[Ak,if_neg (by omega),if_neg (by omega),if_pos (by omega)];(repeat (first | rfl | rw[if_pos (by omega)] | rw[if_neg (by omega)]))
    ·skip
     simp(disch:=omega) only[go_sem,↓reduceIte,k12,k11,a1,b1,x1,x2,c1];refine Pm.dropA r hr (Pm.refl ⟨?_,rfl⟩);congr 2;rw[Ak,if_neg (by omega),if_neg (by omega),if_pos (by omega)];(repeat (first | rfl | rw[if_pos (by omega)] | rw[if_neg (by omega)]))
 simp(disch:=omega) only[go_sem,↓reduceIte,k11,k12,k13,k14];exact Pm.dropA r hr (Pm.refl ⟨by simp [Ak,k11,k12,k13,k14],rfl⟩)
end
end Go.Dl

-- THE DATA LEVEL, PART N: a call that is put off to the end, and takes up a panic there.
namespace Go.Dl
open Go
set_option maxRecDepth 10000
section
variable {P:Program} {G:Nat->DVal}
theorem An8 {fn:Func} {args:List DVal} {H:Ab} {vs:List Value} {w:World} {T:List Deferred} {st:Bool} (hA:args.length<=fn.ntmps) (hv:Ap w H args vs) (hH:Au w H) (hG:GOk G w H):
  Sim G ⟨fn.ntmps,⟨w.heap.size,T,st⟩⟩ ⟨Lt args 0,H⟩ { tmps:=vs.toArray++Array.replicate (fn.ntmps-vs.toArray.size) undef,defers:=T } w:=by
 have hl:=hv.length;refine⟨by simp;omega,⟨[],rfl,List.nodup_nil,by simp⟩,fun i hi=> ?_,hH,hG,Nat.le_refl _⟩;have h0:=Wc args 0 i;rw[Nat.zero_add] at h0;show Rel w H (Lt args 0 i) _;rw[h0];by_cases hlt:i<args.length
 ·have h1:args[i]? =some (args.getD i Cs):=by simp [List.getD,List.getElem?_eq_getElem hlt]
  obtain⟨x,hx,hr⟩:=hv.get h1;have:(vs.toArray++Array.replicate (fn.ntmps-vs.toArray.size) undef).getD i undef=x:=by
   have hlt':i<vs.length:=by omega
   rw[Array.getD_eq_getD_getElem?,Array.getElem?_append_left (by simpa using hlt')];simp [hx]
  rw[this];exact hr
 ·have h1:args.getD i Cs=Cs:=by simp [List.getD,List.getElem?_eq_none (Nat.le_of_not_lt hlt)]
  have:(vs.toArray++Array.replicate (fn.ntmps-vs.toArray.size) undef).getD i undef=undef:=by
   rw[Array.getD_eq_getD_getElem?,Array.getElem?_append_right (by simp;omega)];simp only[Array.getElem?_replicate];split<;>rfl
  rw[h1,this];exact Ob w H
def Ae7 (R:Ab->Prop):DExit->DS->Prop
 | .normal,s=>R s.heap
 | .ret,s=>R s.heap
 | _,_=>False
def Rx (t ty:Nat) (ps:String) (af:Array Edge):Oper:= { dst:=some t,op:= .call { callee:= .builtin .recover,args:= #[],argTypes:= #[] },type:=ty,pos:=ps,after:=af,guard:=none }
def Yk (t t' ty:Nat) (ps:String) (af:Array Edge):Oper:= { dst:=some t',op:= .assign (.tmp t),type:=ty,pos:=ps,after:=af,guard:=none }
theorem Ou {N:Fr} {s:DS} {a:Act} {w:World} (hS:Sim G N s a w) (h:N.base.still=true):a.defers=N.base.late:=by
 obtain⟨Ds,h1,_,h3⟩:=hS.defers;cases Ds with
 | nil=>exact h1
 | cons D Ds=>have:=(h3 D (by simp)).1.2;rw[h] at this;cases this
theorem Cf1 {n:Nat} {ops:Array Oper} {Q:Exit->Act->List Frame->World->Prop} {i:Nat} {rest:List Nat} {a:Act} {cs:List Frame} {w:World} {o:Oper} (ho:ops[i]? =some o) (hg:o.guard=none) (hr:(execOp a.eval o).run P w= .ok .recover w) (hc:recoverD cs=none)
  (h:wpOpsSIn Fence.wide n P ops Q rest (a.put o.dst .nilIface) cs w):wpOpsSIn Fence.wide n P ops Q (i::rest) a cs w:=by
 unfold wpOpsSIn;rw[ho];refine⟨fun _ _=>trivial,?_⟩;rw[if_pos (by simp [Region.wanted,hg]),hr,hc];exact h
theorem Cs3 {n:Nat} {ops:Array Oper} {Q:Exit->Act->List Frame->World->Prop} {i:Nat} {rest:List Nat} {a:Act} {cs cs':List Frame} {w:World} {o:Oper} {v:Value} (ho:ops[i]? =some o) (hg:o.guard=none) (hr:(execOp a.eval o).run P w= .ok .recover w) (hc:recoverD cs=some (v,cs'))
  (h:wpOpsSIn Fence.wide n P ops Q rest (a.put o.dst v) cs' w):wpOpsSIn Fence.wide n P ops Q (i::rest) a cs w:=by
 unfold wpOpsSIn;rw[ho];refine⟨fun _ _=>trivial,?_⟩;rw[if_pos (by simp [Region.wanted,hg]),hr,hc];exact h
theorem Bc8 {n:Nat} {ops:Array Oper} {Q:Exit->Act->List Frame->World->Prop} {i:Nat} {rest:List Nat} {a:Act} {cs:List Frame} {w:World} {o:Oper} {v:Value} (ho:ops[i]? =some o) (hg:o.guard=none) (hr:(execOp a.eval o).run P w= .ok (.value v) w)
  (h:wpOpsSIn Fence.wide n P ops Q rest (a.put o.dst v) cs w):wpOpsSIn Fence.wide n P ops Q (i::rest) a cs w:=by
 unfold wpOpsSIn;rw[ho];refine⟨fun _ _=>trivial,?_⟩;rw[if_pos (by simp [Region.wanted,hg]),hr];exact h
theorem Bc9 {f:FuncId} {fn:Func} {id:Nat} {t1 t2 y1 y2:Nat} {p1 p2:String} {af1 af2:Array Edge} {c:Code} {caps:List DVal} {H:Ab} {R:Ab->Prop} {n:Nat} {vs:List Value} {w:World} {u:FrameMode} {x:DVal}
  (hf:P.funcs[f]? =some fn) (hb:fn.body=some (.seq (.region id #[Rx t1 y1 p1 af1,Yk t1 t2 y2 p2 af2] false) c))
  (hk:(decide (caps.length<=fn.ntmps)&&Fe fn.ntmps c&&Pl c&&decide (t1<fn.ntmps)&&decide (t2<fn.ntmps))=true) (hres:fn.results= #[])
  (hv:Ap w H caps vs) (hH:Au w H) (hG:GOk G w H)
  (hu:(u= .returning/\x= .nilIface)\/ ∃v,u= .panicking [{ v,recovered:=false }]/\Rel w H x v)
  (h:dwp P G fn.ntmps c (Ae7 R) ⟨upd (upd (Lt caps 0) t1 x) t2 x,H⟩):
  CallsDIn Fence.wide n P f vs.toArray u w fun e u' w'=> ∃v H',e= .returned v/\settle u'= .returning/\R H'/\Au w' H'/\Ext H w H' w':=by
 simp only[Bool.and_eq_true,decide_eq_true_eq] at hk;obtain⟨⟨⟨⟨hA,hok⟩,hfl⟩,ht1⟩,ht2⟩:=hk;refine callsDIn_of_wpSIn hf hb trivial fun c₀ cs hm=>wpSIn_seq (wpSIn_region ?_);have hS:=An8 (G:=G) (T:= []) (st:=true) hA hv hH hG;have key: ∀(v:Value) (u':FrameMode),settle u'= .returning->Rel w H x v->
   c.wpSIn Fence.wide n P (bodyPostS P fn c₀ cs fun e u' w'=> ∃v H',e= .returned v/\settle u'= .returning/\R H'/\Au w' H'/\Ext H w H' w')
    (({ tmps:=vs.toArray++Array.replicate (fn.ntmps-vs.toArray.size) undef,defers:= [] }:Act).put (some t1) v |>.put (some t2) v) ({ c₀ with mode:=u' }::cs) w:=by
  intro v u' hs hx;refine wpSIn_of_wpIn rfl ?_;have hS1:=(hS.put (dst:=some t1) (by simpa [Bs] using ht1) hx).put (dst:=some t2) (by simpa [Bs] using ht2) hx;refine wpIn_mono (Em (.inl rfl) c hok (.inr hfl) _ _ h _ w hS1) ?_;rintro e a' w1 ⟨e',s',hQ,hX,hS',hE⟩;have hd:=Ou hS' rfl;have hr:(results fn a'.tmps).run P w1= .ok (.tuple #[]) w1:=by
   unfold results;rw[hres];simp [Sem.run_pure]
  cases hX with
  | normal=>exact⟨hd,u',rfl,_,hr,_,s'.heap,rfl,hs,hQ,hS'.heap,hE⟩
  | ret=>exact⟨hd,u',rfl,_,hr,_,s'.heap,rfl,hs,hQ,hS'.heap,hE⟩
  | exit id=>exact hQ.elim
  | goto l=>exact hQ.elim
  | panic d v hv=>exact hQ.elim
 have hrange:List.range (#[Rx t1 y1 p1 af1,Yk t1 t2 y2 p2 af2]:Array Oper).size= [0,1]:=rfl;have e0:(#[Rx t1 y1 p1 af1,Yk t1 t2 y2 p2 af2]:Array Oper)[0]? =some (Rx t1 y1 p1 af1):=rfl;have e1:(#[Rx t1 y1 p1 af1,Yk t1 t2 y2 p2 af2]:Array Oper)[1]? =some (Yk t1 t2 y2 p2 af2):=rfl;have r0: ∀ρ w,(execOp ρ (Rx t1 y1 p1 af1)).run P w= .ok .recover w:=fun ρ w=>by
  simp [execOp,Rx,resolve,invoke,builtin,Sem.run_pure]
 have r1: ∀ρ w,(execOp ρ (Yk t1 t2 y2 p2 af2)).run P w= .ok (.value (ρ (.tmp t1))) w:=fun ρ w=>by
  simp [execOp,Yk,Sem.run_pure]
 have hget: ∀v,(({ tmps:=vs.toArray++Array.replicate (fn.ntmps-vs.toArray.size) undef,defers:= [] }:Act).put (some t1) v).eval (.tmp t1)=v:=fun v=>by
  have hsz:=hS.size;dsimp only at hsz;simp [Act.eval,Act.put,Array.getD,hsz,ht1];intro hle;simp at hsz;omega
 rw[hrange];rcases hu with⟨rfl,rfl⟩ | ⟨v,rfl,hx⟩
 ·have hr:recoverD (c₀::cs)=none:=by simp [recoverD,hm]
  have hc: { c₀ with mode:= .returning }=c₀:=by cases c₀;simp at hm;simp [hm]
  refine Cf1 e0 rfl (r0 _ _) hr (Bc8 e1 rfl (r1 _ _) ?_);rw[show(Rx t1 y1 p1 af1).dst=some t1 from rfl,hget];have:=key .nilIface .returning rfl (by simp [Rel]);rw[hc] at this;exact this
 ·have hr:recoverD (c₀::cs)=some (v,{ c₀ with mode:= .panicking [{ v,recovered:=true }] }::cs):=by simp [recoverD,hm]
  refine Cs3 e0 rfl (r0 _ _) hr (Bc8 e1 rfl (r1 _ _) ?_);rw[show(Rx t1 y1 p1 af1).dst=some t1 from rfl,hget];exact key v _ rfl hx
theorem Bd0 (env:Nat->DVal): ∀l:List Operand,(El G env l).length=l.length
 | []=>rfl
 | x::l=>by rw[El,List.length_cons,Bd0 env l,List.length_cons]
def Bo1 (d:Nat) (g:FuncId) (caps:Array Operand) (ty:Nat) (ps:String) (af:Array Edge):Oper:= { dst:=some d,op:= .makeFunc (.func g) #[] caps,type:=ty,pos:=ps,after:=af,guard:=none }
def Cs4 (d ty:Nat) (ps:String) (af:Array Edge):Oper:= { dst:=none,op:= .defer { callee:= .value (.tmp d),args:= #[],argTypes:= #[] },type:=ty,pos:=ps,after:=af,guard:=none }
def Cs5 (P:Program) (G:Nat->DVal) (rs:List ResultVar) (R:DEnd->Ab->Prop) (m t1 t2:Nat) (cc:Code) (caps:List DVal):DExit->DS->Prop
 | .normal,s=>dwp P G m cc (Ae7 fun H'=>Al9 R H' (Hu (Kd P ⟨s.env,H'⟩ rs))) ⟨upd (upd (Lt caps 0) t1 .nilIface) t2 .nilIface,s.heap⟩
 | .ret,s=>dwp P G m cc (Ae7 fun H'=>Al9 R H' (Hu (Kd P ⟨s.env,H'⟩ rs))) ⟨upd (upd (Lt caps 0) t1 .nilIface) t2 .nilIface,s.heap⟩
 | .panic v,s=>dwp P G m cc (Ae7 fun H'=>Al9 R H' (Hu (Kd P ⟨s.env,H'⟩ rs))) ⟨upd (upd (Lt caps 0) t1 v) t2 v,s.heap⟩
 | _,_=>False
theorem Bd1 {f g:FuncId} {fn fg:Func} {A1 A2 C cc:Code} {id id2 d t1 t2 y1 y2 y3 y4:Nat} {p1 p2 p3 p4:String} {af1 af2 af3 af4:Array Edge} {caps:Array Operand} {args:List DVal} {H:Ab} {R:DEnd->Ab->Prop}
  (hf:P.funcs[f]? =some fn) (hg:P.funcs[g]? =some fg) (hcall: ∀vs w,(callFunc f vs).run P w= .ok (.enter f vs) w) (hcallg: ∀vs w,(callFunc g vs).run P w= .ok (.enter g vs) w)
  (hb:fn.body=some (.seq A1 (.seq A2 (.seq (.region id #[Bo1 d g caps y1 p1 af1,Cs4 d y2 p2 af2] false) C))))
  (hbg:fg.body=some (.seq (.region id2 #[Rx t1 y3 p3 af3,Yk t1 t2 y4 p4 af4] false) cc))
  (hk:(decide (args.length<=fn.ntmps)&&(Fe fn.ntmps A1&&Pl A1)&&(Fe fn.ntmps A2&&Pl A2)&&(Fe fn.ntmps C&&Pl C)&&decide (d<fn.ntmps)&&caps.toList.all (Be fn.ntmps)&&fn.results.toList.all (Ab7 fn.ntmps))=true)
  (hkg:(decide (caps.toList.length<=fg.ntmps)&&Fe fg.ntmps cc&&Pl cc&&decide (t1<fg.ntmps)&&decide (t2<fg.ntmps))=true) (hrg:fg.results= #[])
  (h:dwp P G fn.ntmps A1 (Xw (fun s=>dwp P G fn.ntmps A2 (Xw (fun s1=>dwp P G fn.ntmps C (Cs5 P G fn.results.toList R fg.ntmps t1 t2 cc (El G s1.env caps.toList)) ⟨upd s1.env d (.func (.func g) [] (El G s1.env caps.toList)),s1.heap⟩) fun _ _=>False) s) fun _ _=>False) ⟨Lt args 0,H⟩):Ah P G f args H R:=by
 simp only[Bool.and_eq_true,decide_eq_true_eq] at hk;obtain⟨⟨⟨⟨⟨⟨hA,hok1,hfl1⟩,hok2,hfl2⟩,hok3,hfl3⟩,hd⟩,hcp⟩,hres⟩:=hk;refine⟨hcall,fun vs w hv hH hG=> ?_⟩;refine(callsIn_wide (n:=0)).1 (callsIn_of_wp_marks hf hb trivial ?_);have hS:=An8 (G:=G) (T:= []) (st:=true) hA hv hH hG;refine wpIn_seq (wpIn_mono (Em (.inl rfl) A1 hok1 (.inr hfl1) _ _ h _ w hS) ?_);rintro e a0 w0 ⟨e',s0,hQ,hX,hS0,hE0⟩;cases hX<;>first | exact hQ.elim | skip
 refine wpIn_seq (wpIn_mono (Em (.inl rfl) A2 hok2 (.inr hfl2) _ _ hQ _ w0 hS0) ?_);rintro e a1 w1 ⟨e',s1,hQ1,hX,hS1,hE1⟩;cases hX<;>first | exact hQ1.elim | skip
 have hE1:=hE0.trans hE1;have hd1:a1.defers= []:=Ou hS1 rfl;have hrc:=Ls hS1 hcp;obtain⟨cv,hcv⟩: ∃cv:List Value,cv=caps.toList.map a1.eval:=⟨_,rfl⟩;have hcv2:caps.map a1.eval=cv.toArray:=by rw[hcv,<-Array.toList_map]
 rw[<-hcv] at hrc;have hfv:Rel w1 s1.heap (.func (.func g) [] (El G s1.env caps.toList)) (.func (.func g) #[] cv.toArray):=by
  simp only[Rel];refine⟨#[],cv.toArray,rfl,?_,?_⟩
  ·simp [Ap]
  ·simpa using hrc
 obtain⟨D,hD⟩: ∃D:Deferred,D= { target:= .fn (.func g) cv.toArray,args:= #[] }:=⟨_,rfl⟩;have hS2:Sim G ⟨fn.ntmps,⟨w.heap.size,[D],true⟩⟩ ⟨upd s1.env d (.func (.func g) [] (El G s1.env caps.toList)),s1.heap⟩ ({ (a1.put (some d) (.func (.func g) #[] cv.toArray)) with defers:= [D] }) w1:=by
  have:=hS1.put (dst:=some d) (by simpa [Bs] using hd) hfv;exact⟨this.size,⟨[],rfl,List.nodup_nil,by simp⟩,this.tmps,this.heap,this.glob,this.base⟩
 refine wpIn_seq ?_;have hreg: #[Bo1 d g caps y1 p1 af1,Cs4 d y2 p2 af2]= [Bo1 d g caps y1 p1 af1,Cs4 d y2 p2 af2].toArray:=rfl;rw[hreg];refine wpIn_region_lit (wpListIn_plain rfl fun K hK=> ?_);have rm:(execOp a1.eval (Bo1 d g caps y1 p1 af1)).run P w1= .ok (.value (.func (.func g) #[] cv.toArray)) w1:=by
  simp [execOp,Bo1,Instr.makeFunc,Sem.run_pure,hcv2]
 have hsz:=hS1.size;have hget:(a1.put (some d) (.func (.func g) #[] cv.toArray)).eval (.tmp d)= .func (.func g) #[] cv.toArray:=by
  simp [Act.eval,Act.put,Array.getD,hsz,hd]
 have rd:(execOp (a1.put (some d) (.func (.func g) #[] cv.toArray)).eval (Cs4 d y2 p2 af2)).run P w1= .ok (.defer D) w1:=by
  simp [execOp,Cs4,resolve,hget,Deferred.ofValue,Sem.run_pure,hD]
 unfold Oper.wpIn;refine⟨fun _ _=>trivial,?_⟩;rw[Oper.semAt_eq _ _ _ (by intro c;simp [Bo1]),rm];refine hK _ _ (wpListIn_plain rfl fun K2 hK2=> ?_);unfold Oper.wpIn;refine⟨fun _ _=>trivial,?_⟩;rw[show Fence.wide.round=none from rfl,Oper.semAt_none,show(Bo1 d g caps y1 p1 af1).dst=some d from rfl,rd];refine hK2 _ _ (wpListIn_nil ?_);have hdp:(a1.put (some d) (.func (.func g) #[] cv.toArray)).defers= []:=hd1;rw[hdp];show C.wpIn _ _ _ _ _ _;refine wpIn_mono (Em (.inl rfl) C hok3 (.inr hfl3) _ _ hQ1 _ w1 hS2) ?_;rintro e a3 w3 ⟨e',s3,hQ3,hX3,hS3,hE3⟩;have hE3':=hE1.trans hE3;have hd3:a3.defers= [D]:=Ou hS3 rfl;have hrc3:Ap w3 s3.heap (El G s1.env caps.toList) cv:=hrc.lasts hE3.lasts;have hinv:(invoke D.target D.args).run P w3= .ok (.enter g cv.toArray) w3:=by
  rw[hD];simp [invoke,hcallg]
 have key: ∀(u:FrameMode) (x:DVal),u≠ .run->((u= .returning/\x= .nilIface)\/ ∃v,u= .panicking [{ v,recovered:=false }]/\Rel w3 s3.heap x v)->
   dwp P G fg.ntmps cc (Ae7 fun H'=>Al9 R H' (Hu (Kd P ⟨s3.env,H'⟩ fn.results.toList))) ⟨upd (upd (Lt (El G s1.env caps.toList) 0) t1 x) t2 x,s3.heap⟩->
   LeavesInM Fence.wide 0 P fn a3.tmps (fun e w'=> ∃e' H',R e' H'/\RelE w' H' e' e/\Au w' H'/\Ext H w H' w') a3.defers u w3:=by
  intro u x hu0 hu hc;rw[hd3];refine⟨hu0, .inr ⟨(fun h=>by cases h), .func g,cv.toArray,g,cv.toArray,(by rw[hD]),hinv,fun _ _=>trivial,?_⟩⟩;refine(Bc9 hg hbg (by rw[Bd0];exact(by simp only[Bool.and_eq_true,decide_eq_true_eq] at hkg⊢;exact hkg)) hrg hrc3 hS3.heap hS3.glob hu hc).mono ?_;rintro e4 u4 w4 ⟨v4,H4,rfl,hset,hfin,hH4,hE4⟩;dsimp only;rw[hset];have hS4:=hS3.ext hE4 hH4;cases hdt:Hu (Kd P ⟨s3.env,H4⟩ fn.results.toList) with
  | none=>rw[hdt] at hfin;exact hfin.elim
  | some v=>
   rw[hdt] at hfin;obtain⟨x,hx,hr⟩:=Xy (P:=P) hS4 hres hdt;obtain⟨v',H',hgg,hR⟩:=hfin;obtain⟨g1,g2,g3⟩:=hgg w4 hS4.heap;exact⟨x,hx, .ret v',H',hR, .ret v' x (g3 x hr),g1,(hE3'.trans hE4).trans ⟨rfl,rfl,rfl,Nat.le_refl _,fun _ _ _=>rfl,fun b hb=> .inl (g2 b hb),fun _ _=>rfl,fun _ _ _=>rfl⟩⟩
 cases hX3 with
 | normal=>exact key .returning .nilIface (by simp) (.inl ⟨rfl,rfl⟩) hQ3
 | ret=>exact key .returning .nilIface (by simp) (.inl ⟨rfl,rfl⟩) hQ3
 | exit id=>exact hQ3.elim
 | goto l=>exact hQ3.elim
 | panic d v hv=>exact key _ d (by simp) (.inr ⟨v,rfl,hv⟩) hQ3
end
attribute [go_sem] Ae7.eq_1 Ae7.eq_2 Cs5.eq_1 Cs5.eq_2 Cs5.eq_3
end Go.Dl

-- Chapter 3: the package's reader: tokens, words.
namespace Go.Dl
open Go Go.Proofs
set_option maxRecDepth 100000
abbrev rdO (l:List Tok) (k:Nat):DObj:= .cells [Bv l,dI k] 271
def RAt (r:Nat) (l:List Tok) (k:Nat) (H0 H:Ab):Prop:=Sub (upd H0 r (some (rdO l k))) H
section
variable {G:Nat->DVal} {H0 H:Ab} {r k:Nat} {l:List Tok}
theorem RAt.refl (h:H r=some (rdO l k)):RAt r l k H H:=fun b o hb=>by
 simp only[upd] at hb;split at hb
 ·rename_i e;subst e;rw[h];exact hb
 ·exact hb
theorem RAt.get (h:RAt r l k H0 H):H r=some (rdO l k):=h _ _ (Aa _ _ _)
theorem RAt.new (h:RAt r l k H0 H) {x:Nat} (hx:H x=none) (o:Option DObj):RAt r l k H0 (upd H x o):=Sub.new h hx o
theorem RAt.more (h:RAt r l k H0 H) {H':Ab} (s:Sub H H'):RAt r l k H0 H':=Sub.trans h s
theorem RAt.set (h:RAt r l k H0 H) (k':Nat):RAt r l k' H0 (upd H r (some (rdO l k'))):=fun b o hb=>by
 simp only[upd] at hb⊢
 by_cases e:b=r
 ·rw[if_pos e] at hb⊢;exact hb
 ·rw[if_neg e] at hb⊢;exact h b o (by simp only[upd];rw[if_neg e];exact hb)
theorem RAt.own (h:RAt r l k H0 H) {x:Nat} (hx:H0 x=none) (hr:x≠r) (o:Option DObj):RAt r l k H0 (upd H x o):=Sub.up h (by simp only[upd];rw[if_neg hr];exact hx) o
theorem RAt.lo (h:RAt r l k H0 H) {x:Nat} (hx:H x=none):H0 x=none:=by
 have:=Sub.lo h hx;simp only[upd] at this;split at this
 ·cases this
 ·exact this
theorem RAt.fin {R:DEnd->Ab->Prop} {v:DVal} (h:RAt r l k H0 H) (hR:R (.ret v) (upd H0 r (some (rdO l k)))):Pm R v H:=Pm.sub h (.refl hR)
theorem Bt2.sub {R:DEnd->Ab->Prop} {v:DVal} {H':Ab} (h:Sub H' H) (hR:R (.panic v) H'):Bt2 R v H:=⟨v,H',Hw.sub h v,hR⟩
theorem RAt.finP {R:DEnd->Ab->Prop} {v:DVal} (h:RAt r l k H0 H) (hR:R (.panic v) (upd H0 r (some (rdO l k)))):Bt2 R v H:=Bt2.sub h hR
theorem Cq {H:Ab} {r:Nat} {x:Option DObj} (h:H r=x):upd H r x=H:=by
 funext b;simp only[upd];split
 ·rename_i e;rw[e,h]
 ·rfl
theorem Dt9 {i:Nat} (h:i<l.length):tk l i=l[i]:=by rw[tk,List.getD,List.getElem?_eq_getElem h];rfl
theorem Dq4 {i:Nat} (h:l.length<=i):tk l i=Wg:=by rw[tk,List.getD,List.getElem?_eq_none h];rfl
theorem Sx (G:Nat->DVal) (H:Ab) (j:Nat) (hr:H r=some (rdO l k)) (hl:l.length<=1000000) (hk:k<=1000000) (hj:j<=1000000):Ah Tryz.prog G 247 [.optr r 0,dI j] H (Bp (.agg (Dd (tk l (k+j)))) H):=by
 have hw:IntKind.i64.wrap ((k:Int)+(j:Int))=((k+j:Nat):Int):=by rw[IntKind.wrap_i64];omega
 unfold rdO at hr;refine Ac Tryz.func247 Tryz.call247 rfl (by kernel_rfl) ?_;simp(disch:=omega) only[go_sem,↓reduceIte];intro r4 hr4;dsimp only at hr4;have n1:r≠r4:=Af hr4 hr;by_cases c:k+j<l.length
 ·have c':((k+j:Nat):Int)<(l.length:Int):=by omega
  have hget:=Df Bu l (k+j) c;have hfl:=Bj Bu l;rw[Dt9 c];simp(disch:=omega) only[go_sem,↓reduceIte,n1,hr];refine An (by kernel_rfl) (.take 0 (.take 1 (.take 2 (.take 3 (.take 4 (.take 5 (.take 6 (.take 7 (.take 8 (.take 9 (.take 10 (.take 11 .done)))))))))))) (by kernel_rfl) ?_;simp(disch:=omega) only[go_sem,↓reduceIte,n1,hr,hw,c',Bv];refine An (by kernel_rfl) (.take 0 (.take 1 (.take 2 (.take 3 (.take 4 (.take 5 (.take 6 (.take 7 (.take 8 (.take 9 (.take 10 (.take 11 (.go 12 [] .done))))))))))))) (by kernel_rfl) ?_;simp(disch:=omega) only[go_sem,↓reduceIte,n1,hr,hw,c',Bv,hget,hfl,Int.toNat_natCast];simp(disch:=omega) only[go_sem,↓reduceIte,Dd];exact Pm.dropA r4 hr4 (Pm.refl ⟨rfl,rfl⟩)
 ·have c': ¬((k+j:Nat):Int)<(l.length:Int):=by omega
  rw[Dq4 (by omega)];simp(disch:=omega) only[go_sem,↓reduceIte,n1,hr];refine An (by kernel_rfl) (.take 0 (.take 1 (.take 2 (.take 3 (.take 4 (.take 5 (.take 6 (.take 7 (.take 8 (.take 9 (.take 10 (.take 11 .done)))))))))))) (by kernel_rfl) ?_;simp(disch:=omega) only[go_sem,↓reduceIte,n1,hr,hw,c',Bv];exact Pm.dropA r4 hr4 (Pm.refl ⟨rfl,rfl⟩)
theorem Qm (G:Nat->DVal) (H:Ab) (hr:H r=some (rdO l k)) (hl:l.length<=1000000) (hk:k<=1000000):Ah Tryz.prog G 247 [.optr r 0,dI 0] H (Bp (.agg (Dd (tk l k))) H):=
 Sx G H 0 hr hl hk (by omega)
theorem Wt (G:Nat->DVal) (H:Ab) (hr:H r=some (rdO l k)) (hl:l.length<=1000000) (hk:k<=1000000):Ah Tryz.prog G 245 [.optr r 0] H (Bp (dI (tk l k).line) H):=by
 refine Ac Tryz.func245 Tryz.call245 rfl (by kernel_rfl) ?_;simp(disch:=omega) only[go_sem,↓reduceIte];refine(Sx G H 0 hr hl hk (by omega)).mono ?_;rintro _ H1 ⟨rfl,rfl⟩;simp(disch:=omega) only[go_sem,↓reduceIte,Nat.add_zero,Dd];exact Pm.refl ⟨rfl,rfl⟩
def dW (ws:List (List UInt8)):DVal:= .vslice (ws.map .str) ws.length
theorem Cs6 {ws:List (List UInt8)} {j:Nat} (hj:j<ws.length):isW l (k+j) (ws.drop j)=(decide ((tk l (k+j)).kind=Jf ws[j])&&decide ((tk l (k+j)).text=ws[j])&&isW l (k+(j+1)) (ws.drop (j+1))):=by
 rw[List.drop_eq_getElem_cons hj,isW];rfl
theorem Uv (hG:GX G) (H:Ab) (ws:List (List UInt8)) (hr:H r=some (rdO l k)) (hl:l.length<=1000000) (hk:k<=900000) (hw:ws.length<=1000):Ah Tryz.prog G 248 [.optr r 0,dW ws] H (Bp (.bool (isW l k ws)) H):=by
 refine Ac Tryz.func248 Tryz.call248 rfl (by kernel_rfl) ?_;simp(disch:=omega) only[go_sem,↓reduceIte,dW];obtain⟨I,hI⟩: ∃I:Nat->(Nat->DVal)->Ab->Prop,∀j env heap,I j env heap↔(env 0= .optr r 0/\env 9=dW ws/\env 10=dI ws.length/\env 11=dI j/\j<=ws.length/\isW l k ws=isW l (k+j) (ws.drop j)/\Sub H heap):=⟨_,fun _ _ _=>Iff.rfl⟩;refine Bs7.run I (fun j=>ws.length-j) 0 ((hI _ _ _).2 ?_) ?_
 ·simp(disch:=omega) only[go_sem,↓reduceIte];(repeat' apply And.intro)<;>(try first | rfl | assumption | omega);exact Sub.refl H
 ·intro j env heap hi;obtain⟨e0,e9,e10,e11,hj,hm,hs⟩:=(hI _ _ _).1 hi;have gr:=hs _ _ hr;by_cases hlt:j<ws.length
  ·have hlt':(j:Int)<(ws.length:Int):=by omega
   have hwj:IntKind.i64.wrap ((j:Int)+1)=((j+1:Nat):Int):=by rw[IntKind.wrap_i64];omega
   have hget:(ws.map DVal.str)[j]? =some (.str ws[j]):=by rw[List.getElem?_map,List.getElem?_eq_getElem hlt];rfl
   have hml:(ws.map DVal.str).length=ws.length:=List.length_map _;rw[Cs6 hlt] at hm;obtain⟨s,hse⟩: ∃s,s=ws[j]:=⟨_,rfl⟩;obtain⟨t,ht⟩: ∃t,t=tk l (k+j):=⟨_,rfl⟩;rw[<-hse,<-ht] at hm;rw[<-hse] at hget;simp(disch:=omega) only[go_sem,↓reduceIte,e0,e9,e10,e11,hlt',dW,hget,hml,Int.toNat_natCast];refine(Sx G heap j gr hl (by omega) (by omega)).mono ?_;rintro _ H1 ⟨rfl,rfl⟩;rw[<-ht];simp(disch:=omega) only[go_sem,↓reduceIte,e0,e9,e10,e11];intro r7 hr7;dsimp only at hr7;have hs7: ∀x,Sub H (upd H1 r7 x):=fun x=>hs.new hr7 x;simp(disch:=omega) only[go_sem,↓reduceIte,e0,e9,e10,e11,Dd];refine(Ac8 hG _ s).mono ?_;rintro _ H2 ⟨rfl,rfl⟩;by_cases c1:t.kind=Jf s
   ·by_cases c2:t.text=s
    ·rw[decide_eq_true c1,decide_eq_true c2,Bool.true_and,Bool.true_and] at hm;rw[Jf] at c1;cases hkb:Sq s with
     | true=>
      rw[hkb,if_pos rfl] at c1;simp(disch:=omega) only[go_sem,↓reduceIte,e0,e9,e10,e11,c1,c2];refine⟨j+1,_,Ik.refl _,(hI _ _ _).2 ?_,by omega⟩;simp(disch:=omega) only[go_sem,↓reduceIte,e0,e9,e10,e11,hwj];(repeat' apply And.intro)<;>(try first | rfl | assumption | omega);exact hs7 _
     | false=>
      rw[hkb,if_neg (by simp)] at c1;simp(disch:=omega) only[go_sem,↓reduceIte,e0,e9,e10,e11,c1,c2];refine⟨j+1,_,Ik.refl _,(hI _ _ _).2 ?_,by omega⟩;simp(disch:=omega) only[go_sem,↓reduceIte,e0,e9,e10,e11,hwj];(repeat' apply And.intro)<;>(try first | rfl | assumption | omega);exact hs7 _
    ·rw[decide_eq_false c2,Bool.and_false,Bool.false_and] at hm;rw[Jf] at c1;cases hkb:Sq s with
     | true=>
      rw[hkb,if_pos rfl] at c1;simp(disch:=omega) only[go_sem,↓reduceIte,e0,e9,e10,e11,c1,c2];exact Pm.sub (hs7 _) (.refl ⟨by rw[hm],rfl⟩)
     | false=>
      rw[hkb,if_neg (by simp)] at c1;simp(disch:=omega) only[go_sem,↓reduceIte,e0,e9,e10,e11,c1,c2];exact Pm.sub (hs7 _) (.refl ⟨by rw[hm],rfl⟩)
   ·rw[decide_eq_false c1,Bool.false_and,Bool.false_and] at hm;rw[Jf] at c1;cases hkb:Sq s with
    | true=>
     rw[hkb,if_pos rfl] at c1;simp(disch:=omega) only[go_sem,↓reduceIte,e0,e9,e10,e11,c1];exact Pm.sub (hs7 _) (.refl ⟨by rw[hm],rfl⟩)
    | false=>
     rw[hkb,if_neg (by simp)] at c1;simp(disch:=omega) only[go_sem,↓reduceIte,e0,e9,e10,e11,c1];exact Pm.sub (hs7 _) (.refl ⟨by rw[hm],rfl⟩)
  ·have:j=ws.length:=by omega
   subst this;have hlt': ¬(ws.length:Int)<(ws.length:Int):=by omega
   rw[List.drop_length,isW] at hm;simp(disch:=omega) only[go_sem,↓reduceIte,e0,e9,e10,e11,hlt'];exact Pm.sub hs (.refl ⟨by rw[hm],rfl⟩)
def RdQ (r:Nat) (l:List Tok) (H:Ab) (v:DVal) (k:Nat) (e:DEnd) (H':Ab):Prop:=e= .ret v/\H'=upd H r (some (rdO l k))
def Bo2 (k:Nat):DVal:= .iface 275 (.agg [dI k])
theorem An9 (hG:GX G) (H:Ab) (ws:List (List UInt8)) (hr:H r=some (rdO l k)) (hl:l.length<=1000000) (hk:k<=900000) (hw:ws.length<=1000):Ah Tryz.prog G 243 [.optr r 0,dW ws] H (RdQ r l H (.bool (isW l k ws)) (if isW l k ws then k+ws.length else k)):=by
 refine Ac Tryz.func243 Tryz.call243 rfl (by kernel_rfl) ?_;simp(disch:=omega) only[go_sem,↓reduceIte];refine(Uv hG H ws hr hl hk hw).mono ?_;rintro _ H1 ⟨rfl,rfl⟩;cases h:isW l k ws with
 | false=>
  simp(disch:=omega) only[go_sem,↓reduceIte];exact Pm.refl ⟨rfl,(Cq hr).symm⟩
 | true=>
  have hwj:IntKind.i64.wrap ((k:Int)+(ws.length:Int))=((k+ws.length:Nat):Int):=by rw[IntKind.wrap_i64];omega
  unfold rdO at hr;simp(disch:=omega) only[go_sem,↓reduceIte,hr,dW,hwj];exact Pm.refl ⟨rfl,rfl⟩
theorem Ri (G:Nat->DVal) (H:Ab) (hr:H r=some (rdO l k)):Ah Tryz.prog G 244 [.optr r 0] H (fun e H'=>e= .panic (Bo2 k)/\H'=H):=by
 unfold rdO at hr;refine Ac Tryz.func244 Tryz.call244 rfl (by kernel_rfl) ?_;simp(disch:=omega) only[go_sem,↓reduceIte,hr];exact Bt2.refl ⟨rfl,rfl⟩
theorem Sy (hG:GX G) (H:Ab) (q:Nat) (s:List UInt8) (hq:H q=none) (hr:H r=some (rdO l k)) (hl:l.length<=1000000) (hk:k<=900000):Ah Tryz.prog G 243 [.optr r 0, .oslice 1 q 0 1 1] (upd H q (some (.cells [.str s] 9))) (RdQ r l H (.bool (isW l k [s])) (if isW l k [s] then k+1 else k)):=by
 refine Ah.fzA q hq ?_;have n:r≠q:=Af hq hr;simp only[fzs,fz,if_neg n,if_pos];exact An9 hG H [s] hr hl hk (by simp)
theorem Du0 (hG:GX G) (H:Ab) (q:Nat) (s t:List UInt8) (hq:H q=none) (hr:H r=some (rdO l k)) (hl:l.length<=1000000) (hk:k<=900000):Ah Tryz.prog G 243 [.optr r 0, .oslice 1 q 0 2 2] (upd H q (some (.cells [.str s, .str t] 9))) (RdQ r l H (.bool (isW l k [s,t])) (if isW l k [s,t] then k+2 else k)):=by
 refine Ah.fzA q hq ?_;have n:r≠q:=Af hq hr;simp only[fzs,fz,if_neg n,if_pos];exact An9 hG H [s,t] hr hl hk (by simp)
theorem is1 (hG:GX G) (H:Ab) (q:Nat) (s:List UInt8) (hq:H q=none) (hr:H r=some (rdO l k)) (hl:l.length<=1000000) (hk:k<=900000):Ah Tryz.prog G 248 [.optr r 0, .oslice 1 q 0 1 1] (upd H q (some (.cells [.str s] 9))) (Bp (.bool (isW l k [s])) H):=by
 refine Ah.fzA q hq ?_;have n:r≠q:=Af hq hr;simp only[fzs,fz,if_neg n,if_pos];exact Uv hG H [s] hr hl hk (by simp)
theorem is2 (hG:GX G) (H:Ab) (q:Nat) (s t:List UInt8) (hq:H q=none) (hr:H r=some (rdO l k)) (hl:l.length<=1000000) (hk:k<=900000):Ah Tryz.prog G 248 [.optr r 0, .oslice 1 q 0 2 2] (upd H q (some (.cells [.str s, .str t] 9))) (Bp (.bool (isW l k [s,t])) H):=by
 refine Ah.fzA q hq ?_;have n:r≠q:=Af hq hr;simp only[fzs,fz,if_neg n,if_pos];exact Uv hG H [s,t] hr hl hk (by simp)
def RdR (r:Nat) (l:List Tok) (H:Ab):Res DVal->DEnd->Ab->Prop
 | .bot,_,_=>False
 | .fail k,e,H'=>e= .panic (Bo2 k)/\H'=upd H r (some (rdO l k))
 | .ok v k,e,H'=>e= .ret v/\H'=upd H r (some (rdO l k))
theorem Gm (hG:GX G) (H:Ab) (s:List UInt8) (hr:H r=some (rdO l k)) (hl:l.length<=1000000) (hk:k<=900000):Ah Tryz.prog G 251 [.optr r 0, .str s] H (RdR r l H (Da l s k fun k=> .ok (.tuple []) k)):=by
 refine Ac Tryz.func251 Tryz.call251 rfl (by kernel_rfl) ?_;simp(disch:=omega) only[go_sem,↓reduceIte];intro q hq;dsimp only at hq;simp(disch:=omega) only[go_sem,↓reduceIte];refine(Sy hG H q s hq hr hl hk).mono ?_;rintro _ H1 ⟨rfl,rfl⟩;rw[Da];cases h:isW l k [s] with
 | true=>
  simp(disch:=omega) only[go_sem,↓reduceIte];exact Pm.refl ⟨rfl,rfl⟩
 | false=>
  simp(disch:=omega) only[go_sem,↓reduceIte];refine(Ri G _ (Aa _ _ _)).mono ?_;rintro _ H2 ⟨rfl,rfl⟩;simp(disch:=omega) only[go_sem,↓reduceIte];exact Bt2.refl ⟨rfl,rfl⟩
theorem Wu (G:Nat->DVal) (H:Ab) (kd:Int) (hr:H r=some (rdO l k)) (hl:l.length<=1000000) (hk:k<=900000):Ah Tryz.prog G 250 [.optr r 0, .int .u8 kd] H (RdR r l H (if(tk l k).kind=kd then .ok (.agg (Dd (tk l k))) (k+1) else .fail k)):=by
 refine Ac Tryz.func250 Tryz.call250 rfl (by kernel_rfl) ?_;simp(disch:=omega) only[go_sem,↓reduceIte];intro r4 hr4;dsimp only at hr4;have n4:r≠r4:=Af hr4 hr;have hr':=hr;have hw:IntKind.i64.wrap ((k:Int)+1)=((k+1:Nat):Int):=by rw[IntKind.wrap_i64];omega
 unfold rdO at hr';simp(disch:=omega) only[go_sem,↓reduceIte];refine(Qm G _ (l:=l) (k:=k) (by rw[Aq _ _ _ _ n4];exact hr) hl (by omega)).mono ?_;rintro _ H1 ⟨rfl,rfl⟩;obtain⟨t,ht⟩: ∃t,t=tk l k:=⟨_,rfl⟩;rw[<-ht];simp(disch:=omega) only[go_sem,↓reduceIte];intro r5 hr5;dsimp only at hr5;obtain⟨m1,m2,hr5'⟩:=Dj1.1 hr5;have n5:r≠r5:=Af hr5' hr;have q4:=n4.symm;have q5:=n5.symm;by_cases c:t.kind=kd
 ·rw[if_pos c];simp(disch:=omega) only[go_sem,↓reduceIte,m1,m2,n4,n5,q4,q5,Dd,hr',hw,c];exact RAt.fin (k:=k+1) ((((RAt.refl hr).new hr4 _).new hr5 _).set (k+1) |>.own hr4 q4 _) ⟨rfl,rfl⟩
 ·rw[if_neg c];simp(disch:=omega) only[go_sem,↓reduceIte,m1,m2,n4,n5,q4,q5,Dd,hr',c];have ha:=((RAt.refl hr).new hr4 (some (.cells [.int .u8 0, .int .i64 0, .str [], .int .i64 0] 31))).new hr5 (some (.cells [.int .u8 t.kind,dI t.line, .str t.text,dI t.n] 31));refine(Ri G _ ha.get).mono ?_;rintro _ H2 ⟨rfl,rfl⟩;simp(disch:=omega) only[go_sem,↓reduceIte];exact RAt.finP ha ⟨rfl,rfl⟩
end
end Go.Dl

-- Chapter 3: the operators' words; operators (printed by gen_uh.py).
namespace Go.Dl
open Go Go.Proofs
set_option maxRecDepth 100000
section
variable {G:Nat->DVal} {H0 H:Ab} {r k:Nat} {l:List Tok}
def Jg:DVal:= .vslice (Cr4.map dW) 22
theorem Nq {x y:List DVal} (hx:x.length=9) (hy:y.length=9):
  (if 9<=(Cm 2 [DVal.int .u8 0,DVal.int .u8 0,DVal.int .i64 0,DVal.str [],DVal.nilSlice,DVal.nilSlice,DVal.int .i64 0,DVal.int .i64 0,DVal.int .i64 0]).length then
   if 18<=(x++List.drop 9 (Cm 2 [DVal.int .u8 0,DVal.int .u8 0,DVal.int .i64 0,DVal.str [],DVal.nilSlice,DVal.nilSlice,DVal.int .i64 0,DVal.int .i64 0,DVal.int .i64 0])).length then
    some (List.take 9 (x++List.drop 9 (Cm 2 [DVal.int .u8 0,DVal.int .u8 0,DVal.int .i64 0,DVal.str [],DVal.nilSlice,DVal.nilSlice,DVal.int .i64 0,DVal.int .i64 0,DVal.int .i64 0]))++y++
     List.drop 18 (x++List.drop 9 (Cm 2 [DVal.int .u8 0,DVal.int .u8 0,DVal.int .i64 0,DVal.str [],DVal.nilSlice,DVal.nilSlice,DVal.int .i64 0,DVal.int .i64 0,DVal.int .i64 0])))
   else none
  else none)=some (x++y):=by
 have e: ∀u:List DVal,Cm 2 u=u++u:=fun u=>by simp [Cm]
 rw[e];rw[if_pos (by simp),if_pos (by simp [hx]),List.take_left' hx,List.drop_eq_nil_of_le (by simp [hx]),List.append_nil]
set_option maxHeartbeats 4000000 in
theorem Gy (G:Nat->DVal) (H:Ab):Ah Tryz.prog G 369 [] H (Bp Jg H):=by
 refine Ac Tryz.func369 Tryz.call369 rfl (by kernel_rfl) ?_;simp(disch:=omega) only[go_sem,↓reduceIte];intro b1 hb1;dsimp only at hb1;obtain⟨K1,hK1⟩: ∃K,K=upd H b1 (some (.cells [.str [43]] 9)):=⟨_,rfl⟩;rw[<-hK1];simp(disch:=omega) only[go_sem,↓reduceIte];intro b2 hb2;dsimp only at hb2;obtain⟨K2,hK2⟩: ∃K,K=upd K1 b2 (some (.cells [.str [45]] 9)):=⟨_,rfl⟩;rw[<-hK2];simp(disch:=omega) only[go_sem,↓reduceIte];intro b3 hb3;dsimp only at hb3;obtain⟨K3,hK3⟩: ∃K,K=upd K2 b3 (some (.cells [.str [42]] 9)):=⟨_,rfl⟩;rw[<-hK3];simp(disch:=omega) only[go_sem,↓reduceIte];intro b4 hb4;dsimp only at hb4;obtain⟨K4,hK4⟩: ∃K,K=upd K3 b4 (some (.cells [.str [47]] 9)):=⟨_,rfl⟩;rw[<-hK4];simp(disch:=omega) only[go_sem,↓reduceIte];intro b5 hb5;dsimp only at hb5;obtain⟨K5,hK5⟩: ∃K,K=upd K4 b5 (some (.cells [.str [109,111,100]] 9)):=⟨_,rfl⟩;rw[<-hK5];simp(disch:=omega) only[go_sem,↓reduceIte];intro b6 hb6;dsimp only at hb6;obtain⟨K6,hK6⟩: ∃K,K=upd K5 b6 (some (.cells [.str [114,101,109]] 9)):=⟨_,rfl⟩;rw[<-hK6];simp(disch:=omega) only[go_sem,↓reduceIte];intro b7 hb7;dsimp only at hb7;obtain⟨K7,hK7⟩: ∃K,K=upd K6 b7 (some (.cells [.str [61]] 9)):=⟨_,rfl⟩;rw[<-hK7];simp(disch:=omega) only[go_sem,↓reduceIte];intro b8 hb8;dsimp only at hb8;obtain⟨K8,hK8⟩: ∃K,K=upd K7 b8 (some (.cells [.str [47,61]] 9)):=⟨_,rfl⟩;rw[<-hK8];simp(disch:=omega) only[go_sem,↓reduceIte];intro b9 hb9;dsimp only at hb9;obtain⟨K9,hK9⟩: ∃K,K=upd K8 b9 (some (.cells [.str [60]] 9)):=⟨_,rfl⟩;rw[<-hK9];simp(disch:=omega) only[go_sem,↓reduceIte];intro b10 hb10;dsimp only at hb10;obtain⟨K10,hK10⟩: ∃K,K=upd K9 b10 (some (.cells [.str [60,61]] 9)):=⟨_,rfl⟩;rw[<-hK10];simp(disch:=omega) only[go_sem,↓reduceIte];intro b11 hb11;dsimp only at hb11;obtain⟨K11,hK11⟩: ∃K,K=upd K10 b11 (some (.cells [.str [62]] 9)):=⟨_,rfl⟩;rw[<-hK11];simp(disch:=omega) only[go_sem,↓reduceIte];intro b12 hb12;dsimp only at hb12;obtain⟨K12,hK12⟩: ∃K,K=upd K11 b12 (some (.cells [.str [62,61]] 9)):=⟨_,rfl⟩;rw[<-hK12];simp(disch:=omega) only[go_sem,↓reduceIte];intro b13 hb13;dsimp only at hb13;obtain⟨K13,hK13⟩: ∃K,K=upd K12 b13 (some (.cells [.str [97,110,100]] 9)):=⟨_,rfl⟩;rw[<-hK13];simp(disch:=omega) only[go_sem,↓reduceIte];intro b14 hb14;dsimp only at hb14;obtain⟨K14,hK14⟩: ∃K,K=upd K13 b14 (some (.cells [.str [111,114]] 9)):=⟨_,rfl⟩;rw[<-hK14];simp(disch:=omega) only[go_sem,↓reduceIte];intro b15 hb15;dsimp only at hb15;obtain⟨K15,hK15⟩: ∃K,K=upd K14 b15 (some (.cells [.str [120,111,114]] 9)):=⟨_,rfl⟩;rw[<-hK15];simp(disch:=omega) only[go_sem,↓reduceIte];intro b16 hb16;dsimp only at hb16;obtain⟨K16,hK16⟩: ∃K,K=upd K15 b16 (some (.cells [.str [97,110,100], .str [116,104,101,110]] 9)):=⟨_,rfl⟩;rw[<-hK16];simp(disch:=omega) only[go_sem,↓reduceIte];intro b17 hb17;dsimp only at hb17;obtain⟨K17,hK17⟩: ∃K,K=upd K16 b17 (some (.cells [.str [111,114], .str [101,108,115,101]] 9)):=⟨_,rfl⟩;rw[<-hK17];simp(disch:=omega) only[go_sem,↓reduceIte];intro b18 hb18;dsimp only at hb18;obtain⟨K18,hK18⟩: ∃K,K=upd K17 b18 (some (.cells [.str [43]] 9)):=⟨_,rfl⟩;rw[<-hK18];simp(disch:=omega) only[go_sem,↓reduceIte];intro b19 hb19;dsimp only at hb19;obtain⟨K19,hK19⟩: ∃K,K=upd K18 b19 (some (.cells [.str [45]] 9)):=⟨_,rfl⟩;rw[<-hK19];simp(disch:=omega) only[go_sem,↓reduceIte];intro b20 hb20;dsimp only at hb20;obtain⟨K20,hK20⟩: ∃K,K=upd K19 b20 (some (.cells [.str [97,98,115]] 9)):=⟨_,rfl⟩;rw[<-hK20];simp(disch:=omega) only[go_sem,↓reduceIte];intro b21 hb21;dsimp only at hb21;obtain⟨K21,hK21⟩: ∃K,K=upd K20 b21 (some (.cells [.str [110,111,116]] 9)):=⟨_,rfl⟩;rw[<-hK21];simp(disch:=omega) only[go_sem,↓reduceIte];intro b22 hb22;dsimp only at hb22;obtain⟨K22,hK22⟩: ∃K,K=upd K21 b22 (some (.cells [.nilSlice, .oslice 1 b1 0 1 1, .oslice 1 b2 0 1 1, .oslice 1 b3 0 1 1, .oslice 1 b4 0 1 1, .oslice 1 b5 0 1 1, .oslice 1 b6 0 1 1, .oslice 1 b7 0 1 1, .oslice 1 b8 0 1 1, .oslice 1 b9 0 1 1, .oslice 1 b10 0 1 1, .oslice 1 b11 0 1 1, .oslice 1 b12 0 1 1, .oslice 1 b13 0 1 1, .oslice 1 b14 0 1 1, .oslice 1 b15 0 1 1, .oslice 1 b16 0 2 2, .oslice 1 b17 0 2 2, .oslice 1 b18 0 1 1, .oslice 1 b19 0 1 1, .oslice 1 b20 0 1 1, .oslice 1 b21 0 1 1] 26)):=⟨_,rfl⟩;rw[<-hK22];have s1:Sub H K1:=by rw[hK1];exact(Sub.refl _).new hb1 _
 have s2:Sub K1 K2:=by rw[hK2];exact(Sub.refl _).new hb2 _
 have s3:Sub K2 K3:=by rw[hK3];exact(Sub.refl _).new hb3 _
 have s4:Sub K3 K4:=by rw[hK4];exact(Sub.refl _).new hb4 _
 have s5:Sub K4 K5:=by rw[hK5];exact(Sub.refl _).new hb5 _
 have s6:Sub K5 K6:=by rw[hK6];exact(Sub.refl _).new hb6 _
 have s7:Sub K6 K7:=by rw[hK7];exact(Sub.refl _).new hb7 _
 have s8:Sub K7 K8:=by rw[hK8];exact(Sub.refl _).new hb8 _
 have s9:Sub K8 K9:=by rw[hK9];exact(Sub.refl _).new hb9 _
 have s10:Sub K9 K10:=by rw[hK10];exact(Sub.refl _).new hb10 _
 have s11:Sub K10 K11:=by rw[hK11];exact(Sub.refl _).new hb11 _
 have s12:Sub K11 K12:=by rw[hK12];exact(Sub.refl _).new hb12 _
 have s13:Sub K12 K13:=by rw[hK13];exact(Sub.refl _).new hb13 _
 have s14:Sub K13 K14:=by rw[hK14];exact(Sub.refl _).new hb14 _
 have s15:Sub K14 K15:=by rw[hK15];exact(Sub.refl _).new hb15 _
 have s16:Sub K15 K16:=by rw[hK16];exact(Sub.refl _).new hb16 _
 have s17:Sub K16 K17:=by rw[hK17];exact(Sub.refl _).new hb17 _
 have s18:Sub K17 K18:=by rw[hK18];exact(Sub.refl _).new hb18 _
 have s19:Sub K18 K19:=by rw[hK19];exact(Sub.refl _).new hb19 _
 have s20:Sub K19 K20:=by rw[hK20];exact(Sub.refl _).new hb20 _
 have s21:Sub K20 K21:=by rw[hK21];exact(Sub.refl _).new hb21 _
 have s22:Sub K21 K22:=by rw[hK22];exact(Sub.refl _).new hb22 _
 have t22:Sub K22 K22:=Sub.refl _;have t21:Sub K21 K22:=s22.trans t22;have t20:Sub K20 K22:=s21.trans t21;have t19:Sub K19 K22:=s20.trans t20;have t18:Sub K18 K22:=s19.trans t19;have t17:Sub K17 K22:=s18.trans t18;have t16:Sub K16 K22:=s17.trans t17;have t15:Sub K15 K22:=s16.trans t16;have t14:Sub K14 K22:=s15.trans t15;have t13:Sub K13 K22:=s14.trans t14;have t12:Sub K12 K22:=s13.trans t13;have t11:Sub K11 K22:=s12.trans t12;have t10:Sub K10 K22:=s11.trans t11;have t9:Sub K9 K22:=s10.trans t10;have t8:Sub K8 K22:=s9.trans t9;have t7:Sub K7 K22:=s8.trans t8;have t6:Sub K6 K22:=s7.trans t7;have t5:Sub K5 K22:=s6.trans t6;have t4:Sub K4 K22:=s5.trans t5;have t3:Sub K3 K22:=s4.trans t4;have t2:Sub K2 K22:=s3.trans t3;have t1:Sub K1 K22:=s2.trans t2;have t0:Sub H K22:=s1.trans t1;have u1:Sub H H:=Sub.refl H;have u2:Sub H K1:=u1.trans s1;have u3:Sub H K2:=u2.trans s2;have u4:Sub H K3:=u3.trans s3;have u5:Sub H K4:=u4.trans s4;have u6:Sub H K5:=u5.trans s5;have u7:Sub H K6:=u6.trans s6;have u8:Sub H K7:=u7.trans s7;have u9:Sub H K8:=u8.trans s8;have u10:Sub H K9:=u9.trans s9;have u11:Sub H K10:=u10.trans s10;have u12:Sub H K11:=u11.trans s11;have u13:Sub H K12:=u12.trans s12;have u14:Sub H K13:=u13.trans s13;have u15:Sub H K14:=u14.trans s14;have u16:Sub H K15:=u15.trans s15;have u17:Sub H K16:=u16.trans s16;have u18:Sub H K17:=u17.trans s17;have u19:Sub H K18:=u18.trans s18;have u20:Sub H K19:=u19.trans s19;have u21:Sub H K20:=u20.trans s20;have u22:Sub H K21:=u21.trans s21;have hsT:Sub H K22:=u22.trans s22;have c1:K22 b1=some (.cells [.str [43]] 9):=t1 _ _ (by rw[hK1];exact Aa _ _ _);have c2:K22 b2=some (.cells [.str [45]] 9):=t2 _ _ (by rw[hK2];exact Aa _ _ _);have c3:K22 b3=some (.cells [.str [42]] 9):=t3 _ _ (by rw[hK3];exact Aa _ _ _);have c4:K22 b4=some (.cells [.str [47]] 9):=t4 _ _ (by rw[hK4];exact Aa _ _ _);have c5:K22 b5=some (.cells [.str [109,111,100]] 9):=t5 _ _ (by rw[hK5];exact Aa _ _ _);have c6:K22 b6=some (.cells [.str [114,101,109]] 9):=t6 _ _ (by rw[hK6];exact Aa _ _ _);have c7:K22 b7=some (.cells [.str [61]] 9):=t7 _ _ (by rw[hK7];exact Aa _ _ _);have c8:K22 b8=some (.cells [.str [47,61]] 9):=t8 _ _ (by rw[hK8];exact Aa _ _ _);have c9:K22 b9=some (.cells [.str [60]] 9):=t9 _ _ (by rw[hK9];exact Aa _ _ _);have c10:K22 b10=some (.cells [.str [60,61]] 9):=t10 _ _ (by rw[hK10];exact Aa _ _ _);have c11:K22 b11=some (.cells [.str [62]] 9):=t11 _ _ (by rw[hK11];exact Aa _ _ _);have c12:K22 b12=some (.cells [.str [62,61]] 9):=t12 _ _ (by rw[hK12];exact Aa _ _ _);have c13:K22 b13=some (.cells [.str [97,110,100]] 9):=t13 _ _ (by rw[hK13];exact Aa _ _ _);have c14:K22 b14=some (.cells [.str [111,114]] 9):=t14 _ _ (by rw[hK14];exact Aa _ _ _);have c15:K22 b15=some (.cells [.str [120,111,114]] 9):=t15 _ _ (by rw[hK15];exact Aa _ _ _);have c16:K22 b16=some (.cells [.str [97,110,100], .str [116,104,101,110]] 9):=t16 _ _ (by rw[hK16];exact Aa _ _ _);have c17:K22 b17=some (.cells [.str [111,114], .str [101,108,115,101]] 9):=t17 _ _ (by rw[hK17];exact Aa _ _ _);have c18:K22 b18=some (.cells [.str [43]] 9):=t18 _ _ (by rw[hK18];exact Aa _ _ _);have c19:K22 b19=some (.cells [.str [45]] 9):=t19 _ _ (by rw[hK19];exact Aa _ _ _);have c20:K22 b20=some (.cells [.str [97,98,115]] 9):=t20 _ _ (by rw[hK20];exact Aa _ _ _);have c21:K22 b21=some (.cells [.str [110,111,116]] 9):=t21 _ _ (by rw[hK21];exact Aa _ _ _);have c22:K22 b22=some (.cells [.nilSlice, .oslice 1 b1 0 1 1, .oslice 1 b2 0 1 1, .oslice 1 b3 0 1 1, .oslice 1 b4 0 1 1, .oslice 1 b5 0 1 1, .oslice 1 b6 0 1 1, .oslice 1 b7 0 1 1, .oslice 1 b8 0 1 1, .oslice 1 b9 0 1 1, .oslice 1 b10 0 1 1, .oslice 1 b11 0 1 1, .oslice 1 b12 0 1 1, .oslice 1 b13 0 1 1, .oslice 1 b14 0 1 1, .oslice 1 b15 0 1 1, .oslice 1 b16 0 2 2, .oslice 1 b17 0 2 2, .oslice 1 b18 0 1 1, .oslice 1 b19 0 1 1, .oslice 1 b20 0 1 1, .oslice 1 b21 0 1 1] 26):=t22 _ _ (by rw[hK22];exact Aa _ _ _);have seenT:Fv K22 (.oslice 1 b22 0 22 22) H (.vslice (Cr4.map dW) 22):=Fv.cells (cs':=Cr4.map dW) hsT (u22.lo hb22) c22 rfl (.cons (.nil hsT) (.cons (Fv.block hsT (u1.lo hb1) c1 rfl) (.cons (Fv.block hsT (u2.lo hb2) c2 rfl) (.cons (Fv.block hsT (u3.lo hb3) c3 rfl) (.cons (Fv.block hsT (u4.lo hb4) c4 rfl) (.cons (Fv.block hsT (u5.lo hb5) c5 rfl) (.cons (Fv.block hsT (u6.lo hb6) c6 rfl) (.cons (Fv.block hsT (u7.lo hb7) c7 rfl) (.cons (Fv.block hsT (u8.lo hb8) c8 rfl) (.cons (Fv.block hsT (u9.lo hb9) c9 rfl) (.cons (Fv.block hsT (u10.lo hb10) c10 rfl) (.cons (Fv.block hsT (u11.lo hb11) c11 rfl) (.cons (Fv.block hsT (u12.lo hb12) c12 rfl) (.cons (Fv.block hsT (u13.lo hb13) c13 rfl) (.cons (Fv.block hsT (u14.lo hb14) c14 rfl) (.cons (Fv.block hsT (u15.lo hb15) c15 rfl) (.cons (Fv.block hsT (u16.lo hb16) c16 rfl) (.cons (Fv.block hsT (u17.lo hb17) c17 rfl) (.cons (Fv.block hsT (u18.lo hb18) c18 rfl) (.cons (Fv.block hsT (u19.lo hb19) c19 rfl) (.cons (Fv.block hsT (u20.lo hb20) c20 rfl) (.cons (Fv.block hsT (u21.lo hb21) c21 rfl) (.nil)))))))))))))))))))))));simp(disch:=omega) only[go_sem,↓reduceIte];exact Fv.fin hsT seenT ⟨rfl,rfl⟩
theorem Wv (G:Nat->DVal) (H:Ab) (o:Nat) (a b:Ex):Ah Tryz.prog G 242 [.int .u8 o, .agg (dEx a), .agg (dEx b)] H (Bp (.agg (dEx (both o a b))) H):=by
 have hea:both o a b= .mk 12 o 0 [] [a,b] [] a.line 0 0:=rfl;rw[hea];have hab: [a,b].flatMap dEx=dEx a++dEx b:=by simp
 have hla:(dEx a)[6]? =some (dI a.line):=by cases a;rfl
 have hlx:(dEx a).length=9:=Aj a;have hly:(dEx b).length=9:=Aj b;refine Ac Tryz.func242 Tryz.call242 rfl (by kernel_rfl) ?_;simp(disch:=omega) only[go_sem,↓reduceIte,DVal.cells];intro r4 hr4;dsimp only at hr4;simp(disch:=omega) only[go_sem,↓reduceIte,DVal.cells];intro r5 hr5;dsimp only at hr5;obtain⟨m1,m2,hr5'⟩:=Dj1.1 hr5;simp(disch:=omega) only[go_sem,↓reduceIte];intro r6 hr6;dsimp only at hr6;obtain⟨m3,m4,hr6a⟩:=Dj1.1 hr6;obtain⟨m5,m6,hr6'⟩:=Dj1.1 hr6a;simp(disch:=omega) only[go_sem,↓reduceIte,m1,m2,m3,m4,m5,m6];rw[Nq hlx hly];simp(disch:=omega) only[go_sem,↓reduceIte,m1,m2,m3,m4,m5,m6];intro r7 hr7;dsimp only at hr7;obtain⟨p1,p2,hr7a⟩:=Dj1.1 hr7;obtain⟨p3,p4,hr7b⟩:=Dj1.1 hr7a;obtain⟨p5,p6,hr7'⟩:=Dj1.1 hr7b;simp(disch:=omega) only[go_sem,↓reduceIte,m1,m2,m3,m4,m5,m6,p1,p2,p3,p4,p5,p6,hla];have hs:=(((((Sub.refl H).new hr4 (some (.cells (dEx a) 36))).new hr5 (some (.cells (dEx b) 36))).new hr6 (some (.cells [.int .u8 0, .int .u8 0, .int .i64 0, .str [], .nilSlice, .nilSlice, .int .i64 0, .int .i64 0, .int .i64 0] 36))).new hr7 (some (.cells (dEx a++dEx b) 36))).up hr6' (some (.cells [.int .u8 12, .int .u8 o, .int .i64 0, .str [], .oslice 9 r7 0 2 2, .nilSlice, .int .i64 a.line, .int .i64 0, .int .i64 0] 36));refine Fv.fin hs (Fv.agg (Fv.ex (l:= [a,b]) hs (Fv.block (e:=36) hs hr7' ?_ ?_) (.as0 hs))) ⟨rfl,rfl⟩
 ·rw[hab];simp [upd,p1,p2]
 ·rw[hab,List.length_append,hlx,hly]
end
end Go.Dl

-- Chapter 3: the package's reader: operators.
namespace Go.Dl
open Go Go.Proofs
set_option maxRecDepth 100000
def Yx:Nat->Nat->List Nat
 | _,0=> []
 | h,n+1=>h::Yx (h-1) n
theorem Sz {o:Nat} (h:o<22):(Cr4.map dW)[o]? =some (dW (Al o)):=by
 rw[List.getElem?_map,Al,List.getD,List.getElem?_eq_getElem (by exact h)];rfl
theorem Ae8 (o:Nat):(Al o).length<=2:=by
 rw[Al,List.getD];by_cases h:o<22
 ·have: ∀i:Fin 22,((Cr4[i.1]?).getD []).length<=2:=by decide
  exact this ⟨o,h⟩
 ·rw[List.getElem?_eq_none (by have:Cr4.length=22:=rfl;omega)];decide
section
variable {G:Nat->DVal} {H0 H:Ab} {r k:Nat} {l:List Tok}
theorem Cs7 (want:Nat) (o:Nat) (m:List Nat):opF l want k (o::m)=if isW l k (Al o) then(if want≠0/\o≠want then(0,k) else(o,k+(Al o).length)) else opF l want k m:=rfl
set_option maxHeartbeats 4000000 in
theorem Lj (hG:GX G) (H:Ab) (lo hi want:Nat) (h1:1<=lo) (h2:lo<=hi) (h3:hi<=21) (hr:H r=some (rdO l k)) (hl:l.length<=1000000) (hk:k<=900000):
  Ah Tryz.prog G 241 [.optr r 0, .int .u8 lo, .int .u8 hi, .int .u8 want] H (RdQ r l H (.int .u8 (opF l want k (Yx hi (hi+1-lo))).1) (opF l want k (Yx hi (hi+1-lo))).2):=by
 have hr':=hr;unfold rdO at hr';refine Ac Tryz.func241 Tryz.call241 rfl (by kernel_rfl) ?_;simp(disch:=omega) only[go_sem,↓reduceIte];refine(Gy G H).mono ?_;rintro _ H1 ⟨rfl,rfl⟩;simp(disch:=omega) only[go_sem,↓reduceIte];obtain⟨I,hI⟩: ∃I:Nat->(Nat->DVal)->Ab->Prop,∀j env heap,I j env heap↔(env 0= .optr r 0/\env 1= .int .u8 lo/\env 3= .int .u8 want/\env 9=Jg/\env 10= .int .u8 ((hi-j:Nat):Int)/\j<=hi+1-lo/\opF l want k (Yx hi (hi+1-lo))=opF l want k (Yx (hi-j) (hi+1-lo-j))/\heap=H1):=⟨_,fun _ _ _=>Iff.rfl⟩;refine Bs7.run I (fun j=>hi+1-lo-j) 0 ((hI _ _ _).2 ?_) ?_
 ·simp(disch:=omega) only[go_sem,↓reduceIte];(repeat' apply And.intro)<;>(try first | rfl | assumption | omega)
 ·intro j env heap hi';obtain⟨e0,e1,e3,e9,e10,hj,hm,rfl⟩:=(hI _ _ _).1 hi';by_cases hlt:j<hi+1-lo
  ·obtain⟨o,ho⟩: ∃o,o=hi-j:=⟨_,rfl⟩;have hn:hi+1-lo-j=(hi+1-lo-(j+1))+1:=by omega
   rw[hn,Yx,Cs7,<-ho] at hm;rw[<-ho] at e10;have hlt':(lo:Int)<=(o:Int):=by omega
   have hwj:IntKind.u8.wrap ((o:Int)-1)=((hi-(j+1):Nat):Int):=by
    rw[IntKind.wrap_u8];omega
   have hget:=Sz (o:=o) (by omega);have hwl:=Ae8 o;obtain⟨ws,hws⟩: ∃ws,ws=Al o:=⟨_,rfl⟩;rw[<-hws] at hget hwl hm;have hml:(Cr4.map dW).length=22:=rfl;obtain⟨W,hW⟩: ∃W,W=Cr4.map dW:=⟨_,rfl⟩;rw[<-hW] at hget hml;simp(disch:=omega) only[go_sem,↓reduceIte,e0,e1,e3,e9,e10,hlt',Jg,<-hW,hget,hml,Int.toNat_natCast];refine(Uv hG heap ws hr hl hk (by omega)).mono ?_;rintro _ H2 ⟨rfl,rfl⟩;cases hb:isW l k ws with
   | false=>
    rw[hb] at hm;simp(disch:=omega) only[go_sem,↓reduceIte,e0,e1,e3,e9,e10];refine⟨j+1,_,Ik.refl _,(hI _ _ _).2 ?_,by omega⟩;simp(disch:=omega) only[go_sem,↓reduceIte,e0,e1,e3,e9,e10,hwj];(repeat' apply And.intro)<;>(try first | rfl | assumption | omega);rw[hm,if_neg (by simp),Nat.sub_sub,ho];rfl
   | true=>
    rw[hb,if_pos rfl] at hm;have hwk:IntKind.i64.wrap ((k:Int)+(ws.length:Int))=((k+ws.length:Nat):Int):=by rw[IntKind.wrap_i64];omega
    by_cases c1:want=0
    ·have c1':(want:Int)=0:=by omega
     rw[if_neg (by omega)] at hm;simp(disch:=omega) only[go_sem,↓reduceIte,e0,e1,e3,e9,e10,c1',Jg,<-hW,hget,hml,Int.toNat_natCast];refine An (by kernel_rfl) (.take 0 (.take 1 (.take 2 (.take 3 (.take 4 (.take 5 (.take 6 (.take 7 (.take 8 (.take 9 (.take 10 (.take 11 (.go 12 [] .done))))))))))))) (by kernel_rfl) ?_;simp(disch:=omega) only[go_sem,↓reduceIte,e0,e1,e3,e9,e10,Jg,<-hW,hget,hml,Int.toNat_natCast,hr',hwk,dW];rw[hm];exact Pm.refl ⟨rfl,rfl⟩
    ·have c1': ¬(want:Int)=0:=by omega
     by_cases c2:o=want
     ·have c2':(o:Int)=(want:Int):=by omega
      rw[if_neg (by omega)] at hm;simp(disch:=omega) only[go_sem,↓reduceIte,e0,e1,e3,e9,e10,c1',c2',Jg,<-hW,hget,hml,Int.toNat_natCast];refine An (by kernel_rfl) (.take 0 (.take 1 (.take 2 (.take 3 (.take 4 (.take 5 (.take 6 (.take 7 (.take 8 (.take 9 (.take 10 (.take 11 (.go 12 [] .done))))))))))))) (by kernel_rfl) ?_;simp(disch:=omega) only[go_sem,↓reduceIte,e0,e1,e3,e9,e10,Jg,<-hW,hget,hml,Int.toNat_natCast,hr',hwk,dW];rw[hm];exact Pm.refl ⟨rfl,rfl⟩
     ·have c2': ¬(o:Int)=(want:Int):=by omega
      rw[if_pos ⟨c1,c2⟩] at hm;simp(disch:=omega) only[go_sem,↓reduceIte,e0,e1,e3,e9,e10,c1',c2'];rw[hm];exact Pm.refl ⟨rfl,(Cq hr).symm⟩
  ·have:j=hi+1-lo:=by omega
   subst this;have ho:hi-(hi+1-lo)=lo-1:=by omega
   have hlt': ¬(lo:Int)<=((lo-1:Nat):Int):=by omega
   rw[Nat.sub_self,ho,Yx,opF] at hm;rw[ho] at e10;simp(disch:=omega) only[go_sem,↓reduceIte,e0,e1,e3,e9,e10,hlt'];rw[hm];exact Pm.refl ⟨rfl,(Cq hr).symm⟩
end
end Go.Dl
