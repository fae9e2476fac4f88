/- The data level and the contracts of the functions that are reached (part 5). -/
import Derived.Test.YtpcbhialfjiaaaaGreatDoorPfd
set_option linter.unusedSimpArgs false
set_option linter.unusedVariables false
set_option linter.unusedSectionVars false
-- Chapter 3: what is valid: the fields of an expression (printed by gen_u6.py).
namespace Go.Dl
open Go Go.Proofs
set_option maxRecDepth 100000
section
variable {G:Nat->DVal} {H:Ac}
set_option maxHeartbeats 4000000 in
theorem Bd9 (hG:GX G) (H:Ac) (e:Ex) (hb:Cv e<=1099511627776) (hs:e.s.length<=9223372036854775807):Ai Tryz.prog G 40 [.agg (dEx e)] H (Au (.bool (Af e)) H):=by
 have hal:= @Bv4 e;have hll:= @Bv3 e;have hfl:=An Ah e.l;have hac: ∀a∈e.a,a.c.length<=1099511627776:=fun a ha=>by
  have h1:=Ae6 ha;have h2:=Ht a.c;rw[Lc] at h1;omega
 have s1:Cz (dEx e) 0 [DVal.int .u8 0]= [DVal.int .u8 0,DVal.int .u8 e.oper,DVal.int .i64 e.n,DVal.str e.s,DVal.vslice (e.l.flatMap dEx) e.l.length,DVal.vslice (e.a.flatMap dAs) e.a.length,DVal.int .i64 e.line,DVal.int .i64 e.ent,DVal.int .i64 e.t]:=by rw[Iz];rfl
 have s2:Cz [DVal.int .u8 0,DVal.int .u8 e.oper,DVal.int .i64 e.n,DVal.str e.s,DVal.vslice (e.l.flatMap dEx) e.l.length,DVal.vslice (e.a.flatMap dAs) e.a.length,DVal.int .i64 e.line,DVal.int .i64 e.ent,DVal.int .i64 e.t] 6 [DVal.int .i64 0]= [DVal.int .u8 0,DVal.int .u8 e.oper,DVal.int .i64 e.n,DVal.str e.s,DVal.vslice (e.l.flatMap dEx) e.l.length,DVal.vslice (e.a.flatMap dAs) e.a.length,DVal.int .i64 0,DVal.int .i64 e.ent,DVal.int .i64 e.t]:=rfl;have s3:Cz [DVal.int .u8 0,DVal.int .u8 e.oper,DVal.int .i64 e.n,DVal.str e.s,DVal.vslice (e.l.flatMap dEx) e.l.length,DVal.vslice (e.a.flatMap dAs) e.a.length,DVal.int .i64 0,DVal.int .i64 e.ent,DVal.int .i64 e.t] 7 [DVal.int .i64 0]= [DVal.int .u8 0,DVal.int .u8 e.oper,DVal.int .i64 e.n,DVal.str e.s,DVal.vslice (e.l.flatMap dEx) e.l.length,DVal.vslice (e.a.flatMap dAs) e.a.length,DVal.int .i64 0,DVal.int .i64 0,DVal.int .i64 e.t]:=rfl;have s4:Cz [DVal.int .u8 0,DVal.int .u8 e.oper,DVal.int .i64 e.n,DVal.str e.s,DVal.vslice (e.l.flatMap dEx) e.l.length,DVal.vslice (e.a.flatMap dAs) e.a.length,DVal.int .i64 0,DVal.int .i64 0,DVal.int .i64 e.t] 8 [DVal.int .i64 0]= [DVal.int .u8 0,DVal.int .u8 e.oper,DVal.int .i64 e.n,DVal.str e.s,DVal.vslice (e.l.flatMap dEx) e.l.length,DVal.vslice (e.a.flatMap dAs) e.a.length,DVal.int .i64 0,DVal.int .i64 0,DVal.int .i64 0]:=rfl;have s5:Cz [DVal.int .u8 0,DVal.int .u8 e.oper,DVal.int .i64 e.n,DVal.str e.s,DVal.vslice (e.l.flatMap dEx) e.l.length,DVal.vslice (e.a.flatMap dAs) e.a.length,DVal.int .i64 0,DVal.int .i64 0,DVal.int .i64 0] 4 [DVal.nilSlice]= [DVal.int .u8 0,DVal.int .u8 e.oper,DVal.int .i64 e.n,DVal.str e.s,DVal.nilSlice,DVal.vslice (e.a.flatMap dAs) e.a.length,DVal.int .i64 0,DVal.int .i64 0,DVal.int .i64 0]:=rfl;have sO:Cz [DVal.int .u8 0,DVal.int .u8 e.oper,DVal.int .i64 e.n,DVal.str e.s,DVal.nilSlice,DVal.vslice (e.a.flatMap dAs) e.a.length,DVal.int .i64 0,DVal.int .i64 0,DVal.int .i64 0] 1 [DVal.int .u8 0]= [DVal.int .u8 0,DVal.int .u8 0,DVal.int .i64 e.n,DVal.str e.s,DVal.nilSlice,DVal.vslice (e.a.flatMap dAs) e.a.length,DVal.int .i64 0,DVal.int .i64 0,DVal.int .i64 0]:=rfl;have sN:Cz [DVal.int .u8 0,DVal.int .u8 e.oper,DVal.int .i64 e.n,DVal.str e.s,DVal.nilSlice,DVal.vslice (e.a.flatMap dAs) e.a.length,DVal.int .i64 0,DVal.int .i64 0,DVal.int .i64 0] 2 [DVal.int .i64 0]= [DVal.int .u8 0,DVal.int .u8 e.oper,DVal.int .i64 0,DVal.str e.s,DVal.nilSlice,DVal.vslice (e.a.flatMap dAs) e.a.length,DVal.int .i64 0,DVal.int .i64 0,DVal.int .i64 0]:=rfl;have sS:Cz [DVal.int .u8 0,DVal.int .u8 e.oper,DVal.int .i64 e.n,DVal.str e.s,DVal.nilSlice,DVal.vslice (e.a.flatMap dAs) e.a.length,DVal.int .i64 0,DVal.int .i64 0,DVal.int .i64 0] 3 [DVal.str []]= [DVal.int .u8 0,DVal.int .u8 e.oper,DVal.int .i64 e.n,DVal.str [],DVal.nilSlice,DVal.vslice (e.a.flatMap dAs) e.a.length,DVal.int .i64 0,DVal.int .i64 0,DVal.int .i64 0]:=rfl;have sA:Cz [DVal.int .u8 0,DVal.int .u8 e.oper,DVal.int .i64 e.n,DVal.str e.s,DVal.nilSlice,DVal.vslice (e.a.flatMap dAs) e.a.length,DVal.int .i64 0,DVal.int .i64 0,DVal.int .i64 0] 5 [DVal.nilSlice]= [DVal.int .u8 0,DVal.int .u8 e.oper,DVal.int .i64 e.n,DVal.str e.s,DVal.nilSlice,DVal.nilSlice,DVal.int .i64 0,DVal.int .i64 0,DVal.int .i64 0]:=rfl;refine Ad Tryz.func40 Tryz.call40 rfl (by kernel_rfl) ?_;simp(disch:=omega) only[go_sem,↓reduceIte,DVal.cells];intro r1 hr1;dsimp only at hr1;simp(disch:=omega) only[go_sem,↓reduceIte,DVal.cells];intro r3 hr3;dsimp only at hr3;obtain⟨m1,m2,hr3'⟩:=De7.1 hr3;by_cases k1:e.kind=1
 ·skip
  by_cases clen0:e.l.length=0
  ·have clen0':(e.l.length:Int)=0:=by omega
   by_cases ca:0<=e.n
   ·by_cases cb:e.n<=2147483647
    ·skip
     by_cases zo:e.oper=0
     ·skip
      by_cases zs:e.s= []
      ·skip
       by_cases za:e.a.length=0
       ·have za':(e.a.length:Int)=0:=by omega
        have ya:e.a= []:=List.length_eq_zero_iff.1 za;simp(disch:=omega) only[go_sem,↓reduceIte,m1,m2,s1,s2,s3,s4,s5,sO,sN,sS,sA,List.length_cons,List.length_nil,k1,clen0',ca,cb,zo,zs,za'];exact Nu.sub (show Sub H _ from(by repeat (first | exact Sub.refl _ | assumption | refine Sub.up ?_ (by assumption) _))) (Nu.refl ⟨by simp [Af,zO,zN,zS,zA,Ab,k1,clen0,ca,cb,zo,zs,ya],rfl⟩)
       ·have za': ¬((e.a.length:Int)=0):=by omega
        simp(disch:=omega) only[go_sem,↓reduceIte,m1,m2,s1,s2,s3,s4,s5,sO,sN,sS,sA,List.length_cons,List.length_nil,k1,clen0',ca,cb,zo,zs,za'];exact Nu.sub (show Sub H _ from(by repeat (first | exact Sub.refl _ | assumption | refine Sub.up ?_ (by assumption) _))) (Nu.refl ⟨by simp [Af,zO,zN,zS,zA,Ab,k1,clen0,ca,cb,zo,zs,za],rfl⟩)
      ·skip
       simp(disch:=omega) only[go_sem,↓reduceIte,m1,m2,s1,s2,s3,s4,s5,sO,sN,sS,sA,List.length_cons,List.length_nil,k1,clen0',ca,cb,zo,zs];exact Nu.sub (show Sub H _ from(by repeat (first | exact Sub.refl _ | assumption | refine Sub.up ?_ (by assumption) _))) (Nu.refl ⟨by simp [Af,zO,zN,zS,zA,Ab,k1,clen0,ca,cb,zo,zs],rfl⟩)
     ·skip
      simp(disch:=omega) only[go_sem,↓reduceIte,m1,m2,s1,s2,s3,s4,s5,sO,sN,sS,sA,List.length_cons,List.length_nil,k1,clen0',ca,cb,zo];exact Nu.sub (show Sub H _ from(by repeat (first | exact Sub.refl _ | assumption | refine Sub.up ?_ (by assumption) _))) (Nu.refl ⟨by simp [Af,zO,zN,zS,zA,Ab,k1,clen0,ca,cb,zo],rfl⟩)
    ·simp(disch:=omega) only[go_sem,↓reduceIte,m1,m2,s1,s2,s3,s4,s5,sO,sN,sS,sA,List.length_cons,List.length_nil,k1,clen0',ca,cb];exact Nu.sub (show Sub H _ from(by repeat (first | exact Sub.refl _ | assumption | refine Sub.up ?_ (by assumption) _))) (Nu.refl ⟨by simp [Af,zO,zN,zS,zA,Ab,k1,clen0,ca,cb],rfl⟩)
   ·simp(disch:=omega) only[go_sem,↓reduceIte,m1,m2,s1,s2,s3,s4,s5,sO,sN,sS,sA,List.length_cons,List.length_nil,k1,clen0',ca];exact Nu.sub (show Sub H _ from(by repeat (first | exact Sub.refl _ | assumption | refine Sub.up ?_ (by assumption) _))) (Nu.refl ⟨by simp [Af,zO,zN,zS,zA,Ab,k1,clen0,ca],rfl⟩)
  ·have clen0': ¬((e.l.length:Int)=0):=by omega
   simp(disch:=omega) only[go_sem,↓reduceIte,m1,m2,s1,s2,s3,s4,s5,sO,sN,sS,sA,List.length_cons,List.length_nil,k1,clen0'];exact Nu.sub (show Sub H _ from(by repeat (first | exact Sub.refl _ | assumption | refine Sub.up ?_ (by assumption) _))) (Nu.refl ⟨by simp [Af,zO,zN,zS,zA,Ab,k1,clen0],rfl⟩)
 by_cases k2:e.kind=2
 ·skip
  by_cases clen0:e.l.length=0
  ·have clen0':(e.l.length:Int)=0:=by omega
   by_cases zo:e.oper=0
   ·skip
    by_cases zn:e.n=0
    ·skip
     by_cases zs:e.s= []
     ·skip
      by_cases za:e.a.length=0
      ·have za':(e.a.length:Int)=0:=by omega
       have ya:e.a= []:=List.length_eq_zero_iff.1 za;simp(disch:=omega) only[go_sem,↓reduceIte,m1,m2,s1,s2,s3,s4,s5,sO,sN,sS,sA,List.length_cons,List.length_nil,k2,clen0',zo,zn,zs,za'];exact Nu.sub (show Sub H _ from(by repeat (first | exact Sub.refl _ | assumption | refine Sub.up ?_ (by assumption) _))) (Nu.refl ⟨by simp [Af,zO,zN,zS,zA,Ab,k2,clen0,zo,zn,zs,ya],rfl⟩)
      ·have za': ¬((e.a.length:Int)=0):=by omega
       simp(disch:=omega) only[go_sem,↓reduceIte,m1,m2,s1,s2,s3,s4,s5,sO,sN,sS,sA,List.length_cons,List.length_nil,k2,clen0',zo,zn,zs,za'];exact Nu.sub (show Sub H _ from(by repeat (first | exact Sub.refl _ | assumption | refine Sub.up ?_ (by assumption) _))) (Nu.refl ⟨by simp [Af,zO,zN,zS,zA,Ab,k2,clen0,zo,zn,zs,za],rfl⟩)
     ·skip
      simp(disch:=omega) only[go_sem,↓reduceIte,m1,m2,s1,s2,s3,s4,s5,sO,sN,sS,sA,List.length_cons,List.length_nil,k2,clen0',zo,zn,zs];exact Nu.sub (show Sub H _ from(by repeat (first | exact Sub.refl _ | assumption | refine Sub.up ?_ (by assumption) _))) (Nu.refl ⟨by simp [Af,zO,zN,zS,zA,Ab,k2,clen0,zo,zn,zs],rfl⟩)
    ·skip
     simp(disch:=omega) only[go_sem,↓reduceIte,m1,m2,s1,s2,s3,s4,s5,sO,sN,sS,sA,List.length_cons,List.length_nil,k2,clen0',zo,zn];exact Nu.sub (show Sub H _ from(by repeat (first | exact Sub.refl _ | assumption | refine Sub.up ?_ (by assumption) _))) (Nu.refl ⟨by simp [Af,zO,zN,zS,zA,Ab,k2,clen0,zo,zn],rfl⟩)
   ·skip
    simp(disch:=omega) only[go_sem,↓reduceIte,m1,m2,s1,s2,s3,s4,s5,sO,sN,sS,sA,List.length_cons,List.length_nil,k2,clen0',zo];exact Nu.sub (show Sub H _ from(by repeat (first | exact Sub.refl _ | assumption | refine Sub.up ?_ (by assumption) _))) (Nu.refl ⟨by simp [Af,zO,zN,zS,zA,Ab,k2,clen0,zo],rfl⟩)
  ·have clen0': ¬((e.l.length:Int)=0):=by omega
   simp(disch:=omega) only[go_sem,↓reduceIte,m1,m2,s1,s2,s3,s4,s5,sO,sN,sS,sA,List.length_cons,List.length_nil,k2,clen0'];exact Nu.sub (show Sub H _ from(by repeat (first | exact Sub.refl _ | assumption | refine Sub.up ?_ (by assumption) _))) (Nu.refl ⟨by simp [Af,zO,zN,zS,zA,Ab,k2,clen0],rfl⟩)
 by_cases k3:e.kind=3
 ·skip
  by_cases clen0:e.l.length=0
  ·have clen0':(e.l.length:Int)=0:=by omega
   simp(disch:=omega) only[go_sem,↓reduceIte,m1,m2,s1,s2,s3,s4,s5,sO,sN,sS,sA,List.length_cons,List.length_nil,k3,clen0'];refine(Sv hG _ e.s hs).mono ?_;rintro _ H1 ⟨rfl,rfl⟩;cases vname:Kh e.s with
   | true=>
    by_cases zo:e.oper=0
    ·skip
     by_cases zn:e.n=0
     ·skip
      by_cases za:e.a.length=0
      ·have za':(e.a.length:Int)=0:=by omega
       have ya:e.a= []:=List.length_eq_zero_iff.1 za;simp(disch:=omega) only[go_sem,↓reduceIte,m1,m2,s1,s2,s3,s4,s5,sO,sN,sS,sA,List.length_cons,List.length_nil,k3,clen0',zo,zn,za'];exact Nu.sub (show Sub H _ from(by repeat (first | exact Sub.refl _ | assumption | refine Sub.up ?_ (by assumption) _))) (Nu.refl ⟨by simp [Af,zO,zN,zS,zA,Ab,k3,clen0,vname,zo,zn,ya],rfl⟩)
      ·have za': ¬((e.a.length:Int)=0):=by omega
       simp(disch:=omega) only[go_sem,↓reduceIte,m1,m2,s1,s2,s3,s4,s5,sO,sN,sS,sA,List.length_cons,List.length_nil,k3,clen0',zo,zn,za'];exact Nu.sub (show Sub H _ from(by repeat (first | exact Sub.refl _ | assumption | refine Sub.up ?_ (by assumption) _))) (Nu.refl ⟨by simp [Af,zO,zN,zS,zA,Ab,k3,clen0,vname,zo,zn,za],rfl⟩)
     ·skip
      simp(disch:=omega) only[go_sem,↓reduceIte,m1,m2,s1,s2,s3,s4,s5,sO,sN,sS,sA,List.length_cons,List.length_nil,k3,clen0',zo,zn];exact Nu.sub (show Sub H _ from(by repeat (first | exact Sub.refl _ | assumption | refine Sub.up ?_ (by assumption) _))) (Nu.refl ⟨by simp [Af,zO,zN,zS,zA,Ab,k3,clen0,vname,zo,zn],rfl⟩)
    ·skip
     simp(disch:=omega) only[go_sem,↓reduceIte,m1,m2,s1,s2,s3,s4,s5,sO,sN,sS,sA,List.length_cons,List.length_nil,k3,clen0',zo];exact Nu.sub (show Sub H _ from(by repeat (first | exact Sub.refl _ | assumption | refine Sub.up ?_ (by assumption) _))) (Nu.refl ⟨by simp [Af,zO,zN,zS,zA,Ab,k3,clen0,vname,zo],rfl⟩)
   | false=>
    simp(disch:=omega) only[go_sem,↓reduceIte,m1,m2,s1,s2,s3,s4,s5,sO,sN,sS,sA,List.length_cons,List.length_nil,k3,clen0'];exact Nu.sub (show Sub H _ from(by repeat (first | exact Sub.refl _ | assumption | refine Sub.up ?_ (by assumption) _))) (Nu.refl ⟨by simp [Af,zO,zN,zS,zA,Ab,k3,clen0,vname],rfl⟩)
  ·have clen0': ¬((e.l.length:Int)=0):=by omega
   simp(disch:=omega) only[go_sem,↓reduceIte,m1,m2,s1,s2,s3,s4,s5,sO,sN,sS,sA,List.length_cons,List.length_nil,k3,clen0'];exact Nu.sub (show Sub H _ from(by repeat (first | exact Sub.refl _ | assumption | refine Sub.up ?_ (by assumption) _))) (Nu.refl ⟨by simp [Af,zO,zN,zS,zA,Ab,k3,clen0],rfl⟩)
 by_cases k4:e.kind=4
 ·skip
  simp(disch:=omega) only[go_sem,↓reduceIte,m1,m2,s1,s2,s3,s4,s5,sO,sN,sS,sA,List.length_cons,List.length_nil,k4];refine(Ly G _ e 1 (by decide)).mono ?_;rintro _ H1 ⟨rfl,rfl⟩;cases vnamed1:Fv e 1 with
  | true=>
   simp(disch:=omega) only[go_sem,↓reduceIte,m1,m2,s1,s2,s3,s4,s5,sO,sN,sS,sA,List.length_cons,List.length_nil,k4];refine(Sv hG _ e.s hs).mono ?_;rintro _ H1 ⟨rfl,rfl⟩;cases vname:Kh e.s with
   | true=>
    by_cases zo:e.oper=0
    ·skip
     by_cases zn:e.n=0
     ·skip
      by_cases za:e.a.length=0
      ·have za':(e.a.length:Int)=0:=by omega
       have ya:e.a= []:=List.length_eq_zero_iff.1 za;simp(disch:=omega) only[go_sem,↓reduceIte,m1,m2,s1,s2,s3,s4,s5,sO,sN,sS,sA,List.length_cons,List.length_nil,k4,zo,zn,za'];exact Nu.sub (show Sub H _ from(by repeat (first | exact Sub.refl _ | assumption | refine Sub.up ?_ (by assumption) _))) (Nu.refl ⟨by simp [Af,zO,zN,zS,zA,Ab,k4,vnamed1,vname,zo,zn,ya],rfl⟩)
      ·have za': ¬((e.a.length:Int)=0):=by omega
       simp(disch:=omega) only[go_sem,↓reduceIte,m1,m2,s1,s2,s3,s4,s5,sO,sN,sS,sA,List.length_cons,List.length_nil,k4,zo,zn,za'];exact Nu.sub (show Sub H _ from(by repeat (first | exact Sub.refl _ | assumption | refine Sub.up ?_ (by assumption) _))) (Nu.refl ⟨by simp [Af,zO,zN,zS,zA,Ab,k4,vnamed1,vname,zo,zn,za],rfl⟩)
     ·skip
      simp(disch:=omega) only[go_sem,↓reduceIte,m1,m2,s1,s2,s3,s4,s5,sO,sN,sS,sA,List.length_cons,List.length_nil,k4,zo,zn];exact Nu.sub (show Sub H _ from(by repeat (first | exact Sub.refl _ | assumption | refine Sub.up ?_ (by assumption) _))) (Nu.refl ⟨by simp [Af,zO,zN,zS,zA,Ab,k4,vnamed1,vname,zo,zn],rfl⟩)
    ·skip
     simp(disch:=omega) only[go_sem,↓reduceIte,m1,m2,s1,s2,s3,s4,s5,sO,sN,sS,sA,List.length_cons,List.length_nil,k4,zo];exact Nu.sub (show Sub H _ from(by repeat (first | exact Sub.refl _ | assumption | refine Sub.up ?_ (by assumption) _))) (Nu.refl ⟨by simp [Af,zO,zN,zS,zA,Ab,k4,vnamed1,vname,zo],rfl⟩)
   | false=>
    simp(disch:=omega) only[go_sem,↓reduceIte,m1,m2,s1,s2,s3,s4,s5,sO,sN,sS,sA,List.length_cons,List.length_nil,k4];exact Nu.sub (show Sub H _ from(by repeat (first | exact Sub.refl _ | assumption | refine Sub.up ?_ (by assumption) _))) (Nu.refl ⟨by simp [Af,zO,zN,zS,zA,Ab,k4,vnamed1,vname],rfl⟩)
  | false=>
   simp(disch:=omega) only[go_sem,↓reduceIte,m1,m2,s1,s2,s3,s4,s5,sO,sN,sS,sA,List.length_cons,List.length_nil,k4];exact Nu.sub (show Sub H _ from(by repeat (first | exact Sub.refl _ | assumption | refine Sub.up ?_ (by assumption) _))) (Nu.refl ⟨by simp [Af,zO,zN,zS,zA,Ab,k4,vnamed1],rfl⟩)
 by_cases k6:e.kind=6
 ·skip
  simp(disch:=omega) only[go_sem,↓reduceIte,m1,m2,s1,s2,s3,s4,s5,sO,sN,sS,sA,List.length_cons,List.length_nil,k6];refine(Ly G _ e 1 (by decide)).mono ?_;rintro _ H1 ⟨rfl,rfl⟩;cases vnamed1:Fv e 1 with
  | true=>
   simp(disch:=omega) only[go_sem,↓reduceIte,m1,m2,s1,s2,s3,s4,s5,sO,sN,sS,sA,List.length_cons,List.length_nil,k6];refine(Sv hG _ e.s hs).mono ?_;rintro _ H1 ⟨rfl,rfl⟩;cases vname:Kh e.s with
   | true=>
    by_cases zo:e.oper=0
    ·skip
     by_cases zn:e.n=0
     ·skip
      by_cases za:e.a.length=0
      ·have za':(e.a.length:Int)=0:=by omega
       have ya:e.a= []:=List.length_eq_zero_iff.1 za;simp(disch:=omega) only[go_sem,↓reduceIte,m1,m2,s1,s2,s3,s4,s5,sO,sN,sS,sA,List.length_cons,List.length_nil,k6,zo,zn,za'];exact Nu.sub (show Sub H _ from(by repeat (first | exact Sub.refl _ | assumption | refine Sub.up ?_ (by assumption) _))) (Nu.refl ⟨by simp [Af,zO,zN,zS,zA,Ab,k6,vnamed1,vname,zo,zn,ya],rfl⟩)
      ·have za': ¬((e.a.length:Int)=0):=by omega
       simp(disch:=omega) only[go_sem,↓reduceIte,m1,m2,s1,s2,s3,s4,s5,sO,sN,sS,sA,List.length_cons,List.length_nil,k6,zo,zn,za'];exact Nu.sub (show Sub H _ from(by repeat (first | exact Sub.refl _ | assumption | refine Sub.up ?_ (by assumption) _))) (Nu.refl ⟨by simp [Af,zO,zN,zS,zA,Ab,k6,vnamed1,vname,zo,zn,za],rfl⟩)
     ·skip
      simp(disch:=omega) only[go_sem,↓reduceIte,m1,m2,s1,s2,s3,s4,s5,sO,sN,sS,sA,List.length_cons,List.length_nil,k6,zo,zn];exact Nu.sub (show Sub H _ from(by repeat (first | exact Sub.refl _ | assumption | refine Sub.up ?_ (by assumption) _))) (Nu.refl ⟨by simp [Af,zO,zN,zS,zA,Ab,k6,vnamed1,vname,zo,zn],rfl⟩)
    ·skip
     simp(disch:=omega) only[go_sem,↓reduceIte,m1,m2,s1,s2,s3,s4,s5,sO,sN,sS,sA,List.length_cons,List.length_nil,k6,zo];exact Nu.sub (show Sub H _ from(by repeat (first | exact Sub.refl _ | assumption | refine Sub.up ?_ (by assumption) _))) (Nu.refl ⟨by simp [Af,zO,zN,zS,zA,Ab,k6,vnamed1,vname,zo],rfl⟩)
   | false=>
    simp(disch:=omega) only[go_sem,↓reduceIte,m1,m2,s1,s2,s3,s4,s5,sO,sN,sS,sA,List.length_cons,List.length_nil,k6];exact Nu.sub (show Sub H _ from(by repeat (first | exact Sub.refl _ | assumption | refine Sub.up ?_ (by assumption) _))) (Nu.refl ⟨by simp [Af,zO,zN,zS,zA,Ab,k6,vnamed1,vname],rfl⟩)
  | false=>
   simp(disch:=omega) only[go_sem,↓reduceIte,m1,m2,s1,s2,s3,s4,s5,sO,sN,sS,sA,List.length_cons,List.length_nil,k6];exact Nu.sub (show Sub H _ from(by repeat (first | exact Sub.refl _ | assumption | refine Sub.up ?_ (by assumption) _))) (Nu.refl ⟨by simp [Af,zO,zN,zS,zA,Ab,k6,vnamed1],rfl⟩)
 by_cases k5:e.kind=5
 ·skip
  simp(disch:=omega) only[go_sem,↓reduceIte,m1,m2,s1,s2,s3,s4,s5,sO,sN,sS,sA,List.length_cons,List.length_nil,k5];refine(Ly G _ e 1 (by decide)).mono ?_;rintro _ H1 ⟨rfl,rfl⟩;cases vnamed1:Fv e 1 with
  | true=>
   by_cases zo:e.oper=0
   ·skip
    by_cases zn:e.n=0
    ·skip
     by_cases zs:e.s= []
     ·skip
      by_cases za:e.a.length=0
      ·have za':(e.a.length:Int)=0:=by omega
       have ya:e.a= []:=List.length_eq_zero_iff.1 za;simp(disch:=omega) only[go_sem,↓reduceIte,m1,m2,s1,s2,s3,s4,s5,sO,sN,sS,sA,List.length_cons,List.length_nil,k5,zo,zn,zs,za'];exact Nu.sub (show Sub H _ from(by repeat (first | exact Sub.refl _ | assumption | refine Sub.up ?_ (by assumption) _))) (Nu.refl ⟨by simp [Af,zO,zN,zS,zA,Ab,k5,vnamed1,zo,zn,zs,ya],rfl⟩)
      ·have za': ¬((e.a.length:Int)=0):=by omega
       simp(disch:=omega) only[go_sem,↓reduceIte,m1,m2,s1,s2,s3,s4,s5,sO,sN,sS,sA,List.length_cons,List.length_nil,k5,zo,zn,zs,za'];exact Nu.sub (show Sub H _ from(by repeat (first | exact Sub.refl _ | assumption | refine Sub.up ?_ (by assumption) _))) (Nu.refl ⟨by simp [Af,zO,zN,zS,zA,Ab,k5,vnamed1,zo,zn,zs,za],rfl⟩)
     ·skip
      simp(disch:=omega) only[go_sem,↓reduceIte,m1,m2,s1,s2,s3,s4,s5,sO,sN,sS,sA,List.length_cons,List.length_nil,k5,zo,zn,zs];exact Nu.sub (show Sub H _ from(by repeat (first | exact Sub.refl _ | assumption | refine Sub.up ?_ (by assumption) _))) (Nu.refl ⟨by simp [Af,zO,zN,zS,zA,Ab,k5,vnamed1,zo,zn,zs],rfl⟩)
    ·skip
     simp(disch:=omega) only[go_sem,↓reduceIte,m1,m2,s1,s2,s3,s4,s5,sO,sN,sS,sA,List.length_cons,List.length_nil,k5,zo,zn];exact Nu.sub (show Sub H _ from(by repeat (first | exact Sub.refl _ | assumption | refine Sub.up ?_ (by assumption) _))) (Nu.refl ⟨by simp [Af,zO,zN,zS,zA,Ab,k5,vnamed1,zo,zn],rfl⟩)
   ·skip
    simp(disch:=omega) only[go_sem,↓reduceIte,m1,m2,s1,s2,s3,s4,s5,sO,sN,sS,sA,List.length_cons,List.length_nil,k5,zo];exact Nu.sub (show Sub H _ from(by repeat (first | exact Sub.refl _ | assumption | refine Sub.up ?_ (by assumption) _))) (Nu.refl ⟨by simp [Af,zO,zN,zS,zA,Ab,k5,vnamed1,zo],rfl⟩)
  | false=>
   simp(disch:=omega) only[go_sem,↓reduceIte,m1,m2,s1,s2,s3,s4,s5,sO,sN,sS,sA,List.length_cons,List.length_nil,k5];exact Nu.sub (show Sub H _ from(by repeat (first | exact Sub.refl _ | assumption | refine Sub.up ?_ (by assumption) _))) (Nu.refl ⟨by simp [Af,zO,zN,zS,zA,Ab,k5,vnamed1],rfl⟩)
 by_cases k7:e.kind=7
 ·skip
  simp(disch:=omega) only[go_sem,↓reduceIte,m1,m2,s1,s2,s3,s4,s5,sO,sN,sS,sA,List.length_cons,List.length_nil,k7];refine(Ly G _ e 1 (by decide)).mono ?_;rintro _ H1 ⟨rfl,rfl⟩;cases vnamed1:Fv e 1 with
  | true=>
   simp(disch:=omega) only[go_sem,↓reduceIte,m1,m2,s1,s2,s3,s4,s5,sO,sN,sS,sA,List.length_cons,List.length_nil,k7];refine(Ae8 G _ e.a (by omega)).mono ?_;rintro _ H1 ⟨rfl,rfl⟩;cases vargs:Gl e.a with
   | true=>
    by_cases zo:e.oper=0
    ·skip
     by_cases zn:e.n=0
     ·skip
      by_cases zs:e.s= []
      ·skip
       simp(disch:=omega) only[go_sem,↓reduceIte,m1,m2,s1,s2,s3,s4,s5,sO,sN,sS,sA,List.length_cons,List.length_nil,k7,zo,zn,zs];exact Nu.sub (show Sub H _ from(by repeat (first | exact Sub.refl _ | assumption | refine Sub.up ?_ (by assumption) _))) (Nu.refl ⟨by simp [Af,zO,zN,zS,zA,Ab,k7,vnamed1,vargs,zo,zn,zs],rfl⟩)
      ·skip
       simp(disch:=omega) only[go_sem,↓reduceIte,m1,m2,s1,s2,s3,s4,s5,sO,sN,sS,sA,List.length_cons,List.length_nil,k7,zo,zn,zs];exact Nu.sub (show Sub H _ from(by repeat (first | exact Sub.refl _ | assumption | refine Sub.up ?_ (by assumption) _))) (Nu.refl ⟨by simp [Af,zO,zN,zS,zA,Ab,k7,vnamed1,vargs,zo,zn,zs],rfl⟩)
     ·skip
      simp(disch:=omega) only[go_sem,↓reduceIte,m1,m2,s1,s2,s3,s4,s5,sO,sN,sS,sA,List.length_cons,List.length_nil,k7,zo,zn];exact Nu.sub (show Sub H _ from(by repeat (first | exact Sub.refl _ | assumption | refine Sub.up ?_ (by assumption) _))) (Nu.refl ⟨by simp [Af,zO,zN,zS,zA,Ab,k7,vnamed1,vargs,zo,zn],rfl⟩)
    ·skip
     simp(disch:=omega) only[go_sem,↓reduceIte,m1,m2,s1,s2,s3,s4,s5,sO,sN,sS,sA,List.length_cons,List.length_nil,k7,zo];exact Nu.sub (show Sub H _ from(by repeat (first | exact Sub.refl _ | assumption | refine Sub.up ?_ (by assumption) _))) (Nu.refl ⟨by simp [Af,zO,zN,zS,zA,Ab,k7,vnamed1,vargs,zo],rfl⟩)
   | false=>
    simp(disch:=omega) only[go_sem,↓reduceIte,m1,m2,s1,s2,s3,s4,s5,sO,sN,sS,sA,List.length_cons,List.length_nil,k7];exact Nu.sub (show Sub H _ from(by repeat (first | exact Sub.refl _ | assumption | refine Sub.up ?_ (by assumption) _))) (Nu.refl ⟨by simp [Af,zO,zN,zS,zA,Ab,k7,vnamed1,vargs],rfl⟩)
  | false=>
   simp(disch:=omega) only[go_sem,↓reduceIte,m1,m2,s1,s2,s3,s4,s5,sO,sN,sS,sA,List.length_cons,List.length_nil,k7];exact Nu.sub (show Sub H _ from(by repeat (first | exact Sub.refl _ | assumption | refine Sub.up ?_ (by assumption) _))) (Nu.refl ⟨by simp [Af,zO,zN,zS,zA,Ab,k7,vnamed1],rfl⟩)
 by_cases k8:e.kind=8
 ·skip
  simp(disch:=omega) only[go_sem,↓reduceIte,m1,m2,s1,s2,s3,s4,s5,sO,sN,sS,sA,List.length_cons,List.length_nil,k8];refine(Ly G _ e 2 (by decide)).mono ?_;rintro _ H1 ⟨rfl,rfl⟩;cases vnamed2:Fv e 2 with
  | true=>
   by_cases zo:e.oper=0
   ·skip
    by_cases zn:e.n=0
    ·skip
     by_cases zs:e.s= []
     ·skip
      by_cases za:e.a.length=0
      ·have za':(e.a.length:Int)=0:=by omega
       have ya:e.a= []:=List.length_eq_zero_iff.1 za;simp(disch:=omega) only[go_sem,↓reduceIte,m1,m2,s1,s2,s3,s4,s5,sO,sN,sS,sA,List.length_cons,List.length_nil,k8,zo,zn,zs,za'];exact Nu.sub (show Sub H _ from(by repeat (first | exact Sub.refl _ | assumption | refine Sub.up ?_ (by assumption) _))) (Nu.refl ⟨by simp [Af,zO,zN,zS,zA,Ab,k8,vnamed2,zo,zn,zs,ya],rfl⟩)
      ·have za': ¬((e.a.length:Int)=0):=by omega
       simp(disch:=omega) only[go_sem,↓reduceIte,m1,m2,s1,s2,s3,s4,s5,sO,sN,sS,sA,List.length_cons,List.length_nil,k8,zo,zn,zs,za'];exact Nu.sub (show Sub H _ from(by repeat (first | exact Sub.refl _ | assumption | refine Sub.up ?_ (by assumption) _))) (Nu.refl ⟨by simp [Af,zO,zN,zS,zA,Ab,k8,vnamed2,zo,zn,zs,za],rfl⟩)
     ·skip
      simp(disch:=omega) only[go_sem,↓reduceIte,m1,m2,s1,s2,s3,s4,s5,sO,sN,sS,sA,List.length_cons,List.length_nil,k8,zo,zn,zs];exact Nu.sub (show Sub H _ from(by repeat (first | exact Sub.refl _ | assumption | refine Sub.up ?_ (by assumption) _))) (Nu.refl ⟨by simp [Af,zO,zN,zS,zA,Ab,k8,vnamed2,zo,zn,zs],rfl⟩)
    ·skip
     simp(disch:=omega) only[go_sem,↓reduceIte,m1,m2,s1,s2,s3,s4,s5,sO,sN,sS,sA,List.length_cons,List.length_nil,k8,zo,zn];exact Nu.sub (show Sub H _ from(by repeat (first | exact Sub.refl _ | assumption | refine Sub.up ?_ (by assumption) _))) (Nu.refl ⟨by simp [Af,zO,zN,zS,zA,Ab,k8,vnamed2,zo,zn],rfl⟩)
   ·skip
    simp(disch:=omega) only[go_sem,↓reduceIte,m1,m2,s1,s2,s3,s4,s5,sO,sN,sS,sA,List.length_cons,List.length_nil,k8,zo];exact Nu.sub (show Sub H _ from(by repeat (first | exact Sub.refl _ | assumption | refine Sub.up ?_ (by assumption) _))) (Nu.refl ⟨by simp [Af,zO,zN,zS,zA,Ab,k8,vnamed2,zo],rfl⟩)
  | false=>
   simp(disch:=omega) only[go_sem,↓reduceIte,m1,m2,s1,s2,s3,s4,s5,sO,sN,sS,sA,List.length_cons,List.length_nil,k8];exact Nu.sub (show Sub H _ from(by repeat (first | exact Sub.refl _ | assumption | refine Sub.up ?_ (by assumption) _))) (Nu.refl ⟨by simp [Af,zO,zN,zS,zA,Ab,k8,vnamed2],rfl⟩)
 by_cases k9:e.kind=9
 ·skip
  by_cases clen0:e.l.length=0
  ·have clen0':(e.l.length:Int)=0:=by omega
   simp(disch:=omega) only[go_sem,↓reduceIte,m1,m2,s1,s2,s3,s4,s5,sO,sN,sS,sA,List.length_cons,List.length_nil,k9,clen0'];refine(Uy G _ e.a (by omega) hac).mono ?_;rintro _ H1 ⟨rfl,rfl⟩;cases vassocs:Ej e.a with
   | true=>
    by_cases zo:e.oper=0
    ·skip
     by_cases zn:e.n=0
     ·skip
      by_cases zs:e.s= []
      ·skip
       simp(disch:=omega) only[go_sem,↓reduceIte,m1,m2,s1,s2,s3,s4,s5,sO,sN,sS,sA,List.length_cons,List.length_nil,k9,clen0',zo,zn,zs];exact Nu.sub (show Sub H _ from(by repeat (first | exact Sub.refl _ | assumption | refine Sub.up ?_ (by assumption) _))) (Nu.refl ⟨by simp [Af,zO,zN,zS,zA,Ab,k9,clen0,vassocs,zo,zn,zs],rfl⟩)
      ·skip
       simp(disch:=omega) only[go_sem,↓reduceIte,m1,m2,s1,s2,s3,s4,s5,sO,sN,sS,sA,List.length_cons,List.length_nil,k9,clen0',zo,zn,zs];exact Nu.sub (show Sub H _ from(by repeat (first | exact Sub.refl _ | assumption | refine Sub.up ?_ (by assumption) _))) (Nu.refl ⟨by simp [Af,zO,zN,zS,zA,Ab,k9,clen0,vassocs,zo,zn,zs],rfl⟩)
     ·skip
      simp(disch:=omega) only[go_sem,↓reduceIte,m1,m2,s1,s2,s3,s4,s5,sO,sN,sS,sA,List.length_cons,List.length_nil,k9,clen0',zo,zn];exact Nu.sub (show Sub H _ from(by repeat (first | exact Sub.refl _ | assumption | refine Sub.up ?_ (by assumption) _))) (Nu.refl ⟨by simp [Af,zO,zN,zS,zA,Ab,k9,clen0,vassocs,zo,zn],rfl⟩)
    ·skip
     simp(disch:=omega) only[go_sem,↓reduceIte,m1,m2,s1,s2,s3,s4,s5,sO,sN,sS,sA,List.length_cons,List.length_nil,k9,clen0',zo];exact Nu.sub (show Sub H _ from(by repeat (first | exact Sub.refl _ | assumption | refine Sub.up ?_ (by assumption) _))) (Nu.refl ⟨by simp [Af,zO,zN,zS,zA,Ab,k9,clen0,vassocs,zo],rfl⟩)
   | false=>
    simp(disch:=omega) only[go_sem,↓reduceIte,m1,m2,s1,s2,s3,s4,s5,sO,sN,sS,sA,List.length_cons,List.length_nil,k9,clen0'];exact Nu.sub (show Sub H _ from(by repeat (first | exact Sub.refl _ | assumption | refine Sub.up ?_ (by assumption) _))) (Nu.refl ⟨by simp [Af,zO,zN,zS,zA,Ab,k9,clen0,vassocs],rfl⟩)
  ·have clen0': ¬((e.l.length:Int)=0):=by omega
   simp(disch:=omega) only[go_sem,↓reduceIte,m1,m2,s1,s2,s3,s4,s5,sO,sN,sS,sA,List.length_cons,List.length_nil,k9,clen0'];exact Nu.sub (show Sub H _ from(by repeat (first | exact Sub.refl _ | assumption | refine Sub.up ?_ (by assumption) _))) (Nu.refl ⟨by simp [Af,zO,zN,zS,zA,Ab,k9,clen0],rfl⟩)
 by_cases k10:e.kind=10
 ·skip
  by_cases clen3:e.l.length=3
  ·have clen3':(e.l.length:Int)=3:=by omega
   by_cases zo:e.oper=0
   ·skip
    by_cases zn:e.n=0
    ·skip
     by_cases zs:e.s= []
     ·skip
      by_cases za:e.a.length=0
      ·have za':(e.a.length:Int)=0:=by omega
       have ya:e.a= []:=List.length_eq_zero_iff.1 za;simp(disch:=omega) only[go_sem,↓reduceIte,m1,m2,s1,s2,s3,s4,s5,sO,sN,sS,sA,List.length_cons,List.length_nil,k10,clen3',zo,zn,zs,za'];exact Nu.sub (show Sub H _ from(by repeat (first | exact Sub.refl _ | assumption | refine Sub.up ?_ (by assumption) _))) (Nu.refl ⟨by simp [Af,zO,zN,zS,zA,Ab,k10,clen3,zo,zn,zs,ya],rfl⟩)
      ·have za': ¬((e.a.length:Int)=0):=by omega
       simp(disch:=omega) only[go_sem,↓reduceIte,m1,m2,s1,s2,s3,s4,s5,sO,sN,sS,sA,List.length_cons,List.length_nil,k10,clen3',zo,zn,zs,za'];exact Nu.sub (show Sub H _ from(by repeat (first | exact Sub.refl _ | assumption | refine Sub.up ?_ (by assumption) _))) (Nu.refl ⟨by simp [Af,zO,zN,zS,zA,Ab,k10,clen3,zo,zn,zs,za],rfl⟩)
     ·skip
      simp(disch:=omega) only[go_sem,↓reduceIte,m1,m2,s1,s2,s3,s4,s5,sO,sN,sS,sA,List.length_cons,List.length_nil,k10,clen3',zo,zn,zs];exact Nu.sub (show Sub H _ from(by repeat (first | exact Sub.refl _ | assumption | refine Sub.up ?_ (by assumption) _))) (Nu.refl ⟨by simp [Af,zO,zN,zS,zA,Ab,k10,clen3,zo,zn,zs],rfl⟩)
    ·skip
     simp(disch:=omega) only[go_sem,↓reduceIte,m1,m2,s1,s2,s3,s4,s5,sO,sN,sS,sA,List.length_cons,List.length_nil,k10,clen3',zo,zn];exact Nu.sub (show Sub H _ from(by repeat (first | exact Sub.refl _ | assumption | refine Sub.up ?_ (by assumption) _))) (Nu.refl ⟨by simp [Af,zO,zN,zS,zA,Ab,k10,clen3,zo,zn],rfl⟩)
   ·skip
    simp(disch:=omega) only[go_sem,↓reduceIte,m1,m2,s1,s2,s3,s4,s5,sO,sN,sS,sA,List.length_cons,List.length_nil,k10,clen3',zo];exact Nu.sub (show Sub H _ from(by repeat (first | exact Sub.refl _ | assumption | refine Sub.up ?_ (by assumption) _))) (Nu.refl ⟨by simp [Af,zO,zN,zS,zA,Ab,k10,clen3,zo],rfl⟩)
  ·have clen3': ¬((e.l.length:Int)=3):=by omega
   simp(disch:=omega) only[go_sem,↓reduceIte,m1,m2,s1,s2,s3,s4,s5,sO,sN,sS,sA,List.length_cons,List.length_nil,k10,clen3'];exact Nu.sub (show Sub H _ from(by repeat (first | exact Sub.refl _ | assumption | refine Sub.up ?_ (by assumption) _))) (Nu.refl ⟨by simp [Af,zO,zN,zS,zA,Ab,k10,clen3],rfl⟩)
 by_cases k11:e.kind=11
 ·skip
  by_cases clen1:e.l.length=1
  ·have clen1':(e.l.length:Int)=1:=by omega
   by_cases ca:18<=e.oper
   ·by_cases cb:e.oper<=21
    ·skip
     by_cases zn:e.n=0
     ·skip
      by_cases zs:e.s= []
      ·skip
       by_cases za:e.a.length=0
       ·have za':(e.a.length:Int)=0:=by omega
        have ya:e.a= []:=List.length_eq_zero_iff.1 za;simp(disch:=omega) only[go_sem,↓reduceIte,m1,m2,s1,s2,s3,s4,s5,sO,sN,sS,sA,List.length_cons,List.length_nil,k11,clen1',ca,cb,zn,zs,za'];exact Nu.sub (show Sub H _ from(by repeat (first | exact Sub.refl _ | assumption | refine Sub.up ?_ (by assumption) _))) (Nu.refl ⟨by simp [Af,zO,zN,zS,zA,Ab,k11,clen1,ca,cb,zn,zs,ya],rfl⟩)
       ·have za': ¬((e.a.length:Int)=0):=by omega
        simp(disch:=omega) only[go_sem,↓reduceIte,m1,m2,s1,s2,s3,s4,s5,sO,sN,sS,sA,List.length_cons,List.length_nil,k11,clen1',ca,cb,zn,zs,za'];exact Nu.sub (show Sub H _ from(by repeat (first | exact Sub.refl _ | assumption | refine Sub.up ?_ (by assumption) _))) (Nu.refl ⟨by simp [Af,zO,zN,zS,zA,Ab,k11,clen1,ca,cb,zn,zs,za],rfl⟩)
      ·skip
       simp(disch:=omega) only[go_sem,↓reduceIte,m1,m2,s1,s2,s3,s4,s5,sO,sN,sS,sA,List.length_cons,List.length_nil,k11,clen1',ca,cb,zn,zs];exact Nu.sub (show Sub H _ from(by repeat (first | exact Sub.refl _ | assumption | refine Sub.up ?_ (by assumption) _))) (Nu.refl ⟨by simp [Af,zO,zN,zS,zA,Ab,k11,clen1,ca,cb,zn,zs],rfl⟩)
     ·skip
      simp(disch:=omega) only[go_sem,↓reduceIte,m1,m2,s1,s2,s3,s4,s5,sO,sN,sS,sA,List.length_cons,List.length_nil,k11,clen1',ca,cb,zn];exact Nu.sub (show Sub H _ from(by repeat (first | exact Sub.refl _ | assumption | refine Sub.up ?_ (by assumption) _))) (Nu.refl ⟨by simp [Af,zO,zN,zS,zA,Ab,k11,clen1,ca,cb,zn],rfl⟩)
    ·simp(disch:=omega) only[go_sem,↓reduceIte,m1,m2,s1,s2,s3,s4,s5,sO,sN,sS,sA,List.length_cons,List.length_nil,k11,clen1',ca,cb];exact Nu.sub (show Sub H _ from(by repeat (first | exact Sub.refl _ | assumption | refine Sub.up ?_ (by assumption) _))) (Nu.refl ⟨by simp [Af,zO,zN,zS,zA,Ab,k11,clen1,ca,cb],rfl⟩)
   ·simp(disch:=omega) only[go_sem,↓reduceIte,m1,m2,s1,s2,s3,s4,s5,sO,sN,sS,sA,List.length_cons,List.length_nil,k11,clen1',ca];exact Nu.sub (show Sub H _ from(by repeat (first | exact Sub.refl _ | assumption | refine Sub.up ?_ (by assumption) _))) (Nu.refl ⟨by simp [Af,zO,zN,zS,zA,Ab,k11,clen1,ca],rfl⟩)
  ·have clen1': ¬((e.l.length:Int)=1):=by omega
   simp(disch:=omega) only[go_sem,↓reduceIte,m1,m2,s1,s2,s3,s4,s5,sO,sN,sS,sA,List.length_cons,List.length_nil,k11,clen1'];exact Nu.sub (show Sub H _ from(by repeat (first | exact Sub.refl _ | assumption | refine Sub.up ?_ (by assumption) _))) (Nu.refl ⟨by simp [Af,zO,zN,zS,zA,Ab,k11,clen1],rfl⟩)
 by_cases k12:e.kind=12
 ·skip
  by_cases clen2:e.l.length=2
  ·have clen2':(e.l.length:Int)=2:=by omega
   by_cases ca:1<=e.oper
   ·by_cases cb:e.oper<=17
    ·skip
     by_cases zn:e.n=0
     ·skip
      by_cases zs:e.s= []
      ·skip
       by_cases za:e.a.length=0
       ·have za':(e.a.length:Int)=0:=by omega
        have ya:e.a= []:=List.length_eq_zero_iff.1 za;simp(disch:=omega) only[go_sem,↓reduceIte,m1,m2,s1,s2,s3,s4,s5,sO,sN,sS,sA,List.length_cons,List.length_nil,k12,clen2',ca,cb,zn,zs,za'];exact Nu.sub (show Sub H _ from(by repeat (first | exact Sub.refl _ | assumption | refine Sub.up ?_ (by assumption) _))) (Nu.refl ⟨by simp [Af,zO,zN,zS,zA,Ab,k12,clen2,ca,cb,zn,zs,ya],rfl⟩)
       ·have za': ¬((e.a.length:Int)=0):=by omega
        simp(disch:=omega) only[go_sem,↓reduceIte,m1,m2,s1,s2,s3,s4,s5,sO,sN,sS,sA,List.length_cons,List.length_nil,k12,clen2',ca,cb,zn,zs,za'];exact Nu.sub (show Sub H _ from(by repeat (first | exact Sub.refl _ | assumption | refine Sub.up ?_ (by assumption) _))) (Nu.refl ⟨by simp [Af,zO,zN,zS,zA,Ab,k12,clen2,ca,cb,zn,zs,za],rfl⟩)
      ·skip
       simp(disch:=omega) only[go_sem,↓reduceIte,m1,m2,s1,s2,s3,s4,s5,sO,sN,sS,sA,List.length_cons,List.length_nil,k12,clen2',ca,cb,zn,zs];exact Nu.sub (show Sub H _ from(by repeat (first | exact Sub.refl _ | assumption | refine Sub.up ?_ (by assumption) _))) (Nu.refl ⟨by simp [Af,zO,zN,zS,zA,Ab,k12,clen2,ca,cb,zn,zs],rfl⟩)
     ·skip
      simp(disch:=omega) only[go_sem,↓reduceIte,m1,m2,s1,s2,s3,s4,s5,sO,sN,sS,sA,List.length_cons,List.length_nil,k12,clen2',ca,cb,zn];exact Nu.sub (show Sub H _ from(by repeat (first | exact Sub.refl _ | assumption | refine Sub.up ?_ (by assumption) _))) (Nu.refl ⟨by simp [Af,zO,zN,zS,zA,Ab,k12,clen2,ca,cb,zn],rfl⟩)
    ·simp(disch:=omega) only[go_sem,↓reduceIte,m1,m2,s1,s2,s3,s4,s5,sO,sN,sS,sA,List.length_cons,List.length_nil,k12,clen2',ca,cb];exact Nu.sub (show Sub H _ from(by repeat (first | exact Sub.refl _ | assumption | refine Sub.up ?_ (by assumption) _))) (Nu.refl ⟨by simp [Af,zO,zN,zS,zA,Ab,k12,clen2,ca,cb],rfl⟩)
   ·simp(disch:=omega) only[go_sem,↓reduceIte,m1,m2,s1,s2,s3,s4,s5,sO,sN,sS,sA,List.length_cons,List.length_nil,k12,clen2',ca];exact Nu.sub (show Sub H _ from(by repeat (first | exact Sub.refl _ | assumption | refine Sub.up ?_ (by assumption) _))) (Nu.refl ⟨by simp [Af,zO,zN,zS,zA,Ab,k12,clen2,ca],rfl⟩)
  ·have clen2': ¬((e.l.length:Int)=2):=by omega
   simp(disch:=omega) only[go_sem,↓reduceIte,m1,m2,s1,s2,s3,s4,s5,sO,sN,sS,sA,List.length_cons,List.length_nil,k12,clen2'];exact Nu.sub (show Sub H _ from(by repeat (first | exact Sub.refl _ | assumption | refine Sub.up ?_ (by assumption) _))) (Nu.refl ⟨by simp [Af,zO,zN,zS,zA,Ab,k12,clen2],rfl⟩)
 by_cases k13:e.kind=13
 ·skip
  by_cases c3:e.l.length=3
  ·have c3':(e.l.length:Int)=3:=by omega
   by_cases zo:e.oper=0
   ·skip
    by_cases zn:e.n=0
    ·skip
     by_cases zs:e.s= []
     ·skip
      by_cases za:e.a.length=0
      ·have za':(e.a.length:Int)=0:=by omega
       have ya:e.a= []:=List.length_eq_zero_iff.1 za;simp(disch:=omega) only[go_sem,↓reduceIte,m1,m2,s1,s2,s3,s4,s5,sO,sN,sS,sA,List.length_cons,List.length_nil,k13,c3',zo,zn,zs,za'];exact Nu.sub (show Sub H _ from(by repeat (first | exact Sub.refl _ | assumption | refine Sub.up ?_ (by assumption) _))) (Nu.refl ⟨by simp [Af,zO,zN,zS,zA,Ab,k13,c3,zo,zn,zs,ya],rfl⟩)
      ·have za': ¬((e.a.length:Int)=0):=by omega
       simp(disch:=omega) only[go_sem,↓reduceIte,m1,m2,s1,s2,s3,s4,s5,sO,sN,sS,sA,List.length_cons,List.length_nil,k13,c3',zo,zn,zs,za'];exact Nu.sub (show Sub H _ from(by repeat (first | exact Sub.refl _ | assumption | refine Sub.up ?_ (by assumption) _))) (Nu.refl ⟨by simp [Af,zO,zN,zS,zA,Ab,k13,c3,zo,zn,zs,za],rfl⟩)
     ·skip
      simp(disch:=omega) only[go_sem,↓reduceIte,m1,m2,s1,s2,s3,s4,s5,sO,sN,sS,sA,List.length_cons,List.length_nil,k13,c3',zo,zn,zs];exact Nu.sub (show Sub H _ from(by repeat (first | exact Sub.refl _ | assumption | refine Sub.up ?_ (by assumption) _))) (Nu.refl ⟨by simp [Af,zO,zN,zS,zA,Ab,k13,c3,zo,zn,zs],rfl⟩)
    ·skip
     simp(disch:=omega) only[go_sem,↓reduceIte,m1,m2,s1,s2,s3,s4,s5,sO,sN,sS,sA,List.length_cons,List.length_nil,k13,c3',zo,zn];exact Nu.sub (show Sub H _ from(by repeat (first | exact Sub.refl _ | assumption | refine Sub.up ?_ (by assumption) _))) (Nu.refl ⟨by simp [Af,zO,zN,zS,zA,Ab,k13,c3,zo,zn],rfl⟩)
   ·skip
    simp(disch:=omega) only[go_sem,↓reduceIte,m1,m2,s1,s2,s3,s4,s5,sO,sN,sS,sA,List.length_cons,List.length_nil,k13,c3',zo];exact Nu.sub (show Sub H _ from(by repeat (first | exact Sub.refl _ | assumption | refine Sub.up ?_ (by assumption) _))) (Nu.refl ⟨by simp [Af,zO,zN,zS,zA,Ab,k13,c3,zo],rfl⟩)
  ·have c3': ¬(e.l.length:Int)=3:=by omega
   by_cases c2:e.l.length=2
   ·have c2':(e.l.length:Int)=2:=by omega
    have hp1:1<e.l.length:=by omega
    have hg:=Bt Ah e.l 1 hp1;have hgd:e.l.getD 1 ex0=e.l[1]:=by rw[List.getD,List.getElem?_eq_getElem hp1];rfl
    rw[Nat.one_mul] at hg;simp(disch:=omega) only[go_sem,↓reduceIte,m1,m2,s1,s2,s3,s4,s5,sO,sN,sS,sA,List.length_cons,List.length_nil,k13,c3',c2',hg,hfl];refine(Du G _ e.l[1]).mono ?_;rintro _ H1 ⟨rfl,rfl⟩;cases ct:Bc e.l[1] with
    | true=>
     by_cases zo:e.oper=0
     ·skip
      by_cases zn:e.n=0
      ·skip
       by_cases zs:e.s= []
       ·skip
        by_cases za:e.a.length=0
        ·have za':(e.a.length:Int)=0:=by omega
         have ya:e.a= []:=List.length_eq_zero_iff.1 za;simp(disch:=omega) only[go_sem,↓reduceIte,m1,m2,s1,s2,s3,s4,s5,sO,sN,sS,sA,List.length_cons,List.length_nil,k13,c3',c2',zo,zn,zs,za'];exact Nu.sub (show Sub H _ from(by repeat (first | exact Sub.refl _ | assumption | refine Sub.up ?_ (by assumption) _))) (Nu.refl ⟨by simp [Af,zO,zN,zS,zA,Ab,k13,c3,c2,hgd,ct,zo,zn,zs,ya],rfl⟩)
        ·have za': ¬((e.a.length:Int)=0):=by omega
         simp(disch:=omega) only[go_sem,↓reduceIte,m1,m2,s1,s2,s3,s4,s5,sO,sN,sS,sA,List.length_cons,List.length_nil,k13,c3',c2',zo,zn,zs,za'];exact Nu.sub (show Sub H _ from(by repeat (first | exact Sub.refl _ | assumption | refine Sub.up ?_ (by assumption) _))) (Nu.refl ⟨by simp [Af,zO,zN,zS,zA,Ab,k13,c3,c2,hgd,ct,zo,zn,zs,za],rfl⟩)
       ·skip
        simp(disch:=omega) only[go_sem,↓reduceIte,m1,m2,s1,s2,s3,s4,s5,sO,sN,sS,sA,List.length_cons,List.length_nil,k13,c3',c2',zo,zn,zs];exact Nu.sub (show Sub H _ from(by repeat (first | exact Sub.refl _ | assumption | refine Sub.up ?_ (by assumption) _))) (Nu.refl ⟨by simp [Af,zO,zN,zS,zA,Ab,k13,c3,c2,hgd,ct,zo,zn,zs],rfl⟩)
      ·skip
       simp(disch:=omega) only[go_sem,↓reduceIte,m1,m2,s1,s2,s3,s4,s5,sO,sN,sS,sA,List.length_cons,List.length_nil,k13,c3',c2',zo,zn];exact Nu.sub (show Sub H _ from(by repeat (first | exact Sub.refl _ | assumption | refine Sub.up ?_ (by assumption) _))) (Nu.refl ⟨by simp [Af,zO,zN,zS,zA,Ab,k13,c3,c2,hgd,ct,zo,zn],rfl⟩)
     ·skip
      simp(disch:=omega) only[go_sem,↓reduceIte,m1,m2,s1,s2,s3,s4,s5,sO,sN,sS,sA,List.length_cons,List.length_nil,k13,c3',c2',zo];exact Nu.sub (show Sub H _ from(by repeat (first | exact Sub.refl _ | assumption | refine Sub.up ?_ (by assumption) _))) (Nu.refl ⟨by simp [Af,zO,zN,zS,zA,Ab,k13,c3,c2,hgd,ct,zo],rfl⟩)
    | false=>
     simp(disch:=omega) only[go_sem,↓reduceIte,m1,m2,s1,s2,s3,s4,s5,sO,sN,sS,sA,List.length_cons,List.length_nil,k13,c3',c2'];exact Nu.sub (show Sub H _ from(by repeat (first | exact Sub.refl _ | assumption | refine Sub.up ?_ (by assumption) _))) (Nu.refl ⟨by simp [Af,zO,zN,zS,zA,Ab,k13,c3,c2,hgd,ct],rfl⟩)
   ·have c2': ¬(e.l.length:Int)=2:=by omega
    simp(disch:=omega) only[go_sem,↓reduceIte,m1,m2,s1,s2,s3,s4,s5,sO,sN,sS,sA,List.length_cons,List.length_nil,k13,c3',c2'];exact Nu.sub (show Sub H _ from(by repeat (first | exact Sub.refl _ | assumption | refine Sub.up ?_ (by assumption) _))) (Nu.refl ⟨by simp [Af,zO,zN,zS,zA,Ab,k13,c3,c2],rfl⟩)
 by_cases k14:e.kind=14
 ·skip
  by_cases c3:e.l.length=3
  ·have c3':(e.l.length:Int)=3:=by omega
   by_cases zo:e.oper=0
   ·skip
    by_cases zn:e.n=0
    ·skip
     by_cases zs:e.s= []
     ·skip
      by_cases za:e.a.length=0
      ·have za':(e.a.length:Int)=0:=by omega
       have ya:e.a= []:=List.length_eq_zero_iff.1 za;simp(disch:=omega) only[go_sem,↓reduceIte,m1,m2,s1,s2,s3,s4,s5,sO,sN,sS,sA,List.length_cons,List.length_nil,k14,c3',zo,zn,zs,za'];exact Nu.sub (show Sub H _ from(by repeat (first | exact Sub.refl _ | assumption | refine Sub.up ?_ (by assumption) _))) (Nu.refl ⟨by simp [Af,zO,zN,zS,zA,Ab,k14,c3,zo,zn,zs,ya],rfl⟩)
      ·have za': ¬((e.a.length:Int)=0):=by omega
       simp(disch:=omega) only[go_sem,↓reduceIte,m1,m2,s1,s2,s3,s4,s5,sO,sN,sS,sA,List.length_cons,List.length_nil,k14,c3',zo,zn,zs,za'];exact Nu.sub (show Sub H _ from(by repeat (first | exact Sub.refl _ | assumption | refine Sub.up ?_ (by assumption) _))) (Nu.refl ⟨by simp [Af,zO,zN,zS,zA,Ab,k14,c3,zo,zn,zs,za],rfl⟩)
     ·skip
      simp(disch:=omega) only[go_sem,↓reduceIte,m1,m2,s1,s2,s3,s4,s5,sO,sN,sS,sA,List.length_cons,List.length_nil,k14,c3',zo,zn,zs];exact Nu.sub (show Sub H _ from(by repeat (first | exact Sub.refl _ | assumption | refine Sub.up ?_ (by assumption) _))) (Nu.refl ⟨by simp [Af,zO,zN,zS,zA,Ab,k14,c3,zo,zn,zs],rfl⟩)
    ·skip
     simp(disch:=omega) only[go_sem,↓reduceIte,m1,m2,s1,s2,s3,s4,s5,sO,sN,sS,sA,List.length_cons,List.length_nil,k14,c3',zo,zn];exact Nu.sub (show Sub H _ from(by repeat (first | exact Sub.refl _ | assumption | refine Sub.up ?_ (by assumption) _))) (Nu.refl ⟨by simp [Af,zO,zN,zS,zA,Ab,k14,c3,zo,zn],rfl⟩)
   ·skip
    simp(disch:=omega) only[go_sem,↓reduceIte,m1,m2,s1,s2,s3,s4,s5,sO,sN,sS,sA,List.length_cons,List.length_nil,k14,c3',zo];exact Nu.sub (show Sub H _ from(by repeat (first | exact Sub.refl _ | assumption | refine Sub.up ?_ (by assumption) _))) (Nu.refl ⟨by simp [Af,zO,zN,zS,zA,Ab,k14,c3,zo],rfl⟩)
  ·have c3': ¬(e.l.length:Int)=3:=by omega
   by_cases c2:e.l.length=2
   ·have c2':(e.l.length:Int)=2:=by omega
    have hp1:1<e.l.length:=by omega
    have hg:=Bt Ah e.l 1 hp1;have hgd:e.l.getD 1 ex0=e.l[1]:=by rw[List.getD,List.getElem?_eq_getElem hp1];rfl
    rw[Nat.one_mul] at hg;simp(disch:=omega) only[go_sem,↓reduceIte,m1,m2,s1,s2,s3,s4,s5,sO,sN,sS,sA,List.length_cons,List.length_nil,k14,c3',c2',hg,hfl];refine(Du G _ e.l[1]).mono ?_;rintro _ H1 ⟨rfl,rfl⟩;cases ct:Bc e.l[1] with
    | true=>
     by_cases zo:e.oper=0
     ·skip
      by_cases zn:e.n=0
      ·skip
       by_cases zs:e.s= []
       ·skip
        by_cases za:e.a.length=0
        ·have za':(e.a.length:Int)=0:=by omega
         have ya:e.a= []:=List.length_eq_zero_iff.1 za;simp(disch:=omega) only[go_sem,↓reduceIte,m1,m2,s1,s2,s3,s4,s5,sO,sN,sS,sA,List.length_cons,List.length_nil,k14,c3',c2',zo,zn,zs,za'];exact Nu.sub (show Sub H _ from(by repeat (first | exact Sub.refl _ | assumption | refine Sub.up ?_ (by assumption) _))) (Nu.refl ⟨by simp [Af,zO,zN,zS,zA,Ab,k14,c3,c2,hgd,ct,zo,zn,zs,ya],rfl⟩)
        ·have za': ¬((e.a.length:Int)=0):=by omega
         simp(disch:=omega) only[go_sem,↓reduceIte,m1,m2,s1,s2,s3,s4,s5,sO,sN,sS,sA,List.length_cons,List.length_nil,k14,c3',c2',zo,zn,zs,za'];exact Nu.sub (show Sub H _ from(by repeat (first | exact Sub.refl _ | assumption | refine Sub.up ?_ (by assumption) _))) (Nu.refl ⟨by simp [Af,zO,zN,zS,zA,Ab,k14,c3,c2,hgd,ct,zo,zn,zs,za],rfl⟩)
       ·skip
        simp(disch:=omega) only[go_sem,↓reduceIte,m1,m2,s1,s2,s3,s4,s5,sO,sN,sS,sA,List.length_cons,List.length_nil,k14,c3',c2',zo,zn,zs];exact Nu.sub (show Sub H _ from(by repeat (first | exact Sub.refl _ | assumption | refine Sub.up ?_ (by assumption) _))) (Nu.refl ⟨by simp [Af,zO,zN,zS,zA,Ab,k14,c3,c2,hgd,ct,zo,zn,zs],rfl⟩)
      ·skip
       simp(disch:=omega) only[go_sem,↓reduceIte,m1,m2,s1,s2,s3,s4,s5,sO,sN,sS,sA,List.length_cons,List.length_nil,k14,c3',c2',zo,zn];exact Nu.sub (show Sub H _ from(by repeat (first | exact Sub.refl _ | assumption | refine Sub.up ?_ (by assumption) _))) (Nu.refl ⟨by simp [Af,zO,zN,zS,zA,Ab,k14,c3,c2,hgd,ct,zo,zn],rfl⟩)
     ·skip
      simp(disch:=omega) only[go_sem,↓reduceIte,m1,m2,s1,s2,s3,s4,s5,sO,sN,sS,sA,List.length_cons,List.length_nil,k14,c3',c2',zo];exact Nu.sub (show Sub H _ from(by repeat (first | exact Sub.refl _ | assumption | refine Sub.up ?_ (by assumption) _))) (Nu.refl ⟨by simp [Af,zO,zN,zS,zA,Ab,k14,c3,c2,hgd,ct,zo],rfl⟩)
    | false=>
     simp(disch:=omega) only[go_sem,↓reduceIte,m1,m2,s1,s2,s3,s4,s5,sO,sN,sS,sA,List.length_cons,List.length_nil,k14,c3',c2'];exact Nu.sub (show Sub H _ from(by repeat (first | exact Sub.refl _ | assumption | refine Sub.up ?_ (by assumption) _))) (Nu.refl ⟨by simp [Af,zO,zN,zS,zA,Ab,k14,c3,c2,hgd,ct],rfl⟩)
   ·have c2': ¬(e.l.length:Int)=2:=by omega
    simp(disch:=omega) only[go_sem,↓reduceIte,m1,m2,s1,s2,s3,s4,s5,sO,sN,sS,sA,List.length_cons,List.length_nil,k14,c3',c2'];exact Nu.sub (show Sub H _ from(by repeat (first | exact Sub.refl _ | assumption | refine Sub.up ?_ (by assumption) _))) (Nu.refl ⟨by simp [Af,zO,zN,zS,zA,Ab,k14,c3,c2],rfl⟩)
 simp(disch:=omega) only[go_sem,↓reduceIte,m1,m2,s1,s2,s3,s4,s5,sO,sN,sS,sA,List.length_cons,List.length_nil,k1,k2,k3,k4,k6,k5,k7,k8,k9,k10,k11,k12,k13,k14];exact Nu.sub (show Sub H _ from(by repeat (first | exact Sub.refl _ | assumption | refine Sub.up ?_ (by assumption) _))) (Nu.refl ⟨by simp [Af,k1,k2,k3,k4,k6,k5,k7,k8,k9,k10,k11,k12,k13,k14],rfl⟩)
end
end Go.Dl

-- Chapter 3: May, MayArgs, MayChoices, Size.
namespace Go.Dl
open Go Go.Proofs
set_option maxRecDepth 100000
mutual
def okE:Ex->Prop
 | .mk _ _ _ s l a _ _ _=>s.length<=9223372036854775807/\okL l/\Jv a
def okL:List Ex->Prop
 | []=>True
 | x::l=>okE x/\okL l
def okA:As->Prop
 | .mk c e=>Ru c/\okE e
def Jv:List As->Prop
 | []=>True
 | x::l=>okA x/\Jv l
def okC:Ch->Prop
 | .mk _ l=>okL l
def Ru:List Ch->Prop
 | []=>True
 | x::l=>okC x/\Ru l
end
theorem Zt: ∀ {l:List Ex},okL l-> ∀x∈l,okE x
 | y::l,h,x,hx=>by
  rw[okL] at h;rcases List.mem_cons.1 hx with rfl | hx
  ·exact h.1
  ·exact Zt h.2 x hx
theorem Be0: ∀ {l:List As},Jv l-> ∀x∈l,okA x
 | y::l,h,x,hx=>by
  rw[Jv] at h;rcases List.mem_cons.1 hx with rfl | hx
  ·exact h.1
  ·exact Be0 h.2 x hx
theorem Ae9: ∀ {l:List Ch},Ru l-> ∀x∈l,okC x
 | y::l,h,x,hx=>by
  rw[Ru] at h;rcases List.mem_cons.1 hx with rfl | hx
  ·exact h.1
  ·exact Ae9 h.2 x hx
theorem Dl3 {e:Ex}:okE e↔e.s.length<=9223372036854775807/\okL e.l/\Jv e.a:=by cases e;rw[okE];rfl
theorem Dl4 {e:As}:okA e↔Ru e.c/\okE e.e:=by cases e;rw[okA];rfl
theorem Dl5 {e:Ch}:okC e↔okL e.l:=by cases e;rw[okC];rfl
theorem Ce4 {a:As} (h:okA a): ∀x∈Bw a,okE x:=fun x hx=>by
 rw[Dl4] at h;rcases List.mem_append.1 hx with hx | hx
 ·obtain⟨c,hc,hx⟩:=List.mem_flatMap.1 hx;exact Zt (Dl5.1 (Ae9 h.1 c hc)) x hx
 ·rw[List.mem_singleton] at hx;subst hx;exact h.2
theorem Ce5 {e:Ex} (h:okE e): ∀x∈parts e,okE x:=fun x hx=>by
 rw[Dl3] at h;rcases List.mem_append.1 hx with hx | hx
 ·exact Zt h.2.1 x hx
 ·obtain⟨a,ha,hx⟩:=List.mem_flatMap.1 hx;exact Ce4 (Be0 h.2.2 a ha) x hx
theorem Af0 {a:As}: ∀x∈Bw a,Cv x<=Ny a:=fun x hx=>by
 rw[Lc];rcases List.mem_append.1 hx with hx | hx
 ·obtain⟨c,hc,hx⟩:=List.mem_flatMap.1 hx;have h1:=Hs hc;have h2:=Nz hx;rw[In] at h1;omega
 ·rw[List.mem_singleton] at hx;subst hx;omega
theorem Jw {e x:Ex} (hx:x∈parts e):Cv x<Cv e:=by
 rcases List.mem_append.1 hx with hx | hx
 ·exact Dl2 hx
 ·obtain⟨a,ha,hx⟩:=List.mem_flatMap.1 hx;have h1:=Ae6 ha;have h2:=Af0 x hx;omega
structure Fit (e:Ex):Prop where
 big:Cv e<=1099511627776
 ok:okE e
theorem Fit.parts {e x:Ex} (h:Fit e) (hx:x∈Dl.parts e):Fit x:=⟨by have:=Jw hx;have:=h.big;omega,Ce5 h.ok x hx⟩
theorem Fit.s {e:Ex} (h:Fit e):e.s.length<=9223372036854775807:=(Dl3.1 h.ok).1
mutual
theorem Ob: ∀e:Ex,Eg e<=Cv e
 | .mk _ _ _ _ l a _ _ _=>by rw[Eg,Cv];have:=Wq l;have:=Af1 a;omega
theorem Wq: ∀l:List Ex,Ae2 l<=Fk l
 | []=>Nat.le_refl _
 | x::l=>by rw[Ae2,Fk];have:=Ob x;have:=Wq l;omega
theorem Ce6: ∀a:As,Bc8 a<=Ny a
 | .mk c e=>by rw[Bc8,Ny];have:=Af2 c;have:=Ob e;omega
theorem Af1: ∀l:List As,Wj l<=Cw l
 | []=>Nat.le_refl _
 | x::l=>by rw[Wj,Cw];have:=Ce6 x;have:=Af1 l;omega
theorem Ce7: ∀c:Ch,Bu9 c<=Uw c
 | .mk _ l=>by rw[Bu9,Uw];have:=Wq l;omega
theorem Af2: ∀l:List Ch,Wk l<=Fd l
 | []=>Nat.le_refl _
 | x::l=>by rw[Wk,Fd];have:=Ce7 x;have:=Af2 l;omega
end
mutual
theorem Au0 (r:Nat) (cs:List DVal): ∀e:Ex,fzs r cs (dEx e)=dEx e
 | .mk _ _ _ _ l a _ _ _=>by simp only[dEx,fzs,fz,Au1 r cs l,Bv5 r cs a]
theorem Au1 (r:Nat) (cs:List DVal): ∀l:List Ex,fzs r cs (At9 l)=At9 l
 | []=>by simp only[At9,fzs]
 | x::l=>by rw[At9,Su,Au0 r cs x,Au1 r cs l]
theorem Dl6 (r:Nat) (cs:List DVal): ∀a:As,fzs r cs (dAs a)=dAs a
 | .mk c e=>by simp only[dAs,fzs,fz,Bv6 r cs c,Au0 r cs e]
theorem Bv5 (r:Nat) (cs:List DVal): ∀l:List As,fzs r cs (Bd3 l)=Bd3 l
 | []=>by simp only[Bd3,fzs]
 | x::l=>by rw[Bd3,Su,Dl6 r cs x,Bv5 r cs l]
theorem Dl7 (r:Nat) (cs:List DVal): ∀c:Ch,fzs r cs (dCh c)=dCh c
 | .mk _ l=>by simp only[dCh,fzs,fz,Au1 r cs l]
theorem Bv6 (r:Nat) (cs:List DVal): ∀l:List Ch,fzs r cs (Bd4 l)=Bd4 l
 | []=>by simp only[Bd4,fzs]
 | x::l=>by rw[Bd4,Su,Dl7 r cs x,Bv6 r cs l]
end
def Dl8 (d:Nat) (x:Ex) (s:Int) (b:Bool) (s':Int):Prop:=0<=s->s<=256->b=(Ed d x&&decide ((Eg x:Int)<=s))/\(b=true->s'=s-Eg x)
theorem Bv7 (d:Nat): ∀(l:List Ex) (s:Int) (b:Bool) (s':Int),Bd8 (Dl8 d) l s b s'->0<=s->s<=256->b=(l.all (Ed d)&&decide ((Fa l:Int)<=s))/\(b=true->s'=s-Fa l)
 | [],s,b,s',h,h0,_=>by
  obtain⟨rfl,rfl⟩:=h;exact⟨by simp [Fa,h0],fun _=>by simp [Fa]⟩
 | x::l,s,b,s',h,h0,h1=>by
  obtain⟨b1,s1,hx,h⟩:=h;obtain⟨hb,hs⟩:=hx h0 h1;have hsum:Fa (x::l)=Eg x+Fa l:=by simp [Fa]
  rcases h with⟨rfl,h⟩ | ⟨rfl,rfl,rfl⟩
  ·have e1:=hs rfl;have hb':=hb.symm;rw[Bool.and_eq_true,decide_eq_true_eq] at hb';obtain⟨k1,k2⟩:=Bv7 d l s1 b s' h (by omega) (by omega);refine⟨?_,fun hb=> ?_⟩
   ·rw[k1,List.all_cons,hb'.1,Bool.true_and,hsum];congr 1;exact decide_eq_decide.2 ⟨fun h=>by omega,fun h=>by omega⟩
   ·rw[k2 hb,hsum];omega
  ·refine⟨?_,fun h=>(by cases h)⟩;rw[List.all_cons,hsum];cases hv:Ed d x with
   | false=>rfl
   | true=>
    rw[hv,Bool.true_and] at hb;have:=of_decide_eq_false hb.symm;rw[decide_eq_false (by omega),Bool.and_false]
section
variable {G:Nat->DVal} {H:Ac}
theorem Af3 (G:Nat->DVal) (H:Ac) (d:Int) (rl ra:Nat):Ai Tryz.prog G 38 ([]++ [.int .i64 d]++ [.optr rl 0, .optr ra 0]) H
  (fun e H'=> ∃rd,H rd=none/\e= .ret (.func (.func 39) [] [.optr rl 0, .optr rd 0, .optr ra 0])/\H'=upd H rd (some (Lz d))):=by
 refine Ad Tryz.func38 Tryz.call38 rfl (by kernel_rfl) ?_;simp(disch:=omega) only[go_sem,↓reduceIte,DVal.cells,List.nil_append,List.cons_append];intro rd hrd;dsimp only at hrd;simp(disch:=omega) only[go_sem,↓reduceIte];exact Nu.refl ⟨rd,hrd,rfl,rfl⟩
theorem Ce8 (hG:GX G) (rl ra:Nat) (hla:rl≠ra): ∀(x:Ex) (H:Ac) (d:Nat) (s:Int) (rd:Nat),Fit x->d<=1000000->H rl=some (Lz s)->H rd=some (Lz d)->rl≠rd->H ra=some (.cells [.func (.func 38) [] [.optr rl 0, .optr ra 0]] 73)->
  Ai Tryz.prog G 39 ([]++ [.agg (dEx x)]++ [.optr rl 0, .optr rd 0, .optr ra 0]) H (Df1 (Dl8 d) x s rl H):=by
 intro x
 induction x using Ex.ind with
 | h x ih=>
  intro H d s rd hx hd hl hdd hld ha;refine Ad Tryz.func39 Tryz.call39 rfl (by kernel_rfl) ?_;simp(disch:=omega) only[go_sem,↓reduceIte,DVal.cells,List.nil_append,List.cons_append];intro r4 hr4;dsimp only at hr4;have n1:rl≠r4:=Ae hr4 hl;have n2:rd≠r4:=Ae hr4 hdd;have n3:ra≠r4:=Ae hr4 ha;unfold Lz at hl hdd;obtain⟨s1,hs1⟩: ∃s1,s1=IntKind.i64.wrap (s-1):=⟨_,rfl⟩;have hdl:rd≠rl:=hld.symm;have hal:ra≠rl:=hla.symm;simp(disch:=omega) only[go_sem,↓reduceIte,n1,n2,n3,hl,hdd,ha,hld,hla,hdl,hal,<-hs1];refine Aj (by kernel_rfl) (.take 0 (.take 1 (.take 2 (.take 3 (.take 4 (.take 5 (.take 6 (.take 7 (.go 8 [] (.take 9 (.take 10 (.take 11 (.take 12 (.take 13 (.take 14 (.go 15 [11] (.go 16 [] (.take 17 (.take 18 .done))))))))))))))))))) (by kernel_rfl) ?_;have q1:r4≠rl:=n1.symm;have q2:r4≠rd:=n2.symm;have q3:r4≠ra:=n3.symm;obtain⟨H4,hH4⟩: ∃H4,H4=upd (upd H r4 (some (.cells (dEx x) 27))) rl (some (.cells [.int .i64 s1] 3)):=⟨_,rfl⟩;have ht4:Qe rl H H4:=by rw[hH4];exact((Qe.refl rl H).new hr4 _).set _
  have g1:H4 rl=some (.cells [.int .i64 s1] 3):=by rw[hH4];exact Aa _ _ _
  have g2:H4 rd=some (.cells [.int .i64 d] 3):=ht4 _ _ hdl hdd;have g3:H4 ra=some (.cells [.func (.func 38) [] [.optr rl 0, .optr ra 0]] 73):=ht4 _ _ hal ha;have g4:H4 r4=some (.cells (dEx x) 27):=by rw[hH4];simp [upd,q1]
  rw[<-hH4];have sv: ∀b:Bool,0<=s->s<=256->s1=s-1:=fun _ h0 h1=>by rw[hs1,IntKind.wrap_i64];omega
  have hsz:(Eg x:Int)=1+(Fa (parts x):Int):=by rw[Js x];omega
  by_cases c1:0<=s1
  ·by_cases c2:d<=32
   ·have c2':(d:Int)<=32:=by omega
    simp(disch:=omega) only[go_sem,↓reduceIte,g1,g2,g3,g4,c1,c2'];refine(Bd9 hG _ x hx.big hx.s).mono ?_;rintro _ H5 ⟨rfl,rfl⟩;cases hf:Af x with
    | true=>
     have hwd:IntKind.i64.wrap ((d:Int)+1)=((d+1:Nat):Int):=by rw[IntKind.wrap_i64];omega
     simp(disch:=omega) only[go_sem,↓reduceIte,g1,g2,g3,g4,hwd];refine(Af3 G _ ((d+1:Nat):Int) rl ra).mono ?_;rintro _ H6 ⟨r6,hr6,rfl,rfl⟩;have p1:rl≠r6:=Ae hr6 g1;have p2:ra≠r6:=Ae hr6 g3;have p3:rd≠r6:=Ae hr6 g2;have p4:r4≠r6:=Ae hr6 g4;have ht6:Qe rl H (upd H5 r6 (some (Lz ((d+1:Nat):Int)))):=ht4.new hr6 _;simp(disch:=omega) only[go_sem,↓reduceIte,g1,g2,g3,g4,p1,p3,p4];refine(Ao3 G _ x hx.big 39 [] [.optr rl 0, .optr r6 0, .optr ra 0] (Dl8 (d+1)) rl s1 (by simp only[upd,if_neg p1];exact g1) fun y hy t K hK hT=>ih y hy K (d+1) t r6 (hx.parts hy) (by omega) hK (hT _ _ p1.symm (Aa _ _ _)) p1 (hT _ _ hal (by simp only[upd,if_neg p2];exact g3))).mono ?_;rintro _ H7 ⟨b,t,rfl,hR,ht,hT⟩;have k2:H7 rd=some (.cells [.int .i64 d] 3):=hT _ _ hdl (by simp only[upd,if_neg p3];exact g2);have k4:H7 r4=some (.cells (dEx x) 27):=hT _ _ q1 (by simp only[upd,if_neg p4];exact g4);simp(disch:=omega) only[go_sem,↓reduceIte,g1,g2,g3,g4,p1,p3,p4,k2,k4]
     trace_state
     refine Nu.refl ⟨b,t,rfl,fun h0 h1=> ?_,ht,ht6.trans hT⟩;have e1:=sv true h0 h1;obtain⟨w1,w2⟩:=Bv7 (d+1) _ _ _ _ hR c1 (by omega);refine⟨?_,fun hb=>by rw[w2 hb,hsz];omega⟩;rw[w1,Nw,hf,decide_eq_true c2,Bool.true_and,Bool.true_and];congr 1;exact decide_eq_decide.2 ⟨fun h=>by omega,fun h=>by omega⟩
    | false=>
     simp(disch:=omega) only[go_sem,↓reduceIte,g1,g2,g3,g4];refine Nu.refl ⟨false,s1,rfl,fun _ _=>⟨?_,fun h=>(by cases h)⟩,g1,ht4⟩;rw[Nw,hf,Bool.and_false,Bool.false_and,Bool.false_and]
   ·have c2': ¬(d:Int)<=32:=by omega
    simp(disch:=omega) only[go_sem,↓reduceIte,g1,g2,g3,g4,c1,c2'];refine Nu.refl ⟨false,s1,rfl,fun _ _=>⟨?_,fun h=>(by cases h)⟩,g1,ht4⟩;rw[Nw,decide_eq_false c2,Bool.false_and,Bool.false_and,Bool.false_and]
  ·simp(disch:=omega) only[go_sem,↓reduceIte,g1,g2,g3,g4,c1];refine Nu.refl ⟨false,s1,rfl,fun h0 h1=>⟨?_,fun h=>(by cases h)⟩,g1,ht4⟩;have:=sv true h0 h1;rw[decide_eq_false (by omega),Bool.and_false]
theorem Ii (hG:GX G) (H:Ac) (e:Ex) (he:Fit e):Ai Tryz.prog G 10 [.agg (dEx e)] H (Au (.bool (Ia e)) H):=by
 refine Ad Tryz.func10 Tryz.call10 rfl (by kernel_rfl) ?_;simp(disch:=omega) only[go_sem,↓reduceIte,DVal.cells];intro r1 hr1;dsimp only at hr1;simp(disch:=omega) only[go_sem,↓reduceIte,DVal.cells];intro r3 hr3;dsimp only at hr3;obtain⟨m1,m2,hr3'⟩:=De7.1 hr3;simp(disch:=omega) only[go_sem,↓reduceIte,DVal.cells,m1,m2];intro r4 hr4;dsimp only at hr4;obtain⟨p1,p2,hr4a⟩:=De7.1 hr4;obtain⟨p3,p4,hr4'⟩:=De7.1 hr4a;simp(disch:=omega) only[go_sem,↓reduceIte,DVal.cells,m1,m2,p1,p2,p3,p4];have hub:Sub H (upd (upd (upd H r1 (some (.cells (dEx e) 27))) r3 (some (Lz 256))) r4 (some (.cells [.func (.func 38) [] [.optr r3 0, .optr r4 0]] 73))):=((Sub.refl H).new hr1 _ |>.new hr3 _).new hr4 _;have y1:upd (upd (upd H r1 (some (.cells (dEx e) 27))) r3 (some (Lz 256))) r4 (some (.cells [.func (.func 38) [] [.optr r3 0, .optr r4 0]] 73)) r1=some (.cells (dEx e) 27):=by simp [upd,m2,p4]
 have y3:upd (upd (upd H r1 (some (.cells (dEx e) 27))) r3 (some (Lz 256))) r4 (some (.cells [.func (.func 38) [] [.optr r3 0, .optr r4 0]] 73)) r3=some (Lz 256):=by simp [upd,p2]
 have y4:upd (upd (upd H r1 (some (.cells (dEx e) 27))) r3 (some (Lz 256))) r4 (some (.cells [.func (.func 38) [] [.optr r3 0, .optr r4 0]] 73)) r4=some (.cells [.func (.func 38) [] [.optr r3 0, .optr r4 0]] 73):=Aa _ _ _;change dwp _ _ _ _ _ ⟨_,upd (upd (upd H r1 (some (.cells (dEx e) 27))) r3 (some (Lz 256))) r4 (some (.cells [.func (.func 38) [] [.optr r3 0, .optr r4 0]] 73))⟩;generalize upd (upd (upd H r1 (some (.cells (dEx e) 27))) r3 (some (Lz 256))) r4 (some (.cells [.func (.func 38) [] [.optr r3 0, .optr r4 0]] 73))=K at hub y1 y3 y4;refine Aj (by kernel_rfl) (.take 0 (.take 2 (.go 1 [2] (.go 3 [] (.take 4 .done))))) (by kernel_rfl) ?_;simp(disch:=omega) only[go_sem,↓reduceIte,y1,y3,y4];refine(Af3 G _ 1 r3 r4).mono ?_;rintro _ H6 ⟨r6,hr6,rfl,rfl⟩;have x1:r1≠r6:=Ae hr6 y1;have x3:r3≠r6:=Ae hr6 y3;have x4:r4≠r6:=Ae hr6 y4;simp(disch:=omega) only[go_sem,↓reduceIte,y1,y3,y4,x1,x3,x4];refine(Ce8 hG r3 r4 p2 e _ 1 256 r6 he (by decide) (by simp only[upd,if_neg x3];exact y3) (Aa _ _ _) x3 (by simp only[upd,if_neg x4];exact y4)).mono ?_;rintro _ H7 ⟨b,t,rfl,hR,ht,hT⟩;obtain⟨w1,_⟩:=hR (by decide) (by decide);have z1:H7 r1=some (.cells (dEx e) 27):=hT _ _ m2 (by simp only[upd,if_neg x1];exact y1);have z4:H7 r4=some (.cells [.func (.func 38) [] [.optr r3 0, .optr r4 0]] 73):=hT _ _ p1 (by simp only[upd,if_neg x4];exact y4);simp(disch:=omega) only[go_sem,↓reduceIte,y1,y3,y4,x1,x3,x4,z1,z4];refine Nu.sub (hT.sub (hub.new hr6 _) hr3') (Nu.refl ⟨?_,rfl⟩);rw[w1,Ia];have:((Eg e:Int)<=256)↔Eg e<=256:=by omega
 simp only[this]
end
end Go.Dl

-- Chapter 3: values that are put together, seen as trees; MayArgs, MayChoices, Size, Level.
namespace Go.Dl
open Go Go.Proofs
set_option maxRecDepth 100000
def Fc (H':Ac) (v:DVal) (H:Ac) (v':DVal):Prop:= ∀w,Av w H'-> ∀x,Rel w H' v x->Rel w H v' x
def Ek (H':Ac) (vs:List DVal) (H:Ac) (vs':List DVal):Prop:= ∀w,Av w H'-> ∀xs,Aq w H' vs xs->Aq w H vs' xs
section
variable {H H':Ac}
theorem Fc.keep (h:Sub H H') (v:DVal):Fc H' v H v:=fun w _ x hx=>Rel.lasts (Jp h w) _ _ hx
theorem Fc.le {v v':DVal} (h:Sub H H') (k:DLe v v'):Fc H' v H v':=fun w _ x hx=>Rel.lasts (Jp h w) _ _ (k w H' x hx)
theorem Fc.own {e:TypeId} {size n:Nat} {cs:List DVal} {v:DVal} (h:Dj H e size n cs v H'):Fc H' v H (.vslice cs n):=fun w hw x hx=>(h.ghost w hw).2.2 x hx
theorem Fc.block {e:TypeId} {size r n:Nat} {cs:List DVal} (h:Sub H H') (hr:H r=none) (hc:H' r=some (.cells cs e)) (hl:cs.length=n*size):Fc H' (.oslice size r 0 n n) H (.vslice cs n):=
 Fc.own (e:=e) (.inr ⟨r,hr,hl,rfl,hc,h⟩)
theorem Ek.nil:Ek H' [] H []:=fun w _ xs hx=>by simpa [Aq] using hx
theorem Ek.cons {v v':DVal} {vs vs':List DVal} (h:Fc H' v H v') (k:Ek H' vs H vs'):Ek H' (v::vs) H (v'::vs'):=fun w hw xs hx=>by
 simp only[Aq] at hx⊢
 obtain⟨y,ys,rfl,h1,h2⟩:=hx;exact⟨y,ys,rfl,h w hw y h1,k w hw ys h2⟩
theorem Ek.keep (h:Sub H H') (vs:List DVal):Ek H' vs H vs:=fun w _ xs hx=>Aq.lasts (Jp h w) _ _ hx
theorem Fc.agg {vs vs':List DVal} (h:Ek H' vs H vs'):Fc H' (.agg vs) H (.agg vs'):=fun w hw x hx=>by
 simp only[Rel] at hx⊢
 obtain⟨xs,rfl,h1⟩:=hx;exact⟨xs,rfl,h w hw _ h1⟩
theorem Fc.tuple {vs vs':List DVal} (h:Ek H' vs H vs'):Fc H' (.tuple vs) H (.tuple vs'):=fun w hw x hx=>by
 simp only[Rel] at hx⊢
 obtain⟨xs,rfl,h1⟩:=hx;exact⟨xs,rfl,h w hw _ h1⟩
theorem Fc.nil (h:Sub H H'):Fc H' .nilSlice H (.vslice [] 0):=Fc.le h .nil
theorem Fc.cells {e:TypeId} {size r n:Nat} {cs cs':List DVal} (h:Sub H H') (hr:H r=none) (hc:H' r=some (.cells cs e)) (hl:cs.length=n*size) (hs:Ek H' cs H cs'):Fc H' (.oslice size r 0 n n) H (.vslice cs' n):=fun w hw x hx=>by
 obtain⟨_,_,k3⟩:=Hz.fz (v:= .oslice size r 0 n n) hc w hw;obtain⟨ys,hy1,hy2⟩:=Qq hw hc;simp only[Rel] at hx⊢
 obtain⟨o,cap,rfl,h1,h2,h3,h4⟩:=hx;refine⟨_,cap,rfl,h2,?_⟩;by_cases h0:cs= []
 ·subst h0;have:=hs w hw [] (by simp [Aq]);cases cs' with
  | nil=>exact .inl rfl
  | cons c cs'=>simp [Aq] at this
 ·obtain⟨zs,hl1,hh⟩:=hw.holds hc;have ho:o=0:=by
   rcases h3 with h3 | h3
   ·exfalso;have:n=0:=by omega
    subst this;rw[Nat.zero_mul] at hl;exact h0 (List.length_eq_zero_iff.1 hl)
   ·exact h3
  subst ho;exact .inr ⟨r,0,zs,rfl, .inr ⟨hr,fun i y hy=>by simpa using hh i y hy⟩,hs w hw zs hl1⟩
theorem Fc.fin {R:DEnd->Ac->Prop} {v v':DVal} (hs:Sub H H') (h:Fc H' v H v') (k:R (.ret v') H):Nu R v H':= .ghost (fun w hw=>⟨((Hz.sub hs v) w hw).1,((Hz.sub hs v) w hw).2.1,h w hw⟩) (.refl k)
theorem Ek.call {P:Program} {G:Nat->DVal} {f:FuncId} {args args':List DVal} {R:DEnd->Ac->Prop} (hs:Sub H H') (h:Ek H' args H args') (k:Ai P G f args' H R):Ai P G f args H' R:=
 Ai.pre (fun w hw=>⟨((Hz.sub hs (.tuple args)) w hw).1,((Hz.sub hs (.tuple args)) w hw).2.1,Fc.tuple h w hw⟩) k
theorem Ek.lent {P:Program} {G:Nat->DVal} {f:FuncId} {args args':List DVal} {v:DVal} (h:Ek H' args H args') (k:Ai P G f args' h0 (Au v h0)) (hv:Ul v=true):Ai P G f args H' (Au v H'):=
 k.lent (fun w vs hw hr=>Aq.lasts (Bb5 H w) _ _ (h w hw vs hr)) hv
theorem Fc.ex {k o n:Int} {s:List UInt8} {vl va:DVal} {l:List Ex} {a:List As} {li en t:Int} (hs:Sub H H') (hl:Fc H' vl H (dXs l)) (ha:Fc H' va H (dAl a)):
  Ek H' [.int .u8 k, .int .u8 o, .int .i64 n, .str s,vl,va, .int .i64 li, .int .i64 en, .int .i64 t] H (dEx (.mk k o n s l a li en t)):=by
 rw[Bl];exact .cons (.keep hs _) (.cons (.keep hs _) (.cons (.keep hs _) (.cons (.keep hs _) (.cons hl (.cons ha (.keep hs _))))))
theorem Fc.exs0 (hs:Sub H H'):Fc H' .nilSlice H (dXs []):=Fc.nil hs
theorem Fc.as0 (hs:Sub H H'):Fc H' .nilSlice H (dAl []):=Fc.nil hs
theorem Fc.ch0 (hs:Sub H H'):Fc H' .nilSlice H (dCl []):=Fc.nil hs
end
section
variable {G:Nat->DVal} {H:Ac}
theorem Au2 (hG:GX G) (H:Ac) (l:List As) (hb:Cw l<=1000000000000) (hk:Jv l):Ai Tryz.prog G 15 [dAl l] H (Au (.bool (Bd0 l)) H):=by
 refine Ad Tryz.func15 Tryz.call15 rfl (by kernel_rfl) ?_;simp(disch:=omega) only[go_sem,↓reduceIte,dAl];intro r hr;dsimp only at hr;simp(disch:=omega) only[go_sem,↓reduceIte];have hs:Sub H (upd H r (some (.cells [.int .u8 3, .int .u8 0, .int .i64 0, .str [120], .nilSlice, .nilSlice, .int .i64 0, .int .i64 0, .int .i64 0] 27))):=(Sub.refl H).new hr _;have hfit:Fit (.mk 7 0 0 [] [exX] l 0 0 0):=by
  refine⟨?_,?_⟩
  ·simp only[Cv,Fk,Cw,exX];omega
  ·simp only[okE,okL,Jv,exX];exact⟨by decide,⟨⟨by decide,trivial,trivial⟩,trivial⟩,hk⟩
 refine((Ek.cons (Fc.agg (Fc.ex (a:=l) hs (Fc.cells (cs':= [exX].flatMap dEx) hs hr (Aa _ _ _) rfl ?_) (Fc.keep hs _))) .nil).call hs (Ii hG _ _ hfit)).mono ?_
 ·rw[List.flatMap_singleton];exact Fc.ex hs (.exs0 hs) (.as0 hs)
 ·rintro _ H1 ⟨rfl,rfl⟩;simp(disch:=omega) only[go_sem,↓reduceIte];exact Nu.refl ⟨rfl,rfl⟩
theorem Be1 (hG:GX G) (H:Ac) (e:Ex) (he:Fit e):Ai Tryz.prog G 48 ([]++ [.agg (dEx e)]++ []) H (Au (.bool (!Ia e)) H):=by
 refine Ad Tryz.func48 Tryz.call48 rfl (by kernel_rfl) ?_;simp(disch:=omega) only[go_sem,↓reduceIte,DVal.cells,List.nil_append,List.append_nil];intro r hr;dsimp only at hr;simp(disch:=omega) only[go_sem,↓reduceIte];refine(Ii hG _ e he).mono ?_;rintro _ H1 ⟨rfl,rfl⟩;simp(disch:=omega) only[go_sem,↓reduceIte];exact Nu.dropA r hr (Nu.refl ⟨rfl,rfl⟩)
theorem Be2 (hG:GX G) (H:Ac) (c:Ch) (hc: ∀x∈c.l,Fit x) (hl:c.l.length<=1099511627776):Ai Tryz.prog G 46 ([]++ [.agg (dCh c)]++ []) H (Au (.bool (!c.l.all Ia)) H):=by
 refine Ad Tryz.func46 Tryz.call46 rfl (by kernel_rfl) ?_;simp(disch:=omega) only[go_sem,↓reduceIte,DVal.cells,List.nil_append,List.append_nil];intro r hr;dsimp only at hr;simp(disch:=omega) only[go_sem,↓reduceIte];refine(Bp3 G _ (fun e=>!Ia e) c.l 48 [] [] hl fun x hx=>Be1 hG _ x (hc x hx)).mono ?_;rintro _ H1 ⟨rfl,rfl⟩;rw[Zs];simp(disch:=omega) only[go_sem,↓reduceIte];exact Nu.dropA r hr (Nu.refl ⟨rfl,rfl⟩)
theorem Zc (hG:GX G) (H:Ac) (l:List Ch) (hb:Fd l<=1000000000000) (hk:Ru l):Ai Tryz.prog G 14 [dCl l] H (Au (.bool (Qy l)) H):=by
 have hll:=Ht l;refine Ad Tryz.func14 Tryz.call14 rfl (by kernel_rfl) ?_;simp(disch:=omega) only[go_sem,↓reduceIte,dCl];refine(Sz G _ l (by omega)).mono ?_;rintro _ H1 ⟨rfl,rfl⟩;cases h:Cq l with
 | false=>
  simp(disch:=omega) only[go_sem,↓reduceIte];exact Nu.refl ⟨by rw[Qy,h,Bool.false_and],rfl⟩
 | true=>
  simp(disch:=omega) only[go_sem,↓reduceIte];refine(Ae7 G H1 (fun c=>!c.l.all Ia) l 46 [] [] (by omega) fun c hc=> ?_).mono ?_
  ·have h1:=Hs hc;have h2:=Gz c.l;rw[In] at h1;refine Be2 hG _ c (fun x hx=> ?_) (by omega);have h3:=Nz hx;exact⟨by omega,Zt (Dl5.1 (Ae9 hk c hc)) x hx⟩
  ·rintro _ H2 ⟨rfl,rfl⟩;rw[Zs];simp(disch:=omega) only[go_sem,↓reduceIte];exact Nu.refl ⟨by rw[Qy,h,Bool.true_and,Bool.not_not],rfl⟩
end
end Go.Dl

-- Chapter 3: Size, Level, Same, SameArgs, SameChoices (printed by gen_ua.py).
namespace Go.Dl
open Go Go.Proofs
set_option maxRecDepth 100000
def eqF {α:Type} (p:α->α->Bool):List α->List α->Bool
 | [],[]=>true
 | x::l,y::m=>p x y&&eqF p l m
 | _,_=>false
theorem Bv8 {α:Type} {p:α->α->Bool}: ∀ {l m:List α},eqF p l m=true->l.length=m.length
 | [],[],_=>rfl
 | [],_::_,h=>by cases h
 | _::_,[],h=>by cases h
 | x::l,y::m,h=>by
  rw[eqF,Bool.and_eq_true] at h;rw[List.length_cons,List.length_cons,Bv8 h.2]
theorem Wr {α:Type} {p:α->α->Bool} {l m:List α} (h:l.length≠m.length):eqF p l m=false:=by
 cases e:eqF p l m with
 | false=>rfl
 | true=>exact absurd (Bv8 e) h
theorem Uz {α:Type} {p:α->α->Bool} {l m:List α} {k:Nat} (h1:k<l.length) (h2:k<m.length):eqF p (l.drop k) (m.drop k)=(p l[k] m[k]&&eqF p (l.drop (k+1)) (m.drop (k+1))):=by
 rw[List.drop_eq_getElem_cons h1,List.drop_eq_getElem_cons h2,eqF]
theorem Ma: ∀l m:List Ex,Gv l m=eqF Gr l m
 | [],[]=>by simp [Gv,eqF]
 | [],_::_=>by simp [Gv,eqF]
 | _::_,[]=>by simp [Gv,eqF]
 | x::l,y::m=>by rw[Gv,eqF,Ma l m]
theorem Pg: ∀l m:List As,Gw l m=eqF Nx l m
 | [],[]=>by simp [Gw,eqF]
 | [],_::_=>by simp [Gw,eqF]
 | _::_,[]=>by simp [Gw,eqF]
 | x::l,y::m=>by rw[Gw,eqF,Pg l m]
theorem Ph: ∀l m:List Ch,Gm l m=eqF Na l m
 | [],[]=>by simp [Gm,eqF]
 | [],_::_=>by simp [Gm,eqF]
 | _::_,[]=>by simp [Gm,eqF]
 | x::l,y::m=>by rw[Gm,eqF,Ph l m]
theorem Be3 (x y:As):Nx x y=(Gm x.c y.c&&Gr x.e y.e):=by cases x;rw[Nx];rfl
theorem Be4 (x y:Ch):Na x y=(decide (x.kind=y.kind)&&Gv x.l y.l):=by cases x;rw[Na];rfl
theorem Bv9 (G:Nat->DVal) (H:Ac) (p:Ex->Ex->Bool) (l m:List Ex) (g:FuncId) (hl:l.length<=1099511627776)
  (hp: ∀x∈l,∀y∈m,∀H,Ai Tryz.prog G g ([]++ [.agg (dEx x), .agg (dEx y)]++ []) H (Au (.bool (p x y)) H)):
  Ai Tryz.prog G 42 [.vslice (l.flatMap dEx) l.length, .vslice (m.flatMap dEx) m.length, .func (.func g) [] []] H (Au (.bool (eqF p l m)) H):=by
 refine Ad Tryz.func42 Tryz.call42 rfl (by kernel_rfl) ?_;by_cases hlen:l.length=m.length
 ·have hlen':(l.length:Int)=(m.length:Int):=by omega
  simp(disch:=omega) only[go_sem,↓reduceIte,hlen'];obtain⟨I,hI⟩: ∃I:Nat->(Nat->DVal)->Ac->Prop,∀k env heap,I k env heap↔(env 0= .vslice (l.flatMap dEx) l.length/\env 1= .vslice (m.flatMap dEx) m.length/\env 2= .func (.func g) [] []/\env 15= .vslice (l.flatMap dEx) l.length/\env 16=dI m.length/\env 17=dI k/\k<=l.length/\eqF p l m=eqF p (l.drop k) (m.drop k)/\Sub H heap):=⟨_,fun _ _ _=>Iff.rfl⟩;refine Bt4.run I (fun k=>l.length-k) 0 ((hI _ _ _).2 ?_) ?_
  ·simp(disch:=omega) only[go_sem,↓reduceIte];(repeat' apply And.intro)<;>(try first | rfl | assumption | omega);exact Sub.refl _
  ·intro k env heap hi;obtain⟨e0,e1,e2,e15,e16,e17,hk,hsm,hsub⟩:=(hI _ _ _).1 hi;have hfl:=An Ah l;have hfm:=An Ah m;by_cases hlt:k<l.length
   ·have hlt':(k:Int)<(m.length:Int):=by omega
    have hlt2:(k:Int)<(l.length:Int):=by omega
    have hkm:k<m.length:=by omega
    have hget:=Bt Ah l k hlt;have hgetm:=Bt Ah m k hkm;have hwd:IntKind.i64.wrap ((k:Int)+1)=((k+1:Nat):Int):=by rw[IntKind.wrap_i64];omega
    simp(disch:=omega) only[go_sem,↓reduceIte,e0,e1,e2,e15,e16,e17,hlt',hlt2,hget,hgetm,hfl,hfm,Int.toNat_natCast];intro r8 hr8;dsimp only at hr8;simp(disch:=omega) only[go_sem,↓reduceIte,e0,e1,e2,e15,e16,e17,hlt',hlt2,hget,hgetm,hfl,hfm,Int.toNat_natCast];intro r9 hr9;dsimp only at hr9;obtain⟨m2,m1,hr9'⟩:=De7.1 hr9;simp(disch:=omega) only[go_sem,↓reduceIte,e0,e1,e2,e15,e16,e17,m1,m2,hget,hgetm,hfl,hfm,Int.toNat_natCast];refine(hp l[k] (List.getElem_mem hlt) m[k] (List.getElem_mem hkm) _).mono ?_;rintro _ H1 ⟨rfl,rfl⟩;rw[Uz hlt hkm] at hsm;have hs1:=(hsub.new hr8 (some (DObj.cells (dEx l[k]) 27))).new hr9 (some (DObj.cells (dEx m[k]) 27));cases hb:p l[k] m[k] with
    | true=>
     rw[hb,Bool.true_and] at hsm;simp(disch:=omega) only[go_sem,↓reduceIte,e0,e1,e2,e15,e16,e17];refine⟨k+1,_,Ni.refl _,(hI _ _ _).2 ?_,by omega⟩;simp(disch:=omega) only[go_sem,↓reduceIte,e0,e1,e2,e15,e16,e17,hwd];(repeat' apply And.intro)<;>(try first | rfl | assumption | omega)
    | false=>
     rw[hb,Bool.false_and] at hsm;simp(disch:=omega) only[go_sem,↓reduceIte,e0,e1,e2,e15,e16,e17];exact Nu.sub hs1 (Nu.refl ⟨by rw[hsm],rfl⟩)
   ·have:k=l.length:=by omega
    subst this;have hlt': ¬(l.length:Int)<(m.length:Int):=by omega
    simp(disch:=omega) only[go_sem,↓reduceIte,e0,e1,e2,e15,e16,e17,hlt'];refine Nu.sub hsub (Nu.refl ⟨?_,rfl⟩);rw[hsm,List.drop_length,hlen,List.drop_length];rfl
 ·have hlen': ¬(l.length:Int)=(m.length:Int):=by omega
  simp(disch:=omega) only[go_sem,↓reduceIte,hlen'];exact Nu.refl ⟨by rw[Wr hlen],rfl⟩
theorem Db9 (G:Nat->DVal) (H:Ac) (p:As->As->Bool) (l m:List As) (g:FuncId) (hl:l.length<=1099511627776)
  (hp: ∀x∈l,∀y∈m,∀H,Ai Tryz.prog G g ([]++ [.agg (dAs x), .agg (dAs y)]++ []) H (Au (.bool (p x y)) H)):
  Ai Tryz.prog G 93 [.vslice (l.flatMap dAs) l.length, .vslice (m.flatMap dAs) m.length, .func (.func g) [] []] H (Au (.bool (eqF p l m)) H):=by
 refine Ad Tryz.func93 Tryz.call93 rfl (by kernel_rfl) ?_;by_cases hlen:l.length=m.length
 ·have hlen':(l.length:Int)=(m.length:Int):=by omega
  simp(disch:=omega) only[go_sem,↓reduceIte,hlen'];obtain⟨I,hI⟩: ∃I:Nat->(Nat->DVal)->Ac->Prop,∀k env heap,I k env heap↔(env 0= .vslice (l.flatMap dAs) l.length/\env 1= .vslice (m.flatMap dAs) m.length/\env 2= .func (.func g) [] []/\env 15= .vslice (l.flatMap dAs) l.length/\env 16=dI m.length/\env 17=dI k/\k<=l.length/\eqF p l m=eqF p (l.drop k) (m.drop k)/\Sub H heap):=⟨_,fun _ _ _=>Iff.rfl⟩;refine Bt4.run I (fun k=>l.length-k) 0 ((hI _ _ _).2 ?_) ?_
  ·simp(disch:=omega) only[go_sem,↓reduceIte];(repeat' apply And.intro)<;>(try first | rfl | assumption | omega);exact Sub.refl _
  ·intro k env heap hi;obtain⟨e0,e1,e2,e15,e16,e17,hk,hsm,hsub⟩:=(hI _ _ _).1 hi;have hfl:=An Bi l;have hfm:=An Bi m;by_cases hlt:k<l.length
   ·have hlt':(k:Int)<(m.length:Int):=by omega
    have hlt2:(k:Int)<(l.length:Int):=by omega
    have hkm:k<m.length:=by omega
    have hget:=Bt Bi l k hlt;have hgetm:=Bt Bi m k hkm;have hwd:IntKind.i64.wrap ((k:Int)+1)=((k+1:Nat):Int):=by rw[IntKind.wrap_i64];omega
    simp(disch:=omega) only[go_sem,↓reduceIte,e0,e1,e2,e15,e16,e17,hlt',hlt2,hget,hgetm,hfl,hfm,Int.toNat_natCast];intro r8 hr8;dsimp only at hr8;simp(disch:=omega) only[go_sem,↓reduceIte,e0,e1,e2,e15,e16,e17,hlt',hlt2,hget,hgetm,hfl,hfm,Int.toNat_natCast];intro r9 hr9;dsimp only at hr9;obtain⟨m2,m1,hr9'⟩:=De7.1 hr9;simp(disch:=omega) only[go_sem,↓reduceIte,e0,e1,e2,e15,e16,e17,m1,m2,hget,hgetm,hfl,hfm,Int.toNat_natCast];refine(hp l[k] (List.getElem_mem hlt) m[k] (List.getElem_mem hkm) _).mono ?_;rintro _ H1 ⟨rfl,rfl⟩;rw[Uz hlt hkm] at hsm;have hs1:=(hsub.new hr8 (some (DObj.cells (dAs l[k]) 44))).new hr9 (some (DObj.cells (dAs m[k]) 44));cases hb:p l[k] m[k] with
    | true=>
     rw[hb,Bool.true_and] at hsm;simp(disch:=omega) only[go_sem,↓reduceIte,e0,e1,e2,e15,e16,e17];refine⟨k+1,_,Ni.refl _,(hI _ _ _).2 ?_,by omega⟩;simp(disch:=omega) only[go_sem,↓reduceIte,e0,e1,e2,e15,e16,e17,hwd];(repeat' apply And.intro)<;>(try first | rfl | assumption | omega)
    | false=>
     rw[hb,Bool.false_and] at hsm;simp(disch:=omega) only[go_sem,↓reduceIte,e0,e1,e2,e15,e16,e17];exact Nu.sub hs1 (Nu.refl ⟨by rw[hsm],rfl⟩)
   ·have:k=l.length:=by omega
    subst this;have hlt': ¬(l.length:Int)<(m.length:Int):=by omega
    simp(disch:=omega) only[go_sem,↓reduceIte,e0,e1,e2,e15,e16,e17,hlt'];refine Nu.sub hsub (Nu.refl ⟨?_,rfl⟩);rw[hsm,List.drop_length,hlen,List.drop_length];rfl
 ·have hlen': ¬(l.length:Int)=(m.length:Int):=by omega
  simp(disch:=omega) only[go_sem,↓reduceIte,hlen'];exact Nu.refl ⟨by rw[Wr hlen],rfl⟩
theorem Dc0 (G:Nat->DVal) (H:Ac) (p:Ch->Ch->Bool) (l m:List Ch) (g:FuncId) (hl:l.length<=1099511627776)
  (hp: ∀x∈l,∀y∈m,∀H,Ai Tryz.prog G g ([]++ [.agg (dCh x), .agg (dCh y)]++ []) H (Au (.bool (p x y)) H)):
  Ai Tryz.prog G 139 [.vslice (l.flatMap dCh) l.length, .vslice (m.flatMap dCh) m.length, .func (.func g) [] []] H (Au (.bool (eqF p l m)) H):=by
 refine Ad Tryz.func139 Tryz.call139 rfl (by kernel_rfl) ?_;by_cases hlen:l.length=m.length
 ·have hlen':(l.length:Int)=(m.length:Int):=by omega
  simp(disch:=omega) only[go_sem,↓reduceIte,hlen'];obtain⟨I,hI⟩: ∃I:Nat->(Nat->DVal)->Ac->Prop,∀k env heap,I k env heap↔(env 0= .vslice (l.flatMap dCh) l.length/\env 1= .vslice (m.flatMap dCh) m.length/\env 2= .func (.func g) [] []/\env 15= .vslice (l.flatMap dCh) l.length/\env 16=dI m.length/\env 17=dI k/\k<=l.length/\eqF p l m=eqF p (l.drop k) (m.drop k)/\Sub H heap):=⟨_,fun _ _ _=>Iff.rfl⟩;refine Bt4.run I (fun k=>l.length-k) 0 ((hI _ _ _).2 ?_) ?_
  ·simp(disch:=omega) only[go_sem,↓reduceIte];(repeat' apply And.intro)<;>(try first | rfl | assumption | omega);exact Sub.refl _
  ·intro k env heap hi;obtain⟨e0,e1,e2,e15,e16,e17,hk,hsm,hsub⟩:=(hI _ _ _).1 hi;have hfl:=An Bd l;have hfm:=An Bd m;by_cases hlt:k<l.length
   ·have hlt':(k:Int)<(m.length:Int):=by omega
    have hlt2:(k:Int)<(l.length:Int):=by omega
    have hkm:k<m.length:=by omega
    have hget:=Bt Bd l k hlt;have hgetm:=Bt Bd m k hkm;have hwd:IntKind.i64.wrap ((k:Int)+1)=((k+1:Nat):Int):=by rw[IntKind.wrap_i64];omega
    simp(disch:=omega) only[go_sem,↓reduceIte,e0,e1,e2,e15,e16,e17,hlt',hlt2,hget,hgetm,hfl,hfm,Int.toNat_natCast];intro r8 hr8;dsimp only at hr8;simp(disch:=omega) only[go_sem,↓reduceIte,e0,e1,e2,e15,e16,e17,hlt',hlt2,hget,hgetm,hfl,hfm,Int.toNat_natCast];intro r9 hr9;dsimp only at hr9;obtain⟨m2,m1,hr9'⟩:=De7.1 hr9;simp(disch:=omega) only[go_sem,↓reduceIte,e0,e1,e2,e15,e16,e17,m1,m2,hget,hgetm,hfl,hfm,Int.toNat_natCast];refine(hp l[k] (List.getElem_mem hlt) m[k] (List.getElem_mem hkm) _).mono ?_;rintro _ H1 ⟨rfl,rfl⟩;rw[Uz hlt hkm] at hsm;have hs1:=(hsub.new hr8 (some (DObj.cells (dCh l[k]) 47))).new hr9 (some (DObj.cells (dCh m[k]) 47));cases hb:p l[k] m[k] with
    | true=>
     rw[hb,Bool.true_and] at hsm;simp(disch:=omega) only[go_sem,↓reduceIte,e0,e1,e2,e15,e16,e17];refine⟨k+1,_,Ni.refl _,(hI _ _ _).2 ?_,by omega⟩;simp(disch:=omega) only[go_sem,↓reduceIte,e0,e1,e2,e15,e16,e17,hwd];(repeat' apply And.intro)<;>(try first | rfl | assumption | omega)
    | false=>
     rw[hb,Bool.false_and] at hsm;simp(disch:=omega) only[go_sem,↓reduceIte,e0,e1,e2,e15,e16,e17];exact Nu.sub hs1 (Nu.refl ⟨by rw[hsm],rfl⟩)
   ·have:k=l.length:=by omega
    subst this;have hlt': ¬(l.length:Int)<(m.length:Int):=by omega
    simp(disch:=omega) only[go_sem,↓reduceIte,e0,e1,e2,e15,e16,e17,hlt'];refine Nu.sub hsub (Nu.refl ⟨?_,rfl⟩);rw[hsm,List.drop_length,hlen,List.drop_length];rfl
 ·have hlen': ¬(l.length:Int)=(m.length:Int):=by omega
  simp(disch:=omega) only[go_sem,↓reduceIte,hlen'];exact Nu.refl ⟨by rw[Wr hlen],rfl⟩
def Ws (P:Program) (G:Nat->DVal) (f:FuncId) (x:Ex):Prop:= ∀y H,Ai P G f ([]++ [.agg (dEx x), .agg (dEx y)]++ []) H (Au (.bool (Gr x y)) H)
theorem Bp5 (G:Nat->DVal) (H:Ac) (x y:Ch) (hl:x.l.length<=1099511627776) (hS: ∀e∈x.l,Ws Tryz.prog G 11 e):Ai Tryz.prog G 140 ([]++ [.agg (dCh x), .agg (dCh y)]++ []) H (Au (.bool (Na x y)) H):=by
 rw[Be4,Ma];refine Ad Tryz.func140 Tryz.call140 rfl (by kernel_rfl) ?_;simp(disch:=omega) only[go_sem,↓reduceIte,DVal.cells,List.nil_append,List.append_nil];intro r2 hr2;dsimp only at hr2;simp(disch:=omega) only[go_sem,↓reduceIte,DVal.cells];intro r3 hr3;dsimp only at hr3;obtain⟨m2,m1,hr3'⟩:=De7.1 hr3;by_cases h1:x.kind=y.kind
 ·simp(disch:=omega) only[go_sem,↓reduceIte,m1,m2,h1];refine(Bv9 G _ Gr x.l y.l 11 hl fun e he f _ K=>hS e he f K).mono ?_;rintro _ H1 ⟨rfl,rfl⟩;simp(disch:=omega) only[go_sem,↓reduceIte];exact Nu.sub (show Sub H _ from(by repeat (first | exact Sub.refl _ | assumption | refine Sub.up ?_ (by assumption) _))) (Nu.refl ⟨by simp,rfl⟩)
 ·simp(disch:=omega) only[go_sem,↓reduceIte,m1,m2,h1];exact Nu.sub (show Sub H _ from(by repeat (first | exact Sub.refl _ | assumption | refine Sub.up ?_ (by assumption) _))) (Nu.refl ⟨by simp,rfl⟩)
theorem Ce9 (G:Nat->DVal) (H:Ac) (l m:List Ch) (hl:Fd l<=1099511627776) (hS: ∀e∈l.flatMap Ch.l,Ws Tryz.prog G 11 e):Ai Tryz.prog G 95 [dCl l,dCl m] H (Au (.bool (Gm l m)) H):=by
 have hll:=Ht l;refine Ad Tryz.func95 Tryz.call95 rfl (by kernel_rfl) ?_;simp(disch:=omega) only[go_sem,↓reduceIte,dCl];refine(Dc0 G _ Na l m 140 (by omega) fun c hc d _ K=>Bp5 G K c d (by have:=Hs hc;have:=Gz c.l;rw[In] at*;omega) fun e he=>hS e (List.mem_flatMap.2 ⟨c,hc,he⟩)).mono ?_;rintro _ H1 ⟨rfl,rfl⟩;simp(disch:=omega) only[go_sem,↓reduceIte];exact Nu.refl ⟨by rw[Ph],rfl⟩
theorem Bp6 (G:Nat->DVal) (H:Ac) (x y:As) (hl:Ny x<=1099511627776) (hS: ∀e∈Bw x,Ws Tryz.prog G 11 e):Ai Tryz.prog G 94 ([]++ [.agg (dAs x), .agg (dAs y)]++ []) H (Au (.bool (Nx x y)) H):=by
 have hb:=Lc x;have dx:=Uv x;have dy:=Uv y;rw[Be3];refine Ad Tryz.func94 Tryz.call94 rfl (by kernel_rfl) ?_;simp(disch:=omega) only[go_sem,↓reduceIte,DVal.cells,List.nil_append,List.append_nil];intro r2 hr2;dsimp only at hr2;simp(disch:=omega) only[go_sem,↓reduceIte,DVal.cells];intro r3 hr3;dsimp only at hr3;obtain⟨m2,m1,hr3'⟩:=De7.1 hr3;simp(disch:=omega) only[go_sem,↓reduceIte,m1,m2];refine(Ce9 G _ x.c y.c (by omega) fun e he=>hS e (List.mem_append_left _ he)).mono ?_;rintro _ H1 ⟨rfl,rfl⟩;cases h:Gm x.c y.c with
 | false=>
  simp(disch:=omega) only[go_sem,↓reduceIte,m1,m2];exact Nu.sub (show Sub H _ from(by repeat (first | exact Sub.refl _ | assumption | refine Sub.up ?_ (by assumption) _))) (Nu.refl ⟨by simp,rfl⟩)
 | true=>
  simp(disch:=omega) only[go_sem,↓reduceIte,m1,m2,dx,dy];refine(hS x.e (La x) y.e _).mono ?_;rintro _ H1 ⟨rfl,rfl⟩;simp(disch:=omega) only[go_sem,↓reduceIte];exact Nu.sub (show Sub H _ from(by repeat (first | exact Sub.refl _ | assumption | refine Sub.up ?_ (by assumption) _))) (Nu.refl ⟨by simp,rfl⟩)
theorem Be5 (G:Nat->DVal) (H:Ac) (l m:List As) (hl:Cw l<=1099511627776) (hS: ∀e∈l.flatMap Bw,Ws Tryz.prog G 11 e):Ai Tryz.prog G 43 [dAl l,dAl m] H (Au (.bool (Gw l m)) H):=by
 have hll:=Ro l;refine Ad Tryz.func43 Tryz.call43 rfl (by kernel_rfl) ?_;simp(disch:=omega) only[go_sem,↓reduceIte,dAl];refine(Db9 G _ Nx l m 94 (by omega) fun a ha b _ K=>Bp6 G K a b (by have:=Oa ha;omega) fun e he=>hS e (List.mem_flatMap.2 ⟨a,ha,he⟩)).mono ?_;rintro _ H1 ⟨rfl,rfl⟩;simp(disch:=omega) only[go_sem,↓reduceIte];exact Nu.refl ⟨by rw[Pg],rfl⟩
theorem Dc1 (G:Nat->DVal): ∀x:Ex,Cv x<=1099511627776->Ws Tryz.prog G 11 x:=by
 intro x
 induction x using Ex.ind with
 | h x ih=>
  intro hb y H;have hbe:=Pe x;have hbl:=Gz x.l;have ih': ∀e∈parts x,Ws Tryz.prog G 11 e:=fun e he=>ih e he (by have:=Jw he;omega);rw[Bd1,Ma];refine Ad Tryz.func11 Tryz.call11 rfl (by kernel_rfl) ?_;simp(disch:=omega) only[go_sem,↓reduceIte,DVal.cells,List.nil_append,List.append_nil];intro r2 hr2;dsimp only at hr2;simp(disch:=omega) only[go_sem,↓reduceIte,DVal.cells];intro r3 hr3;dsimp only at hr3;obtain⟨m2,m1,hr3'⟩:=De7.1 hr3;by_cases h1:x.kind=y.kind
  ·by_cases h2:x.oper=y.oper
   ·by_cases h3:x.n=y.n
    ·by_cases h4:x.s=y.s
     ·simp(disch:=omega) only[go_sem,↓reduceIte,m1,m2,h1,h2,h3,h4];refine(Bv9 G _ Gr x.l y.l 11 (by omega) fun e he f _ K=>ih' e (Cd he) f K).mono ?_;rintro _ H1 ⟨rfl,rfl⟩;cases h5:eqF Gr x.l y.l with
      | true=>
       simp(disch:=omega) only[go_sem,↓reduceIte,m1,m2];refine(Be5 G _ x.a y.a (by omega) fun e he=>ih' e (List.mem_append_right _ he)).mono ?_;rintro _ H1 ⟨rfl,rfl⟩;simp(disch:=omega) only[go_sem,↓reduceIte];exact Nu.sub (show Sub H _ from(by repeat (first | exact Sub.refl _ | assumption | refine Sub.up ?_ (by assumption) _))) (Nu.refl ⟨by simp,rfl⟩)
      | false=>
       simp(disch:=omega) only[go_sem,↓reduceIte,m1,m2];exact Nu.sub (show Sub H _ from(by repeat (first | exact Sub.refl _ | assumption | refine Sub.up ?_ (by assumption) _))) (Nu.refl ⟨by simp,rfl⟩)
     ·simp(disch:=omega) only[go_sem,↓reduceIte,m1,m2,h1,h2,h3,h4];exact Nu.sub (show Sub H _ from(by repeat (first | exact Sub.refl _ | assumption | refine Sub.up ?_ (by assumption) _))) (Nu.refl ⟨by simp,rfl⟩)
    ·simp(disch:=omega) only[go_sem,↓reduceIte,m1,m2,h1,h2,h3];exact Nu.sub (show Sub H _ from(by repeat (first | exact Sub.refl _ | assumption | refine Sub.up ?_ (by assumption) _))) (Nu.refl ⟨by simp,rfl⟩)
   ·simp(disch:=omega) only[go_sem,↓reduceIte,m1,m2,h1,h2];exact Nu.sub (show Sub H _ from(by repeat (first | exact Sub.refl _ | assumption | refine Sub.up ?_ (by assumption) _))) (Nu.refl ⟨by simp,rfl⟩)
  ·simp(disch:=omega) only[go_sem,↓reduceIte,m1,m2,h1];exact Nu.sub (show Sub H _ from(by repeat (first | exact Sub.refl _ | assumption | refine Sub.up ?_ (by assumption) _))) (Nu.refl ⟨by simp,rfl⟩)
theorem Ao4 (G:Nat->DVal) (H:Ac) (x y:Ex) (hx:Cv x<=1099511627776):Ai Tryz.prog G 11 [.agg (dEx x), .agg (dEx y)] H (Au (.bool (Gr x y)) H):=Dc1 G x hx y H
def Df2 (x:Ex) (s:Int) (b:Bool) (s':Int):Prop:=0<=s->s+Eg x<=4611686018427387904->b=true/\s'=s+Eg x
theorem Be6: ∀(l:List Ex) (s:Int) (b:Bool) (s':Int),Bd8 Df2 l s b s'->0<=s->s+Fa l<=4611686018427387904->b=true/\s'=s+Fa l
 | [],s,b,s',h,_,_=>by
  obtain⟨rfl,rfl⟩:=h;exact⟨rfl,by simp [Fa]⟩
 | x::l,s,b,s',h,h0,h1=>by
  obtain⟨b1,s1,hx,h⟩:=h;have hsum:Fa (x::l)=Eg x+Fa l:=by simp [Fa]
  obtain⟨rfl,rfl⟩:=hx h0 (by omega);rcases h with⟨_,h⟩ | ⟨h,_⟩
  ·obtain⟨k1,k2⟩:=Be6 l _ b s' h (by omega) (by omega);exact⟨k1,by rw[k2,hsum];omega⟩
  ·cases h
theorem Wt (G:Nat->DVal): ∀(e:Ex) (H:Ac),Cv e<=1099511627776->Ai Tryz.prog G 54 [.agg (dEx e)] H (Au (dI (Eg e)) H):=by
 intro e
 induction e using Ex.ind with
 | h e ih=>
  intro H hb;have hsz:=Ob e;have hsum:=Js e;refine Ad Tryz.func54 Tryz.call54 rfl (by kernel_rfl) ?_;simp(disch:=omega) only[go_sem,↓reduceIte,DVal.cells];intro r1 hr1;dsimp only at hr1;simp(disch:=omega) only[go_sem,↓reduceIte,DVal.cells];intro r3 hr3;dsimp only at hr3;obtain⟨m1,m2,hr3'⟩:=De7.1 hr3;simp(disch:=omega) only[go_sem,↓reduceIte,m1,m2];have hs1:Sub H (upd (upd H r1 (some (.cells (dEx e) 27))) r3 (some (Lz 1))):=((Sub.refl H).new hr1 _).new hr3 _;refine(Ao3 G _ e hb 100 [] [.optr r3 0] Df2 r3 1 (Aa _ _ _) fun x hx s K hK hT=> ?_).mono ?_
  ·have hbx:=Jw hx;unfold Lz at hK;refine Ad Tryz.func100 Tryz.call100 rfl (by kernel_rfl) ?_;simp(disch:=omega) only[go_sem,↓reduceIte,DVal.cells,List.nil_append,List.cons_append];intro q hq;dsimp only at hq;have n1:r3≠q:=Ae hq hK;have n2:q≠r3:=n1.symm;simp(disch:=omega) only[go_sem,↓reduceIte,n1,n2,hK];refine Aj (by kernel_rfl) (.take 0 (.take 1 (.go 2 [0] (.take 3 (.go 4 [] .done))))) (by kernel_rfl) ?_;simp(disch:=omega) only[go_sem,↓reduceIte,n1,n2,hK];refine(ih x hx _ (by omega)).mono ?_;rintro _ H2 ⟨rfl,rfl⟩;simp(disch:=omega) only[go_sem,↓reduceIte,n1,n2,hK];refine Nu.refl ⟨true,_,rfl,fun h0 h1=>⟨rfl,?_⟩,Aa _ _ _,((Qe.refl r3 _).new hq _).set _⟩;rw[IntKind.wrap_i64];omega
  ·rintro _ H7 ⟨b,t,rfl,hR,ht,hT⟩;unfold Lz at ht;obtain⟨_,w2⟩:=Be6 _ _ _ _ hR (by decide) (by omega);simp(disch:=omega) only[go_sem,↓reduceIte,ht];refine Nu.sub (hT.sub hs1 hr3') (Nu.refl ⟨?_,rfl⟩);have e1:t=(Eg e:Int):=by rw[w2,hsum];omega
   rw[e1]
end Go.Dl

-- Chapter 3: the reference's Same, SameArgs, SameChoices; Level (printed by gen_ub.py).
namespace Go.Dl
open Go Go.Proofs
set_option maxRecDepth 100000
theorem Nb {α:Type} {p:α->α->Bool} {l m:List α} {k:Nat} (h1:k<l.length) (h2:k<m.length) {b:Bool} (hb:p l[k] m[k]=b) (h:eqF p l m=eqF p (l.drop k) (m.drop k)):eqF p l m=(b&&eqF p (l.drop (k+1)) (m.drop (k+1))):=by
 rw[h,Uz h1 h2,hb]
section
variable {G:Nat->DVal} {H:Ac}
def Va (P:Program) (G:Nat->DVal) (f:FuncId) (x:Ex):Prop:= ∀y H,Ai P G f [.agg (dEx x), .agg (dEx y)] H (Au (.bool (Gr x y)) H)
theorem Yg (G:Nat->DVal) (H:Ac) (l m:List Ex) (hl:l.length<=1099511627776) (hS: ∀e∈l,Va Tryz.prog G 22 e):Ai Tryz.prog G 73 [.vslice (l.flatMap dEx) l.length, .vslice (m.flatMap dEx) m.length] H (Au (.bool (eqF Gr l m)) H):=by
 refine Ad Tryz.func73 Tryz.call73 rfl (by kernel_rfl) ?_;by_cases hlen:l.length=m.length
 ·have hlen':(l.length:Int)=(m.length:Int):=by omega
  simp(disch:=omega) only[go_sem,↓reduceIte,hlen'];obtain⟨I,hI⟩: ∃I:Nat->(Nat->DVal)->Ac->Prop,∀k env heap,I k env heap↔(env 0= .vslice (l.flatMap dEx) l.length/\env 1= .vslice (m.flatMap dEx) m.length/\env 5=dI k/\k<=l.length/\eqF Gr l m=eqF Gr (l.drop k) (m.drop k)/\heap=H):=⟨_,fun _ _ _=>Iff.rfl⟩;refine Bt4.run I (fun k=>l.length-k) 0 ((hI _ _ _).2 ?_) ?_
  ·simp(disch:=omega) only[go_sem,↓reduceIte];(repeat' apply And.intro)<;>(try first | rfl | assumption | omega)
  ·intro k env heap hi;obtain⟨e0,e1,e5,hk,hsm,rfl⟩:=(hI _ _ _).1 hi;have hfl:=An Ah l;have hfm:=An Ah m;by_cases hlt:k<l.length
   ·have hlt':(k:Int)<(m.length:Int):=by omega
    have hlt2:(k:Int)<(l.length:Int):=by omega
    have hkm:k<m.length:=by omega
    have hget:=Bt Ah l k hlt;have hgetm:=Bt Ah m k hkm;have hwd:IntKind.i64.wrap ((k:Int)+1)=((k+1:Nat):Int):=by rw[IntKind.wrap_i64];omega
    have hml:=List.getElem_mem hlt;simp(disch:=omega) only[go_sem,↓reduceIte,e0,e1,e5,hlt',hlt2,hget,hgetm,hfl,hfm,Int.toNat_natCast];refine Aj (by kernel_rfl) (.take 0 (.take 1 (.take 2 (.take 3 (.take 4 (.take 5 (.take 6 (.take 7 (.go 8 [] (.take 9 .done)))))))))) (by kernel_rfl) ?_;simp(disch:=omega) only[go_sem,↓reduceIte,e0,e1,e5,hlt',hlt2,hget,hgetm,hfl,hfm,Int.toNat_natCast];refine(hS l[k] hml m[k] _).mono ?_;rintro _ H1 ⟨rfl,rfl⟩;cases hb:Gr l[k] m[k] with
    | true=>
     simp(disch:=omega) only[go_sem,↓reduceIte,e0,e1,e5];refine⟨k+1,_,Ni.refl _,(hI _ _ _).2 ?_,by omega⟩;simp(disch:=omega) only[go_sem,↓reduceIte,e0,e1,e5,hwd];(repeat' apply And.intro)<;>(try first | rfl | assumption | omega);all_goals rw[Nb hlt hkm hb hsm,Bool.true_and]
    | false=>
     simp(disch:=omega) only[go_sem,↓reduceIte,e0,e1,e5];exact Nu.refl ⟨by rw[Nb hlt hkm hb hsm,Bool.false_and],rfl⟩
   ·have:k=l.length:=by omega
    subst this;have hlt': ¬(l.length:Int)<(m.length:Int):=by omega
    simp(disch:=omega) only[go_sem,↓reduceIte,e0,e1,e5,hlt'];refine Nu.refl ⟨?_,rfl⟩;rw[hsm,List.drop_length,hlen,List.drop_length];rfl
 ·have hlen': ¬(l.length:Int)=(m.length:Int):=by omega
  simp(disch:=omega) only[go_sem,↓reduceIte,hlen'];exact Nu.refl ⟨by rw[Wr hlen],rfl⟩
theorem Af4 (G:Nat->DVal) (H:Ac) (l m:List Ch) (hl:Fd l<=1099511627776) (hS: ∀e∈l.flatMap Ch.l,Va Tryz.prog G 22 e):Ai Tryz.prog G 26 [.vslice (l.flatMap dCh) l.length, .vslice (m.flatMap dCh) m.length] H (Au (.bool (eqF Na l m)) H):=by
 have hll:=Ht l;refine Ad Tryz.func26 Tryz.call26 rfl (by kernel_rfl) ?_;by_cases hlen:l.length=m.length
 ·have hlen':(l.length:Int)=(m.length:Int):=by omega
  simp(disch:=omega) only[go_sem,↓reduceIte,hlen'];obtain⟨I,hI⟩: ∃I:Nat->(Nat->DVal)->Ac->Prop,∀k env heap,I k env heap↔(env 0= .vslice (l.flatMap dCh) l.length/\env 1= .vslice (m.flatMap dCh) m.length/\env 5=dI k/\k<=l.length/\eqF Na l m=eqF Na (l.drop k) (m.drop k)/\heap=H):=⟨_,fun _ _ _=>Iff.rfl⟩;refine Bt4.run I (fun k=>l.length-k) 0 ((hI _ _ _).2 ?_) ?_
  ·simp(disch:=omega) only[go_sem,↓reduceIte];(repeat' apply And.intro)<;>(try first | rfl | assumption | omega)
  ·intro k env heap hi;obtain⟨e0,e1,e5,hk,hsm,rfl⟩:=(hI _ _ _).1 hi;have hfl:=An Bd l;have hfm:=An Bd m;by_cases hlt:k<l.length
   ·have hlt':(k:Int)<(m.length:Int):=by omega
    have hlt2:(k:Int)<(l.length:Int):=by omega
    have hkm:k<m.length:=by omega
    have hget:=Bt Bd l k hlt;have hgetm:=Bt Bd m k hkm;have hwd:IntKind.i64.wrap ((k:Int)+1)=((k+1:Nat):Int):=by rw[IntKind.wrap_i64];omega
    have hml:=List.getElem_mem hlt;have gk:=Bs Bd l k hlt 0 (by decide);have gl:=Bs Bd l k hlt 1 (by decide);have mk:=Bs Bd m k hkm 0 (by decide);have ml:=Bs Bd m k hkm 1 (by decide);rw[Bv2,Nat.add_zero] at gk mk;rw[Yd] at gl ml;have hbl:=Gz l[k].l;have hbc:=Hs hml;rw[In] at hbc;have hpe:=Be4 l[k] m[k];rw[Ma] at hpe;simp(disch:=omega) only[go_sem,↓reduceIte,e0,e1,e5,hlt',hlt2,hfl,hfm,Int.toNat_natCast];refine Aj (by kernel_rfl) (.take 0 (.take 1 (.take 2 (.take 3 (.take 4 (.take 5 (.take 6 (.take 7 (.take 8 (.take 9 (.take 10 (.take 11 (.take 12 (.take 13 (.take 14 (.take 15 (.take 16 (.take 17 (.take 18 (.take 19 (.take 20 (.take 21 (.go 22 [] (.take 23 (.take 24 .done))))))))))))))))))))))))) (by kernel_rfl) ?_;by_cases hkk:l[k].kind=m[k].kind
    ·simp(disch:=omega) only[go_sem,↓reduceIte,e0,e1,e5,hlt',hlt2,gk,mk,gl,ml,hkk,hfl,hfm,Int.toNat_natCast];refine(Yg G _ l[k].l m[k].l (by omega) fun e he=>hS e (List.mem_flatMap.2 ⟨l[k],hml,he⟩)).mono ?_;rintro _ H1 ⟨rfl,rfl⟩;rw[decide_eq_true hkk,Bool.true_and] at hpe;rw[<-hpe];cases hb:Na l[k] m[k] with
     | true=>
      simp(disch:=omega) only[go_sem,↓reduceIte,e0,e1,e5];refine⟨k+1,_,Ni.refl _,(hI _ _ _).2 ?_,by omega⟩;simp(disch:=omega) only[go_sem,↓reduceIte,e0,e1,e5,hwd];(repeat' apply And.intro)<;>(try first | rfl | assumption | omega);all_goals rw[Nb hlt hkm hb hsm,Bool.true_and]
     | false=>
      simp(disch:=omega) only[go_sem,↓reduceIte,e0,e1,e5];exact Nu.refl ⟨by rw[Nb hlt hkm hb hsm,Bool.false_and],rfl⟩
    ·have hb:Na l[k] m[k]=false:=by rw[hpe,decide_eq_false hkk,Bool.false_and]
     simp(disch:=omega) only[go_sem,↓reduceIte,e0,e1,e5,hlt',hlt2,gk,mk,gl,ml,hkk,hfl,hfm,Int.toNat_natCast];exact Nu.refl ⟨by rw[Nb hlt hkm hb hsm,Bool.false_and],rfl⟩
   ·have:k=l.length:=by omega
    subst this;have hlt': ¬(l.length:Int)<(m.length:Int):=by omega
    simp(disch:=omega) only[go_sem,↓reduceIte,e0,e1,e5,hlt'];refine Nu.refl ⟨?_,rfl⟩;rw[hsm,List.drop_length,hlen,List.drop_length];rfl
 ·have hlen': ¬(l.length:Int)=(m.length:Int):=by omega
  simp(disch:=omega) only[go_sem,↓reduceIte,hlen'];exact Nu.refl ⟨by rw[Wr hlen],rfl⟩
theorem Vb (G:Nat->DVal) (H:Ac) (l m:List As) (hl:Cw l<=1099511627776) (hS: ∀e∈l.flatMap Bw,Va Tryz.prog G 22 e):Ai Tryz.prog G 25 [.vslice (l.flatMap dAs) l.length, .vslice (m.flatMap dAs) m.length] H (Au (.bool (eqF Nx l m)) H):=by
 have hll:=Ro l;refine Ad Tryz.func25 Tryz.call25 rfl (by kernel_rfl) ?_;by_cases hlen:l.length=m.length
 ·have hlen':(l.length:Int)=(m.length:Int):=by omega
  simp(disch:=omega) only[go_sem,↓reduceIte,hlen'];obtain⟨I,hI⟩: ∃I:Nat->(Nat->DVal)->Ac->Prop,∀k env heap,I k env heap↔(env 0= .vslice (l.flatMap dAs) l.length/\env 1= .vslice (m.flatMap dAs) m.length/\env 5=dI k/\k<=l.length/\eqF Nx l m=eqF Nx (l.drop k) (m.drop k)/\heap=H):=⟨_,fun _ _ _=>Iff.rfl⟩;refine Bt4.run I (fun k=>l.length-k) 0 ((hI _ _ _).2 ?_) ?_
  ·simp(disch:=omega) only[go_sem,↓reduceIte];(repeat' apply And.intro)<;>(try first | rfl | assumption | omega)
  ·intro k env heap hi;obtain⟨e0,e1,e5,hk,hsm,rfl⟩:=(hI _ _ _).1 hi;have hfl:=An Bi l;have hfm:=An Bi m;by_cases hlt:k<l.length
   ·have hlt':(k:Int)<(m.length:Int):=by omega
    have hlt2:(k:Int)<(l.length:Int):=by omega
    have hkm:k<m.length:=by omega
    have hget:=Bt Bi l k hlt;have hgetm:=Bt Bi m k hkm;have hwd:IntKind.i64.wrap ((k:Int)+1)=((k+1:Nat):Int):=by rw[IntKind.wrap_i64];omega
    have hml:=List.getElem_mem hlt;have gk:=Bs Bi l k hlt 0 (by decide);have mk:=Bs Bi m k hkm 0 (by decide);rw[Uu,Nat.add_zero] at gk mk;have gl:((l.flatMap dAs).drop (k*10+1)).take 9=dEx l[k].e:=by
     rw[<-Uv,<-hget,List.drop_take,List.take_take,List.drop_drop];rfl
    have ml:((m.flatMap dAs).drop (k*10+1)).take 9=dEx m[k].e:=by
     rw[<-Uv,<-hgetm,List.drop_take,List.take_take,List.drop_drop];rfl
    have hba:=Oa hml;rw[Lc] at hba;have hpe:=Be3 l[k] m[k];rw[Ph] at hpe;simp(disch:=omega) only[go_sem,↓reduceIte,e0,e1,e5,hlt',hlt2,hfl,hfm,Int.toNat_natCast];refine Aj (by kernel_rfl) (.take 0 (.take 1 (.take 2 (.take 3 (.take 4 (.take 5 (.take 6 (.take 7 (.take 8 (.take 9 (.go 10 [] (.take 11 (.take 12 (.take 13 (.take 14 (.take 15 (.take 16 (.take 17 (.take 18 (.take 19 (.take 20 (.take 21 (.take 22 (.go 23 [] (.take 24 (.take 25 .done)))))))))))))))))))))))))) (by kernel_rfl) ?_;simp(disch:=omega) only[go_sem,↓reduceIte,e0,e1,e5,hlt',hlt2,gk,mk,gl,ml,hfl,hfm,Int.toNat_natCast];refine(Af4 G _ l[k].c m[k].c (by omega) fun e he=>hS e (List.mem_flatMap.2 ⟨l[k],hml,List.mem_append_left _ he⟩)).mono ?_;rintro _ H1 ⟨rfl,rfl⟩;cases hc:eqF Na l[k].c m[k].c with
    | true=>
     rw[hc,Bool.true_and] at hpe;simp(disch:=omega) only[go_sem,↓reduceIte,e0,e1,e5,hlt',hlt2,gk,mk,gl,ml,hfl,hfm,Int.toNat_natCast];refine(hS l[k].e (List.mem_flatMap.2 ⟨l[k],hml,La _⟩) m[k].e _).mono ?_;rintro _ H1 ⟨rfl,rfl⟩;rw[<-hpe];cases hb:Nx l[k] m[k] with
     | true=>
      simp(disch:=omega) only[go_sem,↓reduceIte,e0,e1,e5];refine⟨k+1,_,Ni.refl _,(hI _ _ _).2 ?_,by omega⟩;simp(disch:=omega) only[go_sem,↓reduceIte,e0,e1,e5,hwd];(repeat' apply And.intro)<;>(try first | rfl | assumption | omega);all_goals rw[Nb hlt hkm hb hsm,Bool.true_and]
     | false=>
      simp(disch:=omega) only[go_sem,↓reduceIte,e0,e1,e5];exact Nu.refl ⟨by rw[Nb hlt hkm hb hsm,Bool.false_and],rfl⟩
    | false=>
     have hb:Nx l[k] m[k]=false:=by rw[hpe,hc,Bool.false_and]
     simp(disch:=omega) only[go_sem,↓reduceIte,e0,e1,e5,hlt',hlt2,gk,mk,gl,ml,hfl,hfm,Int.toNat_natCast];exact Nu.refl ⟨by rw[Nb hlt hkm hb hsm,Bool.false_and],rfl⟩
   ·have:k=l.length:=by omega
    subst this;have hlt': ¬(l.length:Int)<(m.length:Int):=by omega
    simp(disch:=omega) only[go_sem,↓reduceIte,e0,e1,e5,hlt'];refine Nu.refl ⟨?_,rfl⟩;rw[hsm,List.drop_length,hlen,List.drop_length];rfl
 ·have hlen': ¬(l.length:Int)=(m.length:Int):=by omega
  simp(disch:=omega) only[go_sem,↓reduceIte,hlen'];exact Nu.refl ⟨by rw[Wr hlen],rfl⟩
theorem Af5 (G:Nat->DVal): ∀x:Ex,Cv x<=1099511627776->Va Tryz.prog G 22 x:=by
 intro x
 induction x using Ex.ind with
 | h x ih=>
  intro hb y H;have hbe:=Pe x;have hbl:=Gz x.l;have ih': ∀e∈parts x,Va Tryz.prog G 22 e:=fun e he=>ih e he (by have:=Jw he;omega);rw[Bd1,Ma,Pg];refine Ad Tryz.func22 Tryz.call22 rfl (by kernel_rfl) ?_;simp(disch:=omega) only[go_sem,↓reduceIte,DVal.cells];intro r2 hr2;dsimp only at hr2;simp(disch:=omega) only[go_sem,↓reduceIte,DVal.cells];intro r3 hr3;dsimp only at hr3;obtain⟨m2,m1,hr3'⟩:=De7.1 hr3;by_cases h1:x.kind=y.kind
  ·by_cases h2:x.oper=y.oper
   ·by_cases h3:x.n=y.n
    ·by_cases h4:x.s=y.s
     ·simp(disch:=omega) only[go_sem,↓reduceIte,m1,m2,h1,h2,h3,h4];refine(Yg G _ x.l y.l (by omega) fun e he=>ih' e (Cd he)).mono ?_;rintro _ H1 ⟨rfl,rfl⟩;cases h5:eqF Gr x.l y.l with
      | true=>
       simp(disch:=omega) only[go_sem,↓reduceIte,m1,m2];refine(Vb G _ x.a y.a (by omega) fun e he=>ih' e (List.mem_append_right _ he)).mono ?_;rintro _ H1 ⟨rfl,rfl⟩;simp(disch:=omega) only[go_sem,↓reduceIte];exact Nu.sub (show Sub H _ from(by repeat (first | exact Sub.refl _ | assumption | refine Sub.up ?_ (by assumption) _))) (Nu.refl ⟨by simp,rfl⟩)
      | false=>
       simp(disch:=omega) only[go_sem,↓reduceIte,m1,m2];exact Nu.sub (show Sub H _ from(by repeat (first | exact Sub.refl _ | assumption | refine Sub.up ?_ (by assumption) _))) (Nu.refl ⟨by simp,rfl⟩)
     ·simp(disch:=omega) only[go_sem,↓reduceIte,m1,m2,h1,h2,h3,h4];exact Nu.sub (show Sub H _ from(by repeat (first | exact Sub.refl _ | assumption | refine Sub.up ?_ (by assumption) _))) (Nu.refl ⟨by simp,rfl⟩)
    ·simp(disch:=omega) only[go_sem,↓reduceIte,m1,m2,h1,h2,h3];exact Nu.sub (show Sub H _ from(by repeat (first | exact Sub.refl _ | assumption | refine Sub.up ?_ (by assumption) _))) (Nu.refl ⟨by simp,rfl⟩)
   ·simp(disch:=omega) only[go_sem,↓reduceIte,m1,m2,h1,h2];exact Nu.sub (show Sub H _ from(by repeat (first | exact Sub.refl _ | assumption | refine Sub.up ?_ (by assumption) _))) (Nu.refl ⟨by simp,rfl⟩)
  ·simp(disch:=omega) only[go_sem,↓reduceIte,m1,m2,h1];exact Nu.sub (show Sub H _ from(by repeat (first | exact Sub.refl _ | assumption | refine Sub.up ?_ (by assumption) _))) (Nu.refl ⟨by simp,rfl⟩)
theorem Af6 (G:Nat->DVal) (H:Ac) (l m:List As) (hl:Cw l<=1099511627776):Ai Tryz.prog G 25 [dAl l,dAl m] H (Au (.bool (Gw l m)) H):=by
 rw[Pg];exact Vb G H l m hl fun e he=>Af5 G e (by
  obtain⟨a,ha,he⟩:=List.mem_flatMap.1 he;have:=Af0 e he;have:=Oa ha;omega)
theorem Vc (G:Nat->DVal) (H:Ac) (l m:List Ch) (hl:Fd l<=1099511627776):Ai Tryz.prog G 26 [dCl l,dCl m] H (Au (.bool (Gm l m)) H):=by
 rw[Ph];exact Af4 G H l m hl fun e he=>Af5 G e (by
  obtain⟨a,ha,he⟩:=List.mem_flatMap.1 he;have:=Nz he;have:=Hs ha;rw[In] at*
  omega)
theorem Jx (G:Nat->DVal) (H:Ac) (e:Ex):Ai Tryz.prog G 55 [.agg (dEx e)] H (Au (dI (Cb e)) H):=by
 refine Ad Tryz.func55 Tryz.call55 rfl (by kernel_rfl) ?_;simp(disch:=omega) only[go_sem,↓reduceIte,DVal.cells];intro r hr;dsimp only at hr;by_cases k13:e.kind=13
 ·skip
  simp(disch:=omega) only[go_sem,↓reduceIte,k13];exact Nu.dropA r hr (Nu.refl ⟨by simp [Cb,k13],rfl⟩)
 by_cases k14:e.kind=14
 ·skip
  simp(disch:=omega) only[go_sem,↓reduceIte,k13,k14];exact Nu.dropA r hr (Nu.refl ⟨by simp [Cb,k13,k14],rfl⟩)
 by_cases k11:e.kind=11
 ·by_cases o18:e.oper=18
  ·skip
   simp(disch:=omega) only[go_sem,↓reduceIte,k11,o18];exact Nu.dropA r hr (Nu.refl ⟨by simp [Cb,k11,o18],rfl⟩)
  by_cases o19:e.oper=19
  ·skip
   simp(disch:=omega) only[go_sem,↓reduceIte,k11,o18,o19];exact Nu.dropA r hr (Nu.refl ⟨by simp [Cb,k11,o18,o19],rfl⟩)
  by_cases o20:e.oper=20
  ·skip
   simp(disch:=omega) only[go_sem,↓reduceIte,k11,o18,o19,o20];exact Nu.dropA r hr (Nu.refl ⟨by simp [Cb,k11,o18,o19,o20],rfl⟩)
  by_cases o21:e.oper=21
  ·skip
   simp(disch:=omega) only[go_sem,↓reduceIte,k11,o18,o19,o20,o21];exact Nu.dropA r hr (Nu.refl ⟨by simp [Cb,k11,o18,o19,o20,o21],rfl⟩)
  simp(disch:=omega) only[go_sem,↓reduceIte,k11,o18,o19,o20,o21];exact Nu.dropA r hr (Nu.refl ⟨by simp [Cb,k11,o18,o19,o20,o21],rfl⟩)
 by_cases k12:e.kind=12
 ·by_cases a1:13<=e.oper
  ·by_cases a2:e.oper<=17
   ·skip
    simp(disch:=omega) only[go_sem,↓reduceIte,k12,k11,a1,a2];refine Nu.dropA r hr (Nu.refl ⟨?_,rfl⟩);congr 2;rw[Cb,if_neg (by omega),if_neg (by omega),if_pos (by omega)];(repeat (first | rfl | rw[if_pos (by omega)] | rw[if_neg (by omega)]))
   ·have b1:7<=e.oper:=by omega
    have b2: ¬e.oper<=12:=by omega
    have c1:3<=e.oper:=by omega
    have c2: ¬e.oper<=6:=by omega
    have x1: ¬e.oper=1:=by omega
    have x2: ¬e.oper=2:=by omega
    simp(disch:=omega) only[go_sem,↓reduceIte,k12,k11,a1,a2,b1,b2,x1,x2,c1,c2];refine Nu.dropA r hr (Nu.refl ⟨?_,rfl⟩);congr 2;rw[Cb,if_neg (by omega),if_neg (by omega),if_pos (by omega)];(repeat (first | rfl | rw[if_pos (by omega)] | rw[if_neg (by omega)]))
  ·by_cases b1:7<=e.oper
   ·have b2:e.oper<=12:=by omega
    simp(disch:=omega) only[go_sem,↓reduceIte,k12,k11,a1,b1,b2];refine Nu.dropA r hr (Nu.refl ⟨?_,rfl⟩);congr 2;rw[Cb,if_neg (by omega),if_neg (by omega),if_pos (by omega)];(repeat (first | rfl | rw[if_pos (by omega)] | rw[if_neg (by omega)]))
   ·by_cases x1:e.oper=1
    ·skip
     simp(disch:=omega) only[go_sem,↓reduceIte,k12,k11,x1];refine Nu.dropA r hr (Nu.refl ⟨?_,rfl⟩);congr 2;rw[Cb,if_neg (by omega),if_neg (by omega),if_pos (by omega)];(repeat (first | rfl | rw[if_pos (by omega)] | rw[if_neg (by omega)]))
    by_cases x2:e.oper=2
    ·skip
     simp(disch:=omega) only[go_sem,↓reduceIte,k12,k11,x2];refine Nu.dropA r hr (Nu.refl ⟨?_,rfl⟩);congr 2;rw[Cb,if_neg (by omega),if_neg (by omega),if_pos (by omega)];(repeat (first | rfl | rw[if_pos (by omega)] | rw[if_neg (by omega)]))
    by_cases c1:3<=e.oper
    ·have c2:e.oper<=6:=by omega
     simp(disch:=omega) only[go_sem,↓reduceIte,k12,k11,a1,b1,x1,x2,c1,c2];refine Nu.dropA r hr (Nu.refl ⟨?_,rfl⟩);congr 2;rw[Cb,if_neg (by omega),if_neg (by omega),if_pos (by omega)];(repeat (first | rfl | rw[if_pos (by omega)] | rw[if_neg (by omega)]))
    ·skip
     simp(disch:=omega) only[go_sem,↓reduceIte,k12,k11,a1,b1,x1,x2,c1];refine Nu.dropA r hr (Nu.refl ⟨?_,rfl⟩);congr 2;rw[Cb,if_neg (by omega),if_neg (by omega),if_pos (by omega)];(repeat (first | rfl | rw[if_pos (by omega)] | rw[if_neg (by omega)]))
 simp(disch:=omega) only[go_sem,↓reduceIte,k11,k12,k13,k14];exact Nu.dropA r hr (Nu.refl ⟨by simp [Cb,k11,k12,k13,k14],rfl⟩)
end
end Go.Dl

-- Chapter 3: the reference: what is valid: arguments, choices, associations.
namespace Go.Dl
open Go Go.Proofs
set_option maxRecDepth 100000
def Ak (e:Ex) (o n s a:Bool):Bool:=(o || zO e)&&(n || zN e)&&(s || zS e)&&(a || zA e)
section
variable {G:Nat->DVal} {H:Ac}
theorem Al1 (G:Nat->DVal) (H:Ac) (o:Int):Ai Tryz.prog G 169 [.int .u8 o] H (Au (.bool (decide (18<=o)&&decide (o<=21))) H):=by
 refine Ad Tryz.func169 Tryz.call169 rfl (by kernel_rfl) ?_;by_cases h:18<=o
 ·simp(disch:=omega) only[go_sem,↓reduceIte,h];exact Nu.refl ⟨by simp,rfl⟩
 ·simp(disch:=omega) only[go_sem,↓reduceIte,h];exact Nu.refl ⟨by simp,rfl⟩
theorem Au3 (G:Nat->DVal) (H:Ac) (o:Int):Ai Tryz.prog G 170 [.int .u8 o] H (Au (.bool (decide (1<=o)&&decide (o<=17))) H):=by
 refine Ad Tryz.func170 Tryz.call170 rfl (by kernel_rfl) ?_;by_cases h:1<=o
 ·simp(disch:=omega) only[go_sem,↓reduceIte,h];exact Nu.refl ⟨by simp,rfl⟩
 ·simp(disch:=omega) only[go_sem,↓reduceIte,h];exact Nu.refl ⟨by simp,rfl⟩
theorem Ay (G:Nat->DVal) (H:Ac) (e:Ex) (o n s a:Bool):Ai Tryz.prog G 166 [.agg (dEx e), .bool o, .bool n, .bool s, .bool a] H (Au (.bool (Ak e o n s a)) H):=by
 refine Ad Tryz.func166 Tryz.call166 rfl (by kernel_rfl) ?_;simp(disch:=omega) only[go_sem,↓reduceIte,DVal.cells];intro r hr;dsimp only at hr;have fin: ∀b,b=Ak e o n s a->Nu (Au (.bool (Ak e o n s a)) H) (.bool b) (upd H r (some (.cells (dEx e) 27))):=fun b hb=>Nu.dropA r hr (Nu.refl ⟨by rw[hb],rfl⟩);cases o with
 | true=>
  cases n with
  | true=>
   cases s with
   | true=>
    cases a with
    | true=>
     simp(disch:=omega) only[go_sem,↓reduceIte];exact fin _ (by simp [Ak,zO,zN,zS,zA,Ab])
    | false=>
     by_cases h4:e.a.length=0
     ·have h4':(e.a.length:Int)=0:=by omega
      have y4:e.a= []:=List.length_eq_zero_iff.1 h4;simp(disch:=omega) only[go_sem,↓reduceIte,h4'];exact fin _ (by simp [Ak,zO,zN,zS,zA,Ab,y4])
     ·have h4': ¬((e.a.length:Int)=0):=by omega
      have y4: ¬e.a= []:=fun e4=>h4 (by rw[e4];rfl);simp(disch:=omega) only[go_sem,↓reduceIte,h4'];exact fin _ (by simp [Ak,zO,zN,zS,zA,Ab,y4])
   | false=>
    by_cases h3:e.s= []
    ·skip
     cases a with
     | true=>
      simp(disch:=omega) only[go_sem,↓reduceIte,h3];exact fin _ (by simp [Ak,zO,zN,zS,zA,Ab,h3])
     | false=>
      by_cases h4:e.a.length=0
      ·have h4':(e.a.length:Int)=0:=by omega
       have y4:e.a= []:=List.length_eq_zero_iff.1 h4;simp(disch:=omega) only[go_sem,↓reduceIte,h3,h4'];exact fin _ (by simp [Ak,zO,zN,zS,zA,Ab,h3,y4])
      ·have h4': ¬((e.a.length:Int)=0):=by omega
       have y4: ¬e.a= []:=fun e4=>h4 (by rw[e4];rfl);simp(disch:=omega) only[go_sem,↓reduceIte,h3,h4'];exact fin _ (by simp [Ak,zO,zN,zS,zA,Ab,h3,y4])
    ·skip
     simp(disch:=omega) only[go_sem,↓reduceIte,h3];exact fin _ (by simp [Ak,zO,zN,zS,zA,Ab,h3])
  | false=>
   by_cases h2:e.n=0
   ·skip
    cases s with
    | true=>
     cases a with
     | true=>
      simp(disch:=omega) only[go_sem,↓reduceIte,h2];exact fin _ (by simp [Ak,zO,zN,zS,zA,Ab,h2])
     | false=>
      by_cases h4:e.a.length=0
      ·have h4':(e.a.length:Int)=0:=by omega
       have y4:e.a= []:=List.length_eq_zero_iff.1 h4;simp(disch:=omega) only[go_sem,↓reduceIte,h2,h4'];exact fin _ (by simp [Ak,zO,zN,zS,zA,Ab,h2,y4])
      ·have h4': ¬((e.a.length:Int)=0):=by omega
       have y4: ¬e.a= []:=fun e4=>h4 (by rw[e4];rfl);simp(disch:=omega) only[go_sem,↓reduceIte,h2,h4'];exact fin _ (by simp [Ak,zO,zN,zS,zA,Ab,h2,y4])
    | false=>
     by_cases h3:e.s= []
     ·skip
      cases a with
      | true=>
       simp(disch:=omega) only[go_sem,↓reduceIte,h2,h3];exact fin _ (by simp [Ak,zO,zN,zS,zA,Ab,h2,h3])
      | false=>
       by_cases h4:e.a.length=0
       ·have h4':(e.a.length:Int)=0:=by omega
        have y4:e.a= []:=List.length_eq_zero_iff.1 h4;simp(disch:=omega) only[go_sem,↓reduceIte,h2,h3,h4'];exact fin _ (by simp [Ak,zO,zN,zS,zA,Ab,h2,h3,y4])
       ·have h4': ¬((e.a.length:Int)=0):=by omega
        have y4: ¬e.a= []:=fun e4=>h4 (by rw[e4];rfl);simp(disch:=omega) only[go_sem,↓reduceIte,h2,h3,h4'];exact fin _ (by simp [Ak,zO,zN,zS,zA,Ab,h2,h3,y4])
     ·skip
      simp(disch:=omega) only[go_sem,↓reduceIte,h2,h3];exact fin _ (by simp [Ak,zO,zN,zS,zA,Ab,h2,h3])
   ·skip
    simp(disch:=omega) only[go_sem,↓reduceIte,h2];exact fin _ (by simp [Ak,zO,zN,zS,zA,Ab,h2])
 | false=>
  by_cases h1:e.oper=0
  ·skip
   cases n with
   | true=>
    cases s with
    | true=>
     cases a with
     | true=>
      simp(disch:=omega) only[go_sem,↓reduceIte,h1];exact fin _ (by simp [Ak,zO,zN,zS,zA,Ab,h1])
     | false=>
      by_cases h4:e.a.length=0
      ·have h4':(e.a.length:Int)=0:=by omega
       have y4:e.a= []:=List.length_eq_zero_iff.1 h4;simp(disch:=omega) only[go_sem,↓reduceIte,h1,h4'];exact fin _ (by simp [Ak,zO,zN,zS,zA,Ab,h1,y4])
      ·have h4': ¬((e.a.length:Int)=0):=by omega
       have y4: ¬e.a= []:=fun e4=>h4 (by rw[e4];rfl);simp(disch:=omega) only[go_sem,↓reduceIte,h1,h4'];exact fin _ (by simp [Ak,zO,zN,zS,zA,Ab,h1,y4])
    | false=>
     by_cases h3:e.s= []
     ·skip
      cases a with
      | true=>
       simp(disch:=omega) only[go_sem,↓reduceIte,h1,h3];exact fin _ (by simp [Ak,zO,zN,zS,zA,Ab,h1,h3])
      | false=>
       by_cases h4:e.a.length=0
       ·have h4':(e.a.length:Int)=0:=by omega
        have y4:e.a= []:=List.length_eq_zero_iff.1 h4;simp(disch:=omega) only[go_sem,↓reduceIte,h1,h3,h4'];exact fin _ (by simp [Ak,zO,zN,zS,zA,Ab,h1,h3,y4])
       ·have h4': ¬((e.a.length:Int)=0):=by omega
        have y4: ¬e.a= []:=fun e4=>h4 (by rw[e4];rfl);simp(disch:=omega) only[go_sem,↓reduceIte,h1,h3,h4'];exact fin _ (by simp [Ak,zO,zN,zS,zA,Ab,h1,h3,y4])
     ·skip
      simp(disch:=omega) only[go_sem,↓reduceIte,h1,h3];exact fin _ (by simp [Ak,zO,zN,zS,zA,Ab,h1,h3])
   | false=>
    by_cases h2:e.n=0
    ·skip
     cases s with
     | true=>
      cases a with
      | true=>
       simp(disch:=omega) only[go_sem,↓reduceIte,h1,h2];exact fin _ (by simp [Ak,zO,zN,zS,zA,Ab,h1,h2])
      | false=>
       by_cases h4:e.a.length=0
       ·have h4':(e.a.length:Int)=0:=by omega
        have y4:e.a= []:=List.length_eq_zero_iff.1 h4;simp(disch:=omega) only[go_sem,↓reduceIte,h1,h2,h4'];exact fin _ (by simp [Ak,zO,zN,zS,zA,Ab,h1,h2,y4])
       ·have h4': ¬((e.a.length:Int)=0):=by omega
        have y4: ¬e.a= []:=fun e4=>h4 (by rw[e4];rfl);simp(disch:=omega) only[go_sem,↓reduceIte,h1,h2,h4'];exact fin _ (by simp [Ak,zO,zN,zS,zA,Ab,h1,h2,y4])
     | false=>
      by_cases h3:e.s= []
      ·skip
       cases a with
       | true=>
        simp(disch:=omega) only[go_sem,↓reduceIte,h1,h2,h3];exact fin _ (by simp [Ak,zO,zN,zS,zA,Ab,h1,h2,h3])
       | false=>
        by_cases h4:e.a.length=0
        ·have h4':(e.a.length:Int)=0:=by omega
         have y4:e.a= []:=List.length_eq_zero_iff.1 h4;simp(disch:=omega) only[go_sem,↓reduceIte,h1,h2,h3,h4'];exact fin _ (by simp [Ak,zO,zN,zS,zA,Ab,h1,h2,h3,y4])
        ·have h4': ¬((e.a.length:Int)=0):=by omega
         have y4: ¬e.a= []:=fun e4=>h4 (by rw[e4];rfl);simp(disch:=omega) only[go_sem,↓reduceIte,h1,h2,h3,h4'];exact fin _ (by simp [Ak,zO,zN,zS,zA,Ab,h1,h2,h3,y4])
      ·skip
       simp(disch:=omega) only[go_sem,↓reduceIte,h1,h2,h3];exact fin _ (by simp [Ak,zO,zN,zS,zA,Ab,h1,h2,h3])
    ·skip
     simp(disch:=omega) only[go_sem,↓reduceIte,h1,h2];exact fin _ (by simp [Ak,zO,zN,zS,zA,Ab,h1,h2])
  ·skip
   simp(disch:=omega) only[go_sem,↓reduceIte,h1];exact fin _ (by simp [Ak,zO,zN,zS,zA,Ab,h1])
theorem Ao5 {l:List As} {k:Nat} (h: ∀i (_:i+1<k) (hi:i+1<l.length),(l[i].c.isEmpty || !l[i+1].c.isEmpty)=true) (hk:k<l.length) (hx: ∀(h0:0<k),((l[k-1]'(by omega)).c.isEmpty || !l[k].c.isEmpty)=true):
  ∀i (_:i+1<k+1) (hi:i+1<l.length),(l[i].c.isEmpty || !l[i+1].c.isEmpty)=true:=fun i hi hil=>by
 by_cases e:i+1<k
 ·exact h i e hil
 ·have:i+1=k:=by omega
  subst this;exact hx (by omega)
theorem Yh (G:Nat->DVal) (H:Ac) (l:List As) (hl:l.length<=1099511627776):Ai Tryz.prog G 174 [.vslice (l.flatMap dAs) l.length] H (Au (.bool (Ki l)) H):=by
 refine Ad Tryz.func174 Tryz.call174 rfl (by kernel_rfl) ?_;simp(disch:=omega) only[go_sem,↓reduceIte];obtain⟨I,hI⟩: ∃I:Nat->(Nat->DVal)->Ac->Prop,∀k env heap,I k env heap↔(env 0= .vslice (l.flatMap dAs) l.length/\env 3=dI k/\1<=k/\(k<=l.length\/k=1)/\(∀i (_:i+1<k) (hi:i+1<l.length),(l[i].c.isEmpty || !l[i+1].c.isEmpty)=true)/\heap=H):=⟨_,fun _ _ _=>Iff.rfl⟩;refine Bt4.run I (fun k=>l.length-k) 1 ((hI _ _ _).2 ?_) ?_
 ·simp(disch:=omega) only[go_sem,↓reduceIte];(repeat' apply And.intro)<;>(try first | rfl | assumption | omega);all_goals first | exact .inr trivial | (intro i h1 h2;omega)
 ·intro k env heap hi;obtain⟨e0,e3,hk1,hk,hn,rfl⟩:=(hI _ _ _).1 hi;have hfl:=An Bi l;by_cases hlt:k<l.length
  ·have hlt':(k:Int)<(l.length:Int):=by omega
   have gk:=Bs Bi l k hlt 0 (by decide);have gp:=Bs Bi l (k-1) (by omega) 0 (by decide);rw[Uu,Nat.add_zero] at gk gp;have hwd:IntKind.i64.wrap ((k:Int)+1)=((k+1:Nat):Int):=by rw[IntKind.wrap_i64];omega
   have hwk:IntKind.i64.wrap ((k:Int)-1)=((k-1:Nat):Int):=by rw[IntKind.wrap_i64];omega
   have hkp:((k-1:Nat):Int)<(l.length:Int):=by omega
   by_cases q1:l[k].c.length=0
   ·have q1':(l[k].c.length:Int)=0:=by omega
    have y1:l[k].c.isEmpty=true:=by rw[Ab];exact decide_eq_true q1
    by_cases q2:0<l[k-1].c.length
    ·have q2':(0:Int)<(l[k-1].c.length:Int):=by omega
     have y2:l[k-1].c.isEmpty=false:=by rw[Ab];exact decide_eq_false (by omega)
     simp(disch:=omega) only[go_sem,↓reduceIte,e0,e3,hlt',hfl,gk,gp,hwk,hkp,q1',q2',Int.toNat_natCast];refine Nu.refl ⟨?_,rfl⟩;have:Ki l=false:=by
      rw[<-Bool.not_eq_true,Wp];intro h;have:=h (k-1) (by omega);rw[y2] at this;have e:k-1+1=k:=by omega
      simp only[e] at this;rw[y1] at this;cases this
     rw[this]
    ·have q2': ¬(0:Int)<(l[k-1].c.length:Int):=by omega
     have y2:l[k-1].c.isEmpty=true:=by rw[Ab];exact decide_eq_true (by omega)
     simp(disch:=omega) only[go_sem,↓reduceIte,e0,e3,hlt',hfl,gk,gp,hwk,hkp,q1',q2',Int.toNat_natCast];refine⟨k+1,_,Ni.refl _,(hI _ _ _).2 ?_,by omega⟩;simp(disch:=omega) only[go_sem,↓reduceIte,e0,e3,hwd];(repeat' apply And.intro)<;>(try first | rfl | assumption | omega);exact Ao5 hn hlt fun _=>by rw[y2];rfl
   ·have q1': ¬(l[k].c.length:Int)=0:=by omega
    have y1:l[k].c.isEmpty=false:=by rw[Ab];exact decide_eq_false q1
    simp(disch:=omega) only[go_sem,↓reduceIte,e0,e3,hlt',hfl,gk,q1',Int.toNat_natCast];refine⟨k+1,_,Ni.refl _,(hI _ _ _).2 ?_,by omega⟩;simp(disch:=omega) only[go_sem,↓reduceIte,e0,e3,hwd];(repeat' apply And.intro)<;>(try first | rfl | assumption | omega);exact Ao5 hn hlt fun _=>by rw[y1];simp
  ·have hlt': ¬(k:Int)<(l.length:Int):=by omega
   simp(disch:=omega) only[go_sem,↓reduceIte,e0,e3,hlt'];exact Nu.refl ⟨by rw[Wp.2 fun i h=>hn i (by omega) h],rfl⟩
theorem Zd (G:Nat->DVal) (H:Ac) (l:List As) (hl:l.length<=1099511627776):Ai Tryz.prog G 167 [.vslice (l.flatMap dAs) l.length] H (Au (.bool (Gl l)) H):=by
 have hfl:=An Bi l;refine Ad Tryz.func167 Tryz.call167 rfl (by kernel_rfl) ?_;by_cases h1:l.length<1
 ·have h1':(l.length:Int)<1:=by omega
  simp(disch:=omega) only[go_sem,↓reduceIte,h1'];exact Nu.refl ⟨by rw[Gl,decide_eq_false (show¬0<l.length by omega),Bool.false_and,Bool.false_and,Bool.false_and],rfl⟩
 have h1': ¬(l.length:Int)<1:=by omega
 by_cases h2:8<l.length
 ·have h2':(8:Int)<(l.length:Int):=by omega
  simp(disch:=omega) only[go_sem,↓reduceIte,h1',h2'];exact Nu.refl ⟨by rw[Gl,decide_eq_false (show¬l.length<=8 by omega),Bool.and_false,Bool.false_and,Bool.false_and],rfl⟩
 have h2': ¬(8:Int)<(l.length:Int):=by omega
 simp(disch:=omega) only[go_sem,↓reduceIte,h1',h2'];refine(Yh G _ l hl).mono ?_;rintro _ H1 ⟨rfl,rfl⟩;have hd:Gl l=(Ki l&&l.all fun a=>a.c.isEmpty || Bu a.c):=by
  rw[Gl,decide_eq_true (show 0<l.length by omega),decide_eq_true (show l.length<=8 by omega),Bool.true_and,Bool.true_and]
 rw[hd];cases h3:Ki l with
 | false=>
  simp(disch:=omega) only[go_sem,↓reduceIte];exact Nu.refl ⟨rfl,rfl⟩
 | true=>
  simp(disch:=omega) only[go_sem,↓reduceIte];obtain⟨I,hI⟩: ∃I:Nat->(Nat->DVal)->Ac->Prop,∀k env heap,I k env heap↔(env 0= .vslice (l.flatMap dAs) l.length/\env 3=dI k/\k<=l.length/\(∀a∈l.take k,(a.c.isEmpty || Bu a.c)=true)/\heap=H1):=⟨_,fun _ _ _=>Iff.rfl⟩;refine Bt4.run I (fun k=>l.length-k) 0 ((hI _ _ _).2 ?_) ?_
  ·simp(disch:=omega) only[go_sem,↓reduceIte];(repeat' apply And.intro)<;>(try first | rfl | assumption | omega);intro a ha;simp at ha
  ·intro k env heap hi;obtain⟨e0,e3,hk,hn,rfl⟩:=(hI _ _ _).1 hi;by_cases hlt:k<l.length
   ·have hlt':(k:Int)<(l.length:Int):=by omega
    have gk:=Bs Bi l k hlt 0 (by decide);rw[Uu,Nat.add_zero] at gk;have hwd:IntKind.i64.wrap ((k:Int)+1)=((k+1:Nat):Int):=by rw[IntKind.wrap_i64];omega
    obtain⟨a,ha⟩: ∃a,a=l[k]:=⟨_,rfl⟩;rw[<-ha] at gk;have no:(a.c.isEmpty || Bu a.c)=false->(l.all fun a=>a.c.isEmpty || Bu a.c)=false:=fun h=>by
     rw[List.all_eq_false];exact⟨l[k],List.getElem_mem hlt,by rw[<-ha,h];simp⟩
    have yes:(a.c.isEmpty || Bu a.c)=true-> ∀x∈l.take (k+1),(x.c.isEmpty || Bu x.c)=true:=fun h=>It (p:=fun x=>(x.c.isEmpty || Bu x.c)=true) hlt hn (by rw[<-ha];exact h);have hfc:=An Bd a.c;by_cases q1:1<a.c.length
    ·have q1':(1:Int)<(a.c.length:Int):=by omega
     have hs:(a.c.isEmpty || Bu a.c)=false:=by
      rw[Ab,decide_eq_false (by omega),Bool.false_or];unfold Bu;split
      ·rename_i h;rw[h] at q1;simp at q1
      ·rfl
     simp(disch:=omega) only[go_sem,↓reduceIte,e0,e3,hlt',hfl,gk,q1',Int.toNat_natCast];exact Nu.refl ⟨by rw[no hs],rfl⟩
    have q1': ¬(1:Int)<(a.c.length:Int):=by omega
    by_cases q2:a.c.length=1
    ·have q2':(a.c.length:Int)=1:=by omega
     obtain⟨g0,g1⟩:=ch0 (l:=a.c) (by omega);obtain⟨c,hc⟩:=List.length_eq_one_iff.1 q2;have ec:a.c[0]=c:=by simp [hc]
     rw[ec] at g0 g1;have he:a.c.isEmpty=false:=by rw[hc];rfl
     by_cases q3:c.kind=1
     ·by_cases q4:c.l.length=1
      ·have q4':(c.l.length:Int)=1:=by omega
       have g2:=Dp3 (l:=c.l) (by omega);have hfe:=An Ah c.l;obtain⟨x,hx⟩:=List.length_eq_one_iff.1 q4;have e:c.l[0]=x:=by simp [hx]
       rw[e] at g2;have hs:Bu a.c=decide (x.kind=3):=by rw[hc];simp [Bu,q3,hx]
       by_cases q5:x.kind=3
       ·simp(disch:=omega) only[go_sem,↓reduceIte,e0,e3,hlt',hfl,gk,q1',q2',g0,g1,q3,q4',g2,hfe,hfc,q5,Int.toNat_natCast];refine⟨k+1,_,Ni.refl _,(hI _ _ _).2 ?_,by omega⟩;simp(disch:=omega) only[go_sem,↓reduceIte,e0,e3,hwd];(repeat' apply And.intro)<;>(try first | rfl | assumption | omega);exact yes (by rw[hs,decide_eq_true q5,Bool.or_true])
       ·simp(disch:=omega) only[go_sem,↓reduceIte,e0,e3,hlt',hfl,gk,q1',q2',g0,g1,q3,q4',g2,hfe,hfc,q5,Int.toNat_natCast];exact Nu.refl ⟨by rw[no (by rw[he,hs,decide_eq_false q5];rfl)],rfl⟩
      ·have q4': ¬(c.l.length:Int)=1:=by omega
       have hs:Bu a.c=false:=by
        rw[hc,Bu];split
        ·rename_i hx;rw[hx] at q4;simp at q4
        ·simp
       simp(disch:=omega) only[go_sem,↓reduceIte,e0,e3,hlt',hfl,gk,q1',q2',g0,g1,q3,q4',hfc,Int.toNat_natCast];exact Nu.refl ⟨by rw[no (by rw[he,hs];rfl)],rfl⟩
     ·simp(disch:=omega) only[go_sem,↓reduceIte,e0,e3,hlt',hfl,gk,q1',q2',g0,g1,q3,hfc,Int.toNat_natCast];exact Nu.refl ⟨by rw[no (by rw[he,hc];simp [Bu,q3])],rfl⟩
    ·have q2': ¬(a.c.length:Int)=1:=by omega
     simp(disch:=omega) only[go_sem,↓reduceIte,e0,e3,hlt',hfl,gk,q1',q2',Int.toNat_natCast];refine⟨k+1,_,Ni.refl _,(hI _ _ _).2 ?_,by omega⟩;simp(disch:=omega) only[go_sem,↓reduceIte,e0,e3,hwd];(repeat' apply And.intro)<;>(try first | rfl | assumption | omega);exact yes (by rw[Ab,decide_eq_true (by omega),Bool.true_or])
   ·have:k=l.length:=by omega
    subst this;rw[List.take_length] at hn;simp(disch:=omega) only[go_sem,↓reduceIte,e0,e3];exact Nu.refl ⟨by simp [List.all_eq_true.2 hn],rfl⟩
theorem Nl (G:Nat->DVal) (H:Ac) (l:List Ch) (hl:l.length<=1099511627776):Ai Tryz.prog G 122 [.vslice (l.flatMap dCh) l.length] H (Au (.bool (Cq l)) H):=by
 have hfl:=An Bd l;refine Ad Tryz.func122 Tryz.call122 rfl (by kernel_rfl) ?_;by_cases h1:l.length<1
 ·have h1':(l.length:Int)<1:=by omega
  simp(disch:=omega) only[go_sem,↓reduceIte,h1'];exact Nu.refl ⟨by rw[Cq,decide_eq_false (show¬0<l.length by omega),Bool.false_and,Bool.false_and],rfl⟩
 have h1': ¬(l.length:Int)<1:=by omega
 by_cases h2:16<l.length
 ·have h2':(16:Int)<(l.length:Int):=by omega
  simp(disch:=omega) only[go_sem,↓reduceIte,h1',h2'];exact Nu.refl ⟨by rw[Cq,decide_eq_false (show¬l.length<=16 by omega),Bool.and_false,Bool.false_and],rfl⟩
 have h2': ¬(16:Int)<(l.length:Int):=by omega
 have hd:Cq l=l.all (Cr l.length):=by
  rw[Cq,decide_eq_true (show 0<l.length by omega),decide_eq_true (show l.length<=16 by omega),Bool.true_and,Bool.true_and]
 rw[hd];simp(disch:=omega) only[go_sem,↓reduceIte,h1',h2'];obtain⟨I,hI⟩: ∃I:Nat->(Nat->DVal)->Ac->Prop,∀k env heap,I k env heap↔(env 0= .vslice (l.flatMap dCh) l.length/\env 3=dI k/\k<=l.length/\(∀a∈l.take k,Cr l.length a=true)/\heap=H):=⟨_,fun _ _ _=>Iff.rfl⟩;refine Bt4.run I (fun k=>l.length-k) 0 ((hI _ _ _).2 ?_) ?_
 ·simp(disch:=omega) only[go_sem,↓reduceIte];(repeat' apply And.intro)<;>(try first | rfl | assumption | omega);intro a ha;simp at ha
 ·intro k env heap hi;obtain⟨e0,e3,hk,hn,rfl⟩:=(hI _ _ _).1 hi;by_cases hlt:k<l.length
  ·have hlt':(k:Int)<(l.length:Int):=by omega
   have gk:=Bs Bd l k hlt 0 (by decide);have gl:=Bs Bd l k hlt 1 (by decide);rw[Bv2,Nat.add_zero] at gk;rw[Yd] at gl;have hwd:IntKind.i64.wrap ((k:Int)+1)=((k+1:Nat):Int):=by rw[IntKind.wrap_i64];omega
   have no:Cr l.length l[k]=false->l.all (Cr l.length)=false:=fun h=>by
    rw[List.all_eq_false];exact⟨l[k],List.getElem_mem hlt,by rw[h];simp⟩
   have yes:Cr l.length l[k]=true-> ∀x∈l.take (k+1),Cr l.length x=true:=fun h=>It (p:=fun x=>Cr l.length x=true) hlt hn h;obtain⟨c,hc⟩: ∃c,c=l[k]:=⟨_,rfl⟩;rw[<-hc] at gk gl no yes;by_cases k1:c.kind=1
   ·by_cases q:c.l.length=1
    ·have q':(c.l.length:Int)=1:=by omega
     simp(disch:=omega) only[go_sem,↓reduceIte,e0,e3,hlt',hfl,gk,gl,k1,q',Int.toNat_natCast];refine⟨k+1,_,Ni.refl _,(hI _ _ _).2 ?_,by omega⟩;simp(disch:=omega) only[go_sem,↓reduceIte,e0,e3,hwd];(repeat' apply And.intro)<;>(try first | rfl | assumption | omega);exact yes (by simp [Cr,k1,q])
    ·have q': ¬(c.l.length:Int)=1:=by omega
     simp(disch:=omega) only[go_sem,↓reduceIte,e0,e3,hlt',hfl,gk,gl,k1,q',Int.toNat_natCast];exact Nu.refl ⟨by rw[no (by simp [Cr,k1,q])],rfl⟩
   by_cases k2:c.kind=2
   ·by_cases q:c.l.length=2
    ·have q':(c.l.length:Int)=2:=by omega
     simp(disch:=omega) only[go_sem,↓reduceIte,e0,e3,hlt',hfl,gk,gl,k2,q',Int.toNat_natCast];refine⟨k+1,_,Ni.refl _,(hI _ _ _).2 ?_,by omega⟩;simp(disch:=omega) only[go_sem,↓reduceIte,e0,e3,hwd];(repeat' apply And.intro)<;>(try first | rfl | assumption | omega);exact yes (by simp [Cr,k2,q])
    ·have q': ¬(c.l.length:Int)=2:=by omega
     simp(disch:=omega) only[go_sem,↓reduceIte,e0,e3,hlt',hfl,gk,gl,k2,q',Int.toNat_natCast];exact Nu.refl ⟨by rw[no (by simp [Cr,k2,q])],rfl⟩
   by_cases k3:c.kind=3
   ·by_cases q:c.l.length=0
    ·have q':(c.l.length:Int)=0:=by omega
     by_cases q2:1<l.length
     ·have q2':(1:Int)<(l.length:Int):=by omega
      simp(disch:=omega) only[go_sem,↓reduceIte,e0,e3,hlt',hfl,gk,gl,k3,q',q2',Int.toNat_natCast];exact Nu.refl ⟨by rw[no (by simp [Cr,k3,q];omega)],rfl⟩
     ·have q2': ¬(1:Int)<(l.length:Int):=by omega
      simp(disch:=omega) only[go_sem,↓reduceIte,e0,e3,hlt',hfl,gk,gl,k3,q',q2',Int.toNat_natCast];refine⟨k+1,_,Ni.refl _,(hI _ _ _).2 ?_,by omega⟩;simp(disch:=omega) only[go_sem,↓reduceIte,e0,e3,hwd];(repeat' apply And.intro)<;>(try first | rfl | assumption | omega);exact yes (by simp [Cr,k3,q];omega)
    ·have q': ¬(c.l.length:Int)=0:=by omega
     simp(disch:=omega) only[go_sem,↓reduceIte,e0,e3,hlt',hfl,gk,gl,k3,q',Int.toNat_natCast];exact Nu.refl ⟨by rw[no (by simp [Cr,k3,q])],rfl⟩
   ·have q': ¬(c.l.length:Int)= -1:=by omega
    simp(disch:=omega) only[go_sem,↓reduceIte,e0,e3,hlt',hfl,gk,gl,k1,k2,k3,q',Int.toNat_natCast];exact Nu.refl ⟨by rw[no (by simp [Cr,k1,k2,k3])],rfl⟩
  ·have:k=l.length:=by omega
   subst this;rw[List.take_length] at hn;simp(disch:=omega) only[go_sem,↓reduceIte,e0,e3];exact Nu.refl ⟨by rw[List.all_eq_true.2 hn],rfl⟩
end
end Go.Dl
