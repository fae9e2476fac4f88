/- The data level and the contracts of the functions that are reached (part 10). -/
import Derived.Test.YtddbdpcgikmiaaaGreatDoorPgi
set_option linter.unusedSimpArgs false
set_option linter.unusedVariables false
set_option linter.unusedSectionVars false
-- Cm
namespace Go.Dl
open Go Go.Proofs
set_option maxRecDepth 100000
theorem Fg4 {w r x:List DVal} (hw:w.length=9):x++List.drop 9 (w++r)=x++r:=by rw[List.drop_left' hw]
theorem Fg5 {m n:Nat} {pre w r x:List DVal} (hp:pre.length=m) (hw:w.length=9) (C:n=m+9):List.take m (pre++(w++r))++x++List.drop n (pre++(w++r))=(pre++x)++r:=by
 subst C;rw[List.take_left' hp,<-List.drop_drop,List.drop_left' hp,List.drop_left' hw]
theorem Fg6 {m n:Nat} {pre w x:List DVal} (hp:pre.length=m) (hw:w.length=9) (C:n=m+9):List.take m (pre++w)++x++List.drop n (pre++w)=pre++x:=by
 subst C;rw[List.take_left' hp,<-List.drop_drop,List.drop_left' hp,List.drop_eq_nil_of_le (by omega),jH]
theorem Em1 {x y z:List DVal} (hx:x.length=9) (D:y.length=9) (hz:z.length=9):
  (if 9<=(Cd 3 [DVal.int .u8 0,DVal.int .u8 0,DVal.int .i64 0,DVal.str [],DVal.nilSlice,DVal.nilSlice,DVal.int .i64 0,DVal.int .i64 0,DVal.int .i64 0]).length then(if 18<=(x++List.drop 9 (Cd 3 [DVal.int .u8 0,DVal.int .u8 0,DVal.int .i64 0,DVal.str [],DVal.nilSlice,DVal.nilSlice,DVal.int .i64 0,DVal.int .i64 0,DVal.int .i64 0])).length then(if 27<=(List.take 9 (x++List.drop 9 (Cd 3 [DVal.int .u8 0,DVal.int .u8 0,DVal.int .i64 0,DVal.str [],DVal.nilSlice,DVal.nilSlice,DVal.int .i64 0,DVal.int .i64 0,DVal.int .i64 0]))++y++List.drop 18 (x++List.drop 9 (Cd 3 [DVal.int .u8 0,DVal.int .u8 0,DVal.int .i64 0,DVal.str [],DVal.nilSlice,DVal.nilSlice,DVal.int .i64 0,DVal.int .i64 0,DVal.int .i64 0]))).length then some (List.take 18 (List.take 9 (x++List.drop 9 (Cd 3 [DVal.int .u8 0,DVal.int .u8 0,DVal.int .i64 0,DVal.str [],DVal.nilSlice,DVal.nilSlice,DVal.int .i64 0,DVal.int .i64 0,DVal.int .i64 0]))++y++List.drop 18 (x++List.drop 9 (Cd 3 [DVal.int .u8 0,DVal.int .u8 0,DVal.int .i64 0,DVal.str [],DVal.nilSlice,DVal.nilSlice,DVal.int .i64 0,DVal.int .i64 0,DVal.int .i64 0])))++z++List.drop 27 (List.take 9 (x++List.drop 9 (Cd 3 [DVal.int .u8 0,DVal.int .u8 0,DVal.int .i64 0,DVal.str [],DVal.nilSlice,DVal.nilSlice,DVal.int .i64 0,DVal.int .i64 0,DVal.int .i64 0]))++y++List.drop 18 (x++List.drop 9 (Cd 3 [DVal.int .u8 0,DVal.int .u8 0,DVal.int .i64 0,DVal.str [],DVal.nilSlice,DVal.nilSlice,DVal.int .i64 0,DVal.int .i64 0,DVal.int .i64 0])))) else none) else none) else none)=some (x++y++z):=by
 have e: ∀w:List DVal,Cd 3 w=w++(w++(w)):=fun w=>by simp [Cd]
 obtain⟨w,hw⟩: ∃w:List DVal,w= [DVal.int .u8 0,DVal.int .u8 0,DVal.int .i64 0,DVal.str [],DVal.nilSlice,DVal.nilSlice,DVal.int .i64 0,DVal.int .i64 0,DVal.int .i64 0]:=⟨_,rfl⟩;have C:w.length=9:=by rw[hw];rfl
 rw[<-hw,e];clear hw e;rw[Fg4 C];rw[Fg5 (pre:=x) (m:=9) (n:=18) (by simp [hx]) C rfl];rw[Fg6 (pre:=(x++y)) (m:=18) (n:=27) (by simp [hx,D]) C rfl]
 repeat rw [if_pos (by simp [C,hx,D,hz])]
theorem Em2 {x y z u:List DVal} (hx:x.length=9) (D:y.length=9) (hz:z.length=9) (E:u.length=9):
  (if 9<=(Cd 4 [DVal.int .u8 0,DVal.int .u8 0,DVal.int .i64 0,DVal.str [],DVal.nilSlice,DVal.nilSlice,DVal.int .i64 0,DVal.int .i64 0,DVal.int .i64 0]).length then(if 18<=(x++List.drop 9 (Cd 4 [DVal.int .u8 0,DVal.int .u8 0,DVal.int .i64 0,DVal.str [],DVal.nilSlice,DVal.nilSlice,DVal.int .i64 0,DVal.int .i64 0,DVal.int .i64 0])).length then(if 27<=(List.take 9 (x++List.drop 9 (Cd 4 [DVal.int .u8 0,DVal.int .u8 0,DVal.int .i64 0,DVal.str [],DVal.nilSlice,DVal.nilSlice,DVal.int .i64 0,DVal.int .i64 0,DVal.int .i64 0]))++y++List.drop 18 (x++List.drop 9 (Cd 4 [DVal.int .u8 0,DVal.int .u8 0,DVal.int .i64 0,DVal.str [],DVal.nilSlice,DVal.nilSlice,DVal.int .i64 0,DVal.int .i64 0,DVal.int .i64 0]))).length then(if 36<=(List.take 18 (List.take 9 (x++List.drop 9 (Cd 4 [DVal.int .u8 0,DVal.int .u8 0,DVal.int .i64 0,DVal.str [],DVal.nilSlice,DVal.nilSlice,DVal.int .i64 0,DVal.int .i64 0,DVal.int .i64 0]))++y++List.drop 18 (x++List.drop 9 (Cd 4 [DVal.int .u8 0,DVal.int .u8 0,DVal.int .i64 0,DVal.str [],DVal.nilSlice,DVal.nilSlice,DVal.int .i64 0,DVal.int .i64 0,DVal.int .i64 0])))++z++List.drop 27 (List.take 9 (x++List.drop 9 (Cd 4 [DVal.int .u8 0,DVal.int .u8 0,DVal.int .i64 0,DVal.str [],DVal.nilSlice,DVal.nilSlice,DVal.int .i64 0,DVal.int .i64 0,DVal.int .i64 0]))++y++List.drop 18 (x++List.drop 9 (Cd 4 [DVal.int .u8 0,DVal.int .u8 0,DVal.int .i64 0,DVal.str [],DVal.nilSlice,DVal.nilSlice,DVal.int .i64 0,DVal.int .i64 0,DVal.int .i64 0])))).length then some (List.take 27 (List.take 18 (List.take 9 (x++List.drop 9 (Cd 4 [DVal.int .u8 0,DVal.int .u8 0,DVal.int .i64 0,DVal.str [],DVal.nilSlice,DVal.nilSlice,DVal.int .i64 0,DVal.int .i64 0,DVal.int .i64 0]))++y++List.drop 18 (x++List.drop 9 (Cd 4 [DVal.int .u8 0,DVal.int .u8 0,DVal.int .i64 0,DVal.str [],DVal.nilSlice,DVal.nilSlice,DVal.int .i64 0,DVal.int .i64 0,DVal.int .i64 0])))++z++List.drop 27 (List.take 9 (x++List.drop 9 (Cd 4 [DVal.int .u8 0,DVal.int .u8 0,DVal.int .i64 0,DVal.str [],DVal.nilSlice,DVal.nilSlice,DVal.int .i64 0,DVal.int .i64 0,DVal.int .i64 0]))++y++List.drop 18 (x++List.drop 9 (Cd 4 [DVal.int .u8 0,DVal.int .u8 0,DVal.int .i64 0,DVal.str [],DVal.nilSlice,DVal.nilSlice,DVal.int .i64 0,DVal.int .i64 0,DVal.int .i64 0]))))++u++List.drop 36 (List.take 18 (List.take 9 (x++List.drop 9 (Cd 4 [DVal.int .u8 0,DVal.int .u8 0,DVal.int .i64 0,DVal.str [],DVal.nilSlice,DVal.nilSlice,DVal.int .i64 0,DVal.int .i64 0,DVal.int .i64 0]))++y++List.drop 18 (x++List.drop 9 (Cd 4 [DVal.int .u8 0,DVal.int .u8 0,DVal.int .i64 0,DVal.str [],DVal.nilSlice,DVal.nilSlice,DVal.int .i64 0,DVal.int .i64 0,DVal.int .i64 0])))++z++List.drop 27 (List.take 9 (x++List.drop 9 (Cd 4 [DVal.int .u8 0,DVal.int .u8 0,DVal.int .i64 0,DVal.str [],DVal.nilSlice,DVal.nilSlice,DVal.int .i64 0,DVal.int .i64 0,DVal.int .i64 0]))++y++List.drop 18 (x++List.drop 9 (Cd 4 [DVal.int .u8 0,DVal.int .u8 0,DVal.int .i64 0,DVal.str [],DVal.nilSlice,DVal.nilSlice,DVal.int .i64 0,DVal.int .i64 0,DVal.int .i64 0]))))) else none) else none) else none) else none)=some (x++y++z++u):=by
 have e: ∀w:List DVal,Cd 4 w=w++(w++(w++(w))):=fun w=>by simp [Cd]
 obtain⟨w,hw⟩: ∃w:List DVal,w= [DVal.int .u8 0,DVal.int .u8 0,DVal.int .i64 0,DVal.str [],DVal.nilSlice,DVal.nilSlice,DVal.int .i64 0,DVal.int .i64 0,DVal.int .i64 0]:=⟨_,rfl⟩;have C:w.length=9:=by rw[hw];rfl
 rw[<-hw,e];clear hw e;rw[Fg4 C];rw[Fg5 (pre:=x) (m:=9) (n:=18) (by simp [hx]) C rfl];rw[Fg5 (pre:=(x++y)) (m:=18) (n:=27) (by simp [hx,D]) C rfl];rw[Fg6 (pre:=(x++y++z)) (m:=27) (n:=36) (by simp [hx,D,hz]) C rfl]
 repeat rw [if_pos (by simp [C,hx,D,hz,E])]
section
variable (t:Typ)
theorem Fx9:((Cl t).drop 20).take 9=dEx t.sub.name:=by
 simp only[Cl,Dv,Dy,jE,jO];rw[Dz _ _ 9,Dz _ _ 0,jJ,Qg]
theorem Fy0:((Cl t).drop 29).take 9=dEx t.sub.lo:=by
 simp only[Cl,Dv,Dy,jE,jO];rw[Dz _ _ 18,Dz _ _ 9,Dz _ _ 0,jJ,Qg]
theorem Fy1:((Cl t).drop 38).take 9=dEx t.sub.hi:=by
 simp only[Cl,Dv,Dy,jE,jO];rw[Dz _ _ 27,Dz _ _ 18,Dz _ _ 9,Dz _ _ 0,jJ,Qg]
theorem Fy2:((Cl t).drop 47).take 9=dEx t.sub.value:=by
 simp only[Cl,Dv,Dy,jE,jO];rw[Dz _ _ 36,Dz _ _ 27,Dz _ _ 18,Dz _ _ 9,Dz _ _ 0,jJ,Qg]
theorem Fy3:((Cl t).drop 56).take 9=dEx t.disc.name:=by
 simp only[Cl,Dv,Dy,jE,jO];rw[Dz _ _ 45,Dz _ _ 36,Dz _ _ 27,Dz _ _ 18,Dz _ _ 9,Dz _ _ 0,jJ,Qg]
theorem Fy4:((Cl t).drop 65).take 9=dEx t.disc.lo:=by
 simp only[Cl,Dv,Dy,jE,jO];rw[Dz _ _ 54,Dz _ _ 45,Dz _ _ 36,Dz _ _ 27,Dz _ _ 18,Dz _ _ 9,Dz _ _ 0,jJ,Qg]
theorem Fy5:((Cl t).drop 74).take 9=dEx t.disc.hi:=by
 simp only[Cl,Dv,Dy,jE,jO];rw[Dz _ _ 63,Dz _ _ 54,Dz _ _ 45,Dz _ _ 36,Dz _ _ 27,Dz _ _ 18,Dz _ _ 9,Dz _ _ 0,jJ,Qg]
end
theorem xft:(false==true)=false:=rfl
theorem xtf:(true==false)=false:=rfl
theorem xff:(false==false)=true:=rfl
theorem xtt:(true==true)=true:=rfl
theorem Gn9 (G:Nat->DVal) (H:Ac) (l:List Int) (t:Int) (hl:l.length<=1099511627776):
  Ag Tryz.prog G 211 [.vslice (l.map (.int .u8)) l.length, .int .u8 t] H (Ax (dI (Bl3 (fun x=>decide (t=x)) l)) H):=by
 refine Ab Tryz.func211 Tryz.call211 rfl (by kernel_rfl) ?_;simp(disch:=omega)only[go_sem];refine Dr7.run (fun(i:Nat) env heap=>heap=H/\env 0= .vslice (l.map (.int .u8)) l.length/\env 1= .int .u8 t/\env 7=dI l.length/\env 8=dI i/\i<=l.length/\ ∀x∈l.take i,decide (t=x)=false) (fun i=>l.length-i) 0 ?_ ?_
 ·simp(disch:=omega)only[go_sem];simp
 ·rintro i env heap ⟨rfl,h0,h1,h7,h8,hi,hn⟩;by_cases C:i<l.length
  ·have D:(l.map (DVal.int .u8))[i]? =some (.int .u8 l[i]):=by rw[List.getElem?_map,List.getElem?_eq_getElem C];rfl
   by_cases hx:t=l[i]
   ·simp(disch:=omega)only[go_sem,h0,h1,h7,h8,D,<-hx,jK];exact Fa.refl ⟨by rw[Ap5 C (by simp [hx]) hn],rfl⟩
   ·simp(disch:=omega)only[go_sem,h0,h1,h7,h8,D,hx,jK];refine⟨i+1,_,Rz.refl _, ?_,by omega⟩;simp(disch:=omega)only[go_sem,h0,h1,h7,h8];(repeat' apply And.intro)<;>(try first | rfl | assumption | omega);exact On C hn (by simp [hx])
  ·simp(disch:=omega)only[go_sem,h0,h1,h7,h8];have:i=l.length:=by omega
   subst this;rw[List.take_length] at hn;exact Fa.refl ⟨by rw[Ap6 hn],rfl⟩
theorem Em3 (G:Nat->DVal) (H:Ac) (l:List Int) (t:Int) (hl:l.length<=1099511627776):
  Ag Tryz.prog G 111 [.vslice (l.map (.int .u8)) l.length, .int .u8 t] H (Ax (.bool (l.any fun x=>decide (t=x))) H):=by
 refine Ab Tryz.func111 Tryz.call111 rfl (by kernel_rfl) ?_;simp(disch:=omega)only[go_sem];refine(Gn9 G H l t hl).mono ?_;rintro _ H ⟨rfl,rfl⟩;simp(disch:=omega)only[go_sem];exact Fa.refl ⟨by rw[Aa9],rfl⟩
theorem Pa (G:Nat->DVal) (K:Ac) (t:Typ) (C q:Nat) (l:List Int) (b:Bool) (D:K C=some (.cells (Cl t) 62)) (E:K q=none) (hl:l.length<=1000) (hb:(l.any fun x=>decide (t.kind=x))=b):
  Ag Tryz.prog G 110 [.oslice 1 q 0 l.length l.length, .optr C 0] (upd K q (some (.cells (l.map (.int .u8)) 53))) (Ax (.bool b) K):=by
 subst hb;refine Ag.fzA q E ?_;have n:C≠q:=Af E D;simp only[fzs,fz,if_neg n,if_pos,jJ,Nat.mul_one];rw[List.take_of_length_le (by simp)];refine Ab Tryz.func110 Tryz.call110 rfl (by kernel_rfl) ?_;simp(disch:=omega)only[go_sem,D,Mp,Bt];refine Ag.monoR (Em3 G K l t.kind (by omega)) ?_;simp(disch:=omega)only[go_sem];exact Fa.refl ⟨rfl,rfl⟩
theorem Be3 (G:Nat->DVal) (K:Ac) (l:List Ex) (q:Nat) (b:Bool) (cs:List DVal) (C:l.flatMap dEx=cs) (D:K q=none) (hl:l.length<=1099511627776) (hb: ∀x∈l,Dp 1048576 x) (hr:l.all noE=b):
  Ag Tryz.prog G 112 [.oslice 9 q 0 l.length l.length] (upd K q (some (.cells cs 27))) (Ax (.bool b) K):=by
 subst hr;subst C;refine Ag.fzA q D ?_;have hfl:=Aw Ad l;simp only[fzs,fz,if_pos,jJ];rw[List.take_of_length_le (by omega)];exact Cc9 G K l hl hb
theorem Bs4 {l:List Arm} {k:Nat} (C:k<l.length):Ui (l.take (k+1))=Ui (l.take k)+Hs l[k].comps:=by
 rw[Ui,Ui,List.take_add_one,List.getElem?_eq_getElem C,List.map_append,List.sum_append];simp
theorem As9 {l:List Cmp} (hl:Ks Sj 1048576 l):Hs l<=1099511627776:=by
 have h: ∀l:List Cmp,(∀x∈l,Sj 1048576 x)->Hs l<=l.length*1048576:=by
  intro l
  induction l with
  | nil=>intro _;simp [Hs]
  | cons x l ih=>
   intro h;have h1:=ih fun y C=>h y (List.mem_cons_of_mem _ C);have h2:=(h x (List.mem_cons_self ..)).1.1;have e:Hs (x::l)=x.names.length+Hs l:=by simp [Hs]
   rw[e,jA];omega
 have h1:=h l hl.2;have h2:=hl.1;omega
def Uu (t:Typ) (k:Nat):Nat:=Hs t.comps+Ui (t.arms.take k)
theorem Fg7 (t:Typ):Uu t 0=Hs t.comps:=by simp [Uu,Ui]
section
variable {G:Nat->DVal} (hG:GX G)
include hG
theorem Go0 (K:Ac) (l:List Ex) (q:Nat) (b:Bool) (cs:List DVal) (C:l.flatMap dEx=cs) (D:K q=none) (hl:l.length<=1099511627776) (hb: ∀x∈l,Dp 1048576 x) (hr:l.all Ci=b):
  Ag Tryz.prog G 102 [.oslice 9 q 0 l.length l.length] (upd K q (some (.cells cs 27))) (Ax (.bool b) K):=by
 subst hr;subst C;refine Ag.fzA q D ?_;have hfl:=Aw Ad l;simp only[fzs,fz,if_pos,jJ];rw[List.take_of_length_le (by omega)];exact Bs3 hG K l hl hb
set_option maxHeartbeats 40000000 in
theorem Cy9 (H:Ac) (t:Typ) (ht:Oy 1048576 t):Ag Tryz.prog G 107 [.agg (Cl t)] H (Ax (.bool (Lu t)) H):=by
 obtain⟨f0,f1,f2,f3,f4,f5,f6,f7⟩:=ht;have a7:=f7.1;refine Ab Tryz.func107 Tryz.call107 rfl (by kernel_rfl) ?_;simp(disch:=omega)only[go_sem,DVal.cells];intro r1 aj;dsimp only at aj;obtain⟨K,hK⟩: ∃K',K'=upd H r1 (some (.cells (Cl t) 62)):=⟨_,rfl⟩;rw[<-hK];have L:K r1=some (.cells (Cl t) 62):=by rw[hK];exact Aa _ _ _
 have M:Sub H K:=by rw[hK];exact(Sub.refl _).new aj _
 simp(disch:=omega)only[go_sem,L,Bt,Mp,Ng,Nh,Iv,Iw,Ix,Iy,Iz,Ja,Jb];refine Ag.monoR (Am2 hG K t.comps f5) ?_;cases h1:t.comps.all Kc
 ·simp(disch:=omega)only[go_sem,L,Bt,Mp,Ng,Nh,Iv,Iw,Ix,Iy,Iz,Ja,Jb];exact Fa.sub M (.refl ⟨by simp [Lu,h1],rfl⟩)
 by_cases h2:16<t.arms.length
 ·have aa:(16:Int)<(t.arms.length:Int):=by omega
  simp(disch:=omega)only[go_sem,L,Bt,Mp,Ng,Nh,Iv,Iw,Ix,Iy,Iz,Ja,Jb,Ey,aa];exact Fa.sub M (.refl ⟨by simp [Lu,h1];omega,rfl⟩)
 have aa: ¬(16:Int)<(t.arms.length:Int):=by omega
 by_cases hv:t.var= []
 ·by_cases ha:t.arms.length=0
  ·have U:(t.arms.length:Int)=0:=by omega
   have Y:Lu t=(t.arms.all Jr&&decide (Hs t.comps+Ui t.arms<=32)):=by simp [Lu,h1,hv,ha]
   simp(disch:=omega)only[go_sem,L,Bt,Mp,Ng,Nh,Iv,Iw,Ix,Iy,Iz,Ja,Jb,Ey,aa,hv,U,xft,xtf,xff,xtt];have ak:=As9 f5;obtain⟨I,Z⟩: ∃I:Nat->(Nat->DVal)->Ac->Prop,∀k env heap,I k env heap↔(env 1= .optr r1 0/\env 3=dI (Uu t k:Nat)/\env 45=Ey t.arms/\env 46=dI t.arms.length/\env 47=dI k/\k<=t.arms.length/\Uu t k<=(k+1)*1099511627776/\(∀x∈t.arms.take k,Jr x=true)/\heap=K):=⟨_,fun _ _ _=>Iff.rfl⟩;refine Dr7.run I (fun k=>t.arms.length-k) 0 ((Z _ _ _).2 ?_) ?_
   ·simp(disch:=omega)only[go_sem,Ey,Fg7];simp;try omega
   ·try clear U
    try clear ha
    intro k env heap hi;obtain⟨e1,C,D,E,J,hk,hs,hp,rfl⟩:=(Z _ _ _).1 hi;by_cases V:k<t.arms.length
    ·have ae:(k:Int)<(t.arms.length:Int):=by omega
     have af:IntKind.i64.wrap ((k:Int)+1)=((k+1:Nat):Int):=by rw[IntKind.wrap_i64];omega
     have mx:=List.getElem_mem V;have hst:Jr t.arms[k]=true-> ∀x∈t.arms.take (k+1),Jr x=true:=Cd0 V hp;have ab:Uu t (k+1)=Uu t k+Hs t.arms[k].comps:=by rw[Uu,Bs4 V,Uu];omega
     have ac:=Co Ct t.arms k V;obtain⟨x,hx⟩: ∃x,x=t.arms[k]:=⟨_,rfl⟩;rw[<-hx] at ac mx hst ab;have W:=f7.2 x mx;have fn:=As9 W.2;have fc:=W.1.1;have ad:IntKind.i64.wrap ((Uu t k:Nat)+(Hs x.comps:Int))=((Uu t (k+1):Nat):Int):=by
      rw[ab,IntKind.wrap_i64];omega
     simp(disch:=omega)only[go_sem,L,Bt,Mp,Ng,Nh,Iv,Iw,Ix,Iy,Iz,Ja,Jb,e1,C,D,E,J,Ey,ae,Aw Ct,jD,ac];intro O X;dsimp only at X;have S:upd heap O (some (.cells (La x) 164)) O=some (.cells (La x) 164):=Aa _ _ _;simp(disch:=omega)only[go_sem,e1,C,D,E,J,S,Ct,Qh,Qi];refine Ag.monoR (Am2 hG _ x.comps W.2) ?_;cases h3:x.comps.all Kc
     ·simp(disch:=omega)only[go_sem,e1,C,D,E,J,S,Ct,Qh,Qi];exact Fa.dropA O X (Fa.sub M (.refl ⟨by rw[Y,Bh2 mx (by simp [Jr,h3])];rfl,rfl⟩))
     simp(disch:=omega)only[go_sem,e1,C,D,E,J,S,Ct,Qh,Qi];refine Ag.monoR (Ob hG _ x.c (by omega) W.1.2) ?_;cases h4:Kq x.c
     ·simp(disch:=omega)only[go_sem,e1,C,D,E,J,S,Ct,Qh,Qi];exact Fa.dropA O X (Fa.sub M (.refl ⟨by rw[Y,Bh2 mx (by simp [Jr,h4])];rfl,rfl⟩))
     simp(disch:=omega)only[go_sem,e1,C,D,E,J,S,Ct,Qh,Qi,ad];refine⟨k+1,_,Rz.drop _ O,(Z _ _ _).2 ?_,by omega⟩;simp(disch:=omega)only[go_sem,e1,C,D,E,J,af,ad];(repeat' apply And.intro)<;>(try first | rfl | assumption | omega)
     ·exact hst (by simp [Jr,h3,h4])
     ·exact Aa8 X
    ·have:k=t.arms.length:=by omega
     subst this;have ag:=Cy8 hp;have hN:Uu t t.arms.length=Hs t.comps+Ui t.arms:=by rw[Uu,List.take_length]
     have ah: ¬(t.arms.length:Int)<(t.arms.length:Int):=by omega
     simp(disch:=omega)only[go_sem,e1,C,D,E,J,ah];exact Fa.sub M (.refl ⟨by rw[Y,ag,hN,jS];congr 2;simp;omega,rfl⟩)
  ·have U: ¬(t.arms.length:Int)=0:=by omega
   simp(disch:=omega)only[go_sem,L,Bt,Mp,Ng,Nh,Iv,Iw,Ix,Iy,Iz,Ja,Jb,Ey,aa,hv,U,xft,xtf,xff,xtt];have ai: ¬t.arms= []:=fun e=>ha (by rw[e];rfl);exact Fa.sub M (.refl ⟨by simp [Lu,h1,hv,ai],rfl⟩)
 ·by_cases ha:t.arms.length=0
  ·have U:(t.arms.length:Int)=0:=by omega
   simp(disch:=omega)only[go_sem,L,Bt,Mp,Ng,Nh,Iv,Iw,Ix,Iy,Iz,Ja,Jb,Ey,aa,hv,U,xft,xtf,xff,xtt];exact Fa.sub M (.refl ⟨by simp [Lu,h1,hv,ha],rfl⟩)
  ·have U: ¬(t.arms.length:Int)=0:=by omega
   simp(disch:=omega)only[go_sem,L,Bt,Mp,Ng,Nh,Iv,Iw,Ix,Iy,Iz,Ja,Jb,Ey,aa,hv,U,xft,xtf,xff,xtt];refine Ag.monoR (Ak1 hG K t.var f6.1) ?_;cases h3:Nv t.var
   ·simp(disch:=omega)only[go_sem,L,Bt,Mp,Ng,Nh,Iv,Iw,Ix,Iy,Iz,Ja,Jb];exact Fa.sub M (.refl ⟨by simp [Lu,hv,h3],rfl⟩)
   ·have Y:Lu t=(t.arms.all Jr&&decide (Hs t.comps+Ui t.arms<=32)):=by
     have al:t.arms.length<=16:=by omega
     have ai: ¬t.arms= []:=fun e=>ha (by rw[e];rfl);simp [Lu,h1,hv,ai,h3,al]
    simp(disch:=omega)only[go_sem,L,Bt,Mp,Ng,Nh,Iv,Iw,Ix,Iy,Iz,Ja,Jb,Ey];have ak:=As9 f5;obtain⟨I,Z⟩: ∃I:Nat->(Nat->DVal)->Ac->Prop,∀k env heap,I k env heap↔(env 1= .optr r1 0/\env 3=dI (Uu t k:Nat)/\env 45=Ey t.arms/\env 46=dI t.arms.length/\env 47=dI k/\k<=t.arms.length/\Uu t k<=(k+1)*1099511627776/\(∀x∈t.arms.take k,Jr x=true)/\heap=K):=⟨_,fun _ _ _=>Iff.rfl⟩;refine Dr7.run I (fun k=>t.arms.length-k) 0 ((Z _ _ _).2 ?_) ?_
    ·simp(disch:=omega)only[go_sem,Ey,Fg7];simp;try omega
    ·try clear U
     try clear ha
     intro k env heap hi;obtain⟨e1,C,D,E,J,hk,hs,hp,rfl⟩:=(Z _ _ _).1 hi;by_cases V:k<t.arms.length
     ·have ae:(k:Int)<(t.arms.length:Int):=by omega
      have af:IntKind.i64.wrap ((k:Int)+1)=((k+1:Nat):Int):=by rw[IntKind.wrap_i64];omega
      have mx:=List.getElem_mem V;have hst:Jr t.arms[k]=true-> ∀x∈t.arms.take (k+1),Jr x=true:=Cd0 V hp;have ab:Uu t (k+1)=Uu t k+Hs t.arms[k].comps:=by rw[Uu,Bs4 V,Uu];omega
      have ac:=Co Ct t.arms k V;obtain⟨x,hx⟩: ∃x,x=t.arms[k]:=⟨_,rfl⟩;rw[<-hx] at ac mx hst ab;have W:=f7.2 x mx;have fn:=As9 W.2;have fc:=W.1.1;have ad:IntKind.i64.wrap ((Uu t k:Nat)+(Hs x.comps:Int))=((Uu t (k+1):Nat):Int):=by
       rw[ab,IntKind.wrap_i64];omega
      simp(disch:=omega)only[go_sem,L,Bt,Mp,Ng,Nh,Iv,Iw,Ix,Iy,Iz,Ja,Jb,e1,C,D,E,J,Ey,ae,Aw Ct,jD,ac];intro O X;dsimp only at X;have S:upd heap O (some (.cells (La x) 164)) O=some (.cells (La x) 164):=Aa _ _ _;simp(disch:=omega)only[go_sem,e1,C,D,E,J,S,Ct,Qh,Qi];refine Ag.monoR (Am2 hG _ x.comps W.2) ?_;cases h3:x.comps.all Kc
      ·simp(disch:=omega)only[go_sem,e1,C,D,E,J,S,Ct,Qh,Qi];exact Fa.dropA O X (Fa.sub M (.refl ⟨by rw[Y,Bh2 mx (by simp [Jr,h3])];rfl,rfl⟩))
      simp(disch:=omega)only[go_sem,e1,C,D,E,J,S,Ct,Qh,Qi];refine Ag.monoR (Ob hG _ x.c (by omega) W.1.2) ?_;cases h4:Kq x.c
      ·simp(disch:=omega)only[go_sem,e1,C,D,E,J,S,Ct,Qh,Qi];exact Fa.dropA O X (Fa.sub M (.refl ⟨by rw[Y,Bh2 mx (by simp [Jr,h4])];rfl,rfl⟩))
      simp(disch:=omega)only[go_sem,e1,C,D,E,J,S,Ct,Qh,Qi,ad];refine⟨k+1,_,Rz.drop _ O,(Z _ _ _).2 ?_,by omega⟩;simp(disch:=omega)only[go_sem,e1,C,D,E,J,af,ad];(repeat' apply And.intro)<;>(try first | rfl | assumption | omega)
      ·exact hst (by simp [Jr,h3,h4])
      ·exact Aa8 X
     ·have:k=t.arms.length:=by omega
      subst this;have ag:=Cy8 hp;have hN:Uu t t.arms.length=Hs t.comps+Ui t.arms:=by rw[Uu,List.take_length]
      have ah: ¬(t.arms.length:Int)<(t.arms.length:Int):=by omega
      simp(disch:=omega)only[go_sem,e1,C,D,E,J,ah];exact Fa.sub M (.refl ⟨by rw[Y,ag,hN,jS];congr 2;simp;omega,rfl⟩)
theorem Gy8 (K:Ac) (t:Typ) (C:Nat) (D:Oy 1048576 t) (E:K C=some (.cells (Cl t) 62)):Ag Tryz.prog G 99 [.optr C 0] K (Ax (.bool (Il t.names 64)) K):=by
 obtain⟨I,J,L,M,O,S,U,V⟩:=D;refine Ab Tryz.func99 Tryz.call99 rfl (by kernel_rfl) ?_;simp(disch:=omega)only[go_sem,E,Bt,Mp,Ng,Nh,Iv,Iw,Ix,Iy,Iz,Ja,Jb,Al (Ad _),Bd (Ad _) (Ad _)];refine Ag.monoR (Am1 hG K t.names 64 I) ?_;simp(disch:=omega)only[go_sem];exact Fa.refl ⟨rfl,rfl⟩
theorem Gy9 (K:Ac) (t:Typ) (C:Nat) (D:Oy 1048576 t) (E:K C=some (.cells (Cl t) 62)):Ag Tryz.prog G 101 [.optr C 0] K (Ax (.bool (Ci t.lo&&Ci t.hi)) K):=by
 obtain⟨I,J,L,M,O,S,U,V⟩:=D;refine Ab Tryz.func101 Tryz.call101 rfl (by kernel_rfl) ?_;simp(disch:=omega)only[go_sem,E,Bt,Mp,Ng,Nh,Iv,Iw,Ix,Iy,Iz,Ja,Jb,Al (Ad _),Bd (Ad _) (Ad _)];intro q hq;dsimp only at hq;simp(disch:=omega)only[go_sem];refine Ag.monoR (Go0 hG K [t.lo,t.hi] q _ _ (by simp) hq (by simp) (by intro x hx;simp at hx;rcases hx with rfl | rfl<;>assumption) rfl) ?_;simp(disch:=omega)only[go_sem];exact Fa.refl ⟨by simp,rfl⟩
theorem Gz0 (K:Ac) (t:Typ) (C:Nat) (D:Oy 1048576 t) (E:K C=some (.cells (Cl t) 62)):Ag Tryz.prog G 103 [.optr C 0] K (Ax (.bool (En t.sub)) K):=by
 obtain⟨J,L,M,I,O,S,U,V⟩:=D;refine Ab Tryz.func103 Tryz.call103 rfl (by kernel_rfl) ?_;simp(disch:=omega)only[go_sem,E,Bt,Mp,Ng,Nh,Iv,Iw,Ix,Iy,Iz,Ja,Jb,Al (Ad _),Bd (Ad _) (Ad _)];refine Ag.monoR (Rv hG K t.sub I) ?_;simp(disch:=omega)only[go_sem];exact Fa.refl ⟨rfl,rfl⟩
theorem Gz1 (K:Ac) (t:Typ) (D:Nat) (E:Oy 1048576 t) (C:K D=some (.cells (Cl t) 62)):Ag Tryz.prog G 105 [.optr D 0] K (Ax (.bool (En t.sub&&Fh t.disc)) K):=by
 obtain⟨L,M,O,I,J,S,U,V⟩:=E;refine Ab Tryz.func105 Tryz.call105 rfl (by kernel_rfl) ?_;simp(disch:=omega)only[go_sem,C,Bt,Mp,Ng,Nh,Iv,Iw,Ix,Iy,Iz,Ja,Jb,Al (Ad _),Bd (Ad _) (Ad _)];refine Ag.monoR (Rv hG K t.sub I) ?_;cases h1:En t.sub
 ·simp(disch:=omega)only[go_sem,C,Bt,Mp,Ng,Nh,Iv,Iw,Ix,Iy,Iz,Ja,Jb];exact Fa.refl ⟨rfl,rfl⟩
 simp(disch:=omega)only[go_sem,C,Bt,Mp,Ng,Nh,Iv,Iw,Ix,Iy,Iz,Ja,Jb];refine Ag.monoR (Vq hG K t.disc J) ?_;simp(disch:=omega)only[go_sem];exact Fa.refl ⟨by simp,rfl⟩
theorem Gz2 (K:Ac) (t:Typ) (C:Nat) (D:Oy 1048576 t) (E:K C=some (.cells (Cl t) 62)):Ag Tryz.prog G 106 [.optr C 0] K (Ax (.bool (Lu t)) K):=by
 obtain⟨I,J,L,M,O,S,U,V⟩:=D;refine Ab Tryz.func106 Tryz.call106 rfl (by kernel_rfl) ?_;simp(disch:=omega)only[go_sem,E,Bt,Mp,Ng,Nh,Iv,Iw,Ix,Iy,Iz,Ja,Jb,Al (Ad _),Bd (Ad _) (Ad _)];refine Ag.monoR (Cy9 hG K t ⟨I,J,L,M,O,S,U,V⟩) ?_;simp(disch:=omega)only[go_sem];exact Fa.refl ⟨rfl,rfl⟩
theorem Gz3 (K:Ac) (t:Typ) (C:Nat) (D:Oy 1048576 t) (E:K C=some (.cells (Cl t) 62)):Ag Tryz.prog G 108 [.optr C 0] K (Ax (.bool (En t.sub)) K):=by
 obtain⟨J,L,M,I,O,S,U,V⟩:=D;refine Ab Tryz.func108 Tryz.call108 rfl (by kernel_rfl) ?_;simp(disch:=omega)only[go_sem,E,Bt,Mp,Ng,Nh,Iv,Iw,Ix,Iy,Iz,Ja,Jb,Al (Ad _),Bd (Ad _) (Ad _)];refine Ag.monoR (Rv hG K t.sub I) ?_;simp(disch:=omega)only[go_sem];exact Fa.refl ⟨rfl,rfl⟩
theorem Gz4 (K:Ac):Ag Tryz.prog G 109 [] K (Ax (.bool true) K):=by
 refine Ab Tryz.func109 Tryz.call109 rfl (by kernel_rfl) ?_;simp(disch:=omega)only[go_sem];exact Fa.refl ⟨rfl,rfl⟩
end
theorem Fy6 (a:Ex):
  (if 9<=(Cd 1 [DVal.int .u8 0,DVal.int .u8 0,DVal.int .i64 0,DVal.str [],DVal.nilSlice,DVal.nilSlice,DVal.int .i64 0,DVal.int .i64 0,DVal.int .i64 0]).length then some (dEx a++List.drop 9 (Cd 1 [DVal.int .u8 0,DVal.int .u8 0,DVal.int .i64 0,DVal.str [],DVal.nilSlice,DVal.nilSlice,DVal.int .i64 0,DVal.int .i64 0,DVal.int .i64 0])) else none)=some (dEx a):=Al (Ad _)
theorem Fy7 (a b:Ex):
  (if 9<=(Cd 2 [DVal.int .u8 0,DVal.int .u8 0,DVal.int .i64 0,DVal.str [],DVal.nilSlice,DVal.nilSlice,DVal.int .i64 0,DVal.int .i64 0,DVal.int .i64 0]).length then(if 18<=(dEx a++List.drop 9 (Cd 2 [DVal.int .u8 0,DVal.int .u8 0,DVal.int .i64 0,DVal.str [],DVal.nilSlice,DVal.nilSlice,DVal.int .i64 0,DVal.int .i64 0,DVal.int .i64 0])).length then some (List.take 9 (dEx a++List.drop 9 (Cd 2 [DVal.int .u8 0,DVal.int .u8 0,DVal.int .i64 0,DVal.str [],DVal.nilSlice,DVal.nilSlice,DVal.int .i64 0,DVal.int .i64 0,DVal.int .i64 0]))++dEx b++List.drop 18 (dEx a++List.drop 9 (Cd 2 [DVal.int .u8 0,DVal.int .u8 0,DVal.int .i64 0,DVal.str [],DVal.nilSlice,DVal.nilSlice,DVal.int .i64 0,DVal.int .i64 0,DVal.int .i64 0]))) else none) else none)=some (dEx a++dEx b):=Bd (Ad _) (Ad _)
theorem Fy8 (a b c:Ex):
  (if 9<=(Cd 3 [DVal.int .u8 0,DVal.int .u8 0,DVal.int .i64 0,DVal.str [],DVal.nilSlice,DVal.nilSlice,DVal.int .i64 0,DVal.int .i64 0,DVal.int .i64 0]).length then(if 18<=(dEx a++List.drop 9 (Cd 3 [DVal.int .u8 0,DVal.int .u8 0,DVal.int .i64 0,DVal.str [],DVal.nilSlice,DVal.nilSlice,DVal.int .i64 0,DVal.int .i64 0,DVal.int .i64 0])).length then(if 27<=(List.take 9 (dEx a++List.drop 9 (Cd 3 [DVal.int .u8 0,DVal.int .u8 0,DVal.int .i64 0,DVal.str [],DVal.nilSlice,DVal.nilSlice,DVal.int .i64 0,DVal.int .i64 0,DVal.int .i64 0]))++dEx b++List.drop 18 (dEx a++List.drop 9 (Cd 3 [DVal.int .u8 0,DVal.int .u8 0,DVal.int .i64 0,DVal.str [],DVal.nilSlice,DVal.nilSlice,DVal.int .i64 0,DVal.int .i64 0,DVal.int .i64 0]))).length then some (List.take 18 (List.take 9 (dEx a++List.drop 9 (Cd 3 [DVal.int .u8 0,DVal.int .u8 0,DVal.int .i64 0,DVal.str [],DVal.nilSlice,DVal.nilSlice,DVal.int .i64 0,DVal.int .i64 0,DVal.int .i64 0]))++dEx b++List.drop 18 (dEx a++List.drop 9 (Cd 3 [DVal.int .u8 0,DVal.int .u8 0,DVal.int .i64 0,DVal.str [],DVal.nilSlice,DVal.nilSlice,DVal.int .i64 0,DVal.int .i64 0,DVal.int .i64 0])))++dEx c++List.drop 27 (List.take 9 (dEx a++List.drop 9 (Cd 3 [DVal.int .u8 0,DVal.int .u8 0,DVal.int .i64 0,DVal.str [],DVal.nilSlice,DVal.nilSlice,DVal.int .i64 0,DVal.int .i64 0,DVal.int .i64 0]))++dEx b++List.drop 18 (dEx a++List.drop 9 (Cd 3 [DVal.int .u8 0,DVal.int .u8 0,DVal.int .i64 0,DVal.str [],DVal.nilSlice,DVal.nilSlice,DVal.int .i64 0,DVal.int .i64 0,DVal.int .i64 0])))) else none) else none) else none)=some (dEx a++dEx b++dEx c):=Em1 (Ad _) (Ad _) (Ad _)
theorem Fy9 (a b c d:Ex):
  (if 9<=(Cd 4 [DVal.int .u8 0,DVal.int .u8 0,DVal.int .i64 0,DVal.str [],DVal.nilSlice,DVal.nilSlice,DVal.int .i64 0,DVal.int .i64 0,DVal.int .i64 0]).length then(if 18<=(dEx a++List.drop 9 (Cd 4 [DVal.int .u8 0,DVal.int .u8 0,DVal.int .i64 0,DVal.str [],DVal.nilSlice,DVal.nilSlice,DVal.int .i64 0,DVal.int .i64 0,DVal.int .i64 0])).length then(if 27<=(List.take 9 (dEx a++List.drop 9 (Cd 4 [DVal.int .u8 0,DVal.int .u8 0,DVal.int .i64 0,DVal.str [],DVal.nilSlice,DVal.nilSlice,DVal.int .i64 0,DVal.int .i64 0,DVal.int .i64 0]))++dEx b++List.drop 18 (dEx a++List.drop 9 (Cd 4 [DVal.int .u8 0,DVal.int .u8 0,DVal.int .i64 0,DVal.str [],DVal.nilSlice,DVal.nilSlice,DVal.int .i64 0,DVal.int .i64 0,DVal.int .i64 0]))).length then(if 36<=(List.take 18 (List.take 9 (dEx a++List.drop 9 (Cd 4 [DVal.int .u8 0,DVal.int .u8 0,DVal.int .i64 0,DVal.str [],DVal.nilSlice,DVal.nilSlice,DVal.int .i64 0,DVal.int .i64 0,DVal.int .i64 0]))++dEx b++List.drop 18 (dEx a++List.drop 9 (Cd 4 [DVal.int .u8 0,DVal.int .u8 0,DVal.int .i64 0,DVal.str [],DVal.nilSlice,DVal.nilSlice,DVal.int .i64 0,DVal.int .i64 0,DVal.int .i64 0])))++dEx c++List.drop 27 (List.take 9 (dEx a++List.drop 9 (Cd 4 [DVal.int .u8 0,DVal.int .u8 0,DVal.int .i64 0,DVal.str [],DVal.nilSlice,DVal.nilSlice,DVal.int .i64 0,DVal.int .i64 0,DVal.int .i64 0]))++dEx b++List.drop 18 (dEx a++List.drop 9 (Cd 4 [DVal.int .u8 0,DVal.int .u8 0,DVal.int .i64 0,DVal.str [],DVal.nilSlice,DVal.nilSlice,DVal.int .i64 0,DVal.int .i64 0,DVal.int .i64 0])))).length then some (List.take 27 (List.take 18 (List.take 9 (dEx a++List.drop 9 (Cd 4 [DVal.int .u8 0,DVal.int .u8 0,DVal.int .i64 0,DVal.str [],DVal.nilSlice,DVal.nilSlice,DVal.int .i64 0,DVal.int .i64 0,DVal.int .i64 0]))++dEx b++List.drop 18 (dEx a++List.drop 9 (Cd 4 [DVal.int .u8 0,DVal.int .u8 0,DVal.int .i64 0,DVal.str [],DVal.nilSlice,DVal.nilSlice,DVal.int .i64 0,DVal.int .i64 0,DVal.int .i64 0])))++dEx c++List.drop 27 (List.take 9 (dEx a++List.drop 9 (Cd 4 [DVal.int .u8 0,DVal.int .u8 0,DVal.int .i64 0,DVal.str [],DVal.nilSlice,DVal.nilSlice,DVal.int .i64 0,DVal.int .i64 0,DVal.int .i64 0]))++dEx b++List.drop 18 (dEx a++List.drop 9 (Cd 4 [DVal.int .u8 0,DVal.int .u8 0,DVal.int .i64 0,DVal.str [],DVal.nilSlice,DVal.nilSlice,DVal.int .i64 0,DVal.int .i64 0,DVal.int .i64 0]))))++dEx d++List.drop 36 (List.take 18 (List.take 9 (dEx a++List.drop 9 (Cd 4 [DVal.int .u8 0,DVal.int .u8 0,DVal.int .i64 0,DVal.str [],DVal.nilSlice,DVal.nilSlice,DVal.int .i64 0,DVal.int .i64 0,DVal.int .i64 0]))++dEx b++List.drop 18 (dEx a++List.drop 9 (Cd 4 [DVal.int .u8 0,DVal.int .u8 0,DVal.int .i64 0,DVal.str [],DVal.nilSlice,DVal.nilSlice,DVal.int .i64 0,DVal.int .i64 0,DVal.int .i64 0])))++dEx c++List.drop 27 (List.take 9 (dEx a++List.drop 9 (Cd 4 [DVal.int .u8 0,DVal.int .u8 0,DVal.int .i64 0,DVal.str [],DVal.nilSlice,DVal.nilSlice,DVal.int .i64 0,DVal.int .i64 0,DVal.int .i64 0]))++dEx b++List.drop 18 (dEx a++List.drop 9 (Cd 4 [DVal.int .u8 0,DVal.int .u8 0,DVal.int .i64 0,DVal.str [],DVal.nilSlice,DVal.nilSlice,DVal.int .i64 0,DVal.int .i64 0,DVal.int .i64 0]))))) else none) else none) else none) else none)=some (dEx a++dEx b++dEx c++dEx d):=Em2 (Ad _) (Ad _) (Ad _) (Ad _)
attribute [go_sem] Fy6 Fy7 Fy8 Fy9 Mp Ng Nh Iv Iw Ix Iy Iz Ja Jb Fx9 Fy0 Fy1 Fy2 Fy3 Fy4 Fy5
section
variable {G:Nat->DVal} (hG:GX G)
include hG
set_option maxHeartbeats 400000000 in
theorem Ad1 (H:Ac) (t:Typ) (ht:Oy 1048576 t):Ag Tryz.prog G 24 [.agg (Cl t)] H (Ax (.bool (Du t)) H):=by
 have E:=ht;obtain⟨f0,f1,f2,f3,f4,f5,f6,f7⟩:=ht;obtain⟨-,k0,ae⟩:=f6;have pb: ∀x∈ [t.lo,t.hi],Dp 1048576 x:=by intro x hx;simp at hx;rcases hx with rfl | rfl<;>assumption
 have pi: ∀x∈ [t.sub.name,t.sub.lo,t.sub.hi,t.sub.value],Dp 1048576 x:=by
  obtain⟨i0,i1,i2,i3⟩:=f3;intro x hx;simp at hx;rcases hx with rfl | rfl | rfl | rfl<;>assumption
 have pd: ∀x∈ [t.disc.name,t.disc.lo,t.disc.hi],Dp 1048576 x:=by
  obtain⟨i0,i1,i2⟩:=f4;intro x hx;simp at hx;rcases hx with rfl | rfl | rfl<;>assumption
 have eb: [t.lo,t.hi].all noE=Xd t:=by simp [Xd]
 have ei: [t.sub.name,t.sub.lo,t.sub.hi,t.sub.value].all noE=Zd t.sub:=by simp [Zd,Bool.and_assoc]
 have ed: [t.disc.name,t.disc.lo,t.disc.hi].all noE=Xc t.disc:=by simp [Xc,Bool.and_assoc]
 refine Ab Tryz.func24 Tryz.call24 rfl (by kernel_rfl) ?_;simp(disch:=omega)only[go_sem,DVal.cells];intro C aa;dsimp only at aa;obtain⟨J,L⟩: ∃K',K'=upd H C (some (.cells (Cl t) 62)):=⟨_,rfl⟩;rw[<-L];have I:J C=some (.cells (Cl t) 62):=by rw[L];exact Aa _ _ _
 have ab:Sub H J:=by rw[L];exact(Sub.refl _).new aa _
 simp(disch:=omega)only[go_sem,I];intro S U;dsimp only at U;have af:C≠S:=Af U I;simp(disch:=omega)only[go_sem,af,I];obtain⟨K,M⟩: ∃K',K'=upd J S (some (.cells [.nilFunc, .func (.func 99) [] [.optr C 0], .func (.func 101) [] [.optr C 0], .func (.func 103) [] [.optr C 0], .func (.func 105) [] [.optr C 0], .func (.func 106) [] [.optr C 0], .func (.func 108) [] [.optr C 0], .func (.func 109) [] []] 157)):=⟨_,rfl⟩;rw[<-M];have ac:K S=some (.cells [.nilFunc, .func (.func 99) [] [.optr C 0], .func (.func 101) [] [.optr C 0], .func (.func 103) [] [.optr C 0], .func (.func 105) [] [.optr C 0], .func (.func 106) [] [.optr C 0], .func (.func 108) [] [.optr C 0], .func (.func 109) [] []] 157):=by rw[M];exact Aa _ _ _
 have V:Sub J K:=by rw[M];exact(Sub.refl _).new U _
 have D:K C=some (.cells (Cl t) 62):=V _ _ I;have O:=ac;have W:Sub H K:=ab.trans V;clear M L V ab I ac;by_cases X:t.kind=0
 ·have hk:=X;simp(disch:=omega)only[go_sem,D,O,hk];exact Fa.sub W (.refl ⟨by simp [Du,Vp,Ze, *],rfl⟩)
 by_cases ad:8<=t.kind
 ·have h0: ¬t.kind=0:=X;simp(disch:=omega)only[go_sem,D,O,h0,ad];exact Fa.sub W (.refl ⟨by unfold Du;rw[if_neg (by omega),if_neg (by omega),if_neg (by omega),if_neg (by omega),if_neg (by omega),decide_eq_false (by omega)];rfl,rfl⟩)
 have ag:t.kind=1\/t.kind=2\/t.kind=3\/t.kind=4\/t.kind=5\/t.kind=6\/t.kind=7:=by omega
 clear X ad k0 ae;rcases ag with hk | hk | hk | hk | hk | hk | hk;all_goals
  have w1:=fun q hq=>Pa G K t C q [1] _ D hq (by decide) rfl;have w2:=fun q hq=>Pa G K t C q [2] _ D hq (by decide) rfl;have w3:=fun q hq=>Pa G K t C q [3,4,6] _ D hq (by decide) rfl;have Y:=fun q hq=>Pa G K t C q [4] _ D hq (by decide) rfl;have w5:=fun q hq=>Pa G K t C q [5] _ D hq (by decide) rfl;have Z:=fun q hq=>Pa G K t C q [7] _ D hq (by decide) rfl;simp only[List.map,List.any,List.length,Nat.zero_add,Nat.reduceAdd,Bool.or_false] at w1 w2 w3 Y w5 Z
  repeat' first
   | with_reducible refine Ag.monoR (w1 _ (by assumption)) ?_
   | with_reducible refine Ag.monoR (w2 _ (by assumption)) ?_
   | with_reducible refine Ag.monoR (w3 _ (by assumption)) ?_
   | with_reducible refine Ag.monoR (Y _ (by assumption)) ?_
   | with_reducible refine Ag.monoR (w5 _ (by assumption)) ?_
   | with_reducible refine Ag.monoR (Z _ (by assumption)) ?_
   | with_reducible refine Ag.monoR (Gy8 hG K t C E D) ?_
   | with_reducible refine Ag.monoR (Gy9 hG K t C E D) ?_
   | with_reducible refine Ag.monoR (Gz0 hG K t C E D) ?_
   | with_reducible refine Ag.monoR (Gz1 hG K t C E D) ?_
   | with_reducible refine Ag.monoR (Gz2 hG K t C E D) ?_
   | with_reducible refine Ag.monoR (Gz3 hG K t C E D) ?_
   | with_reducible refine Ag.monoR (Gz4 hG K) ?_
   | (intro q hq;dsimp only at hq)
   | simp(disch:=omega)only[go_sem,D,O,hk,dW,Cv,Ey, *]
   | (with_reducible refine Pe ?_ ?_<;>intro hb)
   | (with_reducible refine Ma ?_ ?_<;>intro hb)
   | refine Ag.monoR (Be3 G K [t.lo,t.hi] _ _ _ (by simp) (by assumption) (by simp) pb eb) ?_
   | refine Ag.monoR (Be3 G K [t.sub.name,t.sub.lo,t.sub.hi,t.sub.value] _ _ _ (by simp) (by assumption) (by simp) pi ei) ?_
   | refine Ag.monoR (Be3 G K [t.disc.name,t.disc.lo,t.disc.hi] _ _ _ (by simp) (by assumption) (by simp) pd ed) ?_
   | (clear w1 w2 w3 Y w5 Z pb pi pd eb ei ed E f0 f1 f2 f3 f4 f5 f7 D O;refine Fa.sub W (.refl ?_);refine⟨?_,rfl⟩;simp only[decide_eq_true_eq,decide_eq_false_iff_not,Bool.not_eq_true',Bool.not_eq_false',Gt4] at*;first | (simp [Du,Vp,Ze, *];done) | (simp [Du,Vp,Ze,hk];intros;simp_all;done))
end
end Go.Dl
-- A2
namespace Go.Dl
open Go
set_option maxRecDepth 10000
inductive Re (α:Type) where
 | ok (x:α) (k:Nat)
 | fail (k:Nat)
 | long
def Re.then {α β:Type}:Re α->(α->Nat->Re β)->Re β
 | .ok x k,f=>f x k
 | .fail k,_=> .fail k
 | .long,_=> .long
def Bs5 {α:Type} (k:Nat) (x:α×Int×Int):Re α:=if x.2.2=0 then .ok x.1 (k+x.2.1.toNat) else if x.2.2=30 then .fail (k+x.2.1.toNat) else .long
section
variable (l:List Tok)
def exR (lv:Int) (k:Nat):Re Ex:=Bs5 k (Fu (l.drop k) lv)
def chR (k:Nat):Re (List Ch):=Bs5 k (Jo (l.drop k))
def Dh {α:Type} (s:List UInt8) (k:Nat) (f:Nat->Re α):Re α:=if isW l k [s] then f (k+1) else .fail k
def Lx (k:Nat):Re (List UInt8):=if(tk l k).kind=1 then .ok (tk l k).text (k+1) else .fail k
def Uk {α:Type} (one:Nat->Re α) (more:Nat->Option Nat):Nat->List α->Nat->Re (List α)
 | 0,_,_=> .long
 | n+1,xs,k=>match more k with
  | none=> .ok xs k
  | some j=>(one j).then fun a i=>Uk one more n (xs++ [a]) i
def Am3 {α:Type} (one:Nat->Re α) (more:Nat->Option Nat) (k:Nat):Re (List α):=(one k).then fun a i=>Uk one more (l.length+1) [a] i
def byW (s:List UInt8) (k:Nat):Option Nat:=if isW l k [s] then some (k+1) else none
def byN (k:Nat):Option Nat:=if(tk l k).kind=1 then some k else none
def byI (s:List UInt8) (k:Nat):Option Nat:=if isW l k [s] then some k else none
def Wc (k:Nat):Re (List (List UInt8)):=Am3 l (Lx l) (byW l Ee) k
def markL (line:Int):Nat->Ex->Nat->Re Ex
 | 0,_,_=> .long
 | n+1,x,k=>if isW l k [Jj] then(Lx l (k+1)).then fun s i=>markL line n (.mk 4 0 0 s [x] [] line 0 0) i else .ok x k
def Zg (k:Nat):Re Ex:=(Lx l k).then fun s i=>markL l (tk l k).line (l.length+1) (.mk 3 0 0 s [] [] (tk l k).line 0 0) i
def Rl (k:Nat):Re (Ex×Ex):=(exR l 2 k).then fun a i=>Dh l Ef i fun i=>(exR l 2 i).then fun b i=> .ok (a,b) i
def Wd (k:Nat):Re Ind:=(Zg l k).then fun m i=>
 if isW l i [Eo] then(Rl l (i+1)).then fun b i=> .ok ⟨m,b.1,b.2,ex0⟩ i
 else if isW l i [Bf] then(exR l 0 (i+1)).then fun v i=>Dh l Bv i fun i=> .ok ⟨m,ex0,ex0,v⟩ i
 else .ok ⟨m,ex0,ex0,ex0⟩ i
def Am4 (k:Nat):Re Dis:=(exR l 2 k).then fun x i=>
 if isW l i [Ef] then(exR l 2 (i+1)).then fun y i=> .ok ⟨ex0,x,y⟩ i
 else if Ib x&&isW l i [Eo] then(Rl l (i+1)).then fun b i=> .ok ⟨x,b.1,b.2⟩ i
 else if !Ib x&&decide (x.kind≠6) then .fail i else .ok ⟨x,ex0,ex0⟩ i
def Pt (k:Nat):Re Ex:=if isW l k [Od] then exR l 0 (k+1) else .ok ex0 k
def Xe (k:Nat):Int×Nat:=if isW l k [wIn] then(if isW l (k+1) [As7] then(3,k+2) else(1,k+1)) else if isW l k [As7] then(2,k+1) else(1,k)
def Ba7 (k:Nat):Re Par:=(Wc l k).then fun n i=>Dh l Sd i fun i=>
 (Zg l (Xe l i).2).then fun t j=>(Pt l j).then fun e j=> .ok ⟨n,(Xe l i).1,t,e,(tk l k).line⟩ j
def At0 (k:Nat):Re (List Par):=Am3 l (Ba7 l) (byW l Fy) k
def Gv0 (k:Nat):Re Asp:=(Lx l k).then fun n i=>Dh l By i fun i=>(exR l 0 i).then fun e i=> .ok ⟨n,e⟩ i
def Bs6 (k:Nat):Re Cmp:=(Wc l k).then fun n i=>Dh l Sd i fun i=>(Wd l i).then fun s i=>(Pt l i).then fun e i=>Dh l Fy i fun i=> .ok ⟨n,s,e,(tk l k).line⟩ i
def Qj (k:Nat):Re (List Cmp):=if isW l k [Fm] then Dh l Fy (k+1) fun i=> .ok [] i else Am3 l (Bs6 l) (byN l) k
def Bs7 (k:Nat):Re Arm:=Dh l Pq k fun i=>(chR l i).then fun c i=>Dh l By i fun i=>(Qj l i).then fun m i=> .ok ⟨c,m⟩ i
def Ai3 (k:Nat):Re (List Arm):=Am3 l (Bs7 l) (byI l Pq) k
def Ck6 (k:Nat):Re Typ:=
 (if(tk l k).kind=1\/isW l k [Fm]=true then Qj l k else .ok [] k).then fun c i=>
 (if isW l i [Kd] then(Lx l (i+1)).then fun v i=>Dh l wIs i fun i=>(Ai3 l i).then fun a i=>Dh l Pz i fun i=>Dh l Kd i fun i=>Dh l Fy i fun i=> .ok (v,a) i else .ok ([],[]) i).then fun va i=>
 Dh l Pz i fun i=>Dh l Cu i fun i=> .ok ⟨5,[],ex0,ex0,Ut,Rt,c,va.1,va.2,false⟩ i
def Se (k:Nat):Re Typ:=
 if isW l k [Bf] then(Wc l (k+1)).then fun n i=>Dh l Bv i fun i=> .ok { Ed with kind:=1,names:=n } i
 else if isW l k [Eo] then(Rl l (k+1)).then fun b i=> .ok { Ed with kind:=2,lo:=b.1,hi:=b.2 } i
 else if isW l k [Lo] then Dh l Bf (k+1) fun i=>(Am4 l i).then fun d i=>Dh l Bv i fun i=>Dh l wOf i fun i=>(Wd l i).then fun s i=> .ok { Ed with kind:=4,disc:=d,sub:=s } i
 else if isW l k [Cu] then Ck6 l (k+1)
 else if isW l k [Am0] then(Wd l (k+1)).then fun s i=> .ok { Ed with kind:=3,sub:=s } i
 else if isW l k [Lw] then(Wd l (k+1)).then fun s i=> .ok { Ed with kind:=6,sub:=s } i
 else if isW l k [Fp] then .ok { Ed with kind:=7 } (k+1)
 else if isW l k [Ko] then Dh l Fp (k+1) fun i=> .ok { Ed with kind:=7,limited:=true } i
 else if isW l k [Fm] then Dh l Cu (k+1) fun i=> .ok { Ed with kind:=5 } i
 else .fail k
end
def Lk {α:Type} (r:Re α) (fine:α->Bool) (z:α):α×Int×Int:=match r with
 | .ok x k=>if fine x then(x,k,0) else(z,0,3)
 | .fail k=>(z,k,40)
 | .long=>(z,0,3)
def Ad2 (l:List Tok):Ind×Int×Int:=Lk (Wd l 0) En Ut
def Pu (l:List Tok):Dis×Int×Int:=Lk (Am4 l 0) Fh Rt
def Ss (l:List Tok):List Par×Int×Int:=Lk (At0 l 0) Jq []
def Lq (l:List Tok):Typ×Int×Int:=Lk (Se l 0) Du Ed
end Go.Dl
-- Ha
namespace Go.Dl
open Go Go.Proofs
set_option maxRecDepth 100000
abbrev srO (l:List Tok) (k:Nat):DObj:= .cells [Bl l,dI k] 246
def SRt (r:Nat) (l:List Tok) (k:Nat) (H0 H:Ac):Prop:=Sub (upd H0 r (some (srO l k))) H
section
variable {G:Nat->DVal} {H0 H:Ac} {r k:Nat} {l:List Tok}
theorem SRt.refl (h:H r=some (srO l k)):SRt r l k H H:=fun b o hb=>by
 simp only[upd] at hb;split at hb
 ·rename_i e;subst e;rw[h];exact hb
 ·exact hb
theorem SRt.get (h:SRt r l k H0 H):H r=some (srO l k):=h _ _ (Aa _ _ _)
theorem SRt.set (h:SRt r l k H0 H) (k':Nat):SRt r l k' H0 (upd H r (some (srO l k'))):=fun b o hb=>by
 simp only[upd] at hb⊢
 by_cases e:b=r
 ·rw[if_pos e] at hb⊢;exact hb
 ·rw[if_neg e] at hb⊢;exact h b o (by simp only[upd];rw[if_neg e];exact hb)
theorem SRt.own (h:SRt r l k H0 H) {x:Nat} (hx:H0 x=none) (hr:x≠r) (o:Option DObj):SRt r l k H0 (upd H x o):=Sub.up h (by simp only[upd];rw[if_neg hr];exact hx) o
theorem SRt.lo (h:SRt r l k H0 H) {x:Nat} (hx:H x=none):H0 x=none:=by
 have:=Sub.lo h hx;simp only[upd] at this;split at this
 ·cases this
 ·exact this
theorem SRt.fin {R:DEnd->Ac->Prop} {v:DVal} (h:SRt r l k H0 H) (C:R (.ret v) (upd H0 r (some (srO l k)))):Fa R v H:=Fa.sub h (.refl C)
theorem SRt.finP {R:DEnd->Ac->Prop} {v:DVal} (h:SRt r l k H0 H) (C:R (.panic v) (upd H0 r (some (srO l k)))):Vd R v H:=Vd.sub h C
theorem Mq (G:Nat->DVal) (H:Ac) (hr:H r=some (srO l k)) (hl:l.length<=1000000) (hk:k<=1000000):Ag Tryz.prog G 216 [.optr r 0] H (Ax (.agg (Cq (tk l k))) H):=by
 unfold srO at hr;refine Ab Tryz.func216 Tryz.call216 rfl (by kernel_rfl) ?_;simp(disch:=omega)only[go_sem];intro E D;dsimp only at D;have C:r≠E:=Af D hr;by_cases c:k<l.length
 ·have c':(k:Int)<(l.length:Int):=by omega
  have I:=Co Ao l k c;have hfl:=Aw Ao l;rw[Fa8 c];simp(disch:=omega)only[go_sem,C,hr];refine Ak (by kernel_rfl) pL11 (by kernel_rfl) ?_;simp(disch:=omega)only[go_sem,C,hr,c',Bl];refine Ak (by kernel_rfl) (.take 0 (.take 1 (.take 2 (.take 3 (.take 4 (.take 5 (.take 6 (.take 7 (.take 8 (.take 9 (.go 10 [] .done))))))))))) (by kernel_rfl) ?_;simp(disch:=omega)only[go_sem,C,hr,c',Bl,I,hfl,jD];simp(disch:=omega)only[go_sem,Cq];exact Fa.dropA E D (Fa.refl ⟨rfl,rfl⟩)
 ·have c': ¬(k:Int)<(l.length:Int):=by omega
  rw[Bo1 (by omega)];simp(disch:=omega)only[go_sem,C,hr];refine Ak (by kernel_rfl) pL11 (by kernel_rfl) ?_;simp(disch:=omega)only[go_sem,C,hr,c',Bl];exact Fa.dropA E D (Fa.refl ⟨rfl,rfl⟩)
theorem Gv1 (s:List UInt8):isW l k [s]=(decide ((tk l k).kind=Ip s)&&decide ((tk l k).text=s)):=by
 rw[isW,isW,Bool.and_true]
theorem At1 (hG:GX G) (H:Ac) (s:List UInt8) (hr:H r=some (srO l k)) (hl:l.length<=1000000) (hk:k<=900000):Ag Tryz.prog G 268 [.optr r 0, .str s] H (Ax (.bool (isW l k [s])) H):=by
 have hm:=Gv1 (l:=l) (k:=k) s;refine Ab Tryz.func268 Tryz.call268 rfl (by kernel_rfl) ?_;simp(disch:=omega)only[go_sem];refine Ag.monoR (Wp hG _ s) ?_;cases hkb:Up s
 ·simp(disch:=omega)only[go_sem];refine Ag.monoR (Mq G _ hr hl (by omega)) ?_;obtain⟨t,ht⟩: ∃t,t=tk l k:=⟨_,rfl⟩;rw[<-ht] at hm⊢
  simp(disch:=omega)only[go_sem];intro I D;dsimp only at D;by_cases C:t.kind=Ip s
  ·rw[decide_eq_true C,jS] at hm;rw[Ip,hkb] at C;simp only[↓reduceIte,Bool.false_eq_true] at C;by_cases E:t.text=s
   ·rw[decide_eq_true E] at hm;simp(disch:=omega)only[go_sem,Cq,C,E];exact Fa.dropA I D (Fa.refl ⟨by rw[hm],rfl⟩)
   ·rw[decide_eq_false E] at hm;simp(disch:=omega)only[go_sem,Cq,C,E];exact Fa.dropA I D (Fa.refl ⟨by rw[hm],rfl⟩)
  ·rw[decide_eq_false C,jT] at hm;rw[Ip,hkb] at C;simp only[↓reduceIte,Bool.false_eq_true] at C;simp(disch:=omega)only[go_sem,Cq,C];exact Fa.dropA I D (Fa.refl ⟨by rw[hm],rfl⟩)
 ·simp(disch:=omega)only[go_sem];refine Ag.monoR (Mq G _ hr hl (by omega)) ?_;obtain⟨t,ht⟩: ∃t,t=tk l k:=⟨_,rfl⟩;rw[<-ht] at hm⊢
  simp(disch:=omega)only[go_sem];intro I D;dsimp only at D;by_cases C:t.kind=Ip s
  ·rw[decide_eq_true C,jS] at hm;rw[Ip,hkb] at C;simp only[↓reduceIte,Bool.false_eq_true] at C;by_cases E:t.text=s
   ·rw[decide_eq_true E] at hm;simp(disch:=omega)only[go_sem,Cq,C,E];exact Fa.dropA I D (Fa.refl ⟨by rw[hm],rfl⟩)
   ·rw[decide_eq_false E] at hm;simp(disch:=omega)only[go_sem,Cq,C,E];exact Fa.dropA I D (Fa.refl ⟨by rw[hm],rfl⟩)
  ·rw[decide_eq_false C,jT] at hm;rw[Ip,hkb] at C;simp only[↓reduceIte,Bool.false_eq_true] at C;simp(disch:=omega)only[go_sem,Cq,C];exact Fa.dropA I D (Fa.refl ⟨by rw[hm],rfl⟩)
def SrQ (r:Nat) (l:List Tok) (H:Ac) (v:DVal) (k:Nat) (e:DEnd) (H':Ac):Prop:=e= .ret v/\H'=upd H r (some (srO l k))
def Pv (k e:Int):DVal:= .iface 248 (.agg [dI k,dI e])
theorem Tj (hG:GX G) (H:Ac) (s:List UInt8) (hr:H r=some (srO l k)) (hl:l.length<=1000000) (hk:k<=900000):Ag Tryz.prog G 201 [.optr r 0, .str s] H (SrQ r l H (.bool (isW l k [s])) (if isW l k [s] then k+1 else k)):=by
 refine Ab Tryz.func201 Tryz.call201 rfl (by kernel_rfl) ?_;simp(disch:=omega)only[go_sem];refine Ag.monoR (At1 hG H s hr hl hk) ?_;cases h:isW l k [s] with
 | false=>
  simp(disch:=omega)only[go_sem];exact Fa.refl ⟨rfl,(Ec hr).symm⟩
 | true=>
  have C:IntKind.i64.wrap ((k:Int)+1)=((k+1:Nat):Int):=by rw[IntKind.wrap_i64];omega
  unfold srO at hr;simp(disch:=omega)only[go_sem,hr,C];exact Fa.refl ⟨rfl,rfl⟩
theorem Yo (G:Nat->DVal) (H:Ac) (hr:H r=some (srO l k)):Ag Tryz.prog G 202 [.optr r 0] H (fun e H'=>e= .panic (Pv k 40)/\H'=H):=by
 unfold srO at hr;refine Ab Tryz.func202 Tryz.call202 rfl (by kernel_rfl) ?_;simp(disch:=omega)only[go_sem,hr];exact Vd.refl ⟨rfl,rfl⟩
theorem Su (G:Nat->DVal) (H:Ac) (hr:H r=some (srO l k)) (hl:l.length<=1000000) (hk:k<=900000):Ag Tryz.prog G 237 [.optr r 0] H (Ax (.bool (decide ((tk l k).kind=1))) H):=by
 refine Ab Tryz.func237 Tryz.call237 rfl (by kernel_rfl) ?_;simp(disch:=omega)only[go_sem];refine Ag.monoR (Mq G _ hr hl (by omega)) ?_;simp(disch:=omega)only[go_sem,Cq];exact Fa.refl ⟨rfl,rfl⟩
def Re.mp {α β:Type} (f:α->β):Re α->Re β
 | .ok x k=> .ok (f x) k
 | .fail k=> .fail k
 | .long=> .long
def SrR (r:Nat) (l:List Tok) (H:Ac):Re DVal->DEnd->Ac->Prop
 | .ok v k,e,H'=>e= .ret v/\H'=upd H r (some (srO l k))
 | .fail k,e,H'=>e= .panic (Pv k 40)/\ ∃j,H'=upd H r (some (srO l j))
 | .long,e,H'=>e= .panic (Pv 0 3)/\ ∃j,H'=upd H r (some (srO l j))
abbrev SrF (P:Program) (G:Nat->DVal) (l:List Tok) (r:Nat) (f:FuncId) (args:List DVal) (res:Nat->Re DVal):Prop:=
 ∀H k,H r=some (srO l k)->k<=l.length->Ag P G f (.optr r 0::args) H (SrR r l H (res k))
theorem Qz (G:Nat->DVal) (hl:l.length<=800000):SrF Tryz.prog G l r 230 [] (fun k=>(Lx l k).mp .str):=by
 intro H k hr hk;dsimp only;refine Ab Tryz.func230 Tryz.call230 rfl (by kernel_rfl) ?_;simp(disch:=omega)only[go_sem];refine Ag.monoR (Su G H hr (by omega) (by omega)) ?_;by_cases c:(tk l k).kind=1
 ·have D:k<l.length:=by
   rcases Nat.lt_or_ge k l.length with h | h
   ·exact h
   ·rw[Bo1 h] at c;exact absurd c (by decide)
  have E:IntKind.i64.wrap ((k:Int)+1)=((k+1:Nat):Int):=by rw[IntKind.wrap_i64];omega
  have J:IntKind.i64.wrap (((k+1:Nat):Int)-1)=(k:Int):=by rw[IntKind.wrap_i64];omega
  have L:(k:Int)<(l.length:Int):=by omega
  have I:=Hw Ao l k D 2 (by decide);have M:(Cq l[k])[2]? =some (.str l[k].text):=rfl;rw[M] at I;have hfl:=Aw Ao l;have C:Lx l k= .ok (tk l k).text (k+1):=by rw[Lx,if_pos c]
  rw[C];unfold srO at hr;rw[Fa8 D] at c⊢
  simp(disch:=omega)only[go_sem,decide_eq_true c,hr,E];refine Ak (by kernel_rfl) (.take 0 (.take 1 (.take 2 (.take 3 (.take 4 (.take 5 (.take 6 (.take 7 (.take 8 (.take 9 (.take 10 (.take 11 (.take 12 .done))))))))))))) (by kernel_rfl) ?_;simp(disch:=omega)only[go_sem,hr,E,J,L,Bl,I,hfl,jD];exact Fa.refl ⟨rfl,rfl⟩
 ·have C:Lx l k= .fail k:=by rw[Lx,if_neg c]
  rw[C];simp(disch:=omega)only[go_sem,decide_eq_false c];refine(Yo G H hr).mono ?_;rintro _ H1 ⟨rfl,rfl⟩;simp(disch:=omega)only[go_sem];exact Vd.refl ⟨rfl,k,(Ec hr).symm⟩
def We (l:List Tok):List (List UInt8)->Nat->Re DVal
 | [],k=> .ok (.tuple []) k
 | s::ws,k=>if isW l k [s] then We l ws (k+1) else .fail k
theorem Dg {s:List UInt8} (h:isW l k [s]=true) (hk:k<=l.length):k+1<=l.length:=by
 have:=Av h hk
 rwa [jQ] at this
theorem Dn6 (hG:GX G) (hl:l.length<=800000) (ws:List (List UInt8)) (ab:ws.length<=1000):SrF Tryz.prog G l r 199 [dW ws] (We l ws):=by
 intro H V hr ac;refine Ab Tryz.func199 Tryz.call199 rfl (by kernel_rfl) ?_;simp(disch:=omega)only[go_sem,dW];obtain⟨I,S⟩: ∃I:Nat×Nat->(Nat->DVal)->Ac->Prop,∀C env heap,I C env heap↔(env 0= .optr r 0/\env 6=dW ws/\env 7=dI ws.length/\env 8=dI C.1/\C.1<=ws.length/\C.2<=l.length/\We l ws V=We l (ws.drop C.1) C.2/\heap=upd H r (some (srO l C.2))):=⟨_,fun _ _ _=>Iff.rfl⟩;refine Dr7.run I (fun C=>ws.length-C.1) (0,V) ((S _ _ _).2 ?_) ?_
 ·simp(disch:=omega)only[go_sem,dW];(repeat' apply And.intro)<;>(try first | rfl | assumption | omega);exact(Ec hr).symm
 ·rintro⟨j,k⟩ env heap hi;obtain⟨E,J,L,M,hj,hk,D,rfl⟩:=(S _ _ _).1 hi;dsimp only at hj hk D;have W:upd H r (some (srO l k)) r=some (srO l k):=Aa _ _ _;by_cases X:j<ws.length
  ·have U:(j:Int)<(ws.length:Int):=by omega
   have Z:IntKind.i64.wrap ((j:Int)+1)=((j+1:Nat):Int):=by rw[IntKind.wrap_i64];omega
   have Y:(ws.map DVal.str)[j]? =some (.str ws[j]):=by rw[List.getElem?_map,List.getElem?_eq_getElem X];rfl
   have aa:(ws.map DVal.str).length=ws.length:=jK _;rw[List.drop_eq_getElem_cons X,We] at D;obtain⟨s,hs⟩: ∃s,s=ws[j]:=⟨_,rfl⟩;rw[<-hs] at Y D;simp(disch:=omega)only[go_sem,E,J,L,M,U,dW,Y,aa,jD];refine(Tj hG _ s W (by omega) (by omega)).mono ?_;rintro _ H1 ⟨rfl,O⟩;rw[Gr] at O;cases c:isW l k [s]
   ·rw[c,if_neg (by simp)] at O D;subst O;simp(disch:=omega)only[go_sem,E,J,L,M];refine(Yo G _ W).mono ?_;rintro _ H2 ⟨rfl,rfl⟩;simp(disch:=omega)only[go_sem];rw[D];exact Vd.refl ⟨rfl,k,rfl⟩
   ·rw[c,if_pos rfl] at O D;subst O;simp(disch:=omega)only[go_sem,E,J,L,M];refine⟨(j+1,k+1),_,Rz.refl _,(S _ _ _).2 ?_,by dsimp only;omega⟩;simp(disch:=omega)only[go_sem,E,J,L,M,Z];(repeat' apply And.intro)<;>(try first | rfl | assumption | omega);exact Dg c hk
  ·have:j=ws.length:=by omega
   subst this;have U: ¬(ws.length:Int)<(ws.length:Int):=by omega
   rw[List.drop_length,We] at D;simp(disch:=omega)only[go_sem,E,J,L,M,U];rw[D];exact Fa.refl ⟨rfl,rfl⟩
theorem Go1 (hG:GX G) (hl:l.length<=800000) (ws:List (List UInt8)) (cs:List DVal) (D:ws.map .str=cs) (H:Ac) {q:Nat} (C:H q=none) (hr:H r=some (srO l k)) (hk:k<=l.length) (E:ws.length<=1000):
  Ag Tryz.prog G 199 [.optr r 0, .oslice 1 q 0 ws.length ws.length] (upd H q (some (.cells cs 9))) (SrR r l H (We l ws k)):=by
 subst D;refine Ag.fzA q C ?_;have n:r≠q:=Af C hr;simp only[fzs,fz,if_neg n,if_pos,jJ,Nat.mul_one];rw[List.take_of_length_le (by simp)];exact Dn6 hG hl ws E H k hr hk
end
section
variable {l:List Tok} {k:Nat}
theorem Cz0 (C:Nat) (h:C<=6): ∃n:Nat,(Fu l C).2.1=n/\n<=l.length/\((Fu l C).2.2=0->1<=n)/\((Fu l C).2.2=0\/(Fu l C).2.2=30\/(Fu l C).2.2=3):=by
 have ha:=Cj1 (l:=l) C;have D:=Al1 (l:=l) C;rw[Fu,if_neg (by omega),jD];cases hr:Ur l C with
 | bot=>exact absurd hr D
 | fail k=>
  rw[hr] at ha;exact⟨k,rfl,ha,fun h=>(by cases h), .inr (.inl rfl)⟩
 | ok x k=>
  rw[hr] at ha;dsimp only;split
  ·exact⟨k,rfl,ha.2,fun _=>ha.1, .inl rfl⟩
  ·exact⟨0,rfl,by omega,fun h=>(by cases h), .inr (.inr rfl)⟩
theorem Dw4:Adv l 1 (Al0 l):=by
 have t:=Fb9 (l:=l);exact Ce (t.choice _ (by omega)) fun x n h1 h=>Eh (t.choicesL [x] n h) h1
theorem Cd1: ∃n:Nat,(Jo l).2.1=n/\n<=l.length/\((Jo l).2.2=0->1<=n)/\((Jo l).2.2=0\/(Jo l).2.2=30\/(Jo l).2.2=3):=by
 have ha:=Dw4 (l:=l);have C:=Af7 (l:=l);rw[Jo];cases hr:Al0 l with
 | bot=>exact absurd hr C
 | fail k=>
  rw[hr] at ha;exact⟨k,rfl,ha,fun h=>(by cases h), .inr (.inl rfl)⟩
 | ok x k=>
  rw[hr] at ha;dsimp only;split
  ·exact⟨k,rfl,ha.2,fun _=>ha.1, .inl rfl⟩
  ·exact⟨0,rfl,by omega,fun h=>(by cases h), .inr (.inr rfl)⟩
end
def Js (l:List Tok) {α:Type} (lb:Nat):Re α->Prop
 | .ok _ k=>lb<=k/\k<=l.length
 | .fail k=>k<=l.length
 | .long=>True
section
variable {l:List Tok} {k lb a b:Nat} {α β:Type}
theorem Js.then {r:Re α} {f:α->Nat->Re β} (h:Js l a r) (g: ∀x n,a<=n->n<=l.length->Js l b (f x n)):Js l b (r.then f):=by
 cases r with
 | ok x k=>exact g x k h.1 h.2
 | fail k=>exact h
 | long=>trivial
theorem Js.ok {x:α} (h1:lb<=k) (h2:k<=l.length):Js l lb (.ok x k):=⟨h1,h2⟩
theorem Js.less {r:Re α} (h:Js l a r) (hb:b<=a):Js l b r:=by
 cases r with
 | ok x k=>exact⟨Nat.le_trans hb h.1,h.2⟩
 | fail k=>exact h
 | long=>trivial
theorem Js.must {s:List UInt8} {f:Nat->Re α} (hk:k<=l.length) (g:k+1<=l.length->Js l lb (f (k+1))):Js l lb (Dh l s k f):=by
 rw[Dh];split
 ·exact g (Dg ‹_› hk)
 ·exact hk
theorem Js.name (hk:k<=l.length):Js l (k+1) (Lx l k):=by
 rw[Lx];split
 ·refine⟨Nat.le_refl _, ?_⟩;rcases Nat.lt_or_ge k l.length with h | h
  ·exact h
  ·rename_i c
   rw[Bo1 h] at c;exact absurd c (by decide)
 ·exact hk
theorem Cz1 {x:α} {n:Nat} {e:Int} (C:k+n<=l.length) (h1:e=0->1<=n):Js l (k+1) (Bs5 k (x,(n:Int),e)):=by
 rw[Bs5];dsimp only;rw[jD];split
 ·have:=h1 ‹_›;exact⟨by omega,C⟩
 ·split
  ·exact C
  ·trivial
theorem Js.ex (C:Nat) (D:C<=6) (hk:k<=l.length):Js l (k+1) (exR l C k):=by
 obtain⟨n,h1,h2,h3,-⟩:=Cz0 (l:=l.drop k) C D;rw[List.length_drop] at h2;have e:Fu (l.drop k) C=((Fu (l.drop k) C).1,(n:Int),(Fu (l.drop k) C).2.2):=by rw[<-h1]
 rw[exR,e];exact Cz1 (by omega) h3
theorem Js.ch (hk:k<=l.length):Js l (k+1) (chR l k):=by
 obtain⟨n,h1,h2,h3,-⟩:=Cd1 (l:=l.drop k);rw[List.length_drop] at h2;have e:Jo (l.drop k)=((Jo (l.drop k)).1,(n:Int),(Jo (l.drop k)).2.2):=by rw[<-h1]
 rw[chR,e];exact Cz1 (by omega) h3
theorem Js.list {one:Nat->Re α} {more:Nat->Option Nat} (h1: ∀k,k<=l.length->Js l (k+1) (one k)) (h2: ∀k j,k<=l.length->more k=some j->k<=j/\j<=l.length): ∀(n:Nat) (xs:List α) (k:Nat),k<=l.length->Js l k (Uk one more n xs k)
 | 0,_,_,_=>trivial
 | n+1,xs,k,hk=>by
  rw[Uk];cases hm:more k with
  | none=>exact⟨Nat.le_refl _,hk⟩
  | some j=>
   obtain⟨E,C⟩:=h2 k j hk hm;exact(h1 j C).then fun x i I D=>(Js.list h1 h2 n (xs++ [x]) i D).less (by omega)
theorem Js.sev {one:Nat->Re α} {more:Nat->Option Nat} (h1: ∀k,k<=l.length->Js l (k+1) (one k)) (h2: ∀k j,k<=l.length->more k=some j->k<=j/\j<=l.length) (hk:k<=l.length):Js l (k+1) (Am3 l one more k):=
 (h1 k hk).then fun x i C D=>(Js.list h1 h2 _ [x] i D).less C
theorem Ag4 {s:List UInt8}: ∀k j,k<=l.length->byW l s k=some j->k<=j/\j<=l.length:=by
 intro k j hk h;rw[byW] at h;split at h
 ·cases h;exact⟨by omega,Dg ‹_› hk⟩
 ·cases h
theorem Bh3: ∀k j,k<=l.length->byN l k=some j->k<=j/\j<=l.length:=by
 intro k j hk h;rw[byN] at h;split at h
 ·cases h;exact⟨Nat.le_refl _,hk⟩
 ·cases h
theorem Ck7 {s:List UInt8}: ∀k j,k<=l.length->byI l s k=some j->k<=j/\j<=l.length:=by
 intro k j hk h;rw[byI] at h;split at h
 ·cases h;exact⟨Nat.le_refl _,hk⟩
 ·cases h
theorem Js.names (hk:k<=l.length):Js l (k+1) (Wc l k):=Js.sev (fun _ h=>Js.name h) Ag4 hk
theorem Js.markL (line:Int): ∀(n:Nat) (x:Ex) (k:Nat),k<=l.length->Js l k (markL l line n x k)
 | 0,_,_,_=>trivial
 | n+1,x,k,hk=>by
  rw[Dl.markL];split
  ·exact(Js.name (Dg ‹_› hk)).then fun s i D C=>(Js.markL line n _ i C).less (by omega)
  ·exact⟨Nat.le_refl _,hk⟩
theorem Js.mark (hk:k<=l.length):Js l (k+1) (Zg l k):=(Js.name hk).then fun s i C D=>(Js.markL _ _ _ i D).less C
theorem Js.bounds (hk:k<=l.length):Js l (k+1) (Rl l k):=
 (Js.ex 2 (by omega) hk).then fun a i I C=>Js.must C fun D=>(Js.ex 2 (by omega) D).then fun b i J E=>Js.ok (by omega) E
theorem Js.ind (hk:k<=l.length):Js l (k+1) (Wd l k):=
 (Js.mark hk).then fun m i E C=>by
  split
  ·exact(Js.bounds (Dg ‹_› C)).then fun b i I D=>Js.ok (by omega) D
  split
  ·exact(Js.ex 0 (by omega) (Dg ‹_› C)).then fun v i I D=>Js.must D fun J=>Js.ok (by omega) J
  ·exact Js.ok E C
theorem Js.dis (hk:k<=l.length):Js l (k+1) (Am4 l k):=
 (Js.ex 2 (by omega) hk).then fun x i E C=>by
  split
  ·exact(Js.ex 2 (by omega) (Dg ‹_› C)).then fun y i I D=>Js.ok (by omega) D
  split
  ·rename_i h
   rw[jF] at h;exact(Js.bounds (Dg h.2 C)).then fun b i I D=>Js.ok (by omega) D
  split
  ·exact C
  ·exact Js.ok E C
theorem Js.given (hk:k<=l.length):Js l k (Pt l k):=by
 rw[Pt];split
 ·exact(Js.ex 0 (by omega) (Dg ‹_› hk)).less (by omega)
 ·exact Js.ok (Nat.le_refl _) hk
theorem Cz2 (hk:k<=l.length):k<=(Xe l k).2/\(Xe l k).2<=l.length:=by
 rw[Xe];split
 ·have:=Dg ‹isW l k [wIn]=true› hk;split
  ·have:=Dg ‹isW l (k+1) [As7]=true› this;exact⟨by dsimp only;omega,this⟩
  ·exact⟨by dsimp only;omega,this⟩
 ·split
  ·have:=Dg ‹isW l k [As7]=true› hk;exact⟨by dsimp only;omega,this⟩
  ·exact⟨Nat.le_refl _,hk⟩
theorem Js.par (hk:k<=l.length):Js l (k+1) (Ba7 l k):=
 (Js.names hk).then fun n i L C=>Js.must C fun D=>by
  obtain⟨M,E⟩:=Cz2 D;exact(Js.mark E).then fun t j O I=>(Js.given I).then fun e j S J=>Js.ok (by omega) J
theorem Js.pars (hk:k<=l.length):Js l (k+1) (At0 l k):=Js.sev (fun _ h=>Js.par h) Ag4 hk
theorem Js.cmp (hk:k<=l.length):Js l (k+1) (Bs6 l k):=
 (Js.names hk).then fun n i L C=>Js.must C fun D=>(Js.ind D).then fun s i M E=>(Js.given E).then fun e i O I=>Js.must I fun J=>Js.ok (by omega) J
theorem Js.cmps (hk:k<=l.length):Js l (k+1) (Qj l k):=by
 rw[Qj];split
 ·have:=Dg ‹isW l k [Fm]=true› hk;exact Js.must this fun h=>Js.ok (by omega) h
 ·exact Js.sev (fun _ h=>Js.cmp h) Bh3 hk
theorem Js.arm (hk:k<=l.length):Js l (k+1) (Bs7 l k):=
 Js.must hk fun C=>(Js.ch C).then fun c i J D=>Js.must D fun E=>(Js.cmps E).then fun m i L I=>Js.ok (by omega) I
theorem Js.arms (hk:k<=l.length):Js l (k+1) (Ai3 l k):=Js.sev (fun _ h=>Js.arm h) Ck7 hk
theorem Js.rec (hk:k<=l.length):Js l (k+1) (Ck6 l k):=by
 have h1:Js l k (if(tk l k).kind=1\/isW l k [Fm]=true then Qj l k else .ok [] k):=by
  split
  ·exact(Js.cmps hk).less (by omega)
  ·exact Js.ok (Nat.le_refl _) hk
 refine h1.then fun c i U E=> ?_
 have h2:Js l i (if isW l i [Kd] then(Lx l (i+1)).then fun v i=>Dh l wIs i fun i=>(Ai3 l i).then fun a i=>Dh l Pz i fun i=>Dh l Kd i fun i=>Dh l Fy i fun i=> .ok (v,a) i else .ok ([],[]) i):=by
  split
  ·exact(Js.name (Dg ‹_› E)).then fun v j I C=>Js.must C fun D=>(Js.arms D).then fun a j V J=>Js.must J fun L=>Js.must L fun M=>Js.must M fun O=>Js.ok (by omega) O
  ·exact Js.ok (Nat.le_refl _) E
 exact h2.then fun W i I C=>Js.must C fun D=>Js.must D fun S=>Js.ok (by omega) S
theorem Js.typ (hk:k<=l.length):Js l (k+1) (Se l k):=by
 rw[Se];split
 ·exact(Js.names (Dg ‹_› hk)).then fun n i C D=>Js.must D fun E=>Js.ok (by omega) E
 split
 ·exact(Js.bounds (Dg ‹_› hk)).then fun b i C D=>Js.ok (by omega) D
 split
 ·exact Js.must (Dg ‹_› hk) fun C=>(Js.dis C).then fun d i O I=>Js.must I fun J=>Js.must J fun L=>(Js.ind L).then fun s i S M=>Js.ok (by omega) M
 split
 ·exact(Js.rec (Dg ‹_› hk)).less (by omega)
 split
 ·exact(Js.ind (Dg ‹_› hk)).then fun s i C D=>Js.ok (by omega) D
 split
 ·exact(Js.ind (Dg ‹_› hk)).then fun s i C D=>Js.ok (by omega) D
 split
 ·exact Js.ok (Nat.le_refl _) (Dg ‹_› hk)
 split
 ·exact Js.must (Dg ‹_› hk) fun C=>Js.ok (by omega) C
 split
 ·exact Js.must (Dg ‹_› hk) fun C=>Js.ok (by omega) C
 ·exact hk
end
theorem Fg8 (l:List (List UInt8)):l.flatMap (fun s=> [DVal.str s])=l.map .str:=by induction l with
 | nil=>rfl
 | cons a l ih=>rw[List.flatMap_cons,ih];rfl
theorem Fg9 {S:Nat} {x Z:List DVal} (hx:x.length=S) (hz:Z.length=S):(if S<=(Cd 1 Z).length then some (x++List.drop S (Cd 1 Z)) else none)=some x:=by
 have e: ∀u:List DVal,Cd 1 u=u:=fun u=>by simp [Cd]
 rw[e,if_pos (by omega),List.drop_eq_nil_of_le (by omega),jH]
section
variable {G:Nat->DVal} {r:Nat} {l:List Tok}
def Dn7 {L:Type} (ty S:Nat) (d:L->List DVal) (H:Ac) (l:List L) (v:DVal) (H':Ac):Prop:=Jw H ty S l.length (l.flatMap d) v H'
def Fh0 {L:Type} (G:Nat->DVal) (l:List Tok) (r:Nat) (f:FuncId) (D:L->DVal) (DL:List L->DVal):Prop:=
 ∀(B0:Ac) (g1 g2:FuncId) (xs1 ys1 xs2 ys2:List DVal) (one:Nat->Re L) (more:Nat->Option Nat)
  (_: ∀H k,SRt r l k B0 H->k<=l.length->Ag Tryz.prog G g1 (xs1++ []++ys1) H (SrR r l H ((one k).mp D)))
  (_: ∀H k,SRt r l k B0 H->k<=l.length->Ag Tryz.prog G g2 (xs2++ []++ys2) H (SrQ r l H (.bool (more k).isSome) ((more k).getD k)))
  (_: ∀k,k<=l.length->Js l (k+1) (one k)) (_: ∀k j,k<=l.length->more k=some j->k<=j/\j<=l.length) (k:Nat) (_:B0 r=some (srO l k)) (_:k<=l.length),
  Ag Tryz.prog G f [.func (.func g1) xs1 ys1, .func (.func g2) xs2 ys2] B0 (SrR r l B0 ((Am3 l one more k).mp DL))
set_option maxHeartbeats 20000000 in
theorem Fz0 (hl:l.length<=800000):
 Fh0 G l r 280 DVal.str dW/\
 Fh0 G l r 119 (fun a=>DVal.agg (Gt a)) Gm/\
 Fh0 G l r 142 (fun a=>DVal.agg (Ba6 a)) Cy5/\
 Fh0 G l r 235 (fun a=>DVal.agg (Hu a)) Cv/\
 Fh0 G l r 269 (fun a=>DVal.agg (La a)) Ey:=by
 refine⟨?_, ?_, ?_, ?_, ?_⟩;all_goals intro B0 g1 g2 aj ak al am one more ab ao h1 h2 k hr hk
 all_goals have ha:=h1 k hk
 all_goals have ho:=ab B0 k (.refl hr) hk
 case' refine_1=>refine Ab Tryz.func280 Tryz.call280 rfl (by kernel_rfl) ?_;obtain⟨C,O⟩: ∃C,C=Dn7 9 1 (fun s:List UInt8=> [DVal.str s]):=⟨_,rfl⟩;have hd: ∀x,((fun s:List UInt8=> [DVal.str s]) x).length=1:=fun _=>rfl
 case' refine_2=>refine Ab Tryz.func119 Tryz.call119 rfl (by kernel_rfl) ?_;obtain⟨C,O⟩: ∃C,C=Dn7 136 21 Gt:=⟨_,rfl⟩;have hd: ∀x,(Gt x).length=21:=Bx
 case' refine_3=>refine Ab Tryz.func142 Tryz.call142 rfl (by kernel_rfl) ?_;obtain⟨C,O⟩: ∃C,C=Dn7 187 10 Ba6:=⟨_,rfl⟩;have hd: ∀x,(Ba6 x).length=10:=Bs2
 case' refine_4=>refine Ab Tryz.func235 Tryz.call235 rfl (by kernel_rfl) ?_;obtain⟨C,O⟩: ∃C,C=Dn7 202 47 Hu:=⟨_,rfl⟩;have hd: ∀x,(Hu x).length=47:=Ca
 case' refine_5=>refine Ab Tryz.func269 Tryz.call269 rfl (by kernel_rfl) ?_;obtain⟨C,O⟩: ∃C,C=Dn7 164 2 La:=⟨_,rfl⟩;have hd: ∀x,(La x).length=2:=Ct
 all_goals
  simp(disch:=omega)only[go_sem];simp only[jH] at ho;rw[Am3];cases hc:one k with
  | fail X=>
   rw[hc] at ho;refine(by simpa using ho:Ag _ _ _ _ _ _).mono ?_;rintro e H3 ⟨rfl,j,rfl⟩;simp(disch:=omega)only[go_sem];exact Vd.refl ⟨rfl,j,rfl⟩
  | long=>
   rw[hc] at ho;refine(by simpa using ho:Ag _ _ _ _ _ _).mono ?_;rintro e H3 ⟨rfl,j,rfl⟩;simp(disch:=omega)only[go_sem];exact Vd.refl ⟨rfl,j,rfl⟩
  | ok Y X=>
   rw[hc] at ho ha;obtain⟨au,av⟩:=ha;refine(by simpa using ho:Ag _ _ _ _ _ _).mono ?_;rintro e H3 ⟨rfl,ac⟩;dsimp only[Re.then,Re.mp];have ad:=hd Y;simp(disch:=omega)only[go_sem]
   (try (rw[Fg9 ad rfl];simp(disch:=omega)only[go_sem]))
   intro r7 V;dsimp only at V;simp(disch:=omega)only[go_sem];obtain⟨I,Z⟩: ∃I:Nat×List _×Nat->(Nat->DVal)->Ac->Prop,∀s env heap,I s env heap↔(env 0= .func (.func g1) aj ak/\env 1= .func (.func g2) al am/\s.2.2<=l.length/\s.2.1.length<=s.2.2/\l.length<s.1+s.2.2/\Uk one more s.1 s.2.1 s.2.2=Uk one more (l.length+1) [Y] X/\C (upd B0 r (some (srO l s.2.2))) s.2.1 (env 5) heap):=⟨_,fun _ _ _=>Iff.rfl⟩;subst O;refine Dr7.run I (fun s=>s.1) (l.length+1,[Y],X) ((Z _ _ _).2 ?_) ?_
   ·simp(disch:=omega)only[go_sem];(repeat' apply And.intro)<;>(try first | rfl | assumption | omega);refine .inr ⟨r7,by rw[<-ac];exact V,by rw[List.flatMap_singleton,ad];rfl,rfl,by rw[List.flatMap_singleton];exact Aa _ _ _,by rw[ac] at V⊢;exact(Sub.refl _).new V _⟩
   ·rintro⟨n,xs,k1⟩ env heap ap;obtain⟨E,e1,aa,aq,hn,D,hv⟩:=(Z _ _ _).1 ap;dsimp only at aa aq hn D hv;obtain⟨m,rfl⟩: ∃m,n=m+1:=⟨n-1,by omega⟩;rw[Uk] at D;obtain⟨v,J⟩: ∃v,env 5=v:=⟨_,rfl⟩;rw[J] at hv;have ae:SRt r l k1 B0 heap:=Jw.sub hv;have hm:=ao heap k1 ae aa;simp(disch:=omega)only[go_sem,E,e1,J];refine(by simpa using hm:Ag _ _ _ _ _ _).mono ?_;rintro _ H4 ⟨rfl,L⟩;cases hmo:more k1 with
    | none=>
     rw[hmo] at D L;rw[Option.getD_none,Ec ae.get] at L;subst L;dsimp only at D;simp(disch:=omega)only[go_sem,E,e1,J,Option.isSome_none];rw[<-D];first
     | exact Jw.fin hv ⟨rfl,rfl⟩
     | (unfold Dn7 at hv;rw[Fg8] at hv;exact Jw.fin hv ⟨rfl,rfl⟩)
    | some j=>
     rw[hmo] at D L;rw[Option.getD_some] at L;obtain⟨j1,j2⟩:=h2 k1 j aa hmo;have S:=Jw.move hv (some (srO l j));rw[<-L] at S;have M:=ab H4 j (Jw.sub S) j2;have af:=h1 j j2;simp(disch:=omega)only[go_sem,E,e1,J,Option.isSome_some];dsimp only at D;cases hc2:one j with
     | fail W=>
      rw[hc2] at M D;refine(by simpa using M:Ag _ _ _ _ _ _).mono ?_;rintro e H5 ⟨rfl,i,U⟩;simp(disch:=omega)only[go_sem];rw[<-D];exact Vd.sub (by rw[U];exact Jw.sub (Jw.move S _)) ⟨rfl,i,rfl⟩
     | long=>
      rw[hc2] at M D;refine(by simpa using M:Ag _ _ _ _ _ _).mono ?_;rintro e H5 ⟨rfl,i,U⟩;simp(disch:=omega)only[go_sem];rw[<-D];exact Vd.sub (by rw[U];exact Jw.sub (Jw.move S _)) ⟨rfl,i,rfl⟩
     | ok a W=>
      rw[hc2] at M D af;obtain⟨b1,b2⟩:=af;refine(by simpa using M:Ag _ _ _ _ _ _).mono ?_;rintro e H5 ⟨rfl,U⟩;dsimp only[Re.then] at D;have ag:=Jw.move S (some (srO l W));rw[<-U] at ag;have ah:=hd a;simp(disch:=omega)only[go_sem,E,e1,J]
      (try (rw[Fg9 ah rfl];simp(disch:=omega)only[go_sem,E,e1,J]))
      intro r8 ai;dsimp only at ai;simp(disch:=omega)only[go_sem,E,e1,J];refine Jw.append (m:=1) (Jw.new ag ai _) (by first | rfl | rw[ah]) (by omega) fun v2 H6 ar=> ?_;simp(disch:=omega)only[go_sem,E,e1];refine⟨(m,xs++ [a],W),_,Rz.refl _,(Z _ _ _).2 ?_,by dsimp only;omega⟩;have aw:(xs++ [a]).length<=W:=by rw[jC,jQ];omega
      simp(disch:=omega)only[go_sem,E,e1];(repeat' apply And.intro)<;>(try first | rfl | assumption | omega);unfold Dn7;rw[jC,jQ,List.flatMap_append,List.flatMap_singleton];exact ar
end
theorem Bs8 (l:List Tok) (k:Nat):(l.flatMap Cq).drop (k*4)=(l.drop k).flatMap Cq:=by
 induction k generalizing l with
 | zero=>simp
 | succ k ih=>
  cases l with
  | nil=>simp
  | cons t l=>
   rw[List.flatMap_cons,jE,<-ih,Nat.succ_mul,Nat.add_comm,<-List.drop_drop,List.drop_left' (Ao t)]
def Ad3 (B K:Ac):Prop:= ∀b,K b=none->B b=none
theorem Ad3.refl (B:Ac):Ad3 B B:=fun _ h=>h
theorem Ad3.upd {B K:Ac} (h:Ad3 B K) (x:Nat) (o:DObj):Ad3 B (upd K x (some o)):=fun b hb=>by
 simp only[Go.Dl.upd] at hb;split at hb
 ·cases hb
 ·exact h b hb
theorem Ba8 {q a:Nat} {x:DObj} {E:Option DObj}:((if q=a then some x else E)=none)↔q≠a/\a≠q/\E=none:=by
 by_cases h:q=a
 ·rw[if_pos h];exact⟨fun h=>(by cases h),fun k=>absurd h k.1⟩
 ·rw[if_neg h];exact⟨fun k=>⟨h,fun e=>h e.symm,k⟩,fun k=>k.2.2⟩
theorem Ae {H:Ac} {r q:Nat} {x o:Option DObj} (h:H r=x) (n:r≠q):upd H q o r=x:=by rw[Am _ _ _ _ n];exact h
section
variable {P:Program} {G:Nat->DVal} {f:FuncId} {args:List DVal} {H H0:Ac} {R:DEnd->Ac->Prop} {r k a:Nat} {l:List Tok}
theorem SRt.at:SRt r l k H (upd H r (some (srO l k))):=Sub.refl _
theorem ReC {α:Type} {x:Re α} {D:α->DVal} (h:Ag P G f args H (SrR r l H (x.mp D))) (adv:Js l a x)
  (ok: ∀v k,x= .ok v k->a<=k->k<=l.length->R (.ret (D v)) (upd H r (some (srO l k))))
  (fail: ∀k j,x= .fail k->R (.panic (Pv k 40)) (upd H r (some (srO l j))))
  (long: ∀j,x= .long->R (.panic (Pv 0 3)) (upd H r (some (srO l j)))):Ag P G f args H R:=h.mono fun e H' hx=>by
 cases x with
 | ok v k=>obtain⟨rfl,rfl⟩:=hx;exact ok v k rfl adv.1 adv.2
 | fail k=>obtain⟨rfl,j,rfl⟩:=hx;exact fail k j rfl
 | long=>obtain⟨rfl,j,rfl⟩:=hx;exact long j rfl
theorem SrM {s:List UInt8} (h:Ag P G f args H (SrQ r l H (.bool (isW l k [s])) (if isW l k [s] then k+1 else k))) (C:H r=some (srO l k)) (hk:k<=l.length)
  (D:isW l k [s]=true->k+1<=l.length->R (.ret (.bool true)) (upd H r (some (srO l (k+1)))))
  (no:isW l k [s]=false->R (.ret (.bool false)) H):Ag P G f args H R:=h.mono fun e H' hx=>by
 obtain⟨rfl,rfl⟩:=hx;cases c:isW l k [s]
 ·rw[if_neg (by simp),Ec C];exact no c
 ·rw[if_pos rfl];exact D c (Dg c hk)
theorem SrR.ofK {x:Re DVal} {v:DVal} {i:Nat} (h:x= .ok v i):SrR r l H x (.ret v) (upd H r (some (srO l i))):=by subst h;exact⟨rfl,rfl⟩
theorem SrR.ofF {x:Re DVal} {i j:Nat} (h:x= .fail i):SrR r l H x (.panic (Pv i 40)) (upd H r (some (srO l j))):=by subst h;exact⟨rfl,j,rfl⟩
theorem SrR.ofL {x:Re DVal} {j:Nat} (h:x= .long):SrR r l H x (.panic (Pv 0 3)) (upd H r (some (srO l j))):=by subst h;exact⟨rfl,j,rfl⟩
def nz:DVal->DVal
 | .nilSlice=> .vslice [] 0
 | v=>v
theorem Ge6 (v:DVal):DLe v (nz v):=by
 cases v<;>first | exact DLe.nil | exact fun _ _ _ h=>h
theorem Ck8 (w:World) (H:Ac): ∀(cs:List DVal) (xs:List Value),Az w H cs xs->Az w H (cs.map nz) xs
 | [],_,h=>h
 | c::cs,xs,h=>by
  simp only[jN,Az] at h⊢
  obtain⟨y,ys,rfl,h1,h2⟩:=h;exact⟨y,ys,rfl,Ge6 c w H y h1,Ck8 w H cs ys h2⟩
theorem SRt.finZ {cs:List DVal} {k:Nat} (h:SRt r l k H0 H) (C:R (.ret (.agg (cs.map nz))) (upd H0 r (some (srO l k)))):Fa R (.agg cs) H:=
 Fa.sub h (Fa.le (fun w H x hx=>by
  simp only[Rel] at hx⊢
  obtain⟨xs,rfl,hx⟩:=hx;exact⟨xs,rfl,Ck8 w H _ _ hx⟩) (.refl C))
end
section
variable {G:Nat->DVal} {r:Nat} {l:List Tok}
set_option maxHeartbeats 8000000 in
theorem Go2 (hl:l.length<=800000) (B:Ac) (g:FuncId) (D:List DVal) (x:Ex) (e:Int) (k:Nat) (hr:B r=some (srO l k)) (hk:k<=l.length) (n:Nat) (S:k+n<=l.length)
  (E: ∀K,Sub B K->Ag Tryz.prog G g ([]++ [Bl (l.drop k)]++D) K (Ax (Bp7 (x,n,e)) K)):
  Ag Tryz.prog G 281 [.optr r 0, .func (.func g) [] D] B (SrR r l B ((Bs5 k (x,(n:Int),e)).mp dE)):=by
 have U:(0:Int)<=(k:Int):=by omega
 have V:(k:Int)<=(l.length:Int):=by omega
 have W:IntKind.i64.wrap ((k:Int)+(n:Int))=((k+n:Nat):Int):=by rw[IntKind.wrap_i64];omega
 simp only[jG,jI,Bl,List.length_drop] at E;have X:((l.drop k).flatMap Cq).take ((l.length-k)*4)=(l.drop k).flatMap Cq:=List.take_of_length_le (by rw[Aw Ao,List.length_drop];exact Nat.le_refl _);have Y:=Ad x;refine Ab Tryz.func281 Tryz.call281 rfl (by kernel_rfl) ?_;simp(disch:=omega)only[go_sem]
 ((with_reducible show Fz _ _ _ _ _);intro q hq;dsimp only at hq;have I:=hq;have hz:=(show Ad3 B _ from(by repeat (first | exact Ad3.refl _ | refine Ad3.upd ?_ _ _))) _ hq;have C:=Af hz hr;have J:=C.symm;(try have L:=Af hz hq0);(try have M:=(Af hz hq0).symm);(try simp only[Ba] at hq);(repeat (have O:=hq.1;have hq:=hq.2)))
 simp(disch:=omega)only[go_sem, *];refine Ak (by kernel_rfl) (.take 0 (.take 1 (.take 2 (.take 3 (.take 4 (.take 5 (.take 6 (.take 7 (.take 8 (.take 9 (.alt (.go 15 [9,8,4] (.go 10 [] (.take 11 (.take 12 (.take 13 (.take 14 (.go 16 [] (.take 17 (.take 18 .done))))))))) (.go 10 [] (.take 11 (.take 12 (.take 13 (.take 14 (.go 15 [9,8,4] (.go 16 [] (.take 17 (.take 18 .done)))))))))))))))))))) (by kernel_rfl) ?_
 repeat' first
  | (refine Ag.monoR (E _ (by repeat (first | exact Sub.refl _ | assumption | refine Sub.up ?_ (by assumption) _))) ?_)
  | with_reducible refine And.intro ?_ ?_
  | ((with_reducible show Fz _ _ _ _ _);intro q hq;dsimp only at hq;have I:=hq;have hz:=(show Ad3 B _ from(by repeat (first | exact Ad3.refl _ | refine Ad3.upd ?_ _ _))) _ hq;have C:=Af hz hr;have J:=C.symm;(try have L:=Af hz hq0);(try have M:=(Af hz hq0).symm);(try simp only[Ba] at hq);(repeat (have O:=hq.1;have hq:=hq.2)))
  | simp(disch:=omega)only[go_sem, *,Bl,Bp7,dE,jD,Bs8,List.length_drop]
  | (with_reducible refine Ma ?_ ?_<;>intro hb<;>try simp only[decide_eq_true_eq,decide_eq_false_iff_not,Bool.not_eq_true',Bool.not_eq_false'] at hb)
  | (show SRt _ _ _ _ _;first | with_reducible assumption | apply SRt.at | (apply SRt.refl;assumption) | apply SRt.set | (apply SRt.own<;>first | assumption | skip))
  | ((with_reducible show Fa _ _ _);apply SRt.fin (H0:=B) (r:=r) (l:=l))
  | ((with_reducible show Vd _ _ _);apply SRt.finP (H0:=B) (r:=r) (l:=l))
  | ((first | refine SrR.ofK ?_ | refine SrR.ofF ?_ | refine SrR.ofL ?_);simp [Re.mp,Re.then,Bs5,dE, *];done)
  | fail
end
def fT (ts:List Tok):Prop:= ∀t∈ts,t.text.length<=9223372036854775807
theorem Eu:fT []:=fun t h=>by cases h
theorem Bc {t:Tok} {ts:List Tok} (h:t.text.length<=9223372036854775807) (k:fT ts):fT (t::ts):=fun x hx=>by
 rcases List.mem_cons.1 hx with rfl | hx
 ·exact h
 ·exact k x hx
theorem Br {a b:List Tok} (h:fT a) (k:fT b):fT (a++b):=fun x hx=>by
 rcases List.mem_append.1 hx with hx | hx
 ·exact h x hx
 ·exact k x hx
theorem Ck9 {b:Bool} {t:List Tok} (h:fT t):fT (Wb b t):=by
 cases b with
 | false=>exact h
 | true=>exact Bc (by first | decide | exact hs | exact Nat.zero_le _) (Br h (Bc (by first | decide | exact hs | exact Nat.zero_le _) Eu))
theorem Em4 (o:Nat): ∀s∈Ay o,s.length<=9223372036854775807:=by
 rw[Ay,List.getD];by_cases h:o<22
 ·have: ∀i:Fin 22,∀s∈((Dj6[i.1]?).getD []),s.length<=9223372036854775807:=by decide+kernel
  exact this ⟨o,h⟩
 ·rw[List.getElem?_eq_none (by have:Dj6.length=22:=rfl;omega)];intro s hs;cases hs
theorem Cz3 (o:Nat):fT ((Ay o).map Ah):=fun t h=>by
 obtain⟨s,hs,rfl⟩:=List.mem_map.1 h;exact Em4 o s hs
theorem Bs9 {s:List UInt8} (hs:(Ah s).text.length<=9223372036854775807): ∀ {l:List (List Tok)},(∀t∈l,fT t)->fT (Dm s l)
 | [],_=>Eu
 | [x],h=>h x (by simp)
 | x::y::r,h=>by
  rw[Tf s x _ (by simp)];exact Br (h x (by simp)) (Bc hs (Bs9 hs fun t ht=>h t (List.mem_cons_of_mem _ ht)))
theorem Dw5 {l:List (List Tok)} (h: ∀t∈l,fT t) (i:Nat):fT (l.getD i []):=by
 rw[List.getD];cases hi:l[i]? with
 | none=>exact Eu
 | some t=>exact h t (List.mem_of_getElem? hi)
theorem Jc {c:Prop} [Decidable c] {a b:List Tok} (h:fT a) (k:fT b):fT (if c then a else b):=by
 split
 ·exact h
 ·exact k
theorem Fz1 (e:Ex) (hs:e.s.length<=9223372036854775807) {C D:List (List Tok)} (h: ∀t∈C,fT t) (k: ∀t∈D,fT t):fT (Ov e C D):=by
 have g:=fun i=>Dw5 h i;have p:=fun i (b:Bool)=>Ck9 (b:=b) (g i);unfold Ov;dsimp only
 repeat' (refine Jc ?_ ?_)
 ·exact Bc (by first | decide | exact hs | exact Nat.zero_le _) Eu
 ·exact Bc (by first | decide | exact hs | exact Nat.zero_le _) Eu
 ·exact Bc (by first | decide | exact hs | exact Nat.zero_le _) Eu
 ·exact Br (g 0) (Bc (by first | decide | exact hs | exact Nat.zero_le _) (Bc (by first | decide | exact hs | exact Nat.zero_le _) Eu))
 ·exact Br (g 0) (Bc (by first | decide | exact hs | exact Nat.zero_le _) (Bc (by first | decide | exact hs | exact Nat.zero_le _) Eu))
 ·exact Br (g 0) (Bc (by first | decide | exact hs | exact Nat.zero_le _) (Bc (by first | decide | exact hs | exact Nat.zero_le _) Eu))
 ·exact Br (g 0) (Bc (by first | decide | exact hs | exact Nat.zero_le _) (Br (Bs9 (by first | decide | exact hs | exact Nat.zero_le _) k) (Bc (by first | decide | exact hs | exact Nat.zero_le _) Eu)))
 ·exact Br (g 0) (Bc (by first | decide | exact hs | exact Nat.zero_le _) (p 1 _))
 ·exact Bc (by first | decide | exact hs | exact Nat.zero_le _) (Br (Bs9 (by first | decide | exact hs | exact Nat.zero_le _) k) (Bc (by first | decide | exact hs | exact Nat.zero_le _) Eu))
 ·exact Bc (by first | decide | exact hs | exact Nat.zero_le _) (Bc (by first | decide | exact hs | exact Nat.zero_le _) (Br (g 0) (Bc (by first | decide | exact hs | exact Nat.zero_le _) (Br (g 1) (Bc (by first | decide | exact hs | exact Nat.zero_le _) (Br (g 2) (Bc (by first | decide | exact hs | exact Nat.zero_le _) Eu)))))))
 ·exact Br (Cz3 _) (p 0 _)
 ·exact Br (p 0 _) (Br (Cz3 _) (p 1 _))
 ·exact Br (p 0 _) (Bc (by first | decide | exact hs | exact Nat.zero_le _) (Jc (Br (p 1 _) (Bc (by first | decide | exact hs | exact Nat.zero_le _) (p 2 _))) (g 1)))
 ·exact Br (p 0 _) (Bc (by first | decide | exact hs | exact Nat.zero_le _) (Bc (by first | decide | exact hs | exact Nat.zero_le _) (Jc (Br (p 1 _) (Bc (by first | decide | exact hs | exact Nat.zero_le _) (p 2 _))) (g 1))))
theorem Fh1 (k:Int) (l:List Ex) {C:List (List Tok)} (h: ∀t∈C,fT t):fT (Cw3 k l C):=by
 have g:=fun i=>Dw5 h i;have p:=fun i (b:Bool)=>Ck9 (b:=b) (g i);unfold Cw3;dsimp only
 repeat' (refine Jc ?_ ?_)
 ·exact g 0
 ·exact Br (p 0 _) (Bc (by first | decide | exact hs | exact Nat.zero_le _) (p 1 _))
 ·exact Bc (by first | decide | exact hs | exact Nat.zero_le _) Eu
mutual
theorem Bx9: ∀e:Ex,okE e->fT (Ai e)
 | .mk k o n s l a li en t,h=>by
  rw[okE] at h
  rw[Ai];exact Fz1 (.mk k o n s l a li en t) h.1 (Fh2 l h.2.1) (Ge7 a h.2.2)
theorem Fh2: ∀l:List Ex,okL l-> ∀t∈Yf l,fT t
 | [],_=>fun t h=>by cases h
 | x::l,hk=>fun t h=>by
  rw[okL] at hk
  rw[Yf] at h
  rcases List.mem_cons.1 h with rfl | h
  ·exact Bx9 x hk.1
  ·exact Fh2 l hk.2 t h
theorem Gz5: ∀a:As,okA a->fT (Es a)
 | .mk c e,h=>by
  rw[okA] at h
  rw[Es,Du6]
  split
  ·exact Bx9 e h.2
  ·exact Br (Bs9 (by decide) (Ge8 c h.1)) (Bc (by decide) (Bx9 e h.2))
theorem Ge7: ∀l:List As,Pc l-> ∀t∈Ab9 l,fT t
 | [],_=>fun t h=>by cases h
 | x::l,hk=>fun t h=>by
  rw[Pc] at hk
  rw[Ab9] at h
  rcases List.mem_cons.1 h with rfl | h
  ·exact Gz5 x hk.1
  ·exact Ge7 l hk.2 t h
theorem Gv2: ∀c:Ch,okC c->fT (Cs c)
 | .mk k l,h=>by
  rw[okC] at h
  rw[Cs];exact Fh1 _ _ (Fh2 l h)
theorem Ge8: ∀l:List Ch,Wu l-> ∀t∈Ac0 l,fT t
 | [],_=>fun t h=>by cases h
 | x::l,hk=>fun t h=>by
  rw[Wu] at hk
  rw[Ac0] at h
  rcases List.mem_cons.1 h with rfl | h
  ·exact Gv2 x hk.1
  ·exact Ge8 l hk.2 t h
end
theorem Bt0 {l:List Tok} (h:fT l):Cg l:=fun k=>by
 rw[tk,List.getD];cases hk:l[k]? with
 | none=>decide
 | some t=>exact h t (List.mem_of_getElem? hk)
section
end
end Go.Dl
-- Wi
namespace Go.Dl
open Go Go.Proofs
set_option maxRecDepth 10000
theorem Dw6 (l:List Tok) (k j:Nat):tk l (k+j)=tk (l.drop k) j:=by
 simp [tk,List.getD,List.getElem?_drop]
theorem Cz4 (l:List Tok) (k:Nat): ∀(ws:List (List UInt8)) (j:Nat),isW l (k+j) ws=isW (l.drop k) j ws
 | [],_=>rfl
 | s::r,j=>by rw[isW,isW,Dw6,Nat.add_assoc,Cz4 l k r (j+1)]
end Go.Dl
-- A3
namespace Go.Dl
open Go
set_option maxRecDepth 10000
def Gvs {α γ:Type} (st:α->γ) (r:Re α) (c:γ) (k:Nat):Prop:= ∃x,r= .ok x k/\st x=c
theorem Gvs.then {α γ β δ:Type} {st:α->γ} {C:β->δ} {r:Re α} {c:γ} {k k':Nat} {f:α->Nat->Re β} {D:δ} (h:Gvs st r c k) (g: ∀x,st x=c->Gvs C (f x k) D k'):Gvs C (r.then f) D k':=by
 obtain⟨x,rfl,hx⟩:=h;exact g x hx
theorem Gvs.mk {α γ:Type} {st:α->γ} (x:α) (k:Nat) {c:γ} (h:st x=c):Gvs st (.ok x k) c k:=⟨x,rfl,h⟩
def Pre (l:List Tok) (k:Nat) (ts:List Tok):Prop:=At (l.map stT) k ts
section
variable {l:List Tok} {k k':Nat} {s:List UInt8} {ts us:List Tok}
theorem Pre.tail {t:Tok} (h:Pre l k (t::ts)):Pre l (k+1) ts:=At.tail h
theorem Pre.left (h:Pre l k (ts++us)):Pre l k ts:=At.left h
theorem Pre.right (h:Pre l k (ts++us)):Pre l (k+ts.length) us:=At.right h
theorem Pre.head {t:Tok} (h:Pre l k (t::ts)):stT (tk l k)=t/\k<l.length:=by
 have:=At.head h;rw[Bd4,jK] at this;exact this
theorem Pre.word (h:Pre l k (Ah s::ts)):isW l k [s]=true:=by rw[<-Nl];exact At.word h
theorem Pre.not {t:Tok} (h:Pre l k (t::ts)) (C:nof [s] t):isW l k [s]=false:=by
 rw[<-Nl];exact He (by rw[(At.head h).1];exact C) (by simp) []
theorem Pre.nof {t:Tok} {ws:List (List UInt8)} (h:Pre l k (t::ts)) (C:nof ws t):nof ws (tk l k):=by
 have:=h.head.1;rw[<-this] at C;exact Fe8.1 C
theorem Ad4 {ws:List (List UInt8)} (h:nof ws (tk l k)) (hs:s∈ws):isW l k [s]=false:=He h hs []
theorem Pre.drop (h:Pre l k ts): ∃rest,(l.drop k).map stT=ts++rest:=by
 obtain⟨r,hr⟩:=h.2;exact⟨r,by rw[List.map_drop];exact hr.symm⟩
theorem Pre.le (h:Pre l k ts):k+ts.length<=l.length:=by have:=At.le h;rwa [jK] at this
theorem Eg {α:Type} {f:Nat->Re α} (h:Pre l k (Ah s::ts)):Dh l s k f=f (k+1):=by rw[Dh,if_pos h.word]
theorem At2 (h:Pre l k (Dw s::ts)):Lx l k= .ok s (k+1):=by
 have h1:=h.head.1;have hk:(tk l k).kind=1:=by have:=congrArg Tok.kind h1;exact this
 have ht:(tk l k).text=s:=by have:=congrArg Tok.text h1;exact this
 rw[Lx,if_pos hk,ht]
theorem Cl0 {α:Type} {x:α} {n k:Nat}:Bs5 k (x,(n:Int),(0:Int))= .ok x (k+n):=by simp [Bs5]
theorem At3:tk (l.drop k) k'=tk l (k+k'):=(Dw6 l k k').symm
theorem Bt1 {e:Ex} (j:Nat) (hm:Ci e=true) (h:Pre l k (Ai e)) (C:nof w0 (tk l (k+(Ai e).length))) (D:(j:Int)<=Aq e):Gvs stE (exR l j k) (stE e) (k+(Ai e).length):=by
 obtain⟨rest,hr⟩:=h.drop;obtain⟨x,h1,h2⟩:=Dm5 (l:=l.drop k) (rest:=rest) hm hr (by rw[At3];exact C) j (.inl D);exact⟨x,by rw[exR,h1,Cl0],h2⟩
theorem Cd2 {e:Ex} (hm:Ci e=true) (h:Pre l k (Ai e)) (C:nof w0 (tk l (k+(Ai e).length))):Gvs stE (exR l 0 k) (stE e) (k+(Ai e).length):=Bt1 0 hm h C (Pp e).1
theorem Vr {e:Ex} (hm:Ci e=true) (h:Pre l k (Ar e 2)) (J:nof w2 (tk l (k+(Ar e 2).length))):Gvs stE (exR l 2 k) (stE e) (k+(Ar e 2).length):=by
 obtain⟨rest,hr⟩:=h.drop;obtain⟨L,C⟩: ∃L,L=(l.drop k).map stT:=⟨_,rfl⟩;have hz: ∀k,(tk L k).line=0:=fun k=>by rw[C];exact Ky k
 have E:At L 0 (Ar e 2):=⟨Nat.zero_le _,rest,by rw[jJ,C,hr]⟩;have R:=Dl9 (p:=Q L) hz e 1 (Qw hm);have D:nof w2 (tk L (0+(Ar e 2).length)):=by rw[Nat.zero_add,C,Bd4,Fe8,At3];exact J
 have hle:0+(Ar e 2).length<=L.length:=E.le;have hs:(Q L).simple 0= .ok (stE e) (0+(Ar e 2).length):=by
  rcases Xa (p:=Q L) R E rfl with⟨_,hp⟩ | ⟨hl,r⟩
  ·have hf:=Ml (p:=Q L) (Nat.zero_le _) hp;have ht:=Mm (p:=Q L) (Nat.zero_le _) hf;rw[Kz (p:=Q L) (Nat.zero_le _) hle ht (s32 D),Th hle D]
  ·rw[r.simp hl (s32 D),Th hle D]
 rw[Nat.zero_add,C] at hs;obtain⟨x,M,I⟩:=Ck1 (Dw3 2) (show Ur ((l.drop k).map stT) 2=_ from hs);refine⟨x, ?_,I⟩;have hf:Fu (l.drop k) (2:Nat)=(x,(((Ar e 2).length:Nat):Int),0):=by
  rw[Fu,if_neg (by omega),jD,M];show(if Ci x=true then _ else _)=_;rw[if_pos (by rw[Lh I,hm])]
 have O:Fu (l.drop k) 2=(x,(((Ar e 2).length:Nat):Int),0):=hf;rw[exR,O,Cl0]
theorem Yp {a b:Ex} (ha:Ci a=true) (hb:Ci b=true) (h:Pre l k (Dj a b)) (C:nof w2 (tk l (k+(Dj a b).length))):Gvs (fun x:Ex×Ex=>(stE x.1,stE x.2)) (Rl l k) (stE a,stE b) (k+(Dj a b).length):=by
 have e:k+(Dj a b).length=k+(Ar a 2).length+1+(Ar b 2).length:=by rw[Dj,jC,jA];omega
 rw[e] at C⊢
 have h1:=Pre.right (show Pre l k (Ar a 2++(Ah Ef::Ar b 2)) from h);refine(Vr ha (Pre.left (show Pre l k (Ar a 2++(Ah Ef::Ar b 2)) from h)) (h1.nof (by decide+kernel))).then fun x hx=> ?_
 rw[Eg h1];exact(Vr hb h1.tail C).then fun y D=> .mk _ _ (by rw[hx,D])
theorem Bt2 {α β γ:Type} {one:Nat->Re α} {g:β->List Tok} {st:α->γ} {stb:β->γ} (s:List UInt8) (W:List (List UInt8)) (E: ∀t,t=Ah s->nof W t)
  : ∀(C:List β) (n:Nat) (D:List α) (k:Nat),(∀b∈C,∀j,Pre l j (g b)->nof W (tk l (j+(g b).length))->Gvs st (one j) (stb b) (j+(g b).length))->C.length<n->Pre l k (C.flatMap fun b=>Ah s::g b)->nof W (tk l (k+(C.flatMap fun b=>Ah s::g b).length))->isW l (k+(C.flatMap fun b=>Ah s::g b).length) [s]=false->
   Gvs (fun xs:List α=>xs.map st) (Uk one (byW l s) n D k) (D.map st++C.map stb) (k+(C.flatMap fun b=>Ah s::g b).length)
 | [],n+1,D,k,_,_,h,hn,hs=>by
  rw[List.flatMap_nil,jB,Nat.add_zero] at hs⊢
  rw[Uk,byW,hs];exact .mk _ _ (by simp)
 | b::C,n+1,D,k,ho,hl,h,hn,hs=>by
  rw[List.flatMap_cons] at h hn hs⊢
  have e:k+((Ah s::g b)++C.flatMap fun b=>Ah s::g b).length=k+1+(g b).length+(C.flatMap fun b=>Ah s::g b).length:=by rw[jC,jA];omega
  rw[e] at hn hs⊢
  have h0:Pre l k (Ah s::(g b++C.flatMap fun b=>Ah s::g b)):=h;have h1:=h0.tail;have h2:=h1.right;rw[Uk,byW,if_pos h0.word];dsimp only;refine(ho b (by simp) (k+1) h1.left ?_).then fun x hx=> ?_
  ·cases C with
   | nil=>exact hn
   | cons c cs=>exact h2.nof (E _ rfl)
  ·have:=Bt2 s W E C n (D++ [x]) (k+1+(g b).length) (fun c hc=>ho c (List.mem_cons_of_mem _ hc)) (by simp at hl;omega) h2 hn hs;rw[List.map_append,jO] at this;simpa [hx] using this
theorem Bt3 {β:Type} (g:β->List Tok) (s:List UInt8) (C:List β):C.length<=(C.flatMap fun b=>Ah s::g b).length:=by
 induction C with
 | nil=>simp
 | cons b C ih=>rw[List.flatMap_cons,jC,jA,jA];omega
theorem Cd3 {α β γ:Type} {one:Nat->Re α} {g:β->List Tok} {st:α->γ} {stb:β->γ} (s:List UInt8) (W:List (List UInt8)) (E: ∀t,t=Ah s->nof W t) (C:List β) (h0:C≠ [])
  (I: ∀b∈C,∀j,Pre l j (g b)->nof W (tk l (j+(g b).length))->Gvs st (one j) (stb b) (j+(g b).length)) (h:Pre l k (Dm s (C.map g))) (D:nof W (tk l (k+(Dm s (C.map g)).length))) (hs:isW l (k+(Dm s (C.map g)).length) [s]=false):
  Gvs (fun xs:List α=>xs.map st) (Am3 l one (byW l s) k) (C.map stb) (k+(Dm s (C.map g)).length):=by
 cases C with
 | nil=>exact absurd rfl h0
 | cons b C=>
  have J:Dm s ((b::C).map g)=g b++C.flatMap fun b=>Ah s::g b:=by rw[jN,Ag1,List.flatMap_map]
  rw[J] at h D hs⊢
  have h2:=h.right;rw[jC,<-Nat.add_assoc] at D hs⊢
  refine(I b (by simp) k h.left ?_).then fun x hx=> ?_
  ·cases C with
   | nil=>exact D
   | cons c cs=>exact h2.nof (E _ rfl)
  ·have L:=h2.le;have hb:=Bt3 g s C;have:=Bt2 (st:=st) (stb:=stb) s W E C (l.length+1) [x] (k+(g b).length) (fun c hc=>I c (List.mem_cons_of_mem _ hc)) (by omega) h2 D hs;rw[jN,<-hx];exact this
theorem Ad5 (C:List (List UInt8)) (h0:C≠ []) (h:Pre l k (Cw C)) (hs:isW l (k+(Cw C).length) [Ee]=false):Gvs (fun x=>x) (Wc l k) C (k+(Cw C).length):=by
 have:=Cd3 (l:=l) (k:=k) (one:=Lx l) (g:=fun s=> [Dw s]) (st:=fun x=>x) (stb:=fun x=>x) Ee [] (fun t _=>fun s h=>by cases h) C h0 (fun b _ j hb _=>⟨b,At2 hb,rfl⟩) h (fun s h=>by cases h) hs;obtain⟨x,h1,h2⟩:=this;exact⟨x,h1,by simpa using h2⟩
def Go3 (x:Ex) (s:List UInt8):Ex:= .mk 4 0 0 s [x] [] 0 0 0
def Gv3 (s:List UInt8):Ex:= .mk 3 0 0 s [] [] 0 0 0
def Zq (ss:List (List UInt8)):List Tok:=ss.flatMap fun s=> [Ah Jj,Dw s]
theorem Be4: ∀(n d:Nat) (e:Ex),Fd d e=true->Zc n e=true-> ∃s ss,stE e=ss.foldl Go3 (Gv3 s)/\Ai e=Dw s::Zq ss
 | 0,_,_,_,h=>by cases h
 | n+1,d,e,hv,h=>by
  obtain⟨hf,hp⟩:=Jp hv;rw[Zc] at h;by_cases c:e.kind=4
  ·rw[if_pos c] at h;obtain⟨⟨x,hx,E⟩,h1,h2,h3⟩:=Dl8 (.inl c) hf;rw[hx] at h;have C:=hp x (Bh (by rw[hx];simp));obtain⟨s,ss,e1,D⟩:=Be4 n _ x C h;refine⟨s,ss++ [e.s], ?_, ?_⟩
   ·rw[List.foldl_append,<-e1,Ff e,c,h1,h2,hx,h3];rfl
   ·rw[Cb4 c,tE,hx];show Ai x++_=_;rw[D,Zq,Zq,List.flatMap_append];simp
  ·rw[if_neg c,decide_eq_true_eq] at h;obtain⟨h1,h2,h3,h4⟩:=ff3 h hf;exact⟨e.s,[],by rw[Ff e,h,h1,h2,h3,h4];rfl,by rw[Bo9 h];rfl⟩
theorem Yq {e:Ex} (h:Ib e=true):Ci e=true/\ ∃s ss,stE e=ss.foldl Go3 (Gv3 s)/\Ai e=Dw s::Zq ss:=by
 rw[Ib,jF] at h;exact⟨h.1,Be4 _ _ e (Qw h.1) h.2⟩
theorem Be5 (line:Int): ∀(C:List (List UInt8)) (n:Nat) (x:Ex) (k:Nat),C.length<n->Pre l k (Zq C)->isW l (k+(Zq C).length) [Jj]=false->Gvs stE (markL l line n x k) (C.foldl Go3 (stE x)) (k+(Zq C).length)
 | [],n+1,x,k,_,h,hn=>by
  rw[Zq,List.flatMap_nil,jB,Nat.add_zero] at hn⊢
  rw[markL,hn];exact .mk _ _ rfl
 | s::C,n+1,x,k,hl,h,hn=>by
  have h0:Pre l k (Ah Jj::Dw s::Zq C):=h;have e:k+(Zq (s::C)).length=k+1+1+(Zq C).length:=by rw[Zq,Zq,List.flatMap_cons,jC];simp;omega
  rw[e] at hn⊢
  rw[markL,if_pos h0.word,At2 h0.tail];have:=Be5 line C n (.mk 4 0 0 s [x] [] line 0 0) (k+1+1) (by simp at hl;omega) h0.tail.tail hn;exact this
theorem Fh3 (C:List (List UInt8)):C.length<=(Zq C).length:=by
 induction C with
 | nil=>simp
 | cons s C ih=>rw[Zq,List.flatMap_cons,jC,jA];change _<=_+(Zq C).length;simp;omega
theorem Yr {e:Ex} (hm:Ib e=true) (h:Pre l k (Ai e)) (C:isW l (k+(Ai e).length) [Jj]=false):Gvs stE (Zg l k) (stE e) (k+(Ai e).length):=by
 obtain⟨_,s,ss,e1,D⟩:=Yq hm;rw[D] at h C⊢
 rw[jA,show k+((Zq ss).length+1)=k+1+(Zq ss).length by omega] at C⊢
 have hl:=Fh3 ss;have hle:=h.tail.le;rw[Zg,At2 h,e1];exact Be5 _ ss _ _ (k+1) (by omega) h.tail C
end
def stI (s:Ind):Ind:=⟨stE s.name,stE s.lo,stE s.hi,stE s.value⟩
def stD (d:Dis):Dis:=⟨stE d.name,stE d.lo,stE d.hi⟩
def stP (p:Par):Par:=⟨p.names,p.mode,stE p.type,stE p.e,0⟩
def Rw (c:Cmp):Cmp:=⟨c.names,stI c.sub,stE c.e,0⟩
def Wf (a:Arm):Arm:=⟨a.c.map stC,a.comps.map Rw⟩
def Nz (t:Typ):Typ:=⟨t.kind,t.names,stE t.lo,stE t.hi,stI t.sub,stD t.disc,t.comps.map Rw,t.var,t.arms.map Wf,t.limited⟩
theorem Mr {x y:Ex} (h:stE x=stE y):noE x=noE y:=by
 unfold noE;rw[Bool.eq_iff_iff,Uc,Uc,h]
theorem Gx0 {x:Ex}:noE x=true↔stE x=ex0:=by
 unfold noE;rw[Uc];rfl
theorem Am5 {x:Ex} (h:Ci x=true):noE x=false:=by
 cases c:noE x with
 | false=>rfl
 | true=>
  have hk:x.kind=0:=by rw[<-Km,Gx0.1 c];rfl
  rw[Ci,jF,Qt] at h;have:Bg x=false:=by unfold Bg;simp [hk]
  rw[this] at h;simp at h
theorem Dn8 {x:Ex} (h:noE x=true):Ci x=false:=by
 cases c:Ci x with
 | false=>rfl
 | true=>rw[Am5 c] at h;cases h
theorem Bt4 {x:Ex} (h:Ib x=true):Ci x=true:=by rw[Ib,jF] at h;exact h.1
theorem Cz5: ∀(n:Nat) (x y:Ex),stE x=stE y->Zc n x=Zc n y
 | 0,_,_,_=>rfl
 | n+1,x,y,h=>by
  have hk:x.kind=y.kind:=by rw[<-Km x,h,Km]
  have hl:x.l.map stE=y.l.map stE:=by rw[<-Cx2,h,Cx2]
  have hd:stE (x.l.getD 0 ex0)=stE (y.l.getD 0 ex0):=by
   have e: ∀z:List Ex,stE (z.getD 0 ex0)=(z.map stE).getD 0 ex0:=fun z=>by cases z<;>rfl
   rw[e,e,hl]
  rw[Zc,Zc,hk,Cz5 n _ _ hd]
theorem At4 {x y:Ex} (h:stE x=stE y):Ib x=Ib y:=by
 unfold Ib;rw[Lh h,<-Cj3 x,h,Cj3,Cz5 _ _ _ h]
def wG:List (List UInt8):=w0++ [Ef,Eo]
def wF:List (List UInt8):=wG++ [Od]
section
variable {l:List Tok} {k k':Nat} {s:List UInt8} {ts us:List Tok}
theorem Bt5 (a b:Ex):(Dj a b).length=(Ar a 2).length+1+(Ar b 2).length:=by rw[Dj,jC,jA];omega
theorem Ag5 {x:Ind} (hm:En x=true) (h:Pre l k (In x)) (C:nof wG (tk l (k+(In x).length))):Gvs stI (Wd l k) (stI x) (k+(In x).length):=by
 rw[En,jF] at hm;obtain⟨h1,h2⟩:=hm;have O:=Bt4 h1;have hz: ∀y,noE y=true->stE y=stE ex0:=fun y c=>Gx0.1 c;cases hv:noE x.value with
 | true=>
  rw[hv,if_pos rfl] at h2;cases hlo:noE x.lo with
  | true=>
   have L:noE x.hi=true:=by
    rw[hlo,Dn8 hlo] at h2;simpa using h2
   have e:In x=Ai x.name:=by rw[In,hv,hlo];simp
   rw[e] at h C⊢
   refine(Yr h1 h (Ad4 C (by decide+kernel))).then fun m hx=> ?_
   rw[Ad4 C (show Eo∈wG by decide+kernel),Ad4 C (show Bf∈wG by decide+kernel)];exact .mk _ _ (by rw[stI,stI,hx,hz _ hv,hz _ hlo,hz _ L])
  | false=>
   rw[hlo,jT,Bool.false_or,jF] at h2;have e:In x=Ai x.name++(Ah Eo::Dj x.lo x.hi):=by rw[In,hv,hlo];simp
   rw[e] at h C⊢
   have hr:=h.right;have D:k+(Ai x.name++(Ah Eo::Dj x.lo x.hi)).length=k+(Ai x.name).length+1+(Dj x.lo x.hi).length:=by rw[jC,jA];omega
   rw[D] at C⊢
   refine(Yr h1 h.left (hr.not (by decide+kernel))).then fun m hx=> ?_
   rw[if_pos hr.word];refine(Yp h2.1 h2.2 hr.tail (Gb C (by decide+kernel))).then fun b hb=> ?_
   have E:=congrArg Prod.fst hb;have I:=congrArg Prod.snd hb;dsimp only at E I;exact .mk _ _ (by rw[stI,stI,hx,hz _ hv,E,I])
 | false=>
  rw[hv,if_neg (by simp),jF,jF] at h2;have e:In x=Ai x.name++(Ah Bf::(Ai x.value++ [Ah Bv])):=by rw[In,hv];simp
  rw[e] at h C⊢
  have hr:=h.right;have J:=hr.tail.right;have D:k+(Ai x.name++(Ah Bf::(Ai x.value++ [Ah Bv]))).length=k+(Ai x.name).length+1+(Ai x.value).length+1:=by simp only[jC,jA,jB];omega
  rw[D] at C⊢
  refine(Yr h1 h.left (hr.not (by decide+kernel))).then fun m hx=> ?_
  rw[hr.not (s:=Eo) (by decide+kernel),if_neg (by simp),if_pos hr.word];refine(Cd2 h2.2 hr.tail.left (J.nof (by decide+kernel))).then fun v M=> ?_
  rw[Eg J];exact .mk _ _ (by rw[stI,stI,hx,M,hz _ h2.1.1,hz _ h2.1.2])
theorem Cd4 {x:Dis} (hm:Fh x=true) (h:Pre l k (Lp x)) (C:nof wG (tk l (k+(Lp x).length))):Gvs stD (Am4 l k) (stD x) (k+(Lp x).length):=by
 have hz: ∀y,noE y=true->stE y=stE ex0:=fun y c=>Gx0.1 c;have I: ∀y,Bu y=true->(2:Int)<=Aq y:=fun y c=>by rw[Rs c];decide
 rw[Fh] at hm;cases hlo:noE x.lo with
 | true=>
  have J:noE x.hi=true:=by
   cases c:noE x.hi with
   | true=>rfl
   | false=>rw[hlo,c,Dn8 hlo] at hm;simp at hm
  rw[hlo,J,Bool.and_true,if_pos rfl,Bool.or_eq_true,jF,decide_eq_true_eq] at hm;have e:Lp x=Ai x.name:=by rw[Lp,hlo];simp
  rw[e] at h C⊢
  have O:Ci x.name=true:=hm.elim Bt4 (·.2);have S:Bu x.name=true:=by
   rcases hm with c | c
   ·obtain⟨_,s,ss,e1,_⟩:=Yq c;have hk:x.name.kind=3\/x.name.kind=4:=by
     rw[<-Km,e1];rcases List.eq_nil_or_concat ss with rfl | ⟨r,t,rfl⟩
     ·exact .inl rfl
     ·rw[List.concat_eq_append,List.foldl_append];exact .inr rfl
    exact Uf (by omega)
   ·exact Uf (by omega)
  refine(Bt1 2 O h (Gb C (by decide+kernel)) (I _ S)).then fun y D=> ?_
  rw[Ad4 C (show Ef∈wG by decide+kernel),Ad4 C (show Eo∈wG by decide+kernel),Bool.and_false];have U:y.kind=x.name.kind:=by rw[<-Km,D,Km]
  have hq:(!Ib y&&decide (y.kind≠6))=false:=by
   rw[At4 D,U];rcases hm with c | c
   ·rw[c];rfl
   ·rw[c.1];simp
  rw[hq];exact .mk _ _ (by rw[stD,stD,D,hz _ hlo,hz _ J])
 | false=>
  rw[hlo,jT,if_neg (by simp),jF,jF] at hm;obtain⟨⟨h1,h2⟩,h3⟩:=hm;cases hnm:noE x.name with
  | true=>
   have e:Lp x=Dj x.lo x.hi:=by rw[Lp,hlo,hnm];simp
   rw[e] at h C⊢
   have h':Pre l k (Ar x.lo 2++(Ah Ef::Ar x.hi 2)):=h;have hr:=h'.right;rw[Bt5,show k+((Ar x.lo 2).length+1+(Ar x.hi 2).length)=k+(Ar x.lo 2).length+1+(Ar x.hi 2).length by omega] at C⊢
   refine(Vr h1 h'.left (hr.nof (by decide+kernel))).then fun a ha=> ?_
   rw[if_pos hr.word];refine(Vr h2 hr.tail (Gb C (by decide+kernel))).then fun b hb=> ?_
   exact .mk _ _ (by rw[stD,stD,ha,hb,hz _ hnm])
  | false=>
   have E:Ib x.name=true:=by rw[hnm] at h3;simpa using h3
   have e:Lp x=Ai x.name++(Ah Eo::Dj x.lo x.hi):=by rw[Lp,hlo,hnm];simp
   rw[e] at h C⊢
   have hr:=h.right;have V:k+(Ai x.name++(Ah Eo::Dj x.lo x.hi)).length=k+(Ai x.name).length+1+(Dj x.lo x.hi).length:=by rw[jC,jA];omega
   rw[V] at C⊢
   obtain⟨_,s,ss,e1,_⟩:=Yq E;have hk:x.name.kind=3\/x.name.kind=4:=by
    rw[<-Km,e1];rcases List.eq_nil_or_concat ss with rfl | ⟨r,t,rfl⟩
    ·exact .inl rfl
    ·rw[List.concat_eq_append,List.foldl_append];exact .inr rfl
   refine(Bt1 2 (Bt4 E) h.left (hr.nof (by decide+kernel)) (I _ (Uf (by omega)))).then fun y D=> ?_
   rw[hr.not (s:=Ef) (by decide+kernel),if_neg (by simp),At4 D,E,hr.word,if_pos (by rfl)];refine(Yp h1 h2 hr.tail (Gb C (by decide+kernel))).then fun b hb=> ?_
   have L:=congrArg Prod.fst hb;have M:=congrArg Prod.snd hb;dsimp only at L M;exact .mk _ _ (by rw[stD,stD,D,L,M])
theorem Be6 {e:Ex} (hm:Ic e=true) (h:Pre l k (Ny e)) (C:nof wF (tk l (k+(Ny e).length))):Gvs stE (Pt l k) (stE e) (k+(Ny e).length):=by
 rw[Ic,Bool.or_eq_true] at hm;cases c:noE e with
 | true=>
  have e1:Ny e= []:=by rw[Ny,c];rfl
  rw[e1,jB,Nat.add_zero] at C⊢
  rw[Pt,Ad4 C (by decide+kernel),if_neg (by simp)];exact .mk _ _ (Gx0.1 c).symm
 | false=>
  have hv:Ci e=true:=by rw[c] at hm;simpa using hm
  have e1:Ny e=Ah Od::Ai e:=by rw[Ny,c];rfl
  rw[e1] at h C⊢
  rw[jA,show k+((Ai e).length+1)=k+1+(Ai e).length by omega] at C⊢
  rw[Pt,if_pos h.word];exact Cd2 hv h.tail (Gb C (by decide+kernel))
theorem At5 {C:List (List UInt8)} {m:Nat} (h:Il C m=true):C≠ []:=by
 rintro rfl;simp [Il] at h
theorem Fz2 {e:Ex} (h:Ib e=true): ∃s ts,Ai e=Dw s::ts:=by
 obtain⟨_,s,ss,_,C⟩:=Yq h;exact⟨s,_,C⟩
theorem Em5 {p:Par} (hm:Kb p=true) (h:Pre l k (Nf p)) (D:nof wF (tk l (k+(Nf p).length))):Gvs stP (Ba7 l k) (stP p) (k+(Nf p).length):=by
 simp only[Kb,jF,Bool.or_eq_true,decide_eq_true_eq] at hm;obtain⟨⟨⟨⟨⟨h1,h2⟩,h3⟩,h4⟩,h5⟩,h6⟩:=hm;have E:Nf p=Cw p.names++(Ah Sd::(Qe p.mode++(Ai p.type++Ny p.e))):=rfl;have I:k+(Nf p).length=k+(Cw p.names).length+1+(Qe p.mode).length+(Ai p.type).length+(Ny p.e).length:=by rw[E];simp only[jC,jA];omega
 rw[I] at D⊢
 rw[E] at h;have ha:=h.right;have hb:=ha.tail.right;have hc:=hb.right;rw[Ba7];refine(Ad5 p.names (At5 h1) h.left (ha.not (by decide+kernel))).then fun n J=> ?_
 subst J;rw[Eg ha];obtain⟨s,ts,hts⟩:=Fz2 h2;have hbb:Pre l (k+(Cw p.names).length+1+(Qe p.mode).length) (Dw s::ts):=by have:=hb.left;rw[hts] at this;exact this
 have L:Xe l (k+(Cw p.names).length+1)=(p.mode,k+(Cw p.names).length+1+(Qe p.mode).length):=by
  have hi:=hbb.not (s:=wIn) (Wx (.inl rfl));have ho:=hbb.not (s:=As7) (Wx (.inl rfl));have C:=ha.tail.left;have M:p.mode=1\/p.mode=2\/p.mode=3:=by omega
  rcases M with c | c | c
  ·have:Qe p.mode= []:=by rw[c];rfl
   rw[this,jB,Nat.add_zero] at hi ho;rw[Xe,hi,ho,this,c];rfl
  ·have:Qe p.mode= [Ah As7]:=by rw[c];rfl
   rw[this] at C;rw[Xe,C.not (s:=wIn) (by decide+kernel),C.word,this,c];rfl
  ·have:Qe p.mode= [Ah wIn,Ah As7]:=by rw[c];rfl
   rw[this] at C;rw[Xe,C.word,C.tail.word,this,c];rfl
 rw[L];dsimp only;refine(Yr h2 hb.left ?_).then fun t ht=> ?_
 ·cases c:noE p.e with
  | true=>
   have:Ny p.e= []:=by rw[Ny,c];rfl
   rw[this,jB,Nat.add_zero] at D;exact Ad4 D (by decide+kernel)
  | false=>
   have:Ny p.e=Ah Od::Ai p.e:=by rw[Ny,c];rfl
   rw[this] at hc;exact hc.not (by decide+kernel)
 ·refine(Be6 h3 hc D).then fun e he=> ?_
  exact .mk _ _ (by rw[stP,stP,ht,he])
theorem Em6 {c:Cmp} (hm:Kc c=true) (h:Pre l k (Uj c)):Gvs Rw (Bs6 l k) (Rw c) (k+(Uj c).length):=by
 simp only[Kc,jF] at hm;obtain⟨⟨h1,h2⟩,h3⟩:=hm;have C:Uj c=Cw c.names++(Ah Sd::(In c.sub++(Ny c.e++ [Ah Fy]))):=rfl;have D:k+(Uj c).length=k+(Cw c.names).length+1+(In c.sub).length+(Ny c.e).length+1:=by rw[C];simp only[jC,jA,jB];omega
 rw[D];rw[C] at h;have ha:=h.right;have hb:=ha.tail.right;have hc:=hb.right;rw[Bs6];refine(Ad5 c.names (At5 h1) h.left (ha.not (by decide+kernel))).then fun n E=> ?_
 subst E;rw[Eg ha];refine(Ag5 h2 ha.tail.left ?_).then fun s hs=> ?_
 ·cases cc:noE c.e with
  | true=>
   have:Ny c.e= []:=by rw[Ny,cc];rfl
   rw[this] at hb;exact hb.nof (t:=Ah Fy) (by decide+kernel)
  | false=>
   have:Ny c.e=Ah Od::Ai c.e:=by rw[Ny,cc];rfl
   rw[this] at hb;exact hb.nof (t:=Ah Od) (by decide+kernel)
 ·refine(Be6 h3 hb.left (hc.nof (by decide+kernel))).then fun e he=> ?_
  rw[Eg hc];exact .mk _ _ (by rw[Rw,Rw,hs,he])
end
theorem At6 (l:List Ch):Kq (l.map stC)=Kq l:=by
 have e: ∀c:Ch,(stC c).l.all Ci=c.l.all Ci:=fun c=>by
  rw[Dv5,List.all_map];exact congrArg c.l.all (funext fun x=>Cj4 x)
 rw[Kq,Kq,Bq5,List.all_map];exact congrArg (Dr l&& ·) (congrArg l.all (funext e))
def Hf (cs:List Cmp):List Tok:=if cs.isEmpty then [Ah Fm,Ah Fy] else cs.flatMap Uj
def Sv (a:Arm):List Tok:=Ah Pq::(Dm Gg (a.c.map Cs)++(Ah By::Hf a.comps))
def Pw (v:List UInt8) (az:List Arm):List Tok:=if v= [] then [] else Ah Kd::Dw v::Ah wIs::(az.flatMap Sv++ [Ah Pz,Ah Kd,Ah Fy])
def Bt6 (t:Typ):List Tok:=Ah Cu::((if t.comps.isEmpty then [] else Hf t.comps)++(Pw t.var t.arms++ [Ah Pz,Ah Cu]))
def Jz (t:Typ):List Tok:=
 if t.kind=1 then Ah Bf::(Cw t.names++ [Ah Bv])
 else if t.kind=2 then Ah Eo::Dj t.lo t.hi
 else if t.kind=3 then Ah Am0::In t.sub
 else if t.kind=4 then Ah Lo::Ah Bf::(Lp t.disc++(Ah Bv::Ah wOf::In t.sub))
 else if t.kind=6 then Ah Lw::In t.sub
 else if t.kind=7 then(if t.limited then [Ah Ko] else [])++ [Ah Fp]
 else if t.comps.isEmpty&&decide (t.var= []) then [Ah Fm,Ah Cu]
 else Bt6 t
theorem Cd5 (cs:List Cmp) (d:Int):Ig (Pr cs d)=Hf cs:=by
 rw[Pr,Hf];split
 ·rfl
 ·rw[Ig,List.flatMap_map]
theorem Dn9 {cs:List Ch} (h:Kq cs=true):(Mn cs).1=Dm Gg (cs.map Cs):=by rw[Mn,if_pos h]
theorem Tk (a b:List Lin):Ig (a++b)=Ig a++Ig b:=by rw[Ig,Ig,Ig,List.flatMap_append]
theorem Ra (a:Lin) (b:List Lin):Ig (a::b)=a.l++Ig b:=by rw[Ig,Ig,List.flatMap_cons]
theorem Fh4 {a:Arm} (h:Jr a=true) (d:Int):Ig (Ac9 d a)=Sv a:=by
 rw[Jr,jF] at h;rw[Ac9,Ra,Cd5,Dn9 h.2,Sv];simp
theorem Cd6 (d:Int): ∀ {az:List Arm},az.all Jr=true->Ig (az.flatMap (Ac9 d))=az.flatMap Sv
 | [],_=>rfl
 | a::az,h=>by
  rw[List.all_cons,jF] at h;rw[List.flatMap_cons,List.flatMap_cons,Tk,Fh4 h.1,Cd6 d h.2]
theorem Fh5 {t:Typ} (h:t.arms.all Jr=true) (d:Int):Ig (Bs1 t d)=Bt6 t:=by
 have h1:Ig (if t.comps.isEmpty then [] else Pr t.comps (Qf (d+1)))=(if t.comps.isEmpty then [] else Hf t.comps):=by
  split
  ·rfl
  ·exact Cd5 _ _
 have h2:Ig (if t.var= [] then [] else⟨Qf (d+1),[Ah Kd,Dw t.var,Ah wIs]⟩::(t.arms.flatMap (Ac9 d)++ [⟨Qf (d+1),[Ah Pz,Ah Kd,Ah Fy]⟩]))=Pw t.var t.arms:=by
  rw[Pw];split
  ·rfl
  ·rw[Ra,Tk,Cd6 _ h];rfl
 rw[Bs1,Ra,Tk,Tk,h1,h2];rfl
theorem Do0 {t:Typ} (h:Lu t=true):t.arms.all Jr=true:=by
 simp only[Lu,jF] at h;exact h.1.2
theorem Bt7 {t:Typ} (h:Du t=true) (d:Int):Ig (Ie t d)=Jz t:=by
 have e1: ∀ts,Ig [⟨d,ts⟩]=ts:=fun ts=>by rw[Ra];exact jH _
 by_cases C:t.kind=1
 ·rw[Ie,Jz,if_pos C,if_pos C,e1]
 by_cases D:t.kind=2
 ·rw[Ie,Jz,if_neg C,if_neg C,if_pos D,if_pos D,e1]
 by_cases E:t.kind=3
 ·rw[Ie,Jz,if_neg C,if_neg C,if_neg D,if_neg D,if_pos E,if_pos E,e1]
 by_cases I:t.kind=4
 ·rw[Ie,Jz,if_neg C,if_neg C,if_neg D,if_neg D,if_neg E,if_neg E,if_pos I,if_pos I,e1]
 by_cases c6:t.kind=6
 ·rw[Ie,Jz,if_neg C,if_neg C,if_neg D,if_neg D,if_neg E,if_neg E,if_neg I,if_neg I,if_pos c6,if_pos c6,e1]
 by_cases J:t.kind=7
 ·rw[Ie,Jz,if_neg C,if_neg C,if_neg D,if_neg D,if_neg E,if_neg E,if_neg I,if_neg I,if_neg c6,if_neg c6,if_pos J,if_pos J,e1]
 by_cases L:t.kind=5
 ·rw[Du,if_neg C,if_neg D,if_neg (by omega),if_neg I,if_pos L] at h;simp only[jF] at h;rw[Ie,Jz,if_neg C,if_neg C,if_neg D,if_neg D,if_neg E,if_neg E,if_neg I,if_neg I,if_neg c6,if_neg c6,if_neg J,if_neg J];split
  ·exact e1 _
  ·exact Fh5 (Do0 h.1.2) d
 ·rw[Du,if_neg C,if_neg D,if_neg (by omega),if_neg I,if_neg L,decide_eq_false J] at h;simp at h
section
variable {l:List Tok} {k k':Nat} {s:List UInt8} {ts us:List Tok}
theorem Fz3:Nt (List.map stC) (Al0 l) (Al0 (l.map stT)):=by
 have h:=Gd8 (l:=l);exact Df (h.choice 0) fun x k=>h.choicesL [x] k
theorem Fh6 {cs:List Ch} (hm:Kq cs=true) (h:Pre l k (Dm Gg (cs.map Cs))) (J:nof w0 (tk l (k+(Dm Gg (cs.map Cs)).length))) (hb:isW l (k+(Dm Gg (cs.map Cs)).length) [Gg]=false):
  Gvs (List.map stC) (chR l k) (cs.map stC) (k+(Dm Gg (cs.map Cs)).length):=by
 obtain⟨rest,hr⟩:=h.drop;obtain⟨L,C⟩: ∃L,L=(l.drop k).map stT:=⟨_,rfl⟩;have hz: ∀k,(tk L k).line=0:=fun k=>by rw[C];exact Ky k
 have D:At L 0 (Dm Gg (cs.map Cs)):=⟨Nat.zero_le _,rest,by rw[jJ,C,hr]⟩;have M:nof w0 (tk L (0+(Dm Gg (cs.map Cs)).length)):=by rw[Nat.zero_add,C,Bd4,Fe8,At3];exact J
 have O:isW L (0+(Dm Gg (cs.map Cs)).length) [Gg]=false:=by rw[Nat.zero_add,C,Nl,<-Cz4];exact hb
 have S:=hm;rw[Kq,jF,List.all_eq_true] at hm;obtain⟨E,U⟩:=hm;simp only[Dr,jF,decide_eq_true_eq,List.all_eq_true] at E;cases cs with
 | nil=>simp at E
 | cons c r=>
  obtain⟨j,V,X,-⟩:=Ar7 (l:=L) (f:=(Q L).choice) (fL:=(Q L).choicesL) (sep:=Gg) (W:=w0) (g:=Cs) (st:=stC) (fun az k hk=>Br1 (p:=Q L) az hk) (by decide+kernel) (b:=c) (r:=r)
   (fun d hd k D Y=>Cc2 (p:=Q L) (E.2 d hd) (fun x hx=>Dl9 (p:=Q L) hz x 1 (Qw (List.all_eq_true.1 (U d hd) x hx))) D Y) D rfl M O
  have hq:Al0 L= .ok ((c::r).map stC) (0+(Dm Gg ((c::r).map Cs)).length):=by
   show((Q L).choice 0).then _=_
   rw[V];exact X
  rw[C] at hq;obtain⟨x,e1,I⟩:=Ck1 Fz3 hq;refine⟨x, ?_,I⟩;have hf:Jo (l.drop k)=(x,(((Dm Gg ((c::r).map Cs)).length:Nat):Int),0):=by
   rw[Jo,e1];show(if Kq x=true then _ else _)=_;rw[if_pos (by rw[<-At6 x,I,At6];exact S),Nat.zero_add]
  rw[chR,hf,Cl0]
theorem Be7 {α β γ:Type} {one:Nat->Re α} {more:Nat->Option Nat} {g:β->List Tok} {st:α->γ} {stb:β->γ} (ok:Tok->Prop)
  : ∀(C:List β) (n:Nat) (D:List α) (k:Nat),(∀b∈C,∀j,Pre l j (g b)->more j=some j/\ok (tk l j)/\(ok (tk l (j+(g b).length))->Gvs st (one j) (stb b) (j+(g b).length)))->C.length<n->Pre l k (C.flatMap g)->ok (tk l (k+(C.flatMap g).length))->more (k+(C.flatMap g).length)=none->
   Gvs (fun xs:List α=>xs.map st) (Uk one more n D k) (D.map st++C.map stb) (k+(C.flatMap g).length)
 | [],n+1,D,k,_,_,h,_,hs=>by
  rw[List.flatMap_nil,jB,Nat.add_zero] at hs⊢
  rw[Uk,hs];exact .mk _ _ (by simp)
 | b::C,n+1,D,k,ho,hl,h,hk,hs=>by
  rw[List.flatMap_cons] at h hk hs⊢
  rw[jC,<-Nat.add_assoc] at hk hs⊢
  have h2:=h.right;obtain⟨E,J,I⟩:=ho b (by simp) k h.left;rw[Uk,E];dsimp only;refine(I ?_).then fun x hx=> ?_
  ·cases C with
   | nil=>simpa using hk
   | cons c cs=>rw[List.flatMap_cons] at h2;exact(ho c (by simp) _ h2.left).2.1
  ·have:=Be7 ok C n (D++ [x]) (k+(g b).length) (fun c hc=>ho c (List.mem_cons_of_mem _ hc)) (by simp at hl;omega) h2 hk hs;rw[List.map_append,jO] at this;simpa [hx] using this
theorem Dw7 {β:Type} (g:β->List Tok): ∀(C:List β),(∀b∈C,1<=(g b).length)->C.length<=(C.flatMap g).length
 | [],_=>by simp
 | b::C,h=>by
  have:=Dw7 g C fun c hc=>h c (List.mem_cons_of_mem _ hc);have:=h b (by simp);rw[List.flatMap_cons,jC,jA];omega
theorem Bt8 {α β γ:Type} {one:Nat->Re α} {more:Nat->Option Nat} {g:β->List Tok} {st:α->γ} {stb:β->γ} (ok:Tok->Prop) (C:List β) (h0:C≠ []) (h1: ∀b∈C,1<=(g b).length)
  (D: ∀b∈C,∀j,Pre l j (g b)->more j=some j/\ok (tk l j)/\(ok (tk l (j+(g b).length))->Gvs st (one j) (stb b) (j+(g b).length))) (h:Pre l k (C.flatMap g)) (hk:ok (tk l (k+(C.flatMap g).length))) (hs:more (k+(C.flatMap g).length)=none):
   Gvs (fun xs:List α=>xs.map st) (Am3 l one more k) (C.map stb) (k+(C.flatMap g).length):=by
 cases C with
 | nil=>exact absurd rfl h0
 | cons b C=>
  have hle:=h.le;have hfl:=Dw7 g (b::C) h1;rw[List.flatMap_cons] at h hk hs⊢
  rw[jC,<-Nat.add_assoc] at hk hs⊢
  have h2:=h.right;obtain⟨_,_,E⟩:=D b (by simp) k h.left;refine(E ?_).then fun x hx=> ?_
  ·cases C with
   | nil=>simpa using hk
   | cons c cs=>rw[List.flatMap_cons] at h2;exact(D c (by simp) _ h2.left).2.1
  ·have:=Be7 (st:=st) (stb:=stb) ok C (l.length+1) [x] (k+(g b).length) (fun c hc=>D c (List.mem_cons_of_mem _ hc)) (by simp at hfl hle;omega) h2 hk hs;rw[jN,<-hx];exact this
theorem Fh7 {C:List (List UInt8)} (h:C≠ []): ∃s ts,Cw C=Dw s::ts:=by
 cases C with
 | nil=>exact absurd rfl h
 | cons s r=>exact⟨s,_,by rw[Cw,jN,Ag1];rfl⟩
theorem Cl1 {c:Cmp} (hm:Kc c=true): ∃s ts,Uj c=Dw s::ts:=by
 simp only[Kc,jF] at hm;obtain⟨s,ts,e⟩:=Fh7 (At5 hm.1.1);exact⟨s,_,by rw[Uj,e];rfl⟩
theorem Pre.kind {t:Tok} (h:Pre l k (t::ts)):(tk l k).kind=t.kind:=by have:=congrArg Tok.kind h.head.1;exact this
theorem Bt9 {cs:List Cmp} (hm:cs.all Kc=true) (h:Pre l k (Hf cs)) (C:(tk l (k+(Hf cs).length)).kind≠1):Gvs (List.map Rw) (Qj l k) (cs.map Rw) (k+(Hf cs).length):=by
 rw[List.all_eq_true] at hm;cases cs with
 | nil=>
  have h0:Pre l k [Ah Fm,Ah Fy]:=h;rw[Qj,if_pos h0.word,Eg h0.tail];exact .mk _ _ rfl
 | cons c r=>
  have e:Hf (c::r)=(c::r).flatMap Uj:=rfl;rw[e] at h C⊢
  have hst: ∀b∈c::r,∀j,Pre l j (Uj b)->(tk l j).kind=1:=fun b hb j hj=>by
   obtain⟨s,ts,e⟩:=Cl1 (hm b hb);rw[e] at hj;exact hj.kind
  have D:Pre l k (Uj c):=by rw[List.flatMap_cons] at h;exact h.left
  obtain⟨s,ts,E⟩:=Cl1 (hm c (by simp));rw[E] at D;rw[Qj,D.not (s:=Fm) (Wx (.inl rfl)),if_neg (by simp)];exact Bt8 (one:=Bs6 l) (more:=byN l) (g:=Uj) (st:=Rw) (stb:=Rw) (fun _=>True) (c::r) (by simp) (fun b hb=>by obtain⟨s,ts,e⟩:=Cl1 (hm b hb);rw[e];simp) (fun b hb j hj=>⟨by rw[byN,if_pos (hst b hb j hj)],trivial,fun _=>Em6 (hm b hb) hj⟩) h trivial (by rw[byN,if_neg C])
theorem Em7 {a:Arm} (hm:Jr a=true) (h:Pre l k (Sv a)) (C:(tk l (k+(Sv a).length)).kind≠1):Gvs Wf (Bs7 l k) (Wf a) (k+(Sv a).length):=by
 rw[Jr,jF] at hm;have D:Sv a=Ah Pq::(Dm Gg (a.c.map Cs)++(Ah By::Hf a.comps)):=rfl;have E:k+(Sv a).length=k+1+(Dm Gg (a.c.map Cs)).length+1+(Hf a.comps).length:=by rw[D];simp only[jC,jA];omega
 rw[E] at C⊢
 rw[D] at h;have ha:=h.tail.right;rw[Bs7,Eg h];refine(Fh6 hm.2 h.tail.left (ha.nof (by decide+kernel)) (ha.not (by decide+kernel))).then fun c hc=> ?_
 rw[Eg ha];refine(Bt9 hm.1 ha.tail C).then fun m I=> ?_
 exact .mk _ _ (by rw[Wf,Wf,hc,I])
theorem Do1 {az:List Arm} (h0:az≠ []) (hm:az.all Jr=true) (h:Pre l k (az.flatMap Sv)) (D:(tk l (k+(az.flatMap Sv).length)).kind≠1) (hw:isW l (k+(az.flatMap Sv).length) [Pq]=false):Gvs (List.map Wf) (Ai3 l k) (az.map Wf) (k+(az.flatMap Sv).length):=by
 rw[List.all_eq_true] at hm;exact Bt8 (one:=Bs7 l) (more:=byI l Pq) (g:=Sv) (st:=Wf) (stb:=Wf) (fun t=>t.kind≠1) az h0 (fun b hb=>by rw[Sv];simp) (fun b hb j hj=>by
  have C:Pre l j (Ah Pq::(Dm Gg (b.c.map Cs)++(Ah By::Hf b.comps))):=hj;exact⟨by rw[byI,if_pos C.word],by rw[C.kind];decide+kernel,fun hk=>Em7 (hm b hb) hj hk⟩) h D (by rw[byI,hw];rfl)
theorem Em8 {t:Typ} (hm:Lu t=true) (hk:t.kind=5) (J:Vp t=true) (hb:Xd t=true) (hi:Zd t.sub=true) (C:Xc t.disc=true) (hl:t.limited=false) (h:Pre l k (Bt6 t)):Gvs Nz (Ck6 l (k+1)) (Nz t) (k+(Bt6 t).length):=by
 have hz: ∀y,noE y=true->stE y=stE ex0:=fun y c=>Gx0.1 c;have ab:=hm;simp only[Lu,jF,decide_eq_true_eq,Bool.or_eq_true] at hm;obtain⟨⟨⟨⟨⟨h1,h2⟩,h3⟩,h4⟩,h5⟩,h6⟩:=hm;have L:Bt6 t=Ah Cu::((if t.comps.isEmpty then [] else Hf t.comps)++(Pw t.var t.arms++ [Ah Pz,Ah Cu])):=rfl;have X:k+(Bt6 t).length=k+1+(if t.comps.isEmpty then [] else Hf t.comps).length+(Pw t.var t.arms).length+1+1:=by rw[L];simp only[jC,jA,jB];omega
 rw[X];rw[L] at h;have ha:=h.tail.right;have D:=ha.right;have hst:Nz t=⟨5,[],ex0,ex0,Ut,Rt,t.comps.map Rw,t.var,t.arms.map Wf,false⟩:=by
  simp only[Zd,Xc,Xd,Vp,jF,decide_eq_true_eq,List.length_eq_zero_iff] at hi C hb J;rw[Nz,stI,stD,hk,J,hl,hz _ hb.1,hz _ hb.2,hz _ hi.1.1.1,hz _ hi.1.1.2,hz _ hi.1.2,hz _ hi.2,hz _ C.1.1,hz _ C.1.2,hz _ C.2];rfl
 have ac:tk l (k+1+(if t.comps.isEmpty then [] else Hf t.comps).length)=tk l (k+1+(if t.comps.isEmpty then [] else Hf t.comps).length):=rfl;have Y: ∀ts,Pre l (k+1+(if t.comps.isEmpty then [] else Hf t.comps).length) ts->ts=Pw t.var t.arms++ [Ah Pz,Ah Cu]->(tk l (k+1+(if t.comps.isEmpty then [] else Hf t.comps).length)).kind≠1/\isW l (k+1+(if t.comps.isEmpty then [] else Hf t.comps).length) [Fm]=false:=fun ts hp e=>by
  subst e;by_cases c:t.var= []
  ·rw[Pw,if_pos c] at hp;have M:Pre l _ (Ah Pz:: [Ah Cu]):=hp;exact⟨by rw[M.kind];decide+kernel,M.not (by decide+kernel)⟩
  ·rw[Pw,if_neg c] at hp;exact⟨by rw[hp.kind];decide+kernel,hp.not (by decide+kernel)⟩
 obtain⟨k1,E⟩:=Y _ ha rfl;rw[Ck6];have Z:Gvs (List.map Rw) (if(tk l (k+1)).kind=1\/isW l (k+1) [Fm]=true then Qj l (k+1) else .ok [] (k+1)) (t.comps.map Rw) (k+1+(if t.comps.isEmpty then [] else Hf t.comps).length):=by
  have hc:=h.tail.left;cases hcs:t.comps with
  | nil=>
   rw[hcs] at k1 E;change (tk l (k+1)).kind≠1 at k1;change isW l (k+1) [Fm]=false at E;rw[if_neg (by rw[E];simp [k1])];exact .mk _ _ rfl
  | cons c r=>
   rw[hcs] at h1 k1;have O:Pre l (k+1) (Hf (c::r)):=by rw[hcs] at hc;exact hc
   have S:Pre l (k+1) (Uj c):=by
    have:Pre l (k+1) (Uj c++r.flatMap Uj):=O;exact this.left
   obtain⟨s,ts,e2⟩:=Cl1 (List.all_eq_true.1 h1 c (by simp));rw[e2] at S;rw[if_pos (.inl S.kind)];exact Bt9 h1 O k1
 refine Z.then fun m aa=> ?_
 have g2:Gvs (fun x:List UInt8×List Arm=>(x.1,x.2.map Wf)) (if isW l (k+1+(if t.comps.isEmpty then [] else Hf t.comps).length) [Kd] then(Lx l (k+1+(if t.comps.isEmpty then [] else Hf t.comps).length+1)).then fun v i=>Dh l wIs i fun i=>(Ai3 l i).then fun a i=>Dh l Pz i fun i=>Dh l Kd i fun i=>Dh l Fy i fun i=> .ok (v,a) i else .ok ([],[]) (k+1+(if t.comps.isEmpty then [] else Hf t.comps).length))
   (t.var,t.arms.map Wf) (k+1+(if t.comps.isEmpty then [] else Hf t.comps).length+(Pw t.var t.arms).length):=by
  obtain⟨q,hq⟩: ∃q,q=k+1+(if t.comps.isEmpty then [] else Hf t.comps).length:=⟨_,rfl⟩;rw[<-hq] at ha D⊢
  by_cases c:t.var= []
  ·have I:t.arms= []:=List.length_eq_zero_iff.1 (h2.1 c);have hp:Pre l q [Ah Pz,Ah Cu]:=by rw[Pw,if_pos c] at ha;exact ha
   rw[hp.not (by decide+kernel),if_neg (by simp),c,I,Pw,if_pos rfl];exact .mk _ _ rfl
  ·have I:t.arms≠ []:=fun e=>c (h2.2 (by rw[e];rfl));have e1:Pw t.var t.arms=Ah Kd::Dw t.var::Ah wIs::(t.arms.flatMap Sv++ [Ah Pz,Ah Kd,Ah Fy]):=by rw[Pw,if_neg c]
   have hp:=ha.left;rw[e1] at hp⊢
   have hr:=hp.tail.tail.tail.right;rw[if_pos hp.word,At2 hp.tail,show q+(Ah Kd::Dw t.var::Ah wIs::(t.arms.flatMap Sv++ [Ah Pz,Ah Kd,Ah Fy])).length=q+1+1+1+(t.arms.flatMap Sv).length+1+1+1 by simp only[jC,jA,jB];omega];dsimp only[Re.then];rw[Eg hp.tail.tail];refine(Do1 I h5 hp.tail.tail.tail.left (by rw[hr.kind];decide+kernel) (hr.not (by decide+kernel))).then fun a hA=> ?_
   rw[Eg hr,Eg hr.tail,Eg hr.tail.tail];exact .mk _ _ (by rw[hA])
 refine g2.then fun va U=> ?_
 rw[Eg D,Eg D.tail];have V:=congrArg Prod.fst U;have W:=congrArg Prod.snd U;dsimp only at V W;refine .mk _ _ ?_;rw[hst,Nz,V,W,aa];rfl
theorem Em9 {t:Typ} (hm:Du t=true) (h:Pre l k (Jz t)) (D:nof wG (tk l (k+(Jz t).length))):Gvs Nz (Se l k) (Nz t) (k+(Jz t).length):=by
 have hz: ∀y,noE y=true->stE y=stE ex0:=fun y c=>Gx0.1 c;have zI: ∀y,Zd y=true->stI y=stI Ut:=fun y c=>by
  simp only[Zd,jF] at c;rw[stI,hz _ c.1.1.1,hz _ c.1.1.2,hz _ c.1.2,hz _ c.2];rfl
 have Z: ∀y,Xc y=true->stD y=stD Rt:=fun y c=>by
  simp only[Xc,jF] at c;rw[stD,hz _ c.1.1,hz _ c.1.2,hz _ c.2];rfl
 have zR: ∀y,Ze y=true->y.comps= []/\y.var= []/\y.arms= []:=fun y c=>by
  simp only[Ze,jF,decide_eq_true_eq,List.length_eq_zero_iff] at c;exact⟨c.1.1,c.1.2,c.2⟩
 have E: ∀y,Xd y=true->stE y.lo=stE ex0/\stE y.hi=stE ex0:=fun y c=>by
  simp only[Xd,jF] at c;exact⟨hz _ c.1,hz _ c.2⟩
 have zN: ∀y,Vp y=true->y.names= []:=fun y c=>by
  simp only[Vp,decide_eq_true_eq,List.length_eq_zero_iff] at c;exact c
 by_cases I:t.kind=1
 ·have O:Jz t=Ah Bf::(Cw t.names++ [Ah Bv]):=by rw[Jz,if_pos I]
  rw[Du,if_pos I] at hm;simp only[jF,Bool.not_eq_true'] at hm;obtain⟨⟨⟨⟨⟨J,C⟩,L⟩,M⟩,S⟩,V⟩:=hm;obtain⟨W,X,Y⟩:=zR _ S;rw[O] at h⊢
  have hr:=h.tail.right;rw[Se,if_pos h.word,show k+(Ah Bf::(Cw t.names++ [Ah Bv])).length=k+1+(Cw t.names).length+1 by simp only[jC,jA,jB];omega];refine(Ad5 t.names (At5 J) h.tail.left (hr.not (by decide+kernel))).then fun n ad=> ?_
  subst ad;rw[Eg hr];exact .mk _ _ (by rw[Nz,Nz,I,(E _ C).1,(E _ C).2,zI _ L,Z _ M,W,X,Y,V];rfl)
 by_cases U:t.kind=2
 ·have O:Jz t=Ah Eo::Dj t.lo t.hi:=by rw[Jz,if_neg I,if_pos U]
  rw[Du,if_neg I,if_pos U] at hm;simp only[jF,Bool.not_eq_true'] at hm;obtain⟨⟨⟨⟨⟨J,C⟩,L⟩,M⟩,S⟩,V⟩:=hm;obtain⟨W,X,Y⟩:=zR _ S;rw[O] at h D⊢
  rw[jA,show k+((Dj t.lo t.hi).length+1)=k+1+(Dj t.lo t.hi).length by omega] at D⊢
  rw[Se,h.not (s:=Bf) (by decide+kernel),if_neg (by simp),if_pos h.word];refine(Yp C.1 C.2 h.tail (Gb D (by decide+kernel))).then fun b hb=> ?_
  have ab:=congrArg Prod.fst hb;have ac:=congrArg Prod.snd hb;dsimp only at ab ac;exact .mk _ _ (by rw[Nz,Nz,U,zN _ J,ab,ac,zI _ L,Z _ M,W,X,Y,V];rfl)
 by_cases aa:t.kind=3\/t.kind=6
 ·rw[Du,if_neg I,if_neg U,if_pos aa] at hm;simp only[jF,Bool.not_eq_true'] at hm;obtain⟨⟨⟨⟨⟨J,C⟩,L⟩,M⟩,S⟩,V⟩:=hm;obtain⟨W,X,Y⟩:=zR _ S;rcases aa with c3 | c6
  ·have O:Jz t=Ah Am0::In t.sub:=by rw[Jz,if_neg I,if_neg U,if_pos c3]
   rw[O] at h D⊢
   rw[jA,show k+((In t.sub).length+1)=k+1+(In t.sub).length by omega] at D⊢
   rw[Se,h.not (s:=Bf) (by decide+kernel),if_neg (by simp),h.not (s:=Eo) (by decide+kernel),if_neg (by simp),h.not (s:=Lo) (by decide+kernel),if_neg (by simp),h.not (s:=Cu) (by decide+kernel),if_neg (by simp),if_pos h.word];refine(Ag5 L h.tail D).then fun y hy=> ?_
   exact .mk _ _ (by rw[Nz,Nz,c3,zN _ J,(E _ C).1,(E _ C).2,hy,Z _ M,W,X,Y,V];rfl)
  ·have O:Jz t=Ah Lw::In t.sub:=by rw[Jz,if_neg I,if_neg U,if_neg (by omega),if_neg (by omega),if_pos c6]
   rw[O] at h D⊢
   rw[jA,show k+((In t.sub).length+1)=k+1+(In t.sub).length by omega] at D⊢
   rw[Se,h.not (s:=Bf) (by decide+kernel),if_neg (by simp),h.not (s:=Eo) (by decide+kernel),if_neg (by simp),h.not (s:=Lo) (by decide+kernel),if_neg (by simp),h.not (s:=Cu) (by decide+kernel),if_neg (by simp),h.not (s:=Am0) (by decide+kernel),if_neg (by simp),if_pos h.word];refine(Ag5 L h.tail D).then fun y hy=> ?_
   exact .mk _ _ (by rw[Nz,Nz,c6,zN _ J,(E _ C).1,(E _ C).2,hy,Z _ M,W,X,Y,V];rfl)
 by_cases c4:t.kind=4
 ·have O:Jz t=Ah Lo::Ah Bf::(Lp t.disc++(Ah Bv::Ah wOf::In t.sub)):=by rw[Jz,if_neg I,if_neg U,if_neg (by omega),if_pos c4]
  rw[Du,if_neg I,if_neg U,if_neg aa,if_pos c4] at hm;simp only[jF,Bool.not_eq_true'] at hm;obtain⟨⟨⟨⟨⟨J,C⟩,L⟩,M⟩,S⟩,V⟩:=hm;obtain⟨W,X,Y⟩:=zR _ S;rw[O] at h D⊢
  have hr:=h.tail.tail.right;rw[show k+(Ah Lo::Ah Bf::(Lp t.disc++(Ah Bv::Ah wOf::In t.sub))).length=k+1+1+(Lp t.disc).length+1+1+(In t.sub).length by simp only[jC,jA];omega] at D⊢
  rw[Se,h.not (s:=Bf) (by decide+kernel),if_neg (by simp),h.not (s:=Eo) (by decide+kernel),if_neg (by simp),if_pos h.word,Eg h.tail];refine(Cd4 M h.tail.tail.left (hr.nof (by decide+kernel))).then fun d hd=> ?_
  rw[Eg hr,Eg hr.tail];refine(Ag5 L hr.tail.tail D).then fun y hy=> ?_
  exact .mk _ _ (by rw[Nz,Nz,c4,zN _ J,(E _ C).1,(E _ C).2,hy,hd,W,X,Y,V];rfl)
 by_cases c5:t.kind=5
 ·rw[Du,if_neg I,if_neg U,if_neg aa,if_neg c4,if_pos c5] at hm;simp only[jF,Bool.not_eq_true'] at hm;obtain⟨⟨⟨⟨⟨J,C⟩,L⟩,M⟩,S⟩,V⟩:=hm;have O:Jz t=if t.comps.isEmpty&&decide (t.var= []) then [Ah Fm,Ah Cu] else Bt6 t:=by rw[Jz,if_neg I,if_neg U,if_neg (by omega),if_neg c4,if_neg (by omega),if_neg (by omega)]
  rw[O] at h D⊢
  by_cases cc:(t.comps.isEmpty&&decide (t.var= []))=true
  ·rw[if_pos cc] at h D⊢
   rw[jF,decide_eq_true_eq,List.isEmpty_iff] at cc;have ae:t.arms= []:=by
    simp only[Lu,jF,decide_eq_true_eq,Bool.or_eq_true] at S;exact List.length_eq_zero_iff.1 (S.1.1.1.1.2.1 cc.2)
   rw[Se,h.not (s:=Bf) (by decide+kernel),if_neg (by simp),h.not (s:=Eo) (by decide+kernel),if_neg (by simp),h.not (s:=Lo) (by decide+kernel),if_neg (by simp),h.not (s:=Cu) (by decide+kernel),if_neg (by simp),h.not (s:=Am0) (by decide+kernel),if_neg (by simp),h.not (s:=Lw) (by decide+kernel),if_neg (by simp),h.not (s:=Fp) (by decide+kernel),if_neg (by simp),h.not (s:=Ko) (by decide+kernel),if_neg (by simp),if_pos h.word,Eg h.tail];exact .mk _ _ (by rw[Nz,Nz,c5,zN _ J,(E _ C).1,(E _ C).2,zI _ L,Z _ M,cc.1,cc.2,ae,V];rfl)
  ·rw[if_neg cc] at h D⊢
   have h':Pre l k (Ah Cu::((if t.comps.isEmpty then [] else Hf t.comps)++(Pw t.var t.arms++ [Ah Pz,Ah Cu]))):=h;rw[Se,h'.not (s:=Bf) (by decide+kernel),if_neg (by simp),h'.not (s:=Eo) (by decide+kernel),if_neg (by simp),h'.not (s:=Lo) (by decide+kernel),if_neg (by simp),if_pos h'.word];exact Em8 S c5 J C L M V h
 ·rw[Du,if_neg I,if_neg U,if_neg aa,if_neg c4,if_neg c5] at hm;simp only[jF,decide_eq_true_eq] at hm;obtain⟨⟨⟨⟨⟨c7,J⟩,C⟩,L⟩,M⟩,S⟩:=hm;obtain⟨W,X,Y⟩:=zR _ S;have O:Jz t=(if t.limited then [Ah Ko] else [])++ [Ah Fp]:=by rw[Jz,if_neg I,if_neg U,if_neg (by omega),if_neg c4,if_neg (by omega),if_pos c7]
  rw[O] at h D⊢
  cases cl:t.limited with
  | false=>
   rw[cl] at h;have h':Pre l k [Ah Fp]:=h;rw[Se,h'.not (s:=Bf) (by decide+kernel),if_neg (by simp),h'.not (s:=Eo) (by decide+kernel),if_neg (by simp),h'.not (s:=Lo) (by decide+kernel),if_neg (by simp),h'.not (s:=Cu) (by decide+kernel),if_neg (by simp),h'.not (s:=Am0) (by decide+kernel),if_neg (by simp),h'.not (s:=Lw) (by decide+kernel),if_neg (by simp),if_pos h'.word];exact .mk _ _ (by rw[Nz,Nz,c7,zN _ J,(E _ C).1,(E _ C).2,zI _ L,Z _ M,W,X,Y,cl];rfl)
  | true=>
   rw[cl] at h;have h':Pre l k [Ah Ko,Ah Fp]:=h;rw[Se,h'.not (s:=Bf) (by decide+kernel),if_neg (by simp),h'.not (s:=Eo) (by decide+kernel),if_neg (by simp),h'.not (s:=Lo) (by decide+kernel),if_neg (by simp),h'.not (s:=Cu) (by decide+kernel),if_neg (by simp),h'.not (s:=Am0) (by decide+kernel),if_neg (by simp),h'.not (s:=Lw) (by decide+kernel),if_neg (by simp),h'.not (s:=Fp) (by decide+kernel),if_neg (by simp),if_pos h'.word,Eg h'.tail];exact .mk _ _ (by rw[Nz,Nz,c7,zN _ J,(E _ C).1,(E _ C).2,zI _ L,Z _ M,W,X,Y,cl];rfl)
end
end Go.Dl
