/- The data level and the contracts of the functions that are reached (part 10). -/
import Derived.Test.YtddbdpcgikmiaaaGreatDoorPni
set_option linter.unusedSimpArgs false
set_option linter.unusedVariables false
set_option linter.unusedSectionVars false
-- Chapter 4: which records and type defini
namespace Go.Dl
open Go Go.Proofs
set_option maxRecDepth 100000
theorem Fb7 {w r x:List DVal} (hw:w.length=9):x++List.drop 9 (w++r)=x++r:=by rw[List.drop_left' hw]
theorem Fb8 {m n:Nat} {pre w r x:List DVal} (hp:pre.length=m) (hw:w.length=9) (h:n=m+9):List.take m (pre++(w++r))++x++List.drop n (pre++(w++r))=(pre++x)++r:=by
 subst h;rw[List.take_left' hp,<-List.drop_drop,List.drop_left' hp,List.drop_left' hw]
theorem Fb9 {m n:Nat} {pre w x:List DVal} (hp:pre.length=m) (hw:w.length=9) (h:n=m+9):List.take m (pre++w)++x++List.drop n (pre++w)=pre++x:=by
 subst h;rw[List.take_left' hp,<-List.drop_drop,List.drop_left' hp,List.drop_eq_nil_of_le (by omega),jH]
theorem Eh0 {x y z:List DVal} (hx:x.length=9) (C:y.length=9) (hz:z.length=9):
  (if 9<=(Cc 3 [DVal.int .u8 0,DVal.int .u8 0,DVal.int .i64 0,DVal.str [],DVal.nilSlice,DVal.nilSlice,DVal.int .i64 0,DVal.int .i64 0,DVal.int .i64 0]).length then(if 18<=(x++List.drop 9 (Cc 3 [DVal.int .u8 0,DVal.int .u8 0,DVal.int .i64 0,DVal.str [],DVal.nilSlice,DVal.nilSlice,DVal.int .i64 0,DVal.int .i64 0,DVal.int .i64 0])).length then(if 27<=(List.take 9 (x++List.drop 9 (Cc 3 [DVal.int .u8 0,DVal.int .u8 0,DVal.int .i64 0,DVal.str [],DVal.nilSlice,DVal.nilSlice,DVal.int .i64 0,DVal.int .i64 0,DVal.int .i64 0]))++y++List.drop 18 (x++List.drop 9 (Cc 3 [DVal.int .u8 0,DVal.int .u8 0,DVal.int .i64 0,DVal.str [],DVal.nilSlice,DVal.nilSlice,DVal.int .i64 0,DVal.int .i64 0,DVal.int .i64 0]))).length then some (List.take 18 (List.take 9 (x++List.drop 9 (Cc 3 [DVal.int .u8 0,DVal.int .u8 0,DVal.int .i64 0,DVal.str [],DVal.nilSlice,DVal.nilSlice,DVal.int .i64 0,DVal.int .i64 0,DVal.int .i64 0]))++y++List.drop 18 (x++List.drop 9 (Cc 3 [DVal.int .u8 0,DVal.int .u8 0,DVal.int .i64 0,DVal.str [],DVal.nilSlice,DVal.nilSlice,DVal.int .i64 0,DVal.int .i64 0,DVal.int .i64 0])))++z++List.drop 27 (List.take 9 (x++List.drop 9 (Cc 3 [DVal.int .u8 0,DVal.int .u8 0,DVal.int .i64 0,DVal.str [],DVal.nilSlice,DVal.nilSlice,DVal.int .i64 0,DVal.int .i64 0,DVal.int .i64 0]))++y++List.drop 18 (x++List.drop 9 (Cc 3 [DVal.int .u8 0,DVal.int .u8 0,DVal.int .i64 0,DVal.str [],DVal.nilSlice,DVal.nilSlice,DVal.int .i64 0,DVal.int .i64 0,DVal.int .i64 0])))) else none) else none) else none)=some (x++y++z):=by
 have e: ∀w:List DVal,Cc 3 w=w++(w++(w)):=fun w=>by simp [Cc]
 obtain⟨w,hw⟩: ∃w:List DVal,w= [DVal.int .u8 0,DVal.int .u8 0,DVal.int .i64 0,DVal.str [],DVal.nilSlice,DVal.nilSlice,DVal.int .i64 0,DVal.int .i64 0,DVal.int .i64 0]:=⟨_,rfl⟩;have h:w.length=9:=by rw[hw];rfl
 rw[<-hw,e];clear hw e;rw[Fb7 h];rw[Fb8 (pre:=x) (m:=9) (n:=18) (by simp [hx]) h rfl];rw[Fb9 (pre:=(x++y)) (m:=18) (n:=27) (by simp [hx,C]) h rfl]
 repeat rw [if_pos (by simp [h,hx,C,hz])]
theorem Eh1 {x y z u:List DVal} (hx:x.length=9) (C:y.length=9) (hz:z.length=9) (D:u.length=9):
  (if 9<=(Cc 4 [DVal.int .u8 0,DVal.int .u8 0,DVal.int .i64 0,DVal.str [],DVal.nilSlice,DVal.nilSlice,DVal.int .i64 0,DVal.int .i64 0,DVal.int .i64 0]).length then(if 18<=(x++List.drop 9 (Cc 4 [DVal.int .u8 0,DVal.int .u8 0,DVal.int .i64 0,DVal.str [],DVal.nilSlice,DVal.nilSlice,DVal.int .i64 0,DVal.int .i64 0,DVal.int .i64 0])).length then(if 27<=(List.take 9 (x++List.drop 9 (Cc 4 [DVal.int .u8 0,DVal.int .u8 0,DVal.int .i64 0,DVal.str [],DVal.nilSlice,DVal.nilSlice,DVal.int .i64 0,DVal.int .i64 0,DVal.int .i64 0]))++y++List.drop 18 (x++List.drop 9 (Cc 4 [DVal.int .u8 0,DVal.int .u8 0,DVal.int .i64 0,DVal.str [],DVal.nilSlice,DVal.nilSlice,DVal.int .i64 0,DVal.int .i64 0,DVal.int .i64 0]))).length then(if 36<=(List.take 18 (List.take 9 (x++List.drop 9 (Cc 4 [DVal.int .u8 0,DVal.int .u8 0,DVal.int .i64 0,DVal.str [],DVal.nilSlice,DVal.nilSlice,DVal.int .i64 0,DVal.int .i64 0,DVal.int .i64 0]))++y++List.drop 18 (x++List.drop 9 (Cc 4 [DVal.int .u8 0,DVal.int .u8 0,DVal.int .i64 0,DVal.str [],DVal.nilSlice,DVal.nilSlice,DVal.int .i64 0,DVal.int .i64 0,DVal.int .i64 0])))++z++List.drop 27 (List.take 9 (x++List.drop 9 (Cc 4 [DVal.int .u8 0,DVal.int .u8 0,DVal.int .i64 0,DVal.str [],DVal.nilSlice,DVal.nilSlice,DVal.int .i64 0,DVal.int .i64 0,DVal.int .i64 0]))++y++List.drop 18 (x++List.drop 9 (Cc 4 [DVal.int .u8 0,DVal.int .u8 0,DVal.int .i64 0,DVal.str [],DVal.nilSlice,DVal.nilSlice,DVal.int .i64 0,DVal.int .i64 0,DVal.int .i64 0])))).length then some (List.take 27 (List.take 18 (List.take 9 (x++List.drop 9 (Cc 4 [DVal.int .u8 0,DVal.int .u8 0,DVal.int .i64 0,DVal.str [],DVal.nilSlice,DVal.nilSlice,DVal.int .i64 0,DVal.int .i64 0,DVal.int .i64 0]))++y++List.drop 18 (x++List.drop 9 (Cc 4 [DVal.int .u8 0,DVal.int .u8 0,DVal.int .i64 0,DVal.str [],DVal.nilSlice,DVal.nilSlice,DVal.int .i64 0,DVal.int .i64 0,DVal.int .i64 0])))++z++List.drop 27 (List.take 9 (x++List.drop 9 (Cc 4 [DVal.int .u8 0,DVal.int .u8 0,DVal.int .i64 0,DVal.str [],DVal.nilSlice,DVal.nilSlice,DVal.int .i64 0,DVal.int .i64 0,DVal.int .i64 0]))++y++List.drop 18 (x++List.drop 9 (Cc 4 [DVal.int .u8 0,DVal.int .u8 0,DVal.int .i64 0,DVal.str [],DVal.nilSlice,DVal.nilSlice,DVal.int .i64 0,DVal.int .i64 0,DVal.int .i64 0]))))++u++List.drop 36 (List.take 18 (List.take 9 (x++List.drop 9 (Cc 4 [DVal.int .u8 0,DVal.int .u8 0,DVal.int .i64 0,DVal.str [],DVal.nilSlice,DVal.nilSlice,DVal.int .i64 0,DVal.int .i64 0,DVal.int .i64 0]))++y++List.drop 18 (x++List.drop 9 (Cc 4 [DVal.int .u8 0,DVal.int .u8 0,DVal.int .i64 0,DVal.str [],DVal.nilSlice,DVal.nilSlice,DVal.int .i64 0,DVal.int .i64 0,DVal.int .i64 0])))++z++List.drop 27 (List.take 9 (x++List.drop 9 (Cc 4 [DVal.int .u8 0,DVal.int .u8 0,DVal.int .i64 0,DVal.str [],DVal.nilSlice,DVal.nilSlice,DVal.int .i64 0,DVal.int .i64 0,DVal.int .i64 0]))++y++List.drop 18 (x++List.drop 9 (Cc 4 [DVal.int .u8 0,DVal.int .u8 0,DVal.int .i64 0,DVal.str [],DVal.nilSlice,DVal.nilSlice,DVal.int .i64 0,DVal.int .i64 0,DVal.int .i64 0]))))) else none) else none) else none) else none)=some (x++y++z++u):=by
 have e: ∀w:List DVal,Cc 4 w=w++(w++(w++(w))):=fun w=>by simp [Cc]
 obtain⟨w,hw⟩: ∃w:List DVal,w= [DVal.int .u8 0,DVal.int .u8 0,DVal.int .i64 0,DVal.str [],DVal.nilSlice,DVal.nilSlice,DVal.int .i64 0,DVal.int .i64 0,DVal.int .i64 0]:=⟨_,rfl⟩;have h:w.length=9:=by rw[hw];rfl
 rw[<-hw,e];clear hw e;rw[Fb7 h];rw[Fb8 (pre:=x) (m:=9) (n:=18) (by simp [hx]) h rfl];rw[Fb8 (pre:=(x++y)) (m:=18) (n:=27) (by simp [hx,C]) h rfl];rw[Fb9 (pre:=(x++y++z)) (m:=27) (n:=36) (by simp [hx,C,hz]) h rfl]
 repeat rw [if_pos (by simp [h,hx,C,hz,D])]
section
variable (t:Typ)
theorem Fr4:((Cs t).drop 20).take 9=dEx t.sub.name:=by
 simp only[Cs,Df,Dz,jE,jO];rw[Dr _ _ 9,Dr _ _ 0,jJ,Po]
theorem Fr5:((Cs t).drop 29).take 9=dEx t.sub.lo:=by
 simp only[Cs,Df,Dz,jE,jO];rw[Dr _ _ 18,Dr _ _ 9,Dr _ _ 0,jJ,Po]
theorem Fr6:((Cs t).drop 38).take 9=dEx t.sub.hi:=by
 simp only[Cs,Df,Dz,jE,jO];rw[Dr _ _ 27,Dr _ _ 18,Dr _ _ 9,Dr _ _ 0,jJ,Po]
theorem Fr7:((Cs t).drop 47).take 9=dEx t.sub.value:=by
 simp only[Cs,Df,Dz,jE,jO];rw[Dr _ _ 36,Dr _ _ 27,Dr _ _ 18,Dr _ _ 9,Dr _ _ 0,jJ,Po]
theorem Fr8:((Cs t).drop 56).take 9=dEx t.disc.name:=by
 simp only[Cs,Df,Dz,jE,jO];rw[Dr _ _ 45,Dr _ _ 36,Dr _ _ 27,Dr _ _ 18,Dr _ _ 9,Dr _ _ 0,jJ,Po]
theorem Fr9:((Cs t).drop 65).take 9=dEx t.disc.lo:=by
 simp only[Cs,Df,Dz,jE,jO];rw[Dr _ _ 54,Dr _ _ 45,Dr _ _ 36,Dr _ _ 27,Dr _ _ 18,Dr _ _ 9,Dr _ _ 0,jJ,Po]
theorem Fs0:((Cs t).drop 74).take 9=dEx t.disc.hi:=by
 simp only[Cs,Df,Dz,jE,jO];rw[Dr _ _ 63,Dr _ _ 54,Dr _ _ 45,Dr _ _ 36,Dr _ _ 27,Dr _ _ 18,Dr _ _ 9,Dr _ _ 0,jJ,Po]
end
theorem xft:(false==true)=false:=rfl
theorem xtf:(true==false)=false:=rfl
theorem xff:(false==false)=true:=rfl
theorem xtt:(true==true)=true:=rfl
theorem Gh2 (G:Nat->DVal) (H:Ac) (l:List Int) (t:Int) (hl:l.length<=1099511627776):
  Af Tryz.prog G 211 [.vslice (l.map (.int .u8)) l.length, .int .u8 t] H (Au (dI (Bc3 (fun x=>decide (t=x)) l)) H):=by
 refine Ab Tryz.func211 Tryz.call211 rfl (by kernel_rfl) ?_;simp(disch:=omega)only[go_sem];refine Dn5.run (fun(i:Nat) env heap=>heap=H/\env 0= .vslice (l.map (.int .u8)) l.length/\env 1= .int .u8 t/\env 7=dI l.length/\env 8=dI i/\i<=l.length/\ ∀x∈l.take i,decide (t=x)=false) (fun i=>l.length-i) 0 ?_ ?_
 ·simp(disch:=omega)only[go_sem];simp
 ·rintro i env heap ⟨rfl,h0,h1,h7,h8,hi,hn⟩;by_cases h:i<l.length
  ·have y:(l.map (DVal.int .u8))[i]? =some (.int .u8 l[i]):=by rw[List.getElem?_map,List.getElem?_eq_getElem h];rfl
   by_cases hx:t=l[i]
   ·simp(disch:=omega)only[go_sem,h0,h1,h7,h8,y,<-hx,jK];exact Es.refl ⟨by rw[Ac3 h (by simp [hx]) hn],rfl⟩
   ·simp(disch:=omega)only[go_sem,h0,h1,h7,h8,y,hx,jK];refine⟨i+1,_,Ri.refl _, ?_,by omega⟩;simp(disch:=omega)only[go_sem,h0,h1,h7,h8];(repeat' apply And.intro)<;>(try first | rfl | assumption | omega);exact Mh h hn (by simp [hx])
  ·simp(disch:=omega)only[go_sem,h0,h1,h7,h8];have:i=l.length:=by omega
   subst this;rw[List.take_length] at hn;exact Es.refl ⟨by rw[Ac4 hn],rfl⟩
theorem Eh2 (G:Nat->DVal) (H:Ac) (l:List Int) (t:Int) (hl:l.length<=1099511627776):
  Af Tryz.prog G 111 [.vslice (l.map (.int .u8)) l.length, .int .u8 t] H (Au (.bool (l.any fun x=>decide (t=x))) H):=by
 refine Ab Tryz.func111 Tryz.call111 rfl (by kernel_rfl) ?_;simp(disch:=omega)only[go_sem];refine(Gh2 G H l t hl).mono ?_;rintro _ H ⟨rfl,rfl⟩;simp(disch:=omega)only[go_sem];exact Es.refl ⟨by rw[Vs],rfl⟩
theorem Ok (G:Nat->DVal) (K:Ac) (t:Typ) (h q:Nat) (l:List Int) (b:Bool) (y:K h=some (.cells (Cs t) 62)) (C:K q=none) (hl:l.length<=1000) (hb:(l.any fun x=>decide (t.kind=x))=b):
  Af Tryz.prog G 110 [.oslice 1 q 0 l.length l.length, .optr h 0] (upd K q (some (.cells (l.map (.int .u8)) 53))) (Au (.bool b) K):=by
 subst hb;refine Af.fzA q C ?_;have n:h≠q:=Ae C y;simp only[fzs,fz,if_neg n,if_pos,jJ,Nat.mul_one];rw[List.take_of_length_le (by simp)];refine Ab Tryz.func110 Tryz.call110 rfl (by kernel_rfl) ?_;simp(disch:=omega)only[go_sem,y,Nj,Cj];refine Af.monoR (Eh2 G K l t.kind (by omega)) ?_;simp(disch:=omega)only[go_sem];exact Es.refl ⟨rfl,rfl⟩
theorem Ba9 (G:Nat->DVal) (K:Ac) (l:List Ex) (q:Nat) (b:Bool) (cs:List DVal) (h:l.flatMap dEx=cs) (y:K q=none) (hl:l.length<=1099511627776) (hb: ∀x∈l,Dn 1048576 x) (hr:l.all noE=b):
  Af Tryz.prog G 112 [.oslice 9 q 0 l.length l.length] (upd K q (some (.cells cs 27))) (Au (.bool b) K):=by
 subst hr;subst h;refine Af.fzA q y ?_;have hfl:=Ax Ad l;simp only[fzs,fz,if_pos,jJ];rw[List.take_of_length_le (by omega)];exact Bz1 G K l hl hb
theorem Bp3 {l:List Arm} {k:Nat} (h:k<l.length):Tk (l.take (k+1))=Tk (l.take k)+He l[k].comps:=by
 rw[Tk,Tk,List.take_add_one,List.getElem?_eq_getElem h,List.map_append,List.sum_append];simp
theorem Ap4 {l:List Cmp} (hl:Mr Aa4 1048576 l):He l<=1099511627776:=by
 have h: ∀l:List Cmp,(∀x∈l,Aa4 1048576 x)->He l<=l.length*1048576:=by
  intro l
  induction l with
  | nil=>intro _;simp [He]
  | cons x l ih=>
   intro h;have h1:=ih fun y C=>h y (List.mem_cons_of_mem _ C);have h2:=(h x (List.mem_cons_self ..)).1.1;have e:He (x::l)=x.names.length+He l:=by simp [He]
   rw[e,jA];omega
 have h1:=h l hl.2;have h2:=hl.1;omega
def Ub (t:Typ) (k:Nat):Nat:=He t.comps+Tk (t.arms.take k)
theorem Fc0 (t:Typ):Ub t 0=He t.comps:=by simp [Ub,Tk]
section
variable {G:Nat->DVal} (hG:GX G)
include hG
theorem Gh3 (K:Ac) (l:List Ex) (q:Nat) (b:Bool) (cs:List DVal) (h:l.flatMap dEx=cs) (y:K q=none) (hl:l.length<=1099511627776) (hb: ∀x∈l,Dn 1048576 x) (hr:l.all Cg=b):
  Af Tryz.prog G 102 [.oslice 9 q 0 l.length l.length] (upd K q (some (.cells cs 27))) (Au (.bool b) K):=by
 subst hr;subst h;refine Af.fzA q y ?_;have hfl:=Ax Ad l;simp only[fzs,fz,if_pos,jJ];rw[List.take_of_length_le (by omega)];exact Bp2 hG K l hl hb
set_option maxHeartbeats 40000000 in
theorem Cv0 (H:Ac) (t:Typ) (ht:Wg 1048576 t):Af Tryz.prog G 107 [.agg (Cs t)] H (Au (.bool (Pd t)) H):=by
 obtain⟨f0,f1,f2,f3,f4,f5,f6,f7⟩:=ht;have a7:=f7.1;refine Ab Tryz.func107 Tryz.call107 rfl (by kernel_rfl) ?_;simp(disch:=omega)only[go_sem,DVal.cells];intro r1 ah;dsimp only at ah;obtain⟨K,hK⟩: ∃K',K'=upd H r1 (some (.cells (Cs t) 62)):=⟨_,rfl⟩;rw[<-hK];have E:K r1=some (.cells (Cs t) 62):=by rw[hK];exact Aa _ _ _
 have J:Sub H K:=by rw[hK];exact(Sub.refl _).new ah _
 simp(disch:=omega)only[go_sem,E,Cj,Nj,Oi,Oj,Jq,Jr,Js,Jt,Ju,Jv,Jw];refine Af.monoR (Xp hG K t.comps f5) ?_;cases h1:t.comps.all Hd
 ·simp(disch:=omega)only[go_sem,E,Cj,Nj,Oi,Oj,Jq,Jr,Js,Jt,Ju,Jv,Jw];exact Es.sub J (.refl ⟨by simp [Pd,h1],rfl⟩)
 by_cases h2:16<t.arms.length
 ·have Y:(16:Int)<(t.arms.length:Int):=by omega
  simp(disch:=omega)only[go_sem,E,Cj,Nj,Oi,Oj,Jq,Jr,Js,Jt,Ju,Jv,Jw,Eg,Y];exact Es.sub J (.refl ⟨by simp [Pd,h1];omega,rfl⟩)
 have Y: ¬(16:Int)<(t.arms.length:Int):=by omega
 by_cases hv:t.var= []
 ·by_cases ha:t.arms.length=0
  ·have O:(t.arms.length:Int)=0:=by omega
   have W:Pd t=(t.arms.all Kd&&decide (He t.comps+Tk t.arms<=32)):=by simp [Pd,h1,hv,ha]
   simp(disch:=omega)only[go_sem,E,Cj,Nj,Oi,Oj,Jq,Jr,Js,Jt,Ju,Jv,Jw,Eg,Y,hv,O,xft,xtf,xff,xtt];have ai:=Ap4 f5;obtain⟨I,X⟩: ∃I:Nat->(Nat->DVal)->Ac->Prop,∀k env heap,I k env heap↔(env 1= .optr r1 0/\env 3=dI (Ub t k:Nat)/\env 45=Eg t.arms/\env 46=dI t.arms.length/\env 47=dI k/\k<=t.arms.length/\Ub t k<=(k+1)*1099511627776/\(∀x∈t.arms.take k,Kd x=true)/\heap=K):=⟨_,fun _ _ _=>Iff.rfl⟩;refine Dn5.run I (fun k=>t.arms.length-k) 0 ((X _ _ _).2 ?_) ?_
   ·simp(disch:=omega)only[go_sem,Eg,Fc0];simp;try omega
   ·try clear O
    try clear ha
    intro k env heap hi;obtain⟨e1,h,y,C,D,hk,hs,hp,rfl⟩:=(X _ _ _).1 hi;by_cases S:k<t.arms.length
    ·have ac:(k:Int)<(t.arms.length:Int):=by omega
     have ad:IntKind.i64.wrap ((k:Int)+1)=((k+1:Nat):Int):=by rw[IntKind.wrap_i64];omega
     have mx:=List.getElem_mem S;have hst:Kd t.arms[k]=true-> ∀x∈t.arms.take (k+1),Kd x=true:=Bz2 S hp;have Z:Ub t (k+1)=Ub t k+He t.arms[k].comps:=by rw[Ub,Bp3 S,Ub];omega
     have aa:=Cu De t.arms k S;obtain⟨x,hx⟩: ∃x,x=t.arms[k]:=⟨_,rfl⟩;rw[<-hx] at aa mx hst Z;have U:=f7.2 x mx;have fn:=Ap4 U.2;have fc:=U.1.1;have ab:IntKind.i64.wrap ((Ub t k:Nat)+(He x.comps:Int))=((Ub t (k+1):Nat):Int):=by
      rw[Z,IntKind.wrap_i64];omega
     simp(disch:=omega)only[go_sem,E,Cj,Nj,Oi,Oj,Jq,Jr,Js,Jt,Ju,Jv,Jw,e1,h,y,C,D,Eg,ac,Ax De,jD,aa];intro L V;dsimp only at V;have M:upd heap L (some (.cells (Qc x) 164)) L=some (.cells (Qc x) 164):=Aa _ _ _;simp(disch:=omega)only[go_sem,e1,h,y,C,D,M,De,Ru,Rv];refine Af.monoR (Xp hG _ x.comps U.2) ?_;cases h3:x.comps.all Hd
     ·simp(disch:=omega)only[go_sem,e1,h,y,C,D,M,De,Ru,Rv];exact Es.dropA L V (Es.sub J (.refl ⟨by rw[W,Be6 mx (by simp [Kd,h3])];rfl,rfl⟩))
     simp(disch:=omega)only[go_sem,e1,h,y,C,D,M,De,Ru,Rv];refine Af.monoR (Nm hG _ x.c (by omega) U.1.2) ?_;cases h4:Kp x.c
     ·simp(disch:=omega)only[go_sem,e1,h,y,C,D,M,De,Ru,Rv];exact Es.dropA L V (Es.sub J (.refl ⟨by rw[W,Be6 mx (by simp [Kd,h4])];rfl,rfl⟩))
     simp(disch:=omega)only[go_sem,e1,h,y,C,D,M,De,Ru,Rv,ab];refine⟨k+1,_,Ri.drop _ L,(X _ _ _).2 ?_,by omega⟩;simp(disch:=omega)only[go_sem,e1,h,y,C,D,ad,ab];(repeat' apply And.intro)<;>(try first | rfl | assumption | omega)
     ·exact hst (by simp [Kd,h3,h4])
     ·exact Zj V
    ·have:k=t.arms.length:=by omega
     subst this;have ae:=Cu9 hp;have hN:Ub t t.arms.length=He t.comps+Tk t.arms:=by rw[Ub,List.take_length]
     have af: ¬(t.arms.length:Int)<(t.arms.length:Int):=by omega
     simp(disch:=omega)only[go_sem,e1,h,y,C,D,af];exact Es.sub J (.refl ⟨by rw[W,ae,hN,jS];congr 2;simp;omega,rfl⟩)
  ·have O: ¬(t.arms.length:Int)=0:=by omega
   simp(disch:=omega)only[go_sem,E,Cj,Nj,Oi,Oj,Jq,Jr,Js,Jt,Ju,Jv,Jw,Eg,Y,hv,O,xft,xtf,xff,xtt];have ag: ¬t.arms= []:=fun e=>ha (by rw[e];rfl);exact Es.sub J (.refl ⟨by simp [Pd,h1,hv,ag],rfl⟩)
 ·by_cases ha:t.arms.length=0
  ·have O:(t.arms.length:Int)=0:=by omega
   simp(disch:=omega)only[go_sem,E,Cj,Nj,Oi,Oj,Jq,Jr,Js,Jt,Ju,Jv,Jw,Eg,Y,hv,O,xft,xtf,xff,xtt];exact Es.sub J (.refl ⟨by simp [Pd,h1,hv,ha],rfl⟩)
  ·have O: ¬(t.arms.length:Int)=0:=by omega
   simp(disch:=omega)only[go_sem,E,Cj,Nj,Oi,Oj,Jq,Jr,Js,Jt,Ju,Jv,Jw,Eg,Y,hv,O,xft,xtf,xff,xtt];refine Af.monoR (Xb hG K t.var f6.1) ?_;cases h3:Lo t.var
   ·simp(disch:=omega)only[go_sem,E,Cj,Nj,Oi,Oj,Jq,Jr,Js,Jt,Ju,Jv,Jw];exact Es.sub J (.refl ⟨by simp [Pd,hv,h3],rfl⟩)
   ·have W:Pd t=(t.arms.all Kd&&decide (He t.comps+Tk t.arms<=32)):=by
     have aj:t.arms.length<=16:=by omega
     have ag: ¬t.arms= []:=fun e=>ha (by rw[e];rfl);simp [Pd,h1,hv,ag,h3,aj]
    simp(disch:=omega)only[go_sem,E,Cj,Nj,Oi,Oj,Jq,Jr,Js,Jt,Ju,Jv,Jw,Eg];have ai:=Ap4 f5;obtain⟨I,X⟩: ∃I:Nat->(Nat->DVal)->Ac->Prop,∀k env heap,I k env heap↔(env 1= .optr r1 0/\env 3=dI (Ub t k:Nat)/\env 45=Eg t.arms/\env 46=dI t.arms.length/\env 47=dI k/\k<=t.arms.length/\Ub t k<=(k+1)*1099511627776/\(∀x∈t.arms.take k,Kd x=true)/\heap=K):=⟨_,fun _ _ _=>Iff.rfl⟩;refine Dn5.run I (fun k=>t.arms.length-k) 0 ((X _ _ _).2 ?_) ?_
    ·simp(disch:=omega)only[go_sem,Eg,Fc0];simp;try omega
    ·try clear O
     try clear ha
     intro k env heap hi;obtain⟨e1,h,y,C,D,hk,hs,hp,rfl⟩:=(X _ _ _).1 hi;by_cases S:k<t.arms.length
     ·have ac:(k:Int)<(t.arms.length:Int):=by omega
      have ad:IntKind.i64.wrap ((k:Int)+1)=((k+1:Nat):Int):=by rw[IntKind.wrap_i64];omega
      have mx:=List.getElem_mem S;have hst:Kd t.arms[k]=true-> ∀x∈t.arms.take (k+1),Kd x=true:=Bz2 S hp;have Z:Ub t (k+1)=Ub t k+He t.arms[k].comps:=by rw[Ub,Bp3 S,Ub];omega
      have aa:=Cu De t.arms k S;obtain⟨x,hx⟩: ∃x,x=t.arms[k]:=⟨_,rfl⟩;rw[<-hx] at aa mx hst Z;have U:=f7.2 x mx;have fn:=Ap4 U.2;have fc:=U.1.1;have ab:IntKind.i64.wrap ((Ub t k:Nat)+(He x.comps:Int))=((Ub t (k+1):Nat):Int):=by
       rw[Z,IntKind.wrap_i64];omega
      simp(disch:=omega)only[go_sem,E,Cj,Nj,Oi,Oj,Jq,Jr,Js,Jt,Ju,Jv,Jw,e1,h,y,C,D,Eg,ac,Ax De,jD,aa];intro L V;dsimp only at V;have M:upd heap L (some (.cells (Qc x) 164)) L=some (.cells (Qc x) 164):=Aa _ _ _;simp(disch:=omega)only[go_sem,e1,h,y,C,D,M,De,Ru,Rv];refine Af.monoR (Xp hG _ x.comps U.2) ?_;cases h3:x.comps.all Hd
      ·simp(disch:=omega)only[go_sem,e1,h,y,C,D,M,De,Ru,Rv];exact Es.dropA L V (Es.sub J (.refl ⟨by rw[W,Be6 mx (by simp [Kd,h3])];rfl,rfl⟩))
      simp(disch:=omega)only[go_sem,e1,h,y,C,D,M,De,Ru,Rv];refine Af.monoR (Nm hG _ x.c (by omega) U.1.2) ?_;cases h4:Kp x.c
      ·simp(disch:=omega)only[go_sem,e1,h,y,C,D,M,De,Ru,Rv];exact Es.dropA L V (Es.sub J (.refl ⟨by rw[W,Be6 mx (by simp [Kd,h4])];rfl,rfl⟩))
      simp(disch:=omega)only[go_sem,e1,h,y,C,D,M,De,Ru,Rv,ab];refine⟨k+1,_,Ri.drop _ L,(X _ _ _).2 ?_,by omega⟩;simp(disch:=omega)only[go_sem,e1,h,y,C,D,ad,ab];(repeat' apply And.intro)<;>(try first | rfl | assumption | omega)
      ·exact hst (by simp [Kd,h3,h4])
      ·exact Zj V
     ·have:k=t.arms.length:=by omega
      subst this;have ae:=Cu9 hp;have hN:Ub t t.arms.length=He t.comps+Tk t.arms:=by rw[Ub,List.take_length]
      have af: ¬(t.arms.length:Int)<(t.arms.length:Int):=by omega
      simp(disch:=omega)only[go_sem,e1,h,y,C,D,af];exact Es.sub J (.refl ⟨by rw[W,ae,hN,jS];congr 2;simp;omega,rfl⟩)
theorem Gq7 (K:Ac) (t:Typ) (h:Nat) (y:Wg 1048576 t) (C:K h=some (.cells (Cs t) 62)):Af Tryz.prog G 99 [.optr h 0] K (Au (.bool (Ih t.names 64)) K):=by
 obtain⟨D,E,I,J,L,M,O,S⟩:=y;refine Ab Tryz.func99 Tryz.call99 rfl (by kernel_rfl) ?_;simp(disch:=omega)only[go_sem,C,Cj,Nj,Oi,Oj,Jq,Jr,Js,Jt,Ju,Jv,Jw,Ai (Ad _),Ap (Ad _) (Ad _)];refine Af.monoR (Ai3 hG K t.names 64 D) ?_;simp(disch:=omega)only[go_sem];exact Es.refl ⟨rfl,rfl⟩
theorem Gq8 (K:Ac) (t:Typ) (h:Nat) (y:Wg 1048576 t) (C:K h=some (.cells (Cs t) 62)):Af Tryz.prog G 101 [.optr h 0] K (Au (.bool (Cg t.lo&&Cg t.hi)) K):=by
 obtain⟨D,E,I,J,L,M,O,S⟩:=y;refine Ab Tryz.func101 Tryz.call101 rfl (by kernel_rfl) ?_;simp(disch:=omega)only[go_sem,C,Cj,Nj,Oi,Oj,Jq,Jr,Js,Jt,Ju,Jv,Jw,Ai (Ad _),Ap (Ad _) (Ad _)];intro q hq;dsimp only at hq;simp(disch:=omega)only[go_sem];refine Af.monoR (Gh3 hG K [t.lo,t.hi] q _ _ (by simp) hq (by simp) (by intro x hx;simp at hx;rcases hx with rfl | rfl<;>assumption) rfl) ?_;simp(disch:=omega)only[go_sem];exact Es.refl ⟨by simp,rfl⟩
theorem Gq9 (K:Ac) (t:Typ) (h:Nat) (y:Wg 1048576 t) (C:K h=some (.cells (Cs t) 62)):Af Tryz.prog G 103 [.optr h 0] K (Au (.bool (Cr t.sub)) K):=by
 obtain⟨E,I,J,D,L,M,O,S⟩:=y;refine Ab Tryz.func103 Tryz.call103 rfl (by kernel_rfl) ?_;simp(disch:=omega)only[go_sem,C,Cj,Nj,Oi,Oj,Jq,Jr,Js,Jt,Ju,Jv,Jw,Ai (Ad _),Ap (Ad _) (Ad _)];refine Af.monoR (Qy hG K t.sub D) ?_;simp(disch:=omega)only[go_sem];exact Es.refl ⟨rfl,rfl⟩
theorem Gr0 (K:Ac) (t:Typ) (y:Nat) (C:Wg 1048576 t) (h:K y=some (.cells (Cs t) 62)):Af Tryz.prog G 105 [.optr y 0] K (Au (.bool (Cr t.sub&&Ib t.disc)) K):=by
 obtain⟨I,J,L,D,E,M,O,S⟩:=C;refine Ab Tryz.func105 Tryz.call105 rfl (by kernel_rfl) ?_;simp(disch:=omega)only[go_sem,h,Cj,Nj,Oi,Oj,Jq,Jr,Js,Jt,Ju,Jv,Jw,Ai (Ad _),Ap (Ad _) (Ad _)];refine Af.monoR (Qy hG K t.sub D) ?_;cases h1:Cr t.sub
 ·simp(disch:=omega)only[go_sem,h,Cj,Nj,Oi,Oj,Jq,Jr,Js,Jt,Ju,Jv,Jw];exact Es.refl ⟨rfl,rfl⟩
 simp(disch:=omega)only[go_sem,h,Cj,Nj,Oi,Oj,Jq,Jr,Js,Jt,Ju,Jv,Jw];refine Af.monoR (Ba8 hG K t.disc E) ?_;simp(disch:=omega)only[go_sem];exact Es.refl ⟨by simp,rfl⟩
theorem Gr1 (K:Ac) (t:Typ) (h:Nat) (y:Wg 1048576 t) (C:K h=some (.cells (Cs t) 62)):Af Tryz.prog G 106 [.optr h 0] K (Au (.bool (Pd t)) K):=by
 obtain⟨D,E,I,J,L,M,O,S⟩:=y;refine Ab Tryz.func106 Tryz.call106 rfl (by kernel_rfl) ?_;simp(disch:=omega)only[go_sem,C,Cj,Nj,Oi,Oj,Jq,Jr,Js,Jt,Ju,Jv,Jw,Ai (Ad _),Ap (Ad _) (Ad _)];refine Af.monoR (Cv0 hG K t ⟨D,E,I,J,L,M,O,S⟩) ?_;simp(disch:=omega)only[go_sem];exact Es.refl ⟨rfl,rfl⟩
theorem Gr2 (K:Ac) (t:Typ) (h:Nat) (y:Wg 1048576 t) (C:K h=some (.cells (Cs t) 62)):Af Tryz.prog G 108 [.optr h 0] K (Au (.bool (Cr t.sub)) K):=by
 obtain⟨E,I,J,D,L,M,O,S⟩:=y;refine Ab Tryz.func108 Tryz.call108 rfl (by kernel_rfl) ?_;simp(disch:=omega)only[go_sem,C,Cj,Nj,Oi,Oj,Jq,Jr,Js,Jt,Ju,Jv,Jw,Ai (Ad _),Ap (Ad _) (Ad _)];refine Af.monoR (Qy hG K t.sub D) ?_;simp(disch:=omega)only[go_sem];exact Es.refl ⟨rfl,rfl⟩
theorem Gr3 (K:Ac):Af Tryz.prog G 109 [] K (Au (.bool true) K):=by
 refine Ab Tryz.func109 Tryz.call109 rfl (by kernel_rfl) ?_;simp(disch:=omega)only[go_sem];exact Es.refl ⟨rfl,rfl⟩
end
theorem Fs1 (a:Ex):
  (if 9<=(Cc 1 [DVal.int .u8 0,DVal.int .u8 0,DVal.int .i64 0,DVal.str [],DVal.nilSlice,DVal.nilSlice,DVal.int .i64 0,DVal.int .i64 0,DVal.int .i64 0]).length then some (dEx a++List.drop 9 (Cc 1 [DVal.int .u8 0,DVal.int .u8 0,DVal.int .i64 0,DVal.str [],DVal.nilSlice,DVal.nilSlice,DVal.int .i64 0,DVal.int .i64 0,DVal.int .i64 0])) else none)=some (dEx a):=Ai (Ad _)
theorem Fs2 (a b:Ex):
  (if 9<=(Cc 2 [DVal.int .u8 0,DVal.int .u8 0,DVal.int .i64 0,DVal.str [],DVal.nilSlice,DVal.nilSlice,DVal.int .i64 0,DVal.int .i64 0,DVal.int .i64 0]).length then(if 18<=(dEx a++List.drop 9 (Cc 2 [DVal.int .u8 0,DVal.int .u8 0,DVal.int .i64 0,DVal.str [],DVal.nilSlice,DVal.nilSlice,DVal.int .i64 0,DVal.int .i64 0,DVal.int .i64 0])).length then some (List.take 9 (dEx a++List.drop 9 (Cc 2 [DVal.int .u8 0,DVal.int .u8 0,DVal.int .i64 0,DVal.str [],DVal.nilSlice,DVal.nilSlice,DVal.int .i64 0,DVal.int .i64 0,DVal.int .i64 0]))++dEx b++List.drop 18 (dEx a++List.drop 9 (Cc 2 [DVal.int .u8 0,DVal.int .u8 0,DVal.int .i64 0,DVal.str [],DVal.nilSlice,DVal.nilSlice,DVal.int .i64 0,DVal.int .i64 0,DVal.int .i64 0]))) else none) else none)=some (dEx a++dEx b):=Ap (Ad _) (Ad _)
theorem Fs3 (a b c:Ex):
  (if 9<=(Cc 3 [DVal.int .u8 0,DVal.int .u8 0,DVal.int .i64 0,DVal.str [],DVal.nilSlice,DVal.nilSlice,DVal.int .i64 0,DVal.int .i64 0,DVal.int .i64 0]).length then(if 18<=(dEx a++List.drop 9 (Cc 3 [DVal.int .u8 0,DVal.int .u8 0,DVal.int .i64 0,DVal.str [],DVal.nilSlice,DVal.nilSlice,DVal.int .i64 0,DVal.int .i64 0,DVal.int .i64 0])).length then(if 27<=(List.take 9 (dEx a++List.drop 9 (Cc 3 [DVal.int .u8 0,DVal.int .u8 0,DVal.int .i64 0,DVal.str [],DVal.nilSlice,DVal.nilSlice,DVal.int .i64 0,DVal.int .i64 0,DVal.int .i64 0]))++dEx b++List.drop 18 (dEx a++List.drop 9 (Cc 3 [DVal.int .u8 0,DVal.int .u8 0,DVal.int .i64 0,DVal.str [],DVal.nilSlice,DVal.nilSlice,DVal.int .i64 0,DVal.int .i64 0,DVal.int .i64 0]))).length then some (List.take 18 (List.take 9 (dEx a++List.drop 9 (Cc 3 [DVal.int .u8 0,DVal.int .u8 0,DVal.int .i64 0,DVal.str [],DVal.nilSlice,DVal.nilSlice,DVal.int .i64 0,DVal.int .i64 0,DVal.int .i64 0]))++dEx b++List.drop 18 (dEx a++List.drop 9 (Cc 3 [DVal.int .u8 0,DVal.int .u8 0,DVal.int .i64 0,DVal.str [],DVal.nilSlice,DVal.nilSlice,DVal.int .i64 0,DVal.int .i64 0,DVal.int .i64 0])))++dEx c++List.drop 27 (List.take 9 (dEx a++List.drop 9 (Cc 3 [DVal.int .u8 0,DVal.int .u8 0,DVal.int .i64 0,DVal.str [],DVal.nilSlice,DVal.nilSlice,DVal.int .i64 0,DVal.int .i64 0,DVal.int .i64 0]))++dEx b++List.drop 18 (dEx a++List.drop 9 (Cc 3 [DVal.int .u8 0,DVal.int .u8 0,DVal.int .i64 0,DVal.str [],DVal.nilSlice,DVal.nilSlice,DVal.int .i64 0,DVal.int .i64 0,DVal.int .i64 0])))) else none) else none) else none)=some (dEx a++dEx b++dEx c):=Eh0 (Ad _) (Ad _) (Ad _)
theorem Fs4 (a b c d:Ex):
  (if 9<=(Cc 4 [DVal.int .u8 0,DVal.int .u8 0,DVal.int .i64 0,DVal.str [],DVal.nilSlice,DVal.nilSlice,DVal.int .i64 0,DVal.int .i64 0,DVal.int .i64 0]).length then(if 18<=(dEx a++List.drop 9 (Cc 4 [DVal.int .u8 0,DVal.int .u8 0,DVal.int .i64 0,DVal.str [],DVal.nilSlice,DVal.nilSlice,DVal.int .i64 0,DVal.int .i64 0,DVal.int .i64 0])).length then(if 27<=(List.take 9 (dEx a++List.drop 9 (Cc 4 [DVal.int .u8 0,DVal.int .u8 0,DVal.int .i64 0,DVal.str [],DVal.nilSlice,DVal.nilSlice,DVal.int .i64 0,DVal.int .i64 0,DVal.int .i64 0]))++dEx b++List.drop 18 (dEx a++List.drop 9 (Cc 4 [DVal.int .u8 0,DVal.int .u8 0,DVal.int .i64 0,DVal.str [],DVal.nilSlice,DVal.nilSlice,DVal.int .i64 0,DVal.int .i64 0,DVal.int .i64 0]))).length then(if 36<=(List.take 18 (List.take 9 (dEx a++List.drop 9 (Cc 4 [DVal.int .u8 0,DVal.int .u8 0,DVal.int .i64 0,DVal.str [],DVal.nilSlice,DVal.nilSlice,DVal.int .i64 0,DVal.int .i64 0,DVal.int .i64 0]))++dEx b++List.drop 18 (dEx a++List.drop 9 (Cc 4 [DVal.int .u8 0,DVal.int .u8 0,DVal.int .i64 0,DVal.str [],DVal.nilSlice,DVal.nilSlice,DVal.int .i64 0,DVal.int .i64 0,DVal.int .i64 0])))++dEx c++List.drop 27 (List.take 9 (dEx a++List.drop 9 (Cc 4 [DVal.int .u8 0,DVal.int .u8 0,DVal.int .i64 0,DVal.str [],DVal.nilSlice,DVal.nilSlice,DVal.int .i64 0,DVal.int .i64 0,DVal.int .i64 0]))++dEx b++List.drop 18 (dEx a++List.drop 9 (Cc 4 [DVal.int .u8 0,DVal.int .u8 0,DVal.int .i64 0,DVal.str [],DVal.nilSlice,DVal.nilSlice,DVal.int .i64 0,DVal.int .i64 0,DVal.int .i64 0])))).length then some (List.take 27 (List.take 18 (List.take 9 (dEx a++List.drop 9 (Cc 4 [DVal.int .u8 0,DVal.int .u8 0,DVal.int .i64 0,DVal.str [],DVal.nilSlice,DVal.nilSlice,DVal.int .i64 0,DVal.int .i64 0,DVal.int .i64 0]))++dEx b++List.drop 18 (dEx a++List.drop 9 (Cc 4 [DVal.int .u8 0,DVal.int .u8 0,DVal.int .i64 0,DVal.str [],DVal.nilSlice,DVal.nilSlice,DVal.int .i64 0,DVal.int .i64 0,DVal.int .i64 0])))++dEx c++List.drop 27 (List.take 9 (dEx a++List.drop 9 (Cc 4 [DVal.int .u8 0,DVal.int .u8 0,DVal.int .i64 0,DVal.str [],DVal.nilSlice,DVal.nilSlice,DVal.int .i64 0,DVal.int .i64 0,DVal.int .i64 0]))++dEx b++List.drop 18 (dEx a++List.drop 9 (Cc 4 [DVal.int .u8 0,DVal.int .u8 0,DVal.int .i64 0,DVal.str [],DVal.nilSlice,DVal.nilSlice,DVal.int .i64 0,DVal.int .i64 0,DVal.int .i64 0]))))++dEx d++List.drop 36 (List.take 18 (List.take 9 (dEx a++List.drop 9 (Cc 4 [DVal.int .u8 0,DVal.int .u8 0,DVal.int .i64 0,DVal.str [],DVal.nilSlice,DVal.nilSlice,DVal.int .i64 0,DVal.int .i64 0,DVal.int .i64 0]))++dEx b++List.drop 18 (dEx a++List.drop 9 (Cc 4 [DVal.int .u8 0,DVal.int .u8 0,DVal.int .i64 0,DVal.str [],DVal.nilSlice,DVal.nilSlice,DVal.int .i64 0,DVal.int .i64 0,DVal.int .i64 0])))++dEx c++List.drop 27 (List.take 9 (dEx a++List.drop 9 (Cc 4 [DVal.int .u8 0,DVal.int .u8 0,DVal.int .i64 0,DVal.str [],DVal.nilSlice,DVal.nilSlice,DVal.int .i64 0,DVal.int .i64 0,DVal.int .i64 0]))++dEx b++List.drop 18 (dEx a++List.drop 9 (Cc 4 [DVal.int .u8 0,DVal.int .u8 0,DVal.int .i64 0,DVal.str [],DVal.nilSlice,DVal.nilSlice,DVal.int .i64 0,DVal.int .i64 0,DVal.int .i64 0]))))) else none) else none) else none) else none)=some (dEx a++dEx b++dEx c++dEx d):=Eh1 (Ad _) (Ad _) (Ad _) (Ad _)
attribute [go_sem] Fs1 Fs2 Fs3 Fs4 Nj Oi Oj Jq Jr Js Jt Ju Jv Jw Fr4 Fr5 Fr6 Fr7 Fr8 Fr9 Fs0
section
variable {G:Nat->DVal} (hG:GX G)
include hG
set_option maxHeartbeats 400000000 in
theorem Bb0 (H:Ac) (t:Typ) (Y:Wg 1048576 t):Af Tryz.prog G 24 [.agg (Cs t)] H (Au (.bool (Eo t)) H):=by
 have C:=Y;obtain⟨f0,f1,f2,Z,f4,f5,f6,f7⟩:=Y;obtain⟨-,k0,ae⟩:=f6;have pb: ∀x∈ [t.lo,t.hi],Dn 1048576 x:=by intro x hx;simp at hx;rcases hx with rfl | rfl<;>assumption
 have pi: ∀x∈ [t.sub.name,t.sub.lo,t.sub.hi,t.sub.value],Dn 1048576 x:=by
  obtain⟨i0,i1,i2,i3⟩:=Z;intro x hx;simp at hx;rcases hx with rfl | rfl | rfl | rfl<;>assumption
 have pd: ∀x∈ [t.disc.name,t.disc.lo,t.disc.hi],Dn 1048576 x:=by
  obtain⟨i0,i1,i2⟩:=f4;intro x hx;simp at hx;rcases hx with rfl | rfl | rfl<;>assumption
 have eb: [t.lo,t.hi].all noE=Aa3 t:=by simp [Aa3]
 have ei: [t.sub.name,t.sub.lo,t.sub.hi,t.sub.value].all noE=Aa2 t.sub:=by simp [Aa2,Bool.and_assoc]
 have ed: [t.disc.name,t.disc.lo,t.disc.hi].all noE=Yg t.disc:=by simp [Yg,Bool.and_assoc]
 refine Ab Tryz.func24 Tryz.call24 rfl (by kernel_rfl) ?_;simp(disch:=omega)only[go_sem,DVal.cells];intro h aa;dsimp only at aa;obtain⟨E,I⟩: ∃K',K'=upd H h (some (.cells (Cs t) 62)):=⟨_,rfl⟩;rw[<-I];have D:E h=some (.cells (Cs t) 62):=by rw[I];exact Aa _ _ _
 have ab:Sub H E:=by rw[I];exact(Sub.refl _).new aa _
 simp(disch:=omega)only[go_sem,D];intro M O;dsimp only at O;have af:h≠M:=Ae O D;simp(disch:=omega)only[go_sem,af,D];obtain⟨K,J⟩: ∃K',K'=upd E M (some (.cells [.nilFunc, .func (.func 99) [] [.optr h 0], .func (.func 101) [] [.optr h 0], .func (.func 103) [] [.optr h 0], .func (.func 105) [] [.optr h 0], .func (.func 106) [] [.optr h 0], .func (.func 108) [] [.optr h 0], .func (.func 109) [] []] 157)):=⟨_,rfl⟩;rw[<-J];have ac:K M=some (.cells [.nilFunc, .func (.func 99) [] [.optr h 0], .func (.func 101) [] [.optr h 0], .func (.func 103) [] [.optr h 0], .func (.func 105) [] [.optr h 0], .func (.func 106) [] [.optr h 0], .func (.func 108) [] [.optr h 0], .func (.func 109) [] []] 157):=by rw[J];exact Aa _ _ _
 have S:Sub E K:=by rw[J];exact(Sub.refl _).new O _
 have y:K h=some (.cells (Cs t) 62):=S _ _ D;have L:=ac;have U:Sub H K:=ab.trans S;clear J I S ab D ac;by_cases V:t.kind=0
 ·have hk:=V;simp(disch:=omega)only[go_sem,y,L,hk];exact Es.sub U (.refl ⟨by simp [Eo,Yh,Af1, *],rfl⟩)
 by_cases ad:8<=t.kind
 ·have h0: ¬t.kind=0:=V;simp(disch:=omega)only[go_sem,y,L,h0,ad];exact Es.sub U (.refl ⟨by unfold Eo;rw[if_neg (by omega),if_neg (by omega),if_neg (by omega),if_neg (by omega),if_neg (by omega),decide_eq_false (by omega)];rfl,rfl⟩)
 have ag:t.kind=1\/t.kind=2\/t.kind=3\/t.kind=4\/t.kind=5\/t.kind=6\/t.kind=7:=by omega
 clear V ad k0 ae;rcases ag with hk | hk | hk | hk | hk | hk | hk;all_goals
  have w1:=fun q hq=>Ok G K t h q [1] _ y hq (by decide) rfl;have w2:=fun q hq=>Ok G K t h q [2] _ y hq (by decide) rfl;have w3:=fun q hq=>Ok G K t h q [3,4,6] _ y hq (by decide) rfl;have W:=fun q hq=>Ok G K t h q [4] _ y hq (by decide) rfl;have w5:=fun q hq=>Ok G K t h q [5] _ y hq (by decide) rfl;have X:=fun q hq=>Ok G K t h q [7] _ y hq (by decide) rfl;simp only[List.map,List.any,List.length,Nat.zero_add,Nat.reduceAdd,Bool.or_false] at w1 w2 w3 W w5 X
  repeat' first
   | with_reducible refine Af.monoR (w1 _ (by assumption)) ?_
   | with_reducible refine Af.monoR (w2 _ (by assumption)) ?_
   | with_reducible refine Af.monoR (w3 _ (by assumption)) ?_
   | with_reducible refine Af.monoR (W _ (by assumption)) ?_
   | with_reducible refine Af.monoR (w5 _ (by assumption)) ?_
   | with_reducible refine Af.monoR (X _ (by assumption)) ?_
   | with_reducible refine Af.monoR (Gq7 hG K t h C y) ?_
   | with_reducible refine Af.monoR (Gq8 hG K t h C y) ?_
   | with_reducible refine Af.monoR (Gq9 hG K t h C y) ?_
   | with_reducible refine Af.monoR (Gr0 hG K t h C y) ?_
   | with_reducible refine Af.monoR (Gr1 hG K t h C y) ?_
   | with_reducible refine Af.monoR (Gr2 hG K t h C y) ?_
   | with_reducible refine Af.monoR (Gr3 hG K) ?_
   | (intro q hq;dsimp only at hq)
   | simp(disch:=omega)only[go_sem,y,L,hk,dW,Ct,Eg, *]
   | (with_reducible refine Ot ?_ ?_<;>intro hb)
   | (with_reducible refine Lm ?_ ?_<;>intro hb)
   | refine Af.monoR (Ba9 G K [t.lo,t.hi] _ _ _ (by simp) (by assumption) (by simp) pb eb) ?_
   | refine Af.monoR (Ba9 G K [t.sub.name,t.sub.lo,t.sub.hi,t.sub.value] _ _ _ (by simp) (by assumption) (by simp) pi ei) ?_
   | refine Af.monoR (Ba9 G K [t.disc.name,t.disc.lo,t.disc.hi] _ _ _ (by simp) (by assumption) (by simp) pd ed) ?_
   | (clear w1 w2 w3 W w5 X pb pi pd eb ei ed C f0 f1 f2 Z f4 f5 f7 y L;refine Es.sub U (.refl ?_);refine⟨?_,rfl⟩;simp only[decide_eq_true_eq,decide_eq_false_iff_not,Bool.not_eq_true',Bool.not_eq_false',Gm5] at*;first | (simp [Eo,Yh,Af1, *];done) | (simp [Eo,Yh,Af1,hk];intros;simp_all;done))
end
end Go.Dl
-- Chapter 4: forms: the plain laws, part 2
namespace Go.Dl
open Go
set_option maxRecDepth 10000
inductive Re (α:Type) where
 | ok (x:α) (k:Nat)
 | fail (k:Nat)
 | long
def Re.then {α β:Type}:Re α->(α->Nat->Re β)->Re β
 | .ok x k,f=>f x k
 | .fail k,_=> .fail k
 | .long,_=> .long
def Bp4 {α:Type} (k:Nat) (x:α×Int×Int):Re α:=if x.2.2=0 then .ok x.1 (k+x.2.1.toNat) else if x.2.2=30 then .fail (k+x.2.1.toNat) else .long
section
variable (l:List Tok)
def exR (lv:Int) (k:Nat):Re Ex:=Bp4 k (Fx (l.drop k) lv)
def chR (k:Nat):Re (List Ch):=Bp4 k (Jg (l.drop k))
def Dx {α:Type} (s:List UInt8) (k:Nat) (f:Nat->Re α):Re α:=if isW l k [s] then f (k+1) else .fail k
def Ol (k:Nat):Re (List UInt8):=if(tk l k).kind=1 then .ok (tk l k).text (k+1) else .fail k
def To {α:Type} (one:Nat->Re α) (more:Nat->Option Nat):Nat->List α->Nat->Re (List α)
 | 0,_,_=> .long
 | n+1,xs,k=>match more k with
  | none=> .ok xs k
  | some j=>(one j).then fun a i=>To one more n (xs++ [a]) i
def Ax3 {α:Type} (one:Nat->Re α) (more:Nat->Option Nat) (k:Nat):Re (List α):=(one k).then fun a i=>To one more (l.length+1) [a] i
def byW (s:List UInt8) (k:Nat):Option Nat:=if isW l k [s] then some (k+1) else none
def byN (k:Nat):Option Nat:=if(tk l k).kind=1 then some k else none
def byI (s:List UInt8) (k:Nat):Option Nat:=if isW l k [s] then some k else none
def Xq (k:Nat):Re (List (List UInt8)):=Ax3 l (Ol l) (byW l Dh) k
def markL (line:Int):Nat->Ex->Nat->Re Ex
 | 0,_,_=> .long
 | n+1,x,k=>if isW l k [Jl] then(Ol l (k+1)).then fun s i=>markL line n (.mk 4 0 0 s [x] [] line 0 0) i else .ok x k
def Aa5 (k:Nat):Re Ex:=(Ol l k).then fun s i=>markL l (tk l k).line (l.length+1) (.mk 3 0 0 s [] [] (tk l k).line 0 0) i
def Sd (k:Nat):Re (Ex×Ex):=(exR l 2 k).then fun a i=>Dx l Ev i fun i=>(exR l 2 i).then fun b i=> .ok (a,b) i
def Wh (k:Nat):Re Ind:=(Aa5 l k).then fun m i=>
 if isW l i [Ht] then(Sd l (i+1)).then fun b i=> .ok ⟨m,b.1,b.2,ex0⟩ i
 else if isW l i [Bi] then(exR l 0 (i+1)).then fun v i=>Dx l Bt i fun i=> .ok ⟨m,ex0,ex0,v⟩ i
 else .ok ⟨m,ex0,ex0,ex0⟩ i
def Bc8 (k:Nat):Re Dis:=(exR l 2 k).then fun x i=>
 if isW l i [Ev] then(exR l 2 (i+1)).then fun y i=> .ok ⟨ex0,x,y⟩ i
 else if Hu x&&isW l i [Ht] then(Sd l (i+1)).then fun b i=> .ok ⟨x,b.1,b.2⟩ i
 else if !Hu x&&decide (x.kind≠6) then .fail i else .ok ⟨x,ex0,ex0⟩ i
def Rm (k:Nat):Re Ex:=if isW l k [Kl] then exR l 0 (k+1) else .ok ex0 k
def Uw (k:Nat):Int×Nat:=if isW l k [wIn] then(if isW l (k+1) [Tl] then(3,k+2) else(1,k+1)) else if isW l k [Tl] then(2,k+1) else(1,k)
def Ai4 (k:Nat):Re Par:=(Xq l k).then fun n i=>Dx l Fk i fun i=>
 (Aa5 l (Uw l i).2).then fun t j=>(Rm l j).then fun e j=> .ok ⟨n,(Uw l i).1,t,e,(tk l k).line⟩ j
def Bp5 (k:Nat):Re (List Par):=Ax3 l (Ai4 l) (byW l Dg) k
def Bp6 (k:Nat):Re Asp:=(Ol l k).then fun n i=>Dx l Bn i fun i=>(exR l 0 i).then fun e i=> .ok ⟨n,e⟩ i
def Bz3 (k:Nat):Re (List Asp):=Ax3 l (Bp6 l) (byW l Dh) k
def Ax4 (k:Nat):Re Cmp:=(Xq l k).then fun n i=>Dx l Fk i fun i=>(Wh l i).then fun s i=>(Rm l i).then fun e i=>Dx l Dg i fun i=> .ok ⟨n,s,e,(tk l k).line⟩ i
def Qz (k:Nat):Re (List Cmp):=if isW l k [Ez] then Dx l Dg (k+1) fun i=> .ok [] i else Ax3 l (Ax4 l) (byN l) k
def Bu3 (k:Nat):Re Arm:=Dx l Ku k fun i=>(chR l i).then fun c i=>Dx l Bn i fun i=>(Qz l i).then fun m i=> .ok ⟨c,m⟩ i
def Bp7 (k:Nat):Re (List Arm):=Ax3 l (Bu3 l) (byI l Ku) k
def Bu4 (k:Nat):Re Typ:=
 (if(tk l k).kind=1\/isW l k [Ez]=true then Qz l k else .ok [] k).then fun c i=>
 (if isW l i [It] then(Ol l (i+1)).then fun v i=>Dx l wIs i fun i=>(Bp7 l i).then fun a i=>Dx l Ml i fun i=>Dx l It i fun i=>Dx l Dg i fun i=> .ok (v,a) i else .ok ([],[]) i).then fun va i=>
 Dx l Ml i fun i=>Dx l Cw i fun i=> .ok ⟨5,[],ex0,ex0,Tz,Ua,c,va.1,va.2,false⟩ i
def Ap5 (k:Nat):Re Typ:=
 if isW l k [Bi] then(Xq l (k+1)).then fun n i=>Dx l Bt i fun i=> .ok { El with kind:=1,names:=n } i
 else if isW l k [Ht] then(Sd l (k+1)).then fun b i=> .ok { El with kind:=2,lo:=b.1,hi:=b.2 } i
 else if isW l k [Tm] then Dx l Bi (k+1) fun i=>(Bc8 l i).then fun d i=>Dx l Bt i fun i=>Dx l wOf i fun i=>(Wh l i).then fun s i=> .ok { El with kind:=4,disc:=d,sub:=s } i
 else if isW l k [Cw] then Bu4 l (k+1)
 else if isW l k [Bu0] then(Wh l (k+1)).then fun s i=> .ok { El with kind:=3,sub:=s } i
 else if isW l k [Qj] then(Wh l (k+1)).then fun s i=> .ok { El with kind:=6,sub:=s } i
 else if isW l k [Ic] then .ok { El with kind:=7 } (k+1)
 else if isW l k [Nh] then Dx l Ic (k+1) fun i=> .ok { El with kind:=7,limited:=true } i
 else if isW l k [Ez] then Dx l Cw (k+1) fun i=> .ok { El with kind:=5 } i
 else .fail k
end
def Ie {α:Type} (r:Re α) (fine:α->Bool) (z:α):α×Int×Int:=match r with
 | .ok x k=>if fine x then(x,k,0) else(z,0,3)
 | .fail k=>(z,k,40)
 | .long=>(z,0,3)
def Aa6 (l:List Tok):Ind×Int×Int:=Ie (Wh l 0) Cr Tz
def Tp (l:List Tok):Dis×Int×Int:=Ie (Bc8 l 0) Ib Ua
def Mo (l:List Tok):List Par×Int×Int:=Ie (Bp5 l 0) Ii []
def Wi (l:List Tok):List Asp×Int×Int:=Ie (Bz3 l 0) Pc []
def Ra (l:List Tok):List Cmp×Int×Int:=Ie (Qz l 0) Mk []
def Gf (l:List Tok):Typ×Int×Int:=Ie (Ap5 l 0) Eo El
end Go.Dl
-- Chapter 4: the reader of package shape: 
namespace Go.Dl
open Go Go.Proofs
set_option maxRecDepth 100000
abbrev srO (l:List Tok) (k:Nat):DObj:= .cells [Bh l,dI k] 246
def SRt (r:Nat) (l:List Tok) (k:Nat) (H0 H:Ac):Prop:=Sub (upd H0 r (some (srO l k))) H
section
variable {G:Nat->DVal} {H0 H:Ac} {r k:Nat} {l:List Tok}
theorem SRt.refl (h:H r=some (srO l k)):SRt r l k H H:=fun b o hb=>by
 simp only[upd] at hb;split at hb
 ·rename_i e;subst e;rw[h];exact hb
 ·exact hb
theorem SRt.get (h:SRt r l k H0 H):H r=some (srO l k):=h _ _ (Aa _ _ _)
theorem SRt.set (h:SRt r l k H0 H) (k':Nat):SRt r l k' H0 (upd H r (some (srO l k'))):=fun b o hb=>by
 simp only[upd] at hb⊢
 by_cases e:b=r
 ·rw[if_pos e] at hb⊢;exact hb
 ·rw[if_neg e] at hb⊢;exact h b o (by simp only[upd];rw[if_neg e];exact hb)
theorem SRt.own (h:SRt r l k H0 H) {x:Nat} (hx:H0 x=none) (hr:x≠r) (o:Option DObj):SRt r l k H0 (upd H x o):=Sub.up h (by simp only[upd];rw[if_neg hr];exact hx) o
theorem SRt.lo (h:SRt r l k H0 H) {x:Nat} (hx:H x=none):H0 x=none:=by
 have:=Sub.lo h hx;simp only[upd] at this;split at this
 ·cases this
 ·exact this
theorem SRt.fin {R:DEnd->Ac->Prop} {v:DVal} (h:SRt r l k H0 H) (y:R (.ret v) (upd H0 r (some (srO l k)))):Es R v H:=Es.sub h (.refl y)
theorem SRt.finP {R:DEnd->Ac->Prop} {v:DVal} (h:SRt r l k H0 H) (y:R (.panic v) (upd H0 r (some (srO l k)))):Sz R v H:=Sz.sub h y
theorem Ma (G:Nat->DVal) (H:Ac) (hr:H r=some (srO l k)) (hl:l.length<=1000000) (hk:k<=1000000):Af Tryz.prog G 216 [.optr r 0] H (Au (.agg (Cy (tk l k))) H):=by
 unfold srO at hr;refine Ab Tryz.func216 Tryz.call216 rfl (by kernel_rfl) ?_;simp(disch:=omega)only[go_sem];intro C y;dsimp only at y;have h:r≠C:=Ae y hr;by_cases c:k<l.length
 ·have c':(k:Int)<(l.length:Int):=by omega
  have D:=Cu Aq l k c;have hfl:=Ax Aq l;rw[Ew0 c];simp(disch:=omega)only[go_sem,h,hr];refine Aj (by kernel_rfl) pL14 (by kernel_rfl) ?_;simp(disch:=omega)only[go_sem,h,hr,c',Bh];refine Aj (by kernel_rfl) (.take 0 (.take 1 (.take 2 (.take 3 (.take 4 (.take 5 (.take 6 (.take 7 (.take 8 (.take 9 (.go 10 [] .done))))))))))) (by kernel_rfl) ?_;simp(disch:=omega)only[go_sem,h,hr,c',Bh,D,hfl,jD];simp(disch:=omega)only[go_sem,Cy];exact Es.dropA C y (Es.refl ⟨rfl,rfl⟩)
 ·have c': ¬(k:Int)<(l.length:Int):=by omega
  rw[Bl3 (by omega)];simp(disch:=omega)only[go_sem,h,hr];refine Aj (by kernel_rfl) pL14 (by kernel_rfl) ?_;simp(disch:=omega)only[go_sem,h,hr,c',Bh];exact Es.dropA C y (Es.refl ⟨rfl,rfl⟩)
theorem Go0 (s:List UInt8):isW l k [s]=(decide ((tk l k).kind=Il s)&&decide ((tk l k).text=s)):=by
 rw[isW,isW,Bool.and_true]
theorem Ap6 (hG:GX G) (H:Ac) (s:List UInt8) (hr:H r=some (srO l k)) (hl:l.length<=1000000) (hk:k<=900000):Af Tryz.prog G 268 [.optr r 0, .str s] H (Au (.bool (isW l k [s])) H):=by
 have hm:=Go0 (l:=l) (k:=k) s;refine Ab Tryz.func268 Tryz.call268 rfl (by kernel_rfl) ?_;simp(disch:=omega)only[go_sem];refine Af.monoR (Vt hG _ s) ?_;cases hkb:Tw s
 ·simp(disch:=omega)only[go_sem];refine Af.monoR (Ma G _ hr hl (by omega)) ?_;obtain⟨t,ht⟩: ∃t,t=tk l k:=⟨_,rfl⟩;rw[<-ht] at hm⊢
  simp(disch:=omega)only[go_sem];intro D y;dsimp only at y;by_cases h:t.kind=Il s
  ·rw[decide_eq_true h,jS] at hm;rw[Il,hkb] at h;simp only[↓reduceIte,Bool.false_eq_true] at h;by_cases C:t.text=s
   ·rw[decide_eq_true C] at hm;simp(disch:=omega)only[go_sem,Cy,h,C];exact Es.dropA D y (Es.refl ⟨by rw[hm],rfl⟩)
   ·rw[decide_eq_false C] at hm;simp(disch:=omega)only[go_sem,Cy,h,C];exact Es.dropA D y (Es.refl ⟨by rw[hm],rfl⟩)
  ·rw[decide_eq_false h,jT] at hm;rw[Il,hkb] at h;simp only[↓reduceIte,Bool.false_eq_true] at h;simp(disch:=omega)only[go_sem,Cy,h];exact Es.dropA D y (Es.refl ⟨by rw[hm],rfl⟩)
 ·simp(disch:=omega)only[go_sem];refine Af.monoR (Ma G _ hr hl (by omega)) ?_;obtain⟨t,ht⟩: ∃t,t=tk l k:=⟨_,rfl⟩;rw[<-ht] at hm⊢
  simp(disch:=omega)only[go_sem];intro D y;dsimp only at y;by_cases h:t.kind=Il s
  ·rw[decide_eq_true h,jS] at hm;rw[Il,hkb] at h;simp only[↓reduceIte,Bool.false_eq_true] at h;by_cases C:t.text=s
   ·rw[decide_eq_true C] at hm;simp(disch:=omega)only[go_sem,Cy,h,C];exact Es.dropA D y (Es.refl ⟨by rw[hm],rfl⟩)
   ·rw[decide_eq_false C] at hm;simp(disch:=omega)only[go_sem,Cy,h,C];exact Es.dropA D y (Es.refl ⟨by rw[hm],rfl⟩)
  ·rw[decide_eq_false h,jT] at hm;rw[Il,hkb] at h;simp only[↓reduceIte,Bool.false_eq_true] at h;simp(disch:=omega)only[go_sem,Cy,h];exact Es.dropA D y (Es.refl ⟨by rw[hm],rfl⟩)
def SrQ (r:Nat) (l:List Tok) (H:Ac) (v:DVal) (k:Nat) (e:DEnd) (H':Ac):Prop:=e= .ret v/\H'=upd H r (some (srO l k))
def Lc (k e:Int):DVal:= .iface 248 (.agg [dI k,dI e])
theorem Sp (hG:GX G) (H:Ac) (s:List UInt8) (hr:H r=some (srO l k)) (hl:l.length<=1000000) (hk:k<=900000):Af Tryz.prog G 201 [.optr r 0, .str s] H (SrQ r l H (.bool (isW l k [s])) (if isW l k [s] then k+1 else k)):=by
 refine Ab Tryz.func201 Tryz.call201 rfl (by kernel_rfl) ?_;simp(disch:=omega)only[go_sem];refine Af.monoR (Ap6 hG H s hr hl hk) ?_;cases h:isW l k [s] with
 | false=>
  simp(disch:=omega)only[go_sem];exact Es.refl ⟨rfl,(Dv hr).symm⟩
 | true=>
  have y:IntKind.i64.wrap ((k:Int)+1)=((k+1:Nat):Int):=by rw[IntKind.wrap_i64];omega
  unfold srO at hr;simp(disch:=omega)only[go_sem,hr,y];exact Es.refl ⟨rfl,rfl⟩
theorem Xr (G:Nat->DVal) (H:Ac) (hr:H r=some (srO l k)):Af Tryz.prog G 202 [.optr r 0] H (fun e H'=>e= .panic (Lc k 40)/\H'=H):=by
 unfold srO at hr;refine Ab Tryz.func202 Tryz.call202 rfl (by kernel_rfl) ?_;simp(disch:=omega)only[go_sem,hr];exact Sz.refl ⟨rfl,rfl⟩
theorem Se (G:Nat->DVal) (H:Ac) (hr:H r=some (srO l k)) (hl:l.length<=1000000) (hk:k<=900000):Af Tryz.prog G 237 [.optr r 0] H (Au (.bool (decide ((tk l k).kind=1))) H):=by
 refine Ab Tryz.func237 Tryz.call237 rfl (by kernel_rfl) ?_;simp(disch:=omega)only[go_sem];refine Af.monoR (Ma G _ hr hl (by omega)) ?_;simp(disch:=omega)only[go_sem,Cy];exact Es.refl ⟨rfl,rfl⟩
def Re.mp {α β:Type} (f:α->β):Re α->Re β
 | .ok x k=> .ok (f x) k
 | .fail k=> .fail k
 | .long=> .long
def SrR (r:Nat) (l:List Tok) (H:Ac):Re DVal->DEnd->Ac->Prop
 | .ok v k,e,H'=>e= .ret v/\H'=upd H r (some (srO l k))
 | .fail k,e,H'=>e= .panic (Lc k 40)/\ ∃j,H'=upd H r (some (srO l j))
 | .long,e,H'=>e= .panic (Lc 0 3)/\ ∃j,H'=upd H r (some (srO l j))
abbrev SrF (P:Program) (G:Nat->DVal) (l:List Tok) (r:Nat) (f:FuncId) (args:List DVal) (res:Nat->Re DVal):Prop:=
 ∀H k,H r=some (srO l k)->k<=l.length->Af P G f (.optr r 0::args) H (SrR r l H (res k))
theorem Qd (G:Nat->DVal) (hl:l.length<=800000):SrF Tryz.prog G l r 230 [] (fun k=>(Ol l k).mp .str):=by
 intro H k hr hk;dsimp only;refine Ab Tryz.func230 Tryz.call230 rfl (by kernel_rfl) ?_;simp(disch:=omega)only[go_sem];refine Af.monoR (Se G H hr (by omega) (by omega)) ?_;by_cases c:(tk l k).kind=1
 ·have C:k<l.length:=by
   rcases Nat.lt_or_ge k l.length with h | h
   ·exact h
   ·rw[Bl3 h] at c;exact absurd c (by decide)
  have D:IntKind.i64.wrap ((k:Int)+1)=((k+1:Nat):Int):=by rw[IntKind.wrap_i64];omega
  have I:IntKind.i64.wrap (((k+1:Nat):Int)-1)=(k:Int):=by rw[IntKind.wrap_i64];omega
  have J:(k:Int)<(l.length:Int):=by omega
  have E:=Hw Aq l k C 2 (by decide);have L:(Cy l[k])[2]? =some (.str l[k].text):=rfl;rw[L] at E;have hfl:=Ax Aq l;have y:Ol l k= .ok (tk l k).text (k+1):=by rw[Ol,if_pos c]
  rw[y];unfold srO at hr;rw[Ew0 C] at c⊢
  simp(disch:=omega)only[go_sem,decide_eq_true c,hr,D];refine Aj (by kernel_rfl) (.take 0 (.take 1 (.take 2 (.take 3 (.take 4 (.take 5 (.take 6 (.take 7 (.take 8 (.take 9 (.take 10 (.take 11 (.take 12 .done))))))))))))) (by kernel_rfl) ?_;simp(disch:=omega)only[go_sem,hr,D,I,J,Bh,E,hfl,jD];exact Es.refl ⟨rfl,rfl⟩
 ·have y:Ol l k= .fail k:=by rw[Ol,if_neg c]
  rw[y];simp(disch:=omega)only[go_sem,decide_eq_false c];refine(Xr G H hr).mono ?_;rintro _ H1 ⟨rfl,rfl⟩;simp(disch:=omega)only[go_sem];exact Sz.refl ⟨rfl,k,(Dv hr).symm⟩
def Vh (l:List Tok):List (List UInt8)->Nat->Re DVal
 | [],k=> .ok (.tuple []) k
 | s::ws,k=>if isW l k [s] then Vh l ws (k+1) else .fail k
theorem Fi {s:List UInt8} (h:isW l k [s]=true) (hk:k<=l.length):k+1<=l.length:=by
 have:=Bf h hk
 rwa [jQ] at this
theorem Dj2 (hG:GX G) (hl:l.length<=800000) (ws:List (List UInt8)) (Z:ws.length<=1000):SrF Tryz.prog G l r 199 [dW ws] (Vh l ws):=by
 intro H S hr aa;refine Ab Tryz.func199 Tryz.call199 rfl (by kernel_rfl) ?_;simp(disch:=omega)only[go_sem,dW];obtain⟨I,M⟩: ∃I:Nat×Nat->(Nat->DVal)->Ac->Prop,∀h env heap,I h env heap↔(env 0= .optr r 0/\env 6=dW ws/\env 7=dI ws.length/\env 8=dI h.1/\h.1<=ws.length/\h.2<=l.length/\Vh l ws S=Vh l (ws.drop h.1) h.2/\heap=upd H r (some (srO l h.2))):=⟨_,fun _ _ _=>Iff.rfl⟩;refine Dn5.run I (fun h=>ws.length-h.1) (0,S) ((M _ _ _).2 ?_) ?_
 ·simp(disch:=omega)only[go_sem,dW];(repeat' apply And.intro)<;>(try first | rfl | assumption | omega);exact(Dv hr).symm
 ·rintro⟨j,k⟩ env heap hi;obtain⟨C,D,E,J,hj,hk,y,rfl⟩:=(M _ _ _).1 hi;dsimp only at hj hk y;have U:upd H r (some (srO l k)) r=some (srO l k):=Aa _ _ _;by_cases V:j<ws.length
  ·have O:(j:Int)<(ws.length:Int):=by omega
   have X:IntKind.i64.wrap ((j:Int)+1)=((j+1:Nat):Int):=by rw[IntKind.wrap_i64];omega
   have W:(ws.map DVal.str)[j]? =some (.str ws[j]):=by rw[List.getElem?_map,List.getElem?_eq_getElem V];rfl
   have Y:(ws.map DVal.str).length=ws.length:=jK _;rw[List.drop_eq_getElem_cons V,Vh] at y;obtain⟨s,hs⟩: ∃s,s=ws[j]:=⟨_,rfl⟩;rw[<-hs] at W y;simp(disch:=omega)only[go_sem,C,D,E,J,O,dW,W,Y,jD];refine(Sp hG _ s U (by omega) (by omega)).mono ?_;rintro _ H1 ⟨rfl,L⟩;rw[Fy] at L;cases c:isW l k [s]
   ·rw[c,if_neg (by simp)] at L y;subst L;simp(disch:=omega)only[go_sem,C,D,E,J];refine(Xr G _ U).mono ?_;rintro _ H2 ⟨rfl,rfl⟩;simp(disch:=omega)only[go_sem];rw[y];exact Sz.refl ⟨rfl,k,rfl⟩
   ·rw[c,if_pos rfl] at L y;subst L;simp(disch:=omega)only[go_sem,C,D,E,J];refine⟨(j+1,k+1),_,Ri.refl _,(M _ _ _).2 ?_,by dsimp only;omega⟩;simp(disch:=omega)only[go_sem,C,D,E,J,X];(repeat' apply And.intro)<;>(try first | rfl | assumption | omega);exact Fi c hk
  ·have:j=ws.length:=by omega
   subst this;have O: ¬(ws.length:Int)<(ws.length:Int):=by omega
   rw[List.drop_length,Vh] at y;simp(disch:=omega)only[go_sem,C,D,E,J,O];rw[y];exact Es.refl ⟨rfl,rfl⟩
theorem Gh4 (hG:GX G) (hl:l.length<=800000) (ws:List (List UInt8)) (cs:List DVal) (y:ws.map .str=cs) (H:Ac) {q:Nat} (h:H q=none) (hr:H r=some (srO l k)) (hk:k<=l.length) (C:ws.length<=1000):
  Af Tryz.prog G 199 [.optr r 0, .oslice 1 q 0 ws.length ws.length] (upd H q (some (.cells cs 9))) (SrR r l H (Vh l ws k)):=by
 subst y;refine Af.fzA q h ?_;have n:r≠q:=Ae h hr;simp only[fzs,fz,if_neg n,if_pos,jJ,Nat.mul_one];rw[List.take_of_length_le (by simp)];exact Dj2 hG hl ws C H k hr hk
end
section
variable {l:List Tok} {k:Nat}
theorem Cv1 (y:Nat) (h:y<=6): ∃n:Nat,(Fx l y).2.1=n/\n<=l.length/\((Fx l y).2.2=0->1<=n)/\((Fx l y).2.2=0\/(Fx l y).2.2=30\/(Fx l y).2.2=3):=by
 have ha:=Cf8 (l:=l) y;have C:=Aw0 (l:=l) y;rw[Fx,if_neg (by omega),jD];cases hr:Vg l y with
 | bot=>exact absurd hr C
 | fail k=>
  rw[hr] at ha;exact⟨k,rfl,ha,fun h=>(by cases h), .inr (.inl rfl)⟩
 | ok x k=>
  rw[hr] at ha;dsimp only;split
  ·exact⟨k,rfl,ha.2,fun _=>ha.1, .inl rfl⟩
  ·exact⟨0,rfl,by omega,fun h=>(by cases h), .inr (.inr rfl)⟩
theorem Dr5:Adv l 1 (Av9 l):=by
 have t:=Ex1 (l:=l);exact Ce (t.choice _ (by omega)) fun x n h1 h=>Eb (t.choicesL [x] n h) h1
theorem Bz4: ∃n:Nat,(Jg l).2.1=n/\n<=l.length/\((Jg l).2.2=0->1<=n)/\((Jg l).2.2=0\/(Jg l).2.2=30\/(Jg l).2.2=3):=by
 have ha:=Dr5 (l:=l);have y:=An6 (l:=l);rw[Jg];cases hr:Av9 l with
 | bot=>exact absurd hr y
 | fail k=>
  rw[hr] at ha;exact⟨k,rfl,ha,fun h=>(by cases h), .inr (.inl rfl)⟩
 | ok x k=>
  rw[hr] at ha;dsimp only;split
  ·exact⟨k,rfl,ha.2,fun _=>ha.1, .inl rfl⟩
  ·exact⟨0,rfl,by omega,fun h=>(by cases h), .inr (.inr rfl)⟩
end
def Kv (l:List Tok) {α:Type} (lb:Nat):Re α->Prop
 | .ok _ k=>lb<=k/\k<=l.length
 | .fail k=>k<=l.length
 | .long=>True
section
variable {l:List Tok} {k lb a b:Nat} {α β:Type}
theorem Kv.then {r:Re α} {f:α->Nat->Re β} (h:Kv l a r) (g: ∀x n,a<=n->n<=l.length->Kv l b (f x n)):Kv l b (r.then f):=by
 cases r with
 | ok x k=>exact g x k h.1 h.2
 | fail k=>exact h
 | long=>trivial
theorem Kv.ok {x:α} (h1:lb<=k) (h2:k<=l.length):Kv l lb (.ok x k):=⟨h1,h2⟩
theorem Kv.less {r:Re α} (h:Kv l a r) (hb:b<=a):Kv l b r:=by
 cases r with
 | ok x k=>exact⟨Nat.le_trans hb h.1,h.2⟩
 | fail k=>exact h
 | long=>trivial
theorem Kv.must {s:List UInt8} {f:Nat->Re α} (hk:k<=l.length) (g:k+1<=l.length->Kv l lb (f (k+1))):Kv l lb (Dx l s k f):=by
 rw[Dx];split
 ·exact g (Fi ‹_› hk)
 ·exact hk
theorem Kv.name (hk:k<=l.length):Kv l (k+1) (Ol l k):=by
 rw[Ol];split
 ·refine⟨Nat.le_refl _, ?_⟩;rcases Nat.lt_or_ge k l.length with h | h
  ·exact h
  ·rename_i c
   rw[Bl3 h] at c;exact absurd c (by decide)
 ·exact hk
theorem Cv2 {x:α} {n:Nat} {e:Int} (h:k+n<=l.length) (h1:e=0->1<=n):Kv l (k+1) (Bp4 k (x,(n:Int),e)):=by
 rw[Bp4];dsimp only;rw[jD];split
 ·have:=h1 ‹_›;exact⟨by omega,h⟩
 ·split
  ·exact h
  ·trivial
theorem Kv.ex (h:Nat) (y:h<=6) (hk:k<=l.length):Kv l (k+1) (exR l h k):=by
 obtain⟨n,h1,h2,h3,-⟩:=Cv1 (l:=l.drop k) h y;rw[List.length_drop] at h2;have e:Fx (l.drop k) h=((Fx (l.drop k) h).1,(n:Int),(Fx (l.drop k) h).2.2):=by rw[<-h1]
 rw[exR,e];exact Cv2 (by omega) h3
theorem Kv.ch (hk:k<=l.length):Kv l (k+1) (chR l k):=by
 obtain⟨n,h1,h2,h3,-⟩:=Bz4 (l:=l.drop k);rw[List.length_drop] at h2;have e:Jg (l.drop k)=((Jg (l.drop k)).1,(n:Int),(Jg (l.drop k)).2.2):=by rw[<-h1]
 rw[chR,e];exact Cv2 (by omega) h3
theorem Kv.list {one:Nat->Re α} {more:Nat->Option Nat} (h1: ∀k,k<=l.length->Kv l (k+1) (one k)) (h2: ∀k j,k<=l.length->more k=some j->k<=j/\j<=l.length): ∀(n:Nat) (xs:List α) (k:Nat),k<=l.length->Kv l k (To one more n xs k)
 | 0,_,_,_=>trivial
 | n+1,xs,k,hk=>by
  rw[To];cases hm:more k with
  | none=>exact⟨Nat.le_refl _,hk⟩
  | some j=>
   obtain⟨C,h⟩:=h2 k j hk hm;exact(h1 j h).then fun x i D y=>(Kv.list h1 h2 n (xs++ [x]) i y).less (by omega)
theorem Kv.sev {one:Nat->Re α} {more:Nat->Option Nat} (h1: ∀k,k<=l.length->Kv l (k+1) (one k)) (h2: ∀k j,k<=l.length->more k=some j->k<=j/\j<=l.length) (hk:k<=l.length):Kv l (k+1) (Ax3 l one more k):=
 (h1 k hk).then fun x i h y=>(Kv.list h1 h2 _ [x] i y).less h
theorem Sf {s:List UInt8}: ∀k j,k<=l.length->byW l s k=some j->k<=j/\j<=l.length:=by
 intro k j hk h;rw[byW] at h;split at h
 ·cases h;exact⟨by omega,Fi ‹_› hk⟩
 ·cases h
theorem Be7: ∀k j,k<=l.length->byN l k=some j->k<=j/\j<=l.length:=by
 intro k j hk h;rw[byN] at h;split at h
 ·cases h;exact⟨Nat.le_refl _,hk⟩
 ·cases h
theorem Ch3 {s:List UInt8}: ∀k j,k<=l.length->byI l s k=some j->k<=j/\j<=l.length:=by
 intro k j hk h;rw[byI] at h;split at h
 ·cases h;exact⟨Nat.le_refl _,hk⟩
 ·cases h
theorem Kv.names (hk:k<=l.length):Kv l (k+1) (Xq l k):=Kv.sev (fun _ h=>Kv.name h) Sf hk
theorem Kv.markL (line:Int): ∀(n:Nat) (x:Ex) (k:Nat),k<=l.length->Kv l k (markL l line n x k)
 | 0,_,_,_=>trivial
 | n+1,x,k,hk=>by
  rw[Dl.markL];split
  ·exact(Kv.name (Fi ‹_› hk)).then fun s i y h=>(Kv.markL line n _ i h).less (by omega)
  ·exact⟨Nat.le_refl _,hk⟩
theorem Kv.mark (hk:k<=l.length):Kv l (k+1) (Aa5 l k):=(Kv.name hk).then fun s i h y=>(Kv.markL _ _ _ i y).less h
theorem Kv.bounds (hk:k<=l.length):Kv l (k+1) (Sd l k):=
 (Kv.ex 2 (by omega) hk).then fun a i D h=>Kv.must h fun y=>(Kv.ex 2 (by omega) y).then fun b i E C=>Kv.ok (by omega) C
theorem Kv.ind (hk:k<=l.length):Kv l (k+1) (Wh l k):=
 (Kv.mark hk).then fun m i C h=>by
  split
  ·exact(Kv.bounds (Fi ‹_› h)).then fun b i D y=>Kv.ok (by omega) y
  split
  ·exact(Kv.ex 0 (by omega) (Fi ‹_› h)).then fun v i D y=>Kv.must y fun E=>Kv.ok (by omega) E
  ·exact Kv.ok C h
theorem Kv.dis (hk:k<=l.length):Kv l (k+1) (Bc8 l k):=
 (Kv.ex 2 (by omega) hk).then fun x i E C=>by
  split
  ·exact(Kv.ex 2 (by omega) (Fi ‹_› C)).then fun y i I D=>Kv.ok (by omega) D
  split
  ·rename_i h
   rw[jF] at h;exact(Kv.bounds (Fi h.2 C)).then fun b i I D=>Kv.ok (by omega) D
  split
  ·exact C
  ·exact Kv.ok E C
theorem Kv.given (hk:k<=l.length):Kv l k (Rm l k):=by
 rw[Rm];split
 ·exact(Kv.ex 0 (by omega) (Fi ‹_› hk)).less (by omega)
 ·exact Kv.ok (Nat.le_refl _) hk
theorem Cv3 (hk:k<=l.length):k<=(Uw l k).2/\(Uw l k).2<=l.length:=by
 rw[Uw];split
 ·have:=Fi ‹isW l k [wIn]=true› hk;split
  ·have:=Fi ‹isW l (k+1) [Tl]=true› this;exact⟨by dsimp only;omega,this⟩
  ·exact⟨by dsimp only;omega,this⟩
 ·split
  ·have:=Fi ‹isW l k [Tl]=true› hk;exact⟨by dsimp only;omega,this⟩
  ·exact⟨Nat.le_refl _,hk⟩
theorem Kv.par (hk:k<=l.length):Kv l (k+1) (Ai4 l k):=
 (Kv.names hk).then fun n i I h=>Kv.must h fun y=>by
  obtain⟨J,C⟩:=Cv3 y;exact(Kv.mark C).then fun t j L D=>(Kv.given D).then fun e j M E=>Kv.ok (by omega) E
theorem Kv.pars (hk:k<=l.length):Kv l (k+1) (Bp5 l k):=Kv.sev (fun _ h=>Kv.par h) Sf hk
theorem Kv.asp (hk:k<=l.length):Kv l (k+1) (Bp6 l k):=
 (Kv.name hk).then fun n i D h=>Kv.must h fun y=>(Kv.ex 0 (by omega) y).then fun e i E C=>Kv.ok (by omega) C
theorem Kv.asps (hk:k<=l.length):Kv l (k+1) (Bz3 l k):=Kv.sev (fun _ h=>Kv.asp h) Sf hk
theorem Kv.cmp (hk:k<=l.length):Kv l (k+1) (Ax4 l k):=
 (Kv.names hk).then fun n i I h=>Kv.must h fun y=>(Kv.ind y).then fun s i J C=>(Kv.given C).then fun e i L D=>Kv.must D fun E=>Kv.ok (by omega) E
theorem Kv.cmps (hk:k<=l.length):Kv l (k+1) (Qz l k):=by
 rw[Qz];split
 ·have:=Fi ‹isW l k [Ez]=true› hk;exact Kv.must this fun h=>Kv.ok (by omega) h
 ·exact Kv.sev (fun _ h=>Kv.cmp h) Be7 hk
theorem Kv.arm (hk:k<=l.length):Kv l (k+1) (Bu3 l k):=
 Kv.must hk fun h=>(Kv.ch h).then fun c i E y=>Kv.must y fun C=>(Kv.cmps C).then fun m i I D=>Kv.ok (by omega) D
theorem Kv.arms (hk:k<=l.length):Kv l (k+1) (Bp7 l k):=Kv.sev (fun _ h=>Kv.arm h) Ch3 hk
end
theorem Fc1 (l:List (List UInt8)):l.flatMap (fun s=> [DVal.str s])=l.map .str:=by induction l with
 | nil=>rfl
 | cons a l ih=>rw[List.flatMap_cons,ih];rfl
theorem Fc2 {S:Nat} {x Z:List DVal} (hx:x.length=S) (hz:Z.length=S):(if S<=(Cc 1 Z).length then some (x++List.drop S (Cc 1 Z)) else none)=some x:=by
 have e: ∀u:List DVal,Cc 1 u=u:=fun u=>by simp [Cc]
 rw[e,if_pos (by omega),List.drop_eq_nil_of_le (by omega),jH]
section
variable {G:Nat->DVal} {r:Nat} {l:List Tok}
def Dj3 {L:Type} (ty S:Nat) (d:L->List DVal) (H:Ac) (l:List L) (v:DVal) (H':Ac):Prop:=Jf H ty S l.length (l.flatMap d) v H'
def Fc3 {L:Type} (G:Nat->DVal) (l:List Tok) (r:Nat) (f:FuncId) (D:L->DVal) (DL:List L->DVal):Prop:=
 ∀(B0:Ac) (g1 g2:FuncId) (xs1 ys1 xs2 ys2:List DVal) (one:Nat->Re L) (more:Nat->Option Nat)
  (_: ∀H k,SRt r l k B0 H->k<=l.length->Af Tryz.prog G g1 (xs1++ []++ys1) H (SrR r l H ((one k).mp D)))
  (_: ∀H k,SRt r l k B0 H->k<=l.length->Af Tryz.prog G g2 (xs2++ []++ys2) H (SrQ r l H (.bool (more k).isSome) ((more k).getD k)))
  (_: ∀k,k<=l.length->Kv l (k+1) (one k)) (_: ∀k j,k<=l.length->more k=some j->k<=j/\j<=l.length) (k:Nat) (_:B0 r=some (srO l k)) (_:k<=l.length),
  Af Tryz.prog G f [.func (.func g1) xs1 ys1, .func (.func g2) xs2 ys2] B0 (SrR r l B0 ((Ax3 l one more k).mp DL))
set_option maxHeartbeats 20000000 in
theorem Fc4 (hl:l.length<=800000):
 Fc3 G l r 280 DVal.str dW/\
 Fc3 G l r 119 (fun a=>DVal.agg (Gj a)) Hr/\
 Fc3 G l r 142 (fun a=>DVal.agg (Qw a)) Lz/\
 Fc3 G l r 235 (fun a=>DVal.agg (Lk a)) Ct/\
 Fc3 G l r 269 (fun a=>DVal.agg (Qc a)) Eg:=by
 refine⟨?_, ?_, ?_, ?_, ?_⟩;all_goals intro B0 g1 g2 ah ai aj ak one more Z al h1 h2 k hr hk
 all_goals have ha:=h1 k hk
 all_goals have ho:=Z B0 k (.refl hr) hk
 case' refine_1=>refine Ab Tryz.func280 Tryz.call280 rfl (by kernel_rfl) ?_;obtain⟨h,L⟩: ∃h,h=Dj3 9 1 (fun s:List UInt8=> [DVal.str s]):=⟨_,rfl⟩;have hd: ∀x,((fun s:List UInt8=> [DVal.str s]) x).length=1:=fun _=>rfl
 case' refine_2=>refine Ab Tryz.func119 Tryz.call119 rfl (by kernel_rfl) ?_;obtain⟨h,L⟩: ∃h,h=Dj3 136 21 Gj:=⟨_,rfl⟩;have hd: ∀x,(Gj x).length=21:=Ao
 case' refine_3=>refine Ab Tryz.func142 Tryz.call142 rfl (by kernel_rfl) ?_;obtain⟨h,L⟩: ∃h,h=Dj3 187 10 Qw:=⟨_,rfl⟩;have hd: ∀x,(Qw x).length=10:=Ni
 case' refine_4=>refine Ab Tryz.func235 Tryz.call235 rfl (by kernel_rfl) ?_;obtain⟨h,L⟩: ∃h,h=Dj3 202 47 Lk:=⟨_,rfl⟩;have hd: ∀x,(Lk x).length=47:=Bp
 case' refine_5=>refine Ab Tryz.func269 Tryz.call269 rfl (by kernel_rfl) ?_;obtain⟨h,L⟩: ∃h,h=Dj3 164 2 Qc:=⟨_,rfl⟩;have hd: ∀x,(Qc x).length=2:=De
 all_goals
  simp(disch:=omega)only[go_sem];simp only[jH] at ho;rw[Ax3];cases hc:one k with
  | fail V=>
   rw[hc] at ho;refine(by simpa using ho:Af _ _ _ _ _ _).mono ?_;rintro e H3 ⟨rfl,j,rfl⟩;simp(disch:=omega)only[go_sem];exact Sz.refl ⟨rfl,j,rfl⟩
  | long=>
   rw[hc] at ho;refine(by simpa using ho:Af _ _ _ _ _ _).mono ?_;rintro e H3 ⟨rfl,j,rfl⟩;simp(disch:=omega)only[go_sem];exact Sz.refl ⟨rfl,j,rfl⟩
  | ok W V=>
   rw[hc] at ho ha;obtain⟨aq,ar⟩:=ha;refine(by simpa using ho:Af _ _ _ _ _ _).mono ?_;rintro e H3 ⟨rfl,aa⟩;dsimp only[Re.then,Re.mp];have ab:=hd W;simp(disch:=omega)only[go_sem]
   (try (rw[Fc2 ab rfl];simp(disch:=omega)only[go_sem]))
   intro r7 S;dsimp only at S;simp(disch:=omega)only[go_sem];obtain⟨I,X⟩: ∃I:Nat×List _×Nat->(Nat->DVal)->Ac->Prop,∀s env heap,I s env heap↔(env 0= .func (.func g1) ah ai/\env 1= .func (.func g2) aj ak/\s.2.2<=l.length/\s.2.1.length<=s.2.2/\l.length<s.1+s.2.2/\To one more s.1 s.2.1 s.2.2=To one more (l.length+1) [W] V/\h (upd B0 r (some (srO l s.2.2))) s.2.1 (env 5) heap):=⟨_,fun _ _ _=>Iff.rfl⟩;subst L;refine Dn5.run I (fun s=>s.1) (l.length+1,[W],V) ((X _ _ _).2 ?_) ?_
   ·simp(disch:=omega)only[go_sem];(repeat' apply And.intro)<;>(try first | rfl | assumption | omega);refine .inr ⟨r7,by rw[<-aa];exact S,by rw[List.flatMap_singleton,ab];rfl,rfl,by rw[List.flatMap_singleton];exact Aa _ _ _,by rw[aa] at S⊢;exact(Sub.refl _).new S _⟩
   ·rintro⟨n,xs,k1⟩ env heap am;obtain⟨C,e1,Y,ao,hn,y,hv⟩:=(X _ _ _).1 am;dsimp only at Y ao hn y hv;obtain⟨m,rfl⟩: ∃m,n=m+1:=⟨n-1,by omega⟩;rw[To] at y;obtain⟨v,D⟩: ∃v,env 5=v:=⟨_,rfl⟩;rw[D] at hv;have ac:SRt r l k1 B0 heap:=Jf.sub hv;have hm:=al heap k1 ac Y;simp(disch:=omega)only[go_sem,C,e1,D];refine(by simpa using hm:Af _ _ _ _ _ _).mono ?_;rintro _ H4 ⟨rfl,E⟩;cases hmo:more k1 with
    | none=>
     rw[hmo] at y E;rw[Option.getD_none,Dv ac.get] at E;subst E;dsimp only at y;simp(disch:=omega)only[go_sem,C,e1,D,Option.isSome_none];rw[<-y];first
     | exact Jf.fin hv ⟨rfl,rfl⟩
     | (unfold Dj3 at hv;rw[Fc1] at hv;exact Jf.fin hv ⟨rfl,rfl⟩)
    | some j=>
     rw[hmo] at y E;rw[Option.getD_some] at E;obtain⟨j1,j2⟩:=h2 k1 j Y hmo;have M:=Jf.move hv (some (srO l j));rw[<-E] at M;have J:=Z H4 j (Jf.sub M) j2;have ad:=h1 j j2;simp(disch:=omega)only[go_sem,C,e1,D,Option.isSome_some];dsimp only at y;cases hc2:one j with
     | fail U=>
      rw[hc2] at J y;refine(by simpa using J:Af _ _ _ _ _ _).mono ?_;rintro e H5 ⟨rfl,i,O⟩;simp(disch:=omega)only[go_sem];rw[<-y];exact Sz.sub (by rw[O];exact Jf.sub (Jf.move M _)) ⟨rfl,i,rfl⟩
     | long=>
      rw[hc2] at J y;refine(by simpa using J:Af _ _ _ _ _ _).mono ?_;rintro e H5 ⟨rfl,i,O⟩;simp(disch:=omega)only[go_sem];rw[<-y];exact Sz.sub (by rw[O];exact Jf.sub (Jf.move M _)) ⟨rfl,i,rfl⟩
     | ok a U=>
      rw[hc2] at J y ad;obtain⟨b1,b2⟩:=ad;refine(by simpa using J:Af _ _ _ _ _ _).mono ?_;rintro e H5 ⟨rfl,O⟩;dsimp only[Re.then] at y;have ae:=Jf.move M (some (srO l U));rw[<-O] at ae;have af:=hd a;simp(disch:=omega)only[go_sem,C,e1,D]
      (try (rw[Fc2 af rfl];simp(disch:=omega)only[go_sem,C,e1,D]))
      intro r8 ag;dsimp only at ag;simp(disch:=omega)only[go_sem,C,e1,D];refine Jf.append (m:=1) (Jf.new ae ag _) (by first | rfl | rw[af]) (by omega) fun v2 H6 ap=> ?_;simp(disch:=omega)only[go_sem,C,e1];refine⟨(m,xs++ [a],U),_,Ri.refl _,(X _ _ _).2 ?_,by dsimp only;omega⟩;have au:(xs++ [a]).length<=U:=by rw[jC,jQ];omega
      simp(disch:=omega)only[go_sem,C,e1];(repeat' apply And.intro)<;>(try first | rfl | assumption | omega);unfold Dj3;rw[jC,jQ,List.flatMap_append,List.flatMap_singleton];exact ap
end
theorem Bp8 (l:List Tok) (k:Nat):(l.flatMap Cy).drop (k*4)=(l.drop k).flatMap Cy:=by
 induction k generalizing l with
 | zero=>simp
 | succ k ih=>
  cases l with
  | nil=>simp
  | cons t l=>
   rw[List.flatMap_cons,jE,<-ih,Nat.succ_mul,Nat.add_comm,<-List.drop_drop,List.drop_left' (Aq t)]
def Aa7 (B K:Ac):Prop:= ∀b,K b=none->B b=none
theorem Aa7.refl (B:Ac):Aa7 B B:=fun _ h=>h
theorem Aa7.upd {B K:Ac} (h:Aa7 B K) (x:Nat) (o:DObj):Aa7 B (upd K x (some o)):=fun b hb=>by
 simp only[Go.Dl.upd] at hb;split at hb
 ·cases hb
 ·exact h b hb
theorem Ax5 {q a:Nat} {x:DObj} {E:Option DObj}:((if q=a then some x else E)=none)↔q≠a/\a≠q/\E=none:=by
 by_cases h:q=a
 ·rw[if_pos h];exact⟨fun h=>(by cases h),fun k=>absurd h k.1⟩
 ·rw[if_neg h];exact⟨fun k=>⟨h,fun e=>h e.symm,k⟩,fun k=>k.2.2⟩
theorem Ag {H:Ac} {r q:Nat} {x o:Option DObj} (h:H r=x) (n:r≠q):upd H q o r=x:=by rw[Ak _ _ _ _ n];exact h
section
variable {P:Program} {G:Nat->DVal} {f:FuncId} {args:List DVal} {H H0:Ac} {R:DEnd->Ac->Prop} {r k a:Nat} {l:List Tok}
theorem SRt.at:SRt r l k H (upd H r (some (srO l k))):=Sub.refl _
theorem ReC {α:Type} {x:Re α} {D:α->DVal} (h:Af P G f args H (SrR r l H (x.mp D))) (adv:Kv l a x)
  (ok: ∀v k,x= .ok v k->a<=k->k<=l.length->R (.ret (D v)) (upd H r (some (srO l k))))
  (fail: ∀k j,x= .fail k->R (.panic (Lc k 40)) (upd H r (some (srO l j))))
  (long: ∀j,x= .long->R (.panic (Lc 0 3)) (upd H r (some (srO l j)))):Af P G f args H R:=h.mono fun e H' hx=>by
 cases x with
 | ok v k=>obtain⟨rfl,rfl⟩:=hx;exact ok v k rfl adv.1 adv.2
 | fail k=>obtain⟨rfl,j,rfl⟩:=hx;exact fail k j rfl
 | long=>obtain⟨rfl,j,rfl⟩:=hx;exact long j rfl
theorem SrM {s:List UInt8} (h:Af P G f args H (SrQ r l H (.bool (isW l k [s])) (if isW l k [s] then k+1 else k))) (y:H r=some (srO l k)) (hk:k<=l.length)
  (C:isW l k [s]=true->k+1<=l.length->R (.ret (.bool true)) (upd H r (some (srO l (k+1)))))
  (no:isW l k [s]=false->R (.ret (.bool false)) H):Af P G f args H R:=h.mono fun e H' hx=>by
 obtain⟨rfl,rfl⟩:=hx;cases c:isW l k [s]
 ·rw[if_neg (by simp),Dv y];exact no c
 ·rw[if_pos rfl];exact C c (Fi c hk)
theorem SrR.ofK {x:Re DVal} {v:DVal} {i:Nat} (h:x= .ok v i):SrR r l H x (.ret v) (upd H r (some (srO l i))):=by subst h;exact⟨rfl,rfl⟩
theorem SrR.ofF {x:Re DVal} {i j:Nat} (h:x= .fail i):SrR r l H x (.panic (Lc i 40)) (upd H r (some (srO l j))):=by subst h;exact⟨rfl,j,rfl⟩
theorem SrR.ofL {x:Re DVal} {j:Nat} (h:x= .long):SrR r l H x (.panic (Lc 0 3)) (upd H r (some (srO l j))):=by subst h;exact⟨rfl,j,rfl⟩
def nz:DVal->DVal
 | .nilSlice=> .vslice [] 0
 | v=>v
theorem Fy2 (v:DVal):DLe v (nz v):=by
 cases v<;>first | exact DLe.nil | exact fun _ _ _ h=>h
theorem Ch4 (w:World) (H:Ac): ∀(cs:List DVal) (xs:List Value),Az w H cs xs->Az w H (cs.map nz) xs
 | [],_,h=>h
 | c::cs,xs,h=>by
  simp only[jN,Az] at h⊢
  obtain⟨y,ys,rfl,h1,h2⟩:=h;exact⟨y,ys,rfl,Fy2 c w H y h1,Ch4 w H cs ys h2⟩
theorem SRt.finZ {cs:List DVal} {k:Nat} (h:SRt r l k H0 H) (y:R (.ret (.agg (cs.map nz))) (upd H0 r (some (srO l k)))):Es R (.agg cs) H:=
 Es.sub h (Es.le (fun w H x hx=>by
  simp only[Rel] at hx⊢
  obtain⟨xs,rfl,hx⟩:=hx;exact⟨xs,rfl,Ch4 w H _ _ hx⟩) (.refl y))
end
section
variable {G:Nat->DVal} {r:Nat} {l:List Tok}
set_option maxHeartbeats 8000000 in
theorem Gh5 (hl:l.length<=800000) (B:Ac) (g:FuncId) (y:List DVal) (x:Ex) (e:Int) (k:Nat) (hr:B r=some (srO l k)) (hk:k<=l.length) (n:Nat) (M:k+n<=l.length)
  (C: ∀K,Sub B K->Af Tryz.prog G g ([]++ [Bh (l.drop k)]++y) K (Au (Bm6 (x,n,e)) K)):
  Af Tryz.prog G 281 [.optr r 0, .func (.func g) [] y] B (SrR r l B ((Bp4 k (x,(n:Int),e)).mp dE)):=by
 have O:(0:Int)<=(k:Int):=by omega
 have S:(k:Int)<=(l.length:Int):=by omega
 have U:IntKind.i64.wrap ((k:Int)+(n:Int))=((k+n:Nat):Int):=by rw[IntKind.wrap_i64];omega
 simp only[jG,jI,Bh,List.length_drop] at C;have V:((l.drop k).flatMap Cy).take ((l.length-k)*4)=(l.drop k).flatMap Cy:=List.take_of_length_le (by rw[Ax Aq,List.length_drop];exact Nat.le_refl _);have W:=Ad x;refine Ab Tryz.func281 Tryz.call281 rfl (by kernel_rfl) ?_;simp(disch:=omega)only[go_sem]
 ((with_reducible show Ff _ _ _ _ _);intro q hq;dsimp only at hq;have D:=hq;have hz:=(show Aa7 B _ from(by repeat (first | exact Aa7.refl _ | refine Aa7.upd ?_ _ _))) _ hq;have h:=Ae hz hr;have E:=h.symm;(try have I:=Ae hz hq0);(try have J:=(Ae hz hq0).symm);(try simp only[Av] at hq);(repeat (have L:=hq.1;have hq:=hq.2)))
 simp(disch:=omega)only[go_sem, *];refine Aj (by kernel_rfl) (.take 0 (.take 1 (.take 2 (.take 3 (.take 4 (.take 5 (.take 6 (.take 7 (.take 8 (.take 9 (.alt (.go 15 [9,8,4] (.go 10 [] (.take 11 (.take 12 (.take 13 (.take 14 (.go 16 [] (.take 17 (.take 18 .done))))))))) (.go 10 [] (.take 11 (.take 12 (.take 13 (.take 14 (.go 15 [9,8,4] (.go 16 [] (.take 17 (.take 18 .done)))))))))))))))))))) (by kernel_rfl) ?_
 repeat' first
  | (refine Af.monoR (C _ (by repeat (first | exact Sub.refl _ | assumption | refine Sub.up ?_ (by assumption) _))) ?_)
  | with_reducible refine And.intro ?_ ?_
  | ((with_reducible show Ff _ _ _ _ _);intro q hq;dsimp only at hq;have D:=hq;have hz:=(show Aa7 B _ from(by repeat (first | exact Aa7.refl _ | refine Aa7.upd ?_ _ _))) _ hq;have h:=Ae hz hr;have E:=h.symm;(try have I:=Ae hz hq0);(try have J:=(Ae hz hq0).symm);(try simp only[Av] at hq);(repeat (have L:=hq.1;have hq:=hq.2)))
  | simp(disch:=omega)only[go_sem, *,Bh,Bm6,dE,jD,Bp8,List.length_drop]
  | (with_reducible refine Lm ?_ ?_<;>intro hb<;>try simp only[decide_eq_true_eq,decide_eq_false_iff_not,Bool.not_eq_true',Bool.not_eq_false'] at hb)
  | (show SRt _ _ _ _ _;first | with_reducible assumption | apply SRt.at | (apply SRt.refl;assumption) | apply SRt.set | (apply SRt.own<;>first | assumption | skip))
  | ((with_reducible show Es _ _ _);apply SRt.fin (H0:=B) (r:=r) (l:=l))
  | ((with_reducible show Sz _ _ _);apply SRt.finP (H0:=B) (r:=r) (l:=l))
  | ((first | refine SrR.ofK ?_ | refine SrR.ofF ?_ | refine SrR.ofL ?_);simp [Re.mp,Re.then,Bp4,dE, *];done)
  | fail
end
def fT (ts:List Tok):Prop:= ∀t∈ts,t.text.length<=9223372036854775807
theorem Gh6 {l:List Tok} (h:fT l):Cb l:=fun k=>by
 rw[tk,List.getD];cases hk:l[k]? with
 | none=>decide
 | some t=>exact h t (List.mem_of_getElem? hk)
section
end
end Go.Dl
-- Chapter 3: ExprChains: the plain law, pa
namespace Go.Dl
open Go Go.Proofs
set_option maxRecDepth 10000
theorem Dr6 (l:List Tok) (k j:Nat):tk l (k+j)=tk (l.drop k) j:=by
 simp [tk,List.getD,List.getElem?_drop]
theorem Cv4 (l:List Tok) (k:Nat): ∀(ws:List (List UInt8)) (j:Nat),isW l (k+j) ws=isW (l.drop k) j ws
 | [],_=>rfl
 | s::r,j=>by rw[isW,isW,Dr6,Nat.add_assoc,Cv4 l k r (j+1)]
end Go.Dl
-- Chapter 4: forms: the plain laws, part 3
namespace Go.Dl
open Go
set_option maxRecDepth 10000
def Gvs {α γ:Type} (st:α->γ) (r:Re α) (c:γ) (k:Nat):Prop:= ∃x,r= .ok x k/\st x=c
theorem Gvs.then {α γ β δ:Type} {st:α->γ} {y:β->δ} {r:Re α} {c:γ} {k k':Nat} {f:α->Nat->Re β} {C:δ} (h:Gvs st r c k) (g: ∀x,st x=c->Gvs y (f x k) C k'):Gvs y (r.then f) C k':=by
 obtain⟨x,rfl,hx⟩:=h;exact g x hx
theorem Gvs.mk {α γ:Type} {st:α->γ} (x:α) (k:Nat) {c:γ} (h:st x=c):Gvs st (.ok x k) c k:=⟨x,rfl,h⟩
def Pre (l:List Tok) (k:Nat) (ts:List Tok):Prop:=At (l.map stT) k ts
section
variable {l:List Tok} {k k':Nat} {s:List UInt8} {ts us:List Tok}
theorem Pre.tail {t:Tok} (h:Pre l k (t::ts)):Pre l (k+1) ts:=At.tail h
theorem Pre.left (h:Pre l k (ts++us)):Pre l k ts:=At.left h
theorem Pre.right (h:Pre l k (ts++us)):Pre l (k+ts.length) us:=At.right h
theorem Pre.head {t:Tok} (h:Pre l k (t::ts)):stT (tk l k)=t/\k<l.length:=by
 have:=At.head h;rw[Ba2,jK] at this;exact this
theorem Pre.word (h:Pre l k (Ah s::ts)):isW l k [s]=true:=by rw[<-Mw];exact At.word h
theorem Pre.not {t:Tok} (h:Pre l k (t::ts)) (y:nof [s] t):isW l k [s]=false:=by
 rw[<-Mw];exact Gz (by rw[(At.head h).1];exact y) (by simp) []
theorem Pre.nof {t:Tok} {ws:List (List UInt8)} (h:Pre l k (t::ts)) (y:nof ws t):nof ws (tk l k):=by
 have:=h.head.1;rw[<-this] at y;exact Fa1.1 y
theorem Ai5 {ws:List (List UInt8)} (h:nof ws (tk l k)) (hs:s∈ws):isW l k [s]=false:=Gz h hs []
theorem Pre.drop (h:Pre l k ts): ∃rest,(l.drop k).map stT=ts++rest:=by
 obtain⟨r,hr⟩:=h.2;exact⟨r,by rw[List.map_drop];exact hr.symm⟩
theorem Pre.le (h:Pre l k ts):k+ts.length<=l.length:=by have:=At.le h;rwa [jK] at this
theorem Ek {α:Type} {f:Nat->Re α} (h:Pre l k (Ah s::ts)):Dx l s k f=f (k+1):=by rw[Dx,if_pos h.word]
theorem Aa8 (h:Pre l k (Ci s::ts)):Ol l k= .ok s (k+1):=by
 have h1:=h.head.1;have hk:(tk l k).kind=1:=by have:=congrArg Tok.kind h1;exact this
 have ht:(tk l k).text=s:=by have:=congrArg Tok.text h1;exact this
 rw[Ol,if_pos hk,ht]
theorem Ch5 {α:Type} {x:α} {n k:Nat}:Bp4 k (x,(n:Int),(0:Int))= .ok x (k+n):=by simp [Bp4]
theorem Ap7:tk (l.drop k) k'=tk l (k+k'):=(Dr6 l k k').symm
theorem Fc5 {e:Ex} (j:Nat) (hm:Cg e=true) (h:Pre l k (Am e)) (y:nof w0 (tk l (k+(Am e).length))) (C:(j:Int)<=Ba e):Gvs stE (exR l j k) (stE e) (k+(Am e).length):=by
 obtain⟨rest,hr⟩:=h.drop;obtain⟨x,h1,h2⟩:=Di0 (l:=l.drop k) (rest:=rest) hm hr (by rw[Ap7];exact y) j (.inl C);exact⟨x,by rw[exR,h1,Ch5],h2⟩
theorem Ax6 {e:Ex} (hm:Cg e=true) (h:Pre l k (Am e)) (y:nof w0 (tk l (k+(Am e).length))):Gvs stE (exR l 0 k) (stE e) (k+(Am e).length):=Fc5 0 hm h y (Qv e).1
theorem Bb1 {e:Ex} (hm:Cg e=true) (h:Pre l k (Ay e 2)) (I:nof w2 (tk l (k+(Ay e 2).length))):Gvs stE (exR l 2 k) (stE e) (k+(Ay e 2).length):=by
 obtain⟨rest,hr⟩:=h.drop;obtain⟨L,y⟩: ∃L,L=(l.drop k).map stT:=⟨_,rfl⟩;have hz: ∀k,(tk L k).line=0:=fun k=>by rw[y];exact Kj k
 have D:At L 0 (Ay e 2):=⟨Nat.zero_le _,rest,by rw[jJ,y,hr]⟩;have R:=Dh4 (p:=Q L) hz e 1 (Qb hm);have C:nof w2 (tk L (0+(Ay e 2).length)):=by rw[Nat.zero_add,y,Ba2,Fa1,Ap7];exact I
 have hle:0+(Ay e 2).length<=L.length:=D.le;have hs:(Q L).simple 0= .ok (stE e) (0+(Ay e 2).length):=by
  rcases Wd (p:=Q L) R D rfl with⟨_,hp⟩ | ⟨hl,r⟩
  ·have hf:=Lx (p:=Q L) (Nat.zero_le _) hp;have ht:=Ly (p:=Q L) (Nat.zero_le _) hf;rw[Kk (p:=Q L) (Nat.zero_le _) hle ht (s32 C),So hle C]
  ·rw[r.simp hl (s32 C),So hle C]
 rw[Nat.zero_add,y] at hs;obtain⟨x,J,E⟩:=Cg7 (Dr2 2) (show Vg ((l.drop k).map stT) 2=_ from hs);refine⟨x, ?_,E⟩;have hf:Fx (l.drop k) (2:Nat)=(x,(((Ay e 2).length:Nat):Int),0):=by
  rw[Fx,if_neg (by omega),jD,J];show(if Cg x=true then _ else _)=_;rw[if_pos (by rw[Jn E,hm])]
 have M:Fx (l.drop k) 2=(x,(((Ay e 2).length:Nat):Int),0):=hf;rw[exR,M,Ch5]
theorem Ch6 {a b:Ex} (ha:Cg a=true) (hb:Cg b=true) (h:Pre l k (Gi a b)) (C:nof w2 (tk l (k+(Gi a b).length))):Gvs (fun x:Ex×Ex=>(stE x.1,stE x.2)) (Sd l k) (stE a,stE b) (k+(Gi a b).length):=by
 have e:k+(Gi a b).length=k+(Ay a 2).length+1+(Ay b 2).length:=by rw[Gi,jC,jA];omega
 rw[e] at C⊢
 have h1:=Pre.right (show Pre l k (Ay a 2++(Ah Ev::Ay b 2)) from h);refine(Bb1 ha (Pre.left (show Pre l k (Ay a 2++(Ah Ev::Ay b 2)) from h)) (h1.nof (by decide+kernel))).then fun x hx=> ?_
 rw[Ek h1];exact(Bb1 hb h1.tail C).then fun y D=> .mk _ _ (by rw[hx,D])
theorem Bp9 {α β γ:Type} {one:Nat->Re α} {g:β->List Tok} {st:α->γ} {stb:β->γ} (s:List UInt8) (W:List (List UInt8)) (D: ∀t,t=Ah s->nof W t)
  : ∀(y:List β) (n:Nat) (C:List α) (k:Nat),(∀b∈y,∀j,Pre l j (g b)->nof W (tk l (j+(g b).length))->Gvs st (one j) (stb b) (j+(g b).length))->y.length<n->Pre l k (y.flatMap fun b=>Ah s::g b)->nof W (tk l (k+(y.flatMap fun b=>Ah s::g b).length))->isW l (k+(y.flatMap fun b=>Ah s::g b).length) [s]=false->
   Gvs (fun xs:List α=>xs.map st) (To one (byW l s) n C k) (C.map st++y.map stb) (k+(y.flatMap fun b=>Ah s::g b).length)
 | [],n+1,C,k,_,_,h,hn,hs=>by
  rw[List.flatMap_nil,jB,Nat.add_zero] at hs⊢
  rw[To,byW,hs];exact .mk _ _ (by simp)
 | b::y,n+1,C,k,ho,hl,h,hn,hs=>by
  rw[List.flatMap_cons] at h hn hs⊢
  have e:k+((Ah s::g b)++y.flatMap fun b=>Ah s::g b).length=k+1+(g b).length+(y.flatMap fun b=>Ah s::g b).length:=by rw[jC,jA];omega
  rw[e] at hn hs⊢
  have h0:Pre l k (Ah s::(g b++y.flatMap fun b=>Ah s::g b)):=h;have h1:=h0.tail;have h2:=h1.right;rw[To,byW,if_pos h0.word];dsimp only;refine(ho b (by simp) (k+1) h1.left ?_).then fun x hx=> ?_
  ·cases y with
   | nil=>exact hn
   | cons c cs=>exact h2.nof (D _ rfl)
  ·have:=Bp9 s W D y n (C++ [x]) (k+1+(g b).length) (fun c hc=>ho c (List.mem_cons_of_mem _ hc)) (by simp at hl;omega) h2 hn hs;rw[List.map_append,jO] at this;simpa [hx] using this
theorem Bq0 {β:Type} (g:β->List Tok) (s:List UInt8) (h:List β):h.length<=(h.flatMap fun b=>Ah s::g b).length:=by
 induction h with
 | nil=>simp
 | cons b h ih=>rw[List.flatMap_cons,jC,jA,jA];omega
theorem Ad8 {α β γ:Type} {one:Nat->Re α} {g:β->List Tok} {st:α->γ} {stb:β->γ} (s:List UInt8) (W:List (List UInt8)) (D: ∀t,t=Ah s->nof W t) (y:List β) (h0:y≠ [])
  (E: ∀b∈y,∀j,Pre l j (g b)->nof W (tk l (j+(g b).length))->Gvs st (one j) (stb b) (j+(g b).length)) (h:Pre l k (Ef s (y.map g))) (C:nof W (tk l (k+(Ef s (y.map g)).length))) (hs:isW l (k+(Ef s (y.map g)).length) [s]=false):
  Gvs (fun xs:List α=>xs.map st) (Ax3 l one (byW l s) k) (y.map stb) (k+(Ef s (y.map g)).length):=by
 cases y with
 | nil=>exact absurd rfl h0
 | cons b y=>
  have I:Ef s ((b::y).map g)=g b++y.flatMap fun b=>Ah s::g b:=by rw[jN,Ad4,List.flatMap_map]
  rw[I] at h C hs⊢
  have h2:=h.right;rw[jC,<-Nat.add_assoc] at C hs⊢
  refine(E b (by simp) k h.left ?_).then fun x hx=> ?_
  ·cases y with
   | nil=>exact C
   | cons c cs=>exact h2.nof (D _ rfl)
  ·have J:=h2.le;have hb:=Bq0 g s y;have:=Bp9 (st:=st) (stb:=stb) s W D y (l.length+1) [x] (k+(g b).length) (fun c hc=>E c (List.mem_cons_of_mem _ hc)) (by omega) h2 C hs;rw[jN,<-hx];exact this
theorem Rb (y:List (List UInt8)) (h0:y≠ []) (h:Pre l k (Cp y)) (hs:isW l (k+(Cp y).length) [Dh]=false):Gvs (fun x=>x) (Xq l k) y (k+(Cp y).length):=by
 have:=Ad8 (l:=l) (k:=k) (one:=Ol l) (g:=fun s=> [Ci s]) (st:=fun x=>x) (stb:=fun x=>x) Dh [] (fun t _=>fun s h=>by cases h) y h0 (fun b _ j hb _=>⟨b,Aa8 hb,rfl⟩) h (fun s h=>by cases h) hs;obtain⟨x,h1,h2⟩:=this;exact⟨x,h1,by simpa using h2⟩
def Gh7 (x:Ex) (s:List UInt8):Ex:= .mk 4 0 0 s [x] [] 0 0 0
def Go1 (s:List UInt8):Ex:= .mk 3 0 0 s [] [] 0 0 0
def Yr (ss:List (List UInt8)):List Tok:=ss.flatMap fun s=> [Ah Jl,Ci s]
theorem Bb2: ∀(n d:Nat) (e:Ex),Fc d e=true->Ye n e=true-> ∃s ss,stE e=ss.foldl Gh7 (Go1 s)/\Am e=Ci s::Yr ss
 | 0,_,_,_,h=>by cases h
 | n+1,d,e,hv,h=>by
  obtain⟨hf,hp⟩:=Is hv;rw[Ye] at h;by_cases c:e.kind=4
  ·rw[if_pos c] at h;obtain⟨⟨x,hx,D⟩,h1,h2,h3⟩:=Dh3 (.inl c) hf;rw[hx] at h;have y:=hp x (Be (by rw[hx];simp));obtain⟨s,ss,e1,C⟩:=Bb2 n _ x y h;refine⟨s,ss++ [e.s], ?_, ?_⟩
   ·rw[List.foldl_append,<-e1,Fd e,c,h1,h2,hx,h3];rfl
   ·rw[Dq2 c,tE,hx];show Am x++_=_;rw[C,Yr,Yr,List.flatMap_append];simp
  ·rw[if_neg c,decide_eq_true_eq] at h;obtain⟨h1,h2,h3,h4⟩:=ff3 h hf;exact⟨e.s,[],by rw[Fd e,h,h1,h2,h3,h4];rfl,by rw[Cs4 h];rfl⟩
theorem Bq1 {e:Ex} (h:Hu e=true):Cg e=true/\ ∃s ss,stE e=ss.foldl Gh7 (Go1 s)/\Am e=Ci s::Yr ss:=by
 rw[Hu,jF] at h;exact⟨h.1,Bb2 _ _ e (Qb h.1) h.2⟩
theorem Bb3 (line:Int): ∀(y:List (List UInt8)) (n:Nat) (x:Ex) (k:Nat),y.length<n->Pre l k (Yr y)->isW l (k+(Yr y).length) [Jl]=false->Gvs stE (markL l line n x k) (y.foldl Gh7 (stE x)) (k+(Yr y).length)
 | [],n+1,x,k,_,h,hn=>by
  rw[Yr,List.flatMap_nil,jB,Nat.add_zero] at hn⊢
  rw[markL,hn];exact .mk _ _ rfl
 | s::y,n+1,x,k,hl,h,hn=>by
  have h0:Pre l k (Ah Jl::Ci s::Yr y):=h;have e:k+(Yr (s::y)).length=k+1+1+(Yr y).length:=by rw[Yr,Yr,List.flatMap_cons,jC];simp;omega
  rw[e] at hn⊢
  rw[markL,if_pos h0.word,Aa8 h0.tail];have:=Bb3 line y n (.mk 4 0 0 s [x] [] line 0 0) (k+1+1) (by simp at hl;omega) h0.tail.tail hn;exact this
theorem Fc6 (h:List (List UInt8)):h.length<=(Yr h).length:=by
 induction h with
 | nil=>simp
 | cons s h ih=>rw[Yr,List.flatMap_cons,jC,jA];change _<=_+(Yr h).length;simp;omega
theorem Tq {e:Ex} (hm:Hu e=true) (h:Pre l k (Am e)) (y:isW l (k+(Am e).length) [Jl]=false):Gvs stE (Aa5 l k) (stE e) (k+(Am e).length):=by
 obtain⟨_,s,ss,e1,C⟩:=Bq1 hm;rw[C] at h y⊢
 rw[jA,show k+((Yr ss).length+1)=k+1+(Yr ss).length by omega] at y⊢
 have hl:=Fc6 ss;have hle:=h.tail.le;rw[Aa5,Aa8 h,e1];exact Bb3 _ ss _ _ (k+1) (by omega) h.tail y
end
def stI (s:Ind):Ind:=⟨stE s.name,stE s.lo,stE s.hi,stE s.value⟩
def stD (d:Dis):Dis:=⟨stE d.name,stE d.lo,stE d.hi⟩
def stP (p:Par):Par:=⟨p.names,p.mode,stE p.type,stE p.e,0⟩
def Ap8 (a:Asp):Asp:=⟨a.name,stE a.e⟩
def Mp (c:Cmp):Cmp:=⟨c.names,stI c.sub,stE c.e,0⟩
def Xs (a:Arm):Arm:=⟨a.c.map stC,a.comps.map Mp⟩
def Ap9 (t:Typ):Typ:=⟨t.kind,t.names,stE t.lo,stE t.hi,stI t.sub,stD t.disc,t.comps.map Mp,t.var,t.arms.map Xs,t.limited⟩
theorem Mb {x y:Ex} (h:stE x=stE y):noE x=noE y:=by
 unfold noE;rw[Bool.eq_iff_iff,Wa,Wa,h]
theorem Gp4 {x:Ex}:noE x=true↔stE x=ex0:=by
 unfold noE;rw[Wa];rfl
theorem Gh8 {x:Ex} (h:Cg x=true):noE x=false:=by
 cases c:noE x with
 | false=>rfl
 | true=>
  have hk:x.kind=0:=by rw[<-Pa,Gp4.1 c];rfl
  rw[Cg,jF,Py] at h;have:Bc x=false:=by unfold Bc;simp [hk]
  rw[this] at h;simp at h
theorem Gh9 {x:Ex} (h:noE x=true):Cg x=false:=by
 cases c:Cg x with
 | false=>rfl
 | true=>rw[Gh8 c] at h;cases h
theorem Fc7 {x:Ex} (h:Hu x=true):Cg x=true:=by rw[Hu,jF] at h;exact h.1
theorem Cv5: ∀(n:Nat) (x y:Ex),stE x=stE y->Ye n x=Ye n y
 | 0,_,_,_=>rfl
 | n+1,x,y,h=>by
  have hk:x.kind=y.kind:=by rw[<-Pa x,h,Pa]
  have hl:x.l.map stE=y.l.map stE:=by rw[<-Cs9,h,Cs9]
  have hd:stE (x.l.getD 0 ex0)=stE (y.l.getD 0 ex0):=by
   have e: ∀z:List Ex,stE (z.getD 0 ex0)=(z.map stE).getD 0 ex0:=fun z=>by cases z<;>rfl
   rw[e,e,hl]
  rw[Ye,Ye,hk,Cv5 n _ _ hd]
theorem Ch7 {x y:Ex} (h:stE x=stE y):Hu x=Hu y:=by
 unfold Hu;rw[Jn h,<-Cg0 x,h,Cg0,Cv5 _ _ _ h]
def wG:List (List UInt8):=w0++ [Ev,Ht]
def wF:List (List UInt8):=wG++ [Kl]
section
variable {l:List Tok} {k k':Nat} {s:List UInt8} {ts us:List Tok}
theorem Bz5 {x:Ind} (hm:Cr x=true) (h:Pre l k (Mm x)) (C:nof wG (tk l (k+(Mm x).length))):Gvs stI (Wh l k) (stI x) (k+(Mm x).length):=by
 rw[Cr,jF] at hm;obtain⟨h1,h2⟩:=hm;have O:=Fc7 h1;have hz: ∀y,noE y=true->stE y=stE ex0:=fun y c=>Gp4.1 c;cases hv:noE x.value with
 | true=>
  rw[hv,if_pos rfl] at h2;cases hlo:noE x.lo with
  | true=>
   have L:noE x.hi=true:=by
    rw[hlo,Gh9 hlo] at h2;simpa using h2
   have e:Mm x=Am x.name:=by rw[Mm,hv,hlo];simp
   rw[e] at h C⊢
   refine(Tq h1 h (Ai5 C (by decide+kernel))).then fun m hx=> ?_
   rw[Ai5 C (show Ht∈wG by decide+kernel),Ai5 C (show Bi∈wG by decide+kernel)];exact .mk _ _ (by rw[stI,stI,hx,hz _ hv,hz _ hlo,hz _ L])
  | false=>
   rw[hlo,jT,Bool.false_or,jF] at h2;have e:Mm x=Am x.name++(Ah Ht::Gi x.lo x.hi):=by rw[Mm,hv,hlo];simp
   rw[e] at h C⊢
   have hr:=h.right;have D:k+(Am x.name++(Ah Ht::Gi x.lo x.hi)).length=k+(Am x.name).length+1+(Gi x.lo x.hi).length:=by rw[jC,jA];omega
   rw[D] at C⊢
   refine(Tq h1 h.left (hr.not (by decide+kernel))).then fun m hx=> ?_
   rw[if_pos hr.word];refine(Ch6 h2.1 h2.2 hr.tail (Gy C (by decide+kernel))).then fun b hb=> ?_
   have E:=congrArg Prod.fst hb;have I:=congrArg Prod.snd hb;dsimp only at E I;exact .mk _ _ (by rw[stI,stI,hx,hz _ hv,E,I])
 | false=>
  rw[hv,if_neg (by simp),jF,jF] at h2;have e:Mm x=Am x.name++(Ah Bi::(Am x.value++ [Ah Bt])):=by rw[Mm,hv];simp
  rw[e] at h C⊢
  have hr:=h.right;have J:=hr.tail.right;have D:k+(Am x.name++(Ah Bi::(Am x.value++ [Ah Bt]))).length=k+(Am x.name).length+1+(Am x.value).length+1:=by simp only[jC,jA,jB];omega
  rw[D] at C⊢
  refine(Tq h1 h.left (hr.not (by decide+kernel))).then fun m hx=> ?_
  rw[hr.not (s:=Ht) (by decide+kernel),if_neg (by simp),if_pos hr.word];refine(Ax6 h2.2 hr.tail.left (J.nof (by decide+kernel))).then fun v M=> ?_
  rw[Ek J];exact .mk _ _ (by rw[stI,stI,hx,M,hz _ h2.1.1,hz _ h2.1.2])
theorem Ux {e:Ex} (hm:Ge e=true) (h:Pre l k (Jx e)) (y:nof wF (tk l (k+(Jx e).length))):Gvs stE (Rm l k) (stE e) (k+(Jx e).length):=by
 rw[Ge,Bool.or_eq_true] at hm;cases c:noE e with
 | true=>
  have e1:Jx e= []:=by rw[Jx,c];rfl
  rw[e1,jB,Nat.add_zero] at y⊢
  rw[Rm,Ai5 y (by decide+kernel),if_neg (by simp)];exact .mk _ _ (Gp4.1 c).symm
 | false=>
  have hv:Cg e=true:=by rw[c] at hm;simpa using hm
  have e1:Jx e=Ah Kl::Am e:=by rw[Jx,c];rfl
  rw[e1] at h y⊢
  rw[jA,show k+((Am e).length+1)=k+1+(Am e).length by omega] at y⊢
  rw[Rm,if_pos h.word];exact Ax6 hv h.tail (Gy y (by decide+kernel))
theorem Bq2 {y:List (List UInt8)} {m:Nat} (h:Ih y m=true):y≠ []:=by
 rintro rfl;simp [Ih] at h
theorem Dr7 {e:Ex} (h:Hu e=true): ∃s ts,Am e=Ci s::ts:=by
 obtain⟨_,s,ss,_,y⟩:=Bq1 h;exact⟨s,_,y⟩
theorem Gj8 {p:Par} (hm:Ja p=true) (h:Pre l k (Jp p)) (C:nof wF (tk l (k+(Jp p).length))):Gvs stP (Ai4 l k) (stP p) (k+(Jp p).length):=by
 simp only[Ja,jF,Bool.or_eq_true,decide_eq_true_eq] at hm;obtain⟨⟨⟨⟨⟨h1,h2⟩,h3⟩,h4⟩,h5⟩,h6⟩:=hm;have D:Jp p=Cp p.names++(Ah Fk::(Iu p.mode++(Am p.type++Jx p.e))):=rfl;have E:k+(Jp p).length=k+(Cp p.names).length+1+(Iu p.mode).length+(Am p.type).length+(Jx p.e).length:=by rw[D];simp only[jC,jA];omega
 rw[E] at C⊢
 rw[D] at h;have ha:=h.right;have hb:=ha.tail.right;have hc:=hb.right;rw[Ai4];refine(Rb p.names (Bq2 h1) h.left (ha.not (by decide+kernel))).then fun n I=> ?_
 subst I;rw[Ek ha];obtain⟨s,ts,hts⟩:=Dr7 h2;have hbb:Pre l (k+(Cp p.names).length+1+(Iu p.mode).length) (Ci s::ts):=by have:=hb.left;rw[hts] at this;exact this
 have J:Uw l (k+(Cp p.names).length+1)=(p.mode,k+(Cp p.names).length+1+(Iu p.mode).length):=by
  have hi:=hbb.not (s:=wIn) (Pb (.inl rfl));have ho:=hbb.not (s:=Tl) (Pb (.inl rfl));have y:=ha.tail.left;have L:p.mode=1\/p.mode=2\/p.mode=3:=by omega
  rcases L with c | c | c
  ·have:Iu p.mode= []:=by rw[c];rfl
   rw[this,jB,Nat.add_zero] at hi ho;rw[Uw,hi,ho,this,c];rfl
  ·have:Iu p.mode= [Ah Tl]:=by rw[c];rfl
   rw[this] at y;rw[Uw,y.not (s:=wIn) (by decide+kernel),y.word,this,c];rfl
  ·have:Iu p.mode= [Ah wIn,Ah Tl]:=by rw[c];rfl
   rw[this] at y;rw[Uw,y.word,y.tail.word,this,c];rfl
 rw[J];dsimp only;refine(Tq h2 hb.left ?_).then fun t ht=> ?_
 ·cases c:noE p.e with
  | true=>
   have:Jx p.e= []:=by rw[Jx,c];rfl
   rw[this,jB,Nat.add_zero] at C;exact Ai5 C (by decide+kernel)
  | false=>
   have:Jx p.e=Ah Kl::Am p.e:=by rw[Jx,c];rfl
   rw[this] at hc;exact hc.not (by decide+kernel)
 ·refine(Ux h3 hc C).then fun e he=> ?_
  exact .mk _ _ (by rw[stP,stP,ht,he])
theorem Eh3 {a:Asp} (hm:Yf a=true) (h:Pre l k (Eg7 a)) (y:nof wF (tk l (k+(Eg7 a).length))):Gvs Ap8 (Bp6 l k) (Ap8 a) (k+(Eg7 a).length):=by
 rw[Yf,jF] at hm;have C:Eg7 a=Ci a.name::Ah Bn::Am a.e:=rfl;rw[C] at h y⊢
 rw[show k+(Ci a.name::Ah Bn::Am a.e).length=k+1+1+(Am a.e).length by simp only[jA];omega] at y⊢
 have e1:Bp6 l k=(exR l 0 (k+1+1)).then fun e i=> .ok ⟨a.name,e⟩ i:=by
  rw[Bp6,Aa8 h];exact Ek (f:=fun i=>(exR l 0 i).then fun e i=> .ok (⟨a.name,e⟩:Asp) i) h.tail
 rw[e1];exact(Ax6 hm.2 h.tail.tail (Gy y (by decide+kernel))).then fun e he=> .mk _ _ (by rw[Ap8,Ap8,he])
theorem Eh4 {c:Cmp} (hm:Hd c=true) (h:Pre l k (Pj c)):Gvs Mp (Ax4 l k) (Mp c) (k+(Pj c).length):=by
 simp only[Hd,jF] at hm;obtain⟨⟨h1,h2⟩,h3⟩:=hm;have y:Pj c=Cp c.names++(Ah Fk::(Mm c.sub++(Jx c.e++ [Ah Dg]))):=rfl;have C:k+(Pj c).length=k+(Cp c.names).length+1+(Mm c.sub).length+(Jx c.e).length+1:=by rw[y];simp only[jC,jA,jB];omega
 rw[C];rw[y] at h;have ha:=h.right;have hb:=ha.tail.right;have hc:=hb.right;rw[Ax4];refine(Rb c.names (Bq2 h1) h.left (ha.not (by decide+kernel))).then fun n D=> ?_
 subst D;rw[Ek ha];refine(Bz5 h2 ha.tail.left ?_).then fun s hs=> ?_
 ·cases cc:noE c.e with
  | true=>
   have:Jx c.e= []:=by rw[Jx,cc];rfl
   rw[this] at hb;exact hb.nof (t:=Ah Dg) (by decide+kernel)
  | false=>
   have:Jx c.e=Ah Kl::Am c.e:=by rw[Jx,cc];rfl
   rw[this] at hb;exact hb.nof (t:=Ah Kl) (by decide+kernel)
 ·refine(Ux h3 hb.left (hc.nof (by decide+kernel))).then fun e he=> ?_
  rw[Ek hc];exact .mk _ _ (by rw[Mp,Mp,hs,he])
end
theorem Aq0 (l:List Ch):Kp (l.map stC)=Kp l:=by
 have e: ∀c:Ch,(stC c).l.all Cg=c.l.all Cg:=fun c=>by
  rw[Dq5,List.all_map];exact congrArg c.l.all (funext fun x=>Cg1 x)
 rw[Kp,Kp,Bn5,List.all_map];exact congrArg (Dk l&& ·) (congrArg l.all (funext e))
def Je (cs:List Cmp):List Tok:=if cs.isEmpty then [Ah Ez,Ah Dg] else cs.flatMap Pj
def Ai6 (a:Arm):List Tok:=Ah Ku::(Ef Gl (a.c.map Dw)++(Ah Bn::Je a.comps))
def Aa9 (v:List UInt8) (az:List Arm):List Tok:=if v= [] then [] else Ah It::Ci v::Ah wIs::(az.flatMap Ai6++ [Ah Ml,Ah It,Ah Dg])
def Bq3 (t:Typ):List Tok:=Ah Cw::((if t.comps.isEmpty then [] else Je t.comps)++(Aa9 t.var t.arms++ [Ah Ml,Ah Cw]))
def Ae3 (t:Typ):List Tok:=
 if t.kind=1 then Ah Bi::(Cp t.names++ [Ah Bt])
 else if t.kind=2 then Ah Ht::Gi t.lo t.hi
 else if t.kind=3 then Ah Bu0::Mm t.sub
 else if t.kind=4 then Ah Tm::Ah Bi::(Ax2 t.disc++(Ah Bt::Ah wOf::Mm t.sub))
 else if t.kind=6 then Ah Qj::Mm t.sub
 else if t.kind=7 then(if t.limited then [Ah Nh] else [])++ [Ah Ic]
 else if t.comps.isEmpty&&decide (t.var= []) then [Ah Ez,Ah Cw]
 else Bq3 t
section
variable {l:List Tok} {k k':Nat} {s:List UInt8} {ts us:List Tok}
theorem Fs5:Nt (List.map stC) (Av9 l) (Av9 (l.map stT)):=by
 have h:=Fx5 (l:=l);exact Dc (h.choice 0) fun x k=>h.choicesL [x] k
theorem Fc8 {cs:List Ch} (hm:Kp cs=true) (h:Pre l k (Ef Gl (cs.map Dw))) (I:nof w0 (tk l (k+(Ef Gl (cs.map Dw)).length))) (hb:isW l (k+(Ef Gl (cs.map Dw)).length) [Gl]=false):
  Gvs (List.map stC) (chR l k) (cs.map stC) (k+(Ef Gl (cs.map Dw)).length):=by
 obtain⟨rest,hr⟩:=h.drop;obtain⟨L,y⟩: ∃L,L=(l.drop k).map stT:=⟨_,rfl⟩;have hz: ∀k,(tk L k).line=0:=fun k=>by rw[y];exact Kj k
 have C:At L 0 (Ef Gl (cs.map Dw)):=⟨Nat.zero_le _,rest,by rw[jJ,y,hr]⟩;have J:nof w0 (tk L (0+(Ef Gl (cs.map Dw)).length)):=by rw[Nat.zero_add,y,Ba2,Fa1,Ap7];exact I
 have M:isW L (0+(Ef Gl (cs.map Dw)).length) [Gl]=false:=by rw[Nat.zero_add,y,Mw,<-Cv4];exact hb
 have O:=hm;rw[Kp,jF,List.all_eq_true] at hm;obtain⟨D,S⟩:=hm;simp only[Dk,jF,decide_eq_true_eq,List.all_eq_true] at D;cases cs with
 | nil=>simp at D
 | cons c r=>
  obtain⟨j,U,V,-⟩:=Ao2 (l:=L) (f:=(Q L).choice) (fL:=(Q L).choicesL) (sep:=Gl) (W:=w0) (g:=Dw) (st:=stC) (fun az k hk=>Bo1 (p:=Q L) az hk) (by decide+kernel) (b:=c) (r:=r)
   (fun d hd k C X=>By3 (p:=Q L) (D.2 d hd) (fun x hx=>Dh4 (p:=Q L) hz x 1 (Qb (List.all_eq_true.1 (S d hd) x hx))) C X) C rfl J M
  have hq:Av9 L= .ok ((c::r).map stC) (0+(Ef Gl ((c::r).map Dw)).length):=by
   show((Q L).choice 0).then _=_
   rw[U];exact V
  rw[y] at hq;obtain⟨x,e1,E⟩:=Cg7 Fs5 hq;refine⟨x, ?_,E⟩;have hf:Jg (l.drop k)=(x,(((Ef Gl ((c::r).map Dw)).length:Nat):Int),0):=by
   rw[Jg,e1];show(if Kp x=true then _ else _)=_;rw[if_pos (by rw[<-Aq0 x,E,Aq0];exact O),Nat.zero_add]
  rw[chR,hf,Ch5]
theorem Bb4 {α β γ:Type} {one:Nat->Re α} {more:Nat->Option Nat} {g:β->List Tok} {st:α->γ} {stb:β->γ} (ok:Tok->Prop)
  : ∀(y:List β) (n:Nat) (C:List α) (k:Nat),(∀b∈y,∀j,Pre l j (g b)->more j=some j/\ok (tk l j)/\(ok (tk l (j+(g b).length))->Gvs st (one j) (stb b) (j+(g b).length)))->y.length<n->Pre l k (y.flatMap g)->ok (tk l (k+(y.flatMap g).length))->more (k+(y.flatMap g).length)=none->
   Gvs (fun xs:List α=>xs.map st) (To one more n C k) (C.map st++y.map stb) (k+(y.flatMap g).length)
 | [],n+1,C,k,_,_,h,_,hs=>by
  rw[List.flatMap_nil,jB,Nat.add_zero] at hs⊢
  rw[To,hs];exact .mk _ _ (by simp)
 | b::y,n+1,C,k,ho,hl,h,hk,hs=>by
  rw[List.flatMap_cons] at h hk hs⊢
  rw[jC,<-Nat.add_assoc] at hk hs⊢
  have h2:=h.right;obtain⟨D,I,E⟩:=ho b (by simp) k h.left;rw[To,D];dsimp only;refine(E ?_).then fun x hx=> ?_
  ·cases y with
   | nil=>simpa using hk
   | cons c cs=>rw[List.flatMap_cons] at h2;exact(ho c (by simp) _ h2.left).2.1
  ·have:=Bb4 ok y n (C++ [x]) (k+(g b).length) (fun c hc=>ho c (List.mem_cons_of_mem _ hc)) (by simp at hl;omega) h2 hk hs;rw[List.map_append,jO] at this;simpa [hx] using this
theorem Dr8 {β:Type} (g:β->List Tok): ∀(y:List β),(∀b∈y,1<=(g b).length)->y.length<=(y.flatMap g).length
 | [],_=>by simp
 | b::y,h=>by
  have:=Dr8 g y fun c hc=>h c (List.mem_cons_of_mem _ hc);have:=h b (by simp);rw[List.flatMap_cons,jC,jA];omega
theorem Ai7 {α β γ:Type} {one:Nat->Re α} {more:Nat->Option Nat} {g:β->List Tok} {st:α->γ} {stb:β->γ} (ok:Tok->Prop) (y:List β) (h0:y≠ []) (h1: ∀b∈y,1<=(g b).length)
  (C: ∀b∈y,∀j,Pre l j (g b)->more j=some j/\ok (tk l j)/\(ok (tk l (j+(g b).length))->Gvs st (one j) (stb b) (j+(g b).length))) (h:Pre l k (y.flatMap g)) (hk:ok (tk l (k+(y.flatMap g).length))) (hs:more (k+(y.flatMap g).length)=none):
   Gvs (fun xs:List α=>xs.map st) (Ax3 l one more k) (y.map stb) (k+(y.flatMap g).length):=by
 cases y with
 | nil=>exact absurd rfl h0
 | cons b y=>
  have hle:=h.le;have hfl:=Dr8 g (b::y) h1;rw[List.flatMap_cons] at h hk hs⊢
  rw[jC,<-Nat.add_assoc] at hk hs⊢
  have h2:=h.right;obtain⟨_,_,D⟩:=C b (by simp) k h.left;refine(D ?_).then fun x hx=> ?_
  ·cases y with
   | nil=>simpa using hk
   | cons c cs=>rw[List.flatMap_cons] at h2;exact(C c (by simp) _ h2.left).2.1
  ·have:=Bb4 (st:=st) (stb:=stb) ok y (l.length+1) [x] (k+(g b).length) (fun c hc=>C c (List.mem_cons_of_mem _ hc)) (by simp at hfl hle;omega) h2 hk hs;rw[jN,<-hx];exact this
theorem Cv6 {y:List (List UInt8)} (h:y≠ []): ∃s ts,Cp y=Ci s::ts:=by
 cases y with
 | nil=>exact absurd rfl h
 | cons s r=>exact⟨s,_,by rw[Cp,jN,Ad4];rfl⟩
theorem Ch8 {c:Cmp} (hm:Hd c=true): ∃s ts,Pj c=Ci s::ts:=by
 simp only[Hd,jF] at hm;obtain⟨s,ts,e⟩:=Cv6 (Bq2 hm.1.1);exact⟨s,_,by rw[Pj,e];rfl⟩
theorem Pre.kind {t:Tok} (h:Pre l k (t::ts)):(tk l k).kind=t.kind:=by have:=congrArg Tok.kind h.head.1;exact this
theorem Ai8 {cs:List Cmp} (hm:cs.all Hd=true) (h:Pre l k (Je cs)) (y:(tk l (k+(Je cs).length)).kind≠1):Gvs (List.map Mp) (Qz l k) (cs.map Mp) (k+(Je cs).length):=by
 rw[List.all_eq_true] at hm;cases cs with
 | nil=>
  have h0:Pre l k [Ah Ez,Ah Dg]:=h;rw[Qz,if_pos h0.word,Ek h0.tail];exact .mk _ _ rfl
 | cons c r=>
  have e:Je (c::r)=(c::r).flatMap Pj:=rfl;rw[e] at h y⊢
  have hst: ∀b∈c::r,∀j,Pre l j (Pj b)->(tk l j).kind=1:=fun b hb j hj=>by
   obtain⟨s,ts,e⟩:=Ch8 (hm b hb);rw[e] at hj;exact hj.kind
  have C:Pre l k (Pj c):=by rw[List.flatMap_cons] at h;exact h.left
  obtain⟨s,ts,D⟩:=Ch8 (hm c (by simp));rw[D] at C;rw[Qz,C.not (s:=Ez) (Pb (.inl rfl)),if_neg (by simp)];exact Ai7 (one:=Ax4 l) (more:=byN l) (g:=Pj) (st:=Mp) (stb:=Mp) (fun _=>True) (c::r) (by simp) (fun b hb=>by obtain⟨s,ts,e⟩:=Ch8 (hm b hb);rw[e];simp) (fun b hb j hj=>⟨by rw[byN,if_pos (hst b hb j hj)],trivial,fun _=>Eh4 (hm b hb) hj⟩) h trivial (by rw[byN,if_neg y])
theorem Eh5 {a:Arm} (hm:Kd a=true) (h:Pre l k (Ai6 a)) (y:(tk l (k+(Ai6 a).length)).kind≠1):Gvs Xs (Bu3 l k) (Xs a) (k+(Ai6 a).length):=by
 rw[Kd,jF] at hm;have C:Ai6 a=Ah Ku::(Ef Gl (a.c.map Dw)++(Ah Bn::Je a.comps)):=rfl;have D:k+(Ai6 a).length=k+1+(Ef Gl (a.c.map Dw)).length+1+(Je a.comps).length:=by rw[C];simp only[jC,jA];omega
 rw[D] at y⊢
 rw[C] at h;have ha:=h.tail.right;rw[Bu3,Ek h];refine(Fc8 hm.2 h.tail.left (ha.nof (by decide+kernel)) (ha.not (by decide+kernel))).then fun c hc=> ?_
 rw[Ek ha];refine(Ai8 hm.1 ha.tail y).then fun m E=> ?_
 exact .mk _ _ (by rw[Xs,Xs,hc,E])
theorem Dj4 {az:List Arm} (h0:az≠ []) (hm:az.all Kd=true) (h:Pre l k (az.flatMap Ai6)) (C:(tk l (k+(az.flatMap Ai6).length)).kind≠1) (hw:isW l (k+(az.flatMap Ai6).length) [Ku]=false):Gvs (List.map Xs) (Bp7 l k) (az.map Xs) (k+(az.flatMap Ai6).length):=by
 rw[List.all_eq_true] at hm;exact Ai7 (one:=Bu3 l) (more:=byI l Ku) (g:=Ai6) (st:=Xs) (stb:=Xs) (fun t=>t.kind≠1) az h0 (fun b hb=>by rw[Ai6];simp) (fun b hb j hj=>by
  have y:Pre l j (Ah Ku::(Ef Gl (b.c.map Dw)++(Ah Bn::Je b.comps))):=hj;exact⟨by rw[byI,if_pos y.word],by rw[y.kind];decide+kernel,fun hk=>Eh5 (hm b hb) hj hk⟩) h C (by rw[byI,hw];rfl)
end
theorem Tr {α β:Type} {st:α->β} {f:α->Bool} (hf: ∀x y,st x=st y->f x=f y): ∀ {l m:List α},l.map st=m.map st->l.all f=m.all f
 | [],[],_=>rfl
 | [],_::_,h=>by cases h
 | _::_,[],h=>by cases h
 | x::l,y::m,h=>by
  rw[jN,jN,List.cons.injEq] at h;rw[List.all_cons,List.all_cons,hf _ _ h.1,Tr hf h.2]
theorem Aq1 {α β:Type} {st:α->β} {f:α->Nat} (hf: ∀x y,st x=st y->f x=f y): ∀ {l m:List α},l.map st=m.map st->(l.map f).sum=(m.map f).sum
 | [],[],_=>rfl
 | [],_::_,h=>by cases h
 | _::_,[],h=>by cases h
 | x::l,y::m,h=>by
  rw[jN,jN,List.cons.injEq] at h;rw[jN,jN,List.sum_cons,List.sum_cons,hf _ _ h.1,Aq1 hf h.2]
theorem Bq4 {α β:Type} {st:α->β} {l m:List α} (h:l.map st=m.map st):l.length=m.length:=by
 have:=congrArg List.length h
 rwa [jK,jK] at this
theorem Eh6 {x y:Ex} (h:stE x=stE y):x.kind=y.kind:=by rw[<-Pa x,h,Pa]
theorem Dr9 {x y:Ind} (h:stI x=stI y):stE x.name=stE y.name/\stE x.lo=stE y.lo/\stE x.hi=stE y.hi/\stE x.value=stE y.value:=by
 simpa only[stI,Ind.mk.injEq] using h
theorem Ds0 {x y:Dis} (h:stD x=stD y):stE x.name=stE y.name/\stE x.lo=stE y.lo/\stE x.hi=stE y.hi:=by
 simpa only[stD,Dis.mk.injEq] using h
theorem Ds1 {x y:Par} (h:stP x=stP y):x.names=y.names/\x.mode=y.mode/\stE x.type=stE y.type/\stE x.e=stE y.e:=by
 simpa only[stP,Par.mk.injEq,and_true] using h
theorem Ds2 {x y:Asp} (h:Ap8 x=Ap8 y):x.name=y.name/\stE x.e=stE y.e:=by
 simpa only[Ap8,Asp.mk.injEq] using h
theorem Ds3 {x y:Cmp} (h:Mp x=Mp y):x.names=y.names/\stI x.sub=stI y.sub/\stE x.e=stE y.e:=by
 simpa only[Mp,Cmp.mk.injEq,and_true] using h
theorem Ch9 {x y:Arm} (h:Xs x=Xs y):x.c.map stC=y.c.map stC/\x.comps.map Mp=y.comps.map Mp:=by
 simpa only[Xs,Arm.mk.injEq] using h
theorem Fs6 {x y:Typ} (h:Ap9 x=Ap9 y):x.kind=y.kind/\x.names=y.names/\stE x.lo=stE y.lo/\stE x.hi=stE y.hi/\stI x.sub=stI y.sub/\stD x.disc=stD y.disc/\x.comps.map Mp=y.comps.map Mp/\x.var=y.var/\x.arms.map Xs=y.arms.map Xs/\x.limited=y.limited:=by
 simpa only[Ap9,Typ.mk.injEq] using h
theorem Bb5 {x y:Ind} (h:stI x=stI y):Cr x=Cr y:=by
 obtain⟨h1,h2,h3,h4⟩:=Dr9 h;rw[Cr,Cr,Ch7 h1,Mb h2,Mb h3,Mb h4,Jn h2,Jn h3,Jn h4]
theorem Cv7 {x y:Dis} (h:stD x=stD y):Ib x=Ib y:=by
 obtain⟨h1,h2,h3⟩:=Ds0 h;rw[Ib,Ib,Ch7 h1,Mb h1,Mb h2,Mb h3,Jn h1,Jn h2,Jn h3,Eh6 h1]
theorem Bq5 {x y:Ex} (h:stE x=stE y):Ge x=Ge y:=by rw[Ge,Ge,Mb h,Jn h]
theorem Dj5 (x y:Par) (h:stP x=stP y):Ja x=Ja y:=by
 obtain⟨h1,h2,h3,h4⟩:=Ds1 h;rw[Ja,Ja,h1,h2,Ch7 h3,Bq5 h4,Mb h4]
theorem Aq2 {l m:List Par} (h:l.map stP=m.map stP):Ii l=Ii m:=by
 rw[Ii,Ii,Tr Dj5 h,Ap1,Ap1,Aq1 (fun x y e=>by rw[(Ds1 e).1]) h]
theorem Dj6 (x y:Asp) (h:Ap8 x=Ap8 y):Yf x=Yf y:=by
 rw[Yf,Yf,(Ds2 h).1,Jn (Ds2 h).2]
theorem Ci0 {l m:List Asp} (h:l.map Ap8=m.map Ap8):Pc l=Pc m:=by
 rw[Pc,Pc,Tr Dj6 h,Bq4 h]
theorem Ai9 (x y:Cmp) (h:Mp x=Mp y):Hd x=Hd y:=by
 obtain⟨h1,h2,h3⟩:=Ds3 h;rw[Hd,Hd,h1,Bb5 h2,Bq5 h3]
theorem Aj0 {l m:List Cmp} (h:l.map Mp=m.map Mp):He l=He m:=by
 rw[He,He,Aq1 (fun x y e=>by rw[(Ds3 e).1]) h]
theorem Aq3 {l m:List Cmp} (h:l.map Mp=m.map Mp):Mk l=Mk m:=by
 rw[Mk,Mk,Tr Ai9 h,Aj0 h]
theorem Dj7 {l m:List Ch} (h:l.map stC=m.map stC):Kp l=Kp m:=by rw[<-Aq0 l,h,Aq0]
theorem Dj8 (x y:Arm) (h:Xs x=Xs y):Kd x=Kd y:=by
 rw[Kd,Kd,Tr Ai9 (Ch9 h).2,Dj7 (Ch9 h).1]
theorem Bb6 {x y:Typ} (h:Ap9 x=Ap9 y):Eo x=Eo y:=by
 obtain⟨h1,h2,h3,h4,h5,h6,h7,h8,h9,h10⟩:=Fs6 h;obtain⟨C,D,E,I⟩:=Dr9 h5;obtain⟨J,L,M⟩:=Ds0 h6;rw[Eo,Eo,Pd,Pd,Aa3,Aa3,Yh,Yh,Af1,Af1,Aa2,Aa2,Yg,Yg,h1,h2,h8,h10,Mb h3,Mb h4,Jn h3,Jn h4,Bb5 h5,Cv7 h6,Mb C,Mb D,Mb E,Mb I,Mb J,Mb L,Mb M,
  Tr Ai9 h7,Tr Dj8 h9,Bq4 h7,Bq4 h9,Aj0 h7,Tk,Tk,Aq1 (fun x y e=>Aj0 (Ch9 e).2) h9]
def Em {α:Type} (R:α->Nat->Prop) (r:Re α):Prop:= ∀x k',r= .ok x k'->R x k'
theorem Em.then {α β:Type} {R:α->Nat->Prop} {S:β->Nat->Prop} {r:Re α} {f:α->Nat->Re β} (h:Em R r) (g: ∀x n,R x n->Em S (f x n)):Em S (r.then f):=fun y k' e=>by
 cases r with
 | ok x k=>exact g x k (h x k rfl) y k' e
 | fail k=>cases e
 | long=>cases e
theorem Em.ok {α:Type} {R:α->Nat->Prop} {x:α} {k:Nat} (h:R x k):Em R (.ok x k):=fun y k' e=>by cases e;exact h
theorem Em.fail {α:Type} {R:α->Nat->Prop} {k:Nat}:Em R (.fail k):=fun y k' e=>by cases e
theorem Em.must {α:Type} {R:α->Nat->Prop} {l:List Tok} {s:List UInt8} {k:Nat} {f:Nat->Re α} (h:Em R (f (k+1))):Em R (Dx l s k f):=by
 rw[Dx];split
 ·exact h
 ·exact .fail
theorem Em.less {α:Type} {R S:α->Nat->Prop} {r:Re α} (h:Em R r) (g: ∀x k,R x k->S x k):Em S r:=fun x k e=>g x k (h x k e)
section
variable {l:List Tok} {k:Nat}
theorem Cv8 {α:Type} {R:α->Nat->Prop} {y:α×Int×Int} (h: ∀x n,y=(x,n,0)->R x (k+n.toNat)):Em R (Bp4 k y):=fun x k' e=>by
 rw[Bp4] at e;split at e
 ·rename_i c
  cases e;exact h _ _ (by rw[<-c])
 ·split at e<;>cases e
theorem Bz6 {α:Type} {one:Nat->Re α} {more:Nat->Option Nat} {Inv:List α->Nat->Prop} (h: ∀xs k j,Inv xs k->more k=some j->Em (fun x k'=>Inv (xs++ [x]) k') (one j)): ∀(n:Nat) (xs:List α) (k:Nat),Inv xs k->Em Inv (To one more n xs k)
 | 0,_,_,_=>fun y k' e=>by cases e
 | n+1,xs,k,hk=>by
  rw[To];cases hm:more k with
  | none=>exact .ok hk
  | some j=>exact(h xs k j hk hm).then fun x i hx=>Bz6 h n (xs++ [x]) i hx
end
section
variable {l:List Tok} {k:Nat}
theorem Uy (h:Cb l) (k:Nat):Cb (l.drop k):=fun j=>by rw[Ap7];exact h (k+j)
theorem Ky {α:Type} {a:Nat} {r:Re α} (h:Kv l a r):Em (fun _ k'=>a<=k'/\k'<=l.length) r:=fun x k' e=>by rw[e] at h;exact h
theorem Kz {α:Type} {R S:α->Nat->Prop} {r:Re α} (h:Em R r) (g:Em S r):Em (fun x k=>R x k/\S x k) r:=fun x k e=>⟨h x k e,g x k e⟩
theorem Fc9 (C:Cb l) (hl:l.length<=500000) (h:Nat) (D:h<=6):Em (fun x _=>Dn 1048576 x) (exR l h k):=by
 rw[exR];refine Cv8 (R:=fun x _=>Dn 1048576 x) fun x n e=> ?_;have hf:=Cs6 (l:=l.drop k) (Uy C k) h;have ha:=Cf8 (l:=l.drop k) h;rw[Fx,if_neg (by omega),jD] at e;cases hr:Vg (l.drop k) h with
 | bot=>exact absurd hr (Aw0 _)
 | fail j=>rw[hr] at e;cases e
 | ok y j=>
  rw[hr] at e ha;dsimp only at e;have h1:=hf y j hr;have h2:=ha.2;rw[List.length_drop] at h2;split at e
  ·cases e;have:=h1.1;exact⟨by omega,h1.2⟩
  ·cases e
theorem Aq4 (h:Cb l) (hl:l.length<=500000):Em (fun x _=>Dn 1048576 x) (exR l 2 k):=Fc9 h hl 2 (by omega)
theorem Ci1 (h:Cb l) (hl:l.length<=500000):Em (fun x _=>Dn 1048576 x) (exR l 0 k):=Fc9 h hl 0 (by omega)
theorem Gi0 (h:Cb l) (hl:l.length<=500000):Em (fun x _=>Di8 1048576 x) (chR l k):=by
 rw[chR];refine Cv8 (R:=fun x _=>Di8 1048576 x) fun x n e=> ?_;have hf:=Bx8 (l:=l.drop k) (Uy h k);have ha:=Dr5 (l:=l.drop k);rw[Jg] at e;cases hr:Av9 (l.drop k) with
 | bot=>exact absurd hr An6
 | fail j=>rw[hr] at e;cases e
 | ok y j=>
  rw[hr] at e ha;dsimp only at e;have h1:=hf y j hr;have h2:=ha.2;rw[List.length_drop] at h2;split at e
  ·cases e;have:=h1.1;exact⟨by omega,h1.2⟩
  ·cases e
theorem Ab0 (h:Cb l):Em (fun s _=>s.length<=9223372036854775807) (Ol l k):=by
 rw[Ol];split
 ·exact .ok (h k)
 ·exact .fail
theorem Aq5 {α:Type} {f:α->Prop} {one:Nat->Re α} {more:Nat->Option Nat} (ha: ∀k,k<=l.length->Kv l (k+1) (one k)) (hm: ∀k j,k<=l.length->more k=some j->k<=j/\j<=l.length) (h1: ∀k,k<=l.length->Em (fun x _=>f x) (one k)) (hk:k<=l.length) (hl:l.length<=500000):
  Em (fun ys _=>ys.length<=1048576/\ ∀x∈ys,f x) (Ax3 l one more k):=by
 have key:Em (fun ys k'=>ys.length<=k'/\k'<=l.length/\ ∀x∈ys,f x) (Ax3 l one more k):=
  (Kz (h1 k hk) (Ky (ha k hk))).then fun x i ⟨hx,M,D⟩=>Bz6 (Inv:=fun ys k'=>ys.length<=k'/\k'<=l.length/\ ∀x∈ys,f x) (fun xs k1 j ⟨O,E,I⟩ hj=>by
   obtain⟨S,C⟩:=hm k1 j E hj;exact(Kz (h1 j C) (Ky (ha j C))).less fun y k' ⟨J,U,L⟩=>⟨by rw[jC,jQ];omega,L,fun z hz=>by
    rcases List.mem_append.1 hz with h | h
    ·exact I z h
    ·rw[List.mem_singleton.1 h];exact J⟩) _ [x] i ⟨by rw[jQ];omega,D,fun z hz=>by rw[List.mem_singleton.1 hz];exact hx⟩
 exact key.less fun ys k' ⟨a,b,c⟩=>⟨by omega,c⟩
theorem Ax7 (y:Cb l) (hl:l.length<=500000) (hk:k<=l.length):Em (fun ns _=>Bp0 1048576 ns) (Xq l k):=
 Aq5 (fun _ h=>Kv.name h) Sf (fun k _=>Ab0 y) hk hl
theorem Co:Dn 1048576 ex0:=⟨by decide,by simp [ex0,okE,okL,Ph]⟩
theorem Sq:Bp1 1048576 Tz:=⟨Co,Co,Co,Co⟩
theorem Om:Bz0 1048576 Ua:=⟨Co,Co,Co⟩
theorem Bz7 (h:Cb l) (line:Int): ∀(n:Nat) (x:Ex) (k:Nat),k<=l.length->Fh x<=k/\okE x->Em (fun y k'=>Fh y<=k'/\k'<=l.length/\okE y) (markL l line n x k)
 | 0,_,_,_,_=>fun y k' e=>by cases e
 | n+1,x,k,hk,hx=>by
  rw[markL];split
  ·exact(Kz (Ab0 h) (Ky (Kv.name (Fi ‹_› hk)))).then fun s i ⟨hs,D,C⟩=>Bz7 h line n _ i C ⟨by simp only[Fh,Ls,Fl];omega,by simp only[okE,okL,Ph];exact⟨hs,⟨hx.2,trivial⟩,trivial⟩⟩
  ·exact .ok ⟨hx.1,hk,hx.2⟩
theorem Cv9 (h:Cb l) (hl:l.length<=500000) (hk:k<=l.length):Em (fun x _=>Dn 1048576 x) (Aa5 l k):=
 (Kz (Ab0 h) (Ky (Kv.name hk))).then fun s i ⟨hs,D,C⟩=>(Bz7 h _ _ _ i C ⟨by simp only[Fh,Ls,Fl];omega,by simp only[okE,okL,Ph];exact⟨hs,trivial,trivial⟩⟩).less fun y k' ⟨a,b,c⟩=>⟨by omega,c⟩
theorem Aj1 (h:Cb l) (hl:l.length<=500000):Em (fun x _=>Dn 1048576 x.1/\Dn 1048576 x.2) (Sd l k):=
 (Aq4 h hl).then fun a i ha=> .must ((Aq4 h hl).then fun b i hb=> .ok ⟨ha,hb⟩)
theorem Ad9 (h:Cb l) (hl:l.length<=500000) (hk:k<=l.length):Em (fun x _=>Bp1 1048576 x) (Wh l k):=
 (Cv9 h hl hk).then fun m i hm=>by
  split
  ·exact(Aj1 h hl).then fun b i hb=> .ok ⟨hm,hb.1,hb.2,Co⟩
  split
  ·exact(Ci1 h hl).then fun v i hv=> .must (.ok ⟨hm,Co,Co,hv⟩)
  ·exact .ok ⟨hm,Co,Co,Co⟩
theorem Ci2 (h:Cb l) (hl:l.length<=500000):Em (fun x _=>Bz0 1048576 x) (Bc8 l k):=
 (Aq4 h hl).then fun x i hx=>by
  split
  ·exact(Aq4 h hl).then fun y i C=> .ok ⟨Co,hx,C⟩
  split
  ·exact(Aj1 h hl).then fun b i hb=> .ok ⟨hx,hb.1,hb.2⟩
  split
  ·exact .fail
  ·exact .ok ⟨hx,Co,Co⟩
theorem Bz8 (h:Cb l) (hl:l.length<=500000):Em (fun x _=>Dn 1048576 x) (Rm l k):=by
 rw[Rm];split
 ·exact Ci1 h hl
 ·exact .ok Co
theorem Mc {α:Type} {R:α->Nat->Prop} {s:List UInt8} {f:Nat->Re α} (hk:k<=l.length) (h:k+1<=l.length->Em R (f (k+1))):Em R (Dx l s k f):=by
 rw[Dx];split
 ·exact h (Fi ‹_› hk)
 ·exact .fail
theorem Fs7 (h:Cb l) (hl:l.length<=500000) (hk:k<=l.length):Em (fun x _=>Yi 1048576 x) (Ai4 l k):=
 (Kz (Ax7 h hl hk) (Ky (Kv.names hk))).then fun n i ⟨hn,D,y⟩=>Mc y fun C=>(Cv9 h hl (Cv3 C).2).then fun t j ht=>(Bz8 h hl).then fun e j he=> .ok ⟨hn,ht,he⟩
theorem Cw0 (y:Cb l) (hl:l.length<=500000) (hk:k<=l.length):Em (fun x _=>Mr Yi 1048576 x) (Bp5 l k):=
 Aq5 (fun _ h=>Kv.par h) Sf (fun k hk=>Fs7 y hl hk) hk hl
theorem Fs8 (h:Cb l) (hl:l.length<=500000):Em (fun x _=>Dr3 1048576 x) (Bp6 l k):=
 (Ab0 h).then fun n i hn=> .must ((Ci1 h hl).then fun e i he=> .ok ⟨hn,he⟩)
theorem Fd0 (y:Cb l) (hl:l.length<=500000) (hk:k<=l.length):Em (fun x _=>Mr Dr3 1048576 x) (Bz3 l k):=
 Aq5 (fun _ h=>Kv.asp h) Sf (fun k hk=>Fs8 y hl) hk hl
theorem Fs9 (h:Cb l) (hl:l.length<=500000) (hk:k<=l.length):Em (fun x _=>Aa4 1048576 x) (Ax4 l k):=
 (Kz (Ax7 h hl hk) (Ky (Kv.names hk))).then fun n i ⟨hn,D,y⟩=>Mc y fun C=>(Ad9 h hl C).then fun s i hs=>(Bz8 h hl).then fun e i he=> .must (.ok ⟨hn,hs,he⟩)
theorem Bq6 (y:Cb l) (hl:l.length<=500000) (hk:k<=l.length):Em (fun x _=>Mr Aa4 1048576 x) (Qz l k):=by
 rw[Qz];split
 ·exact .must (.ok ⟨by simp,fun x h=>by cases h⟩)
 ·exact Aq5 (fun _ h=>Kv.cmp h) Be7 (fun k hk=>Fs9 y hl hk) hk hl
theorem Ft0 (h:Cb l) (hl:l.length<=500000) (hk:k<=l.length):Em (fun x _=>Dr4 1048576 x) (Bu3 l k):=
 Mc hk fun h1=>(Kz (Gi0 h hl) (Ky (Kv.ch h1))).then fun c i ⟨hc,C,y⟩=>Mc y fun h2=>(Bq6 h hl h2).then fun m i hm=> .ok ⟨hc,hm⟩
theorem Fd1 (y:Cb l) (hl:l.length<=500000) (hk:k<=l.length):Em (fun x _=>Mr Dr4 1048576 x) (Bp7 l k):=
 Aq5 (fun _ h=>Kv.arm h) Ch3 (fun k hk=>Ft0 y hl hk) hk hl
theorem Fs {α:Type} {f:Nat->α->Prop}:Mr f 1048576 []:=⟨by simp,fun x h=>by cases h⟩
theorem Ke:Bp0 1048576 []:=⟨by simp,fun x h=>by cases h⟩
theorem Ft1 (h:Cb l) (hl:l.length<=500000) (hk:k<=l.length):Em (fun x _=>Wg 1048576 x) (Bu4 l k):=by
 have h1:Em (fun x k'=>Mr Aa4 1048576 x/\k<=k'/\k'<=l.length) (if(tk l k).kind=1\/isW l k [Ez]=true then Qz l k else .ok [] k):=by
  split
  ·exact(Kz (Bq6 h hl hk) (Ky (Kv.cmps hk))).less fun x k' ⟨a,b,c⟩=>⟨a,by omega,c⟩
  ·exact .ok ⟨Fs,Nat.le_refl _,hk⟩
 refine h1.then fun c i ⟨hc,E,y⟩=> ?_
 have h2:Em (fun(x:List UInt8×List Arm) (_:Nat)=>x.1.length<=9223372036854775807/\Mr Dr4 1048576 x.2) (if isW l i [It] then(Ol l (i+1)).then fun v i=>Dx l wIs i fun i=>(Bp7 l i).then fun a i=>Dx l Ml i fun i=>Dx l It i fun i=>Dx l Dg i fun i=> .ok (v,a) i else .ok ([],[]) i):=by
  split
  ·exact(Kz (Ab0 h) (Ky (Kv.name (Fi ‹_› y)))).then fun v j ⟨hv,I,C⟩=>Mc C fun D=>(Fd1 h hl D).then fun a j ha=> .must (.must (.must (.ok ⟨hv,ha⟩)))
  ·exact .ok ⟨by simp,Fs⟩
 exact h2.then fun J y hv=> .must (.must (.ok ⟨Ke,Co,Co,Sq,Om,hc,⟨hv.1,by simp,by simp⟩,hv.2⟩))
theorem Ds4 (h:Cb l) (hl:l.length<=500000) (hk:k<=l.length):Em (fun x _=>Wg 1048576 x) (Ap5 l k):=by
 rw[Ap5];split
 ·exact(Ax7 h hl (Fi ‹_› hk)).then fun n i hn=> .must (.ok ⟨hn,Co,Co,Sq,Om,Fs,⟨by simp [El],by simp [El],by simp [El]⟩,Fs⟩)
 split
 ·exact(Aj1 h hl).then fun b i hb=> .ok ⟨Ke,hb.1,hb.2,Sq,Om,Fs,⟨by simp [El],by simp [El],by simp [El]⟩,Fs⟩
 split
 ·exact Mc (Fi ‹_› hk) fun h1=>(Kz (Ci2 h hl) (Ky (Kv.dis h1))).then fun d i ⟨hd,E,y⟩=>Mc y fun C=>Mc C fun D=>(Ad9 h hl D).then fun s i hs=> .ok ⟨Ke,Co,Co,hs,hd,Fs,⟨by simp [El],by simp [El],by simp [El]⟩,Fs⟩
 split
 ·exact Ft1 h hl (Fi ‹_› hk)
 split
 ·exact(Ad9 h hl (Fi ‹_› hk)).then fun s i hs=> .ok ⟨Ke,Co,Co,hs,Om,Fs,⟨by simp [El],by simp [El],by simp [El]⟩,Fs⟩
 split
 ·exact(Ad9 h hl (Fi ‹_› hk)).then fun s i hs=> .ok ⟨Ke,Co,Co,hs,Om,Fs,⟨by simp [El],by simp [El],by simp [El]⟩,Fs⟩
 split
 ·exact .ok ⟨Ke,Co,Co,Sq,Om,Fs,⟨by simp [El],by simp [El],by simp [El]⟩,Fs⟩
 split
 ·exact .must (.ok ⟨Ke,Co,Co,Sq,Om,Fs,⟨by simp [El],by simp [El],by simp [El]⟩,Fs⟩)
 split
 ·exact .must (.ok ⟨Ke,Co,Co,Sq,Om,Fs,⟨by simp [El],by simp [El],by simp [El]⟩,Fs⟩)
 ·exact .fail
end
end Go.Dl
-- Chapter 4: the reader of package shape: 
namespace Go.Dl
open Go Go.Proofs
set_option maxRecDepth 100000
section
variable {G:Nat->DVal} {r:Nat} {l:List Tok}
theorem Ci3 {h K:Ac} {y kk:Nat} {cs:List DVal} {x:Ex} {env:Nat->DVal} (C:K y=some (.cells cs 27)) (hr:K r=some (srO l kk)) (D: ∀b,b≠y->b≠r->h b≠none->K b=h b) (L:y≠r) (I:h y=none) (J:h r≠none)
  (hs: ∀T:Ac,(∀b,K b=none->T b=none)->(∀b,h b=none->b≠y->T b=none)->Kq K cs T (dEx x)):Ri G ⟨env,K⟩ ⟨env,upd (upd h r (some (srO l kk))) y (some (.cells (dEx x) 27))⟩:=by
 refine Ri.cell C (fun b o hb=> ?_) (hs _ (fun b hb=> ?_) fun b hb n=> ?_)
 ·simp only[upd] at hb;by_cases c:b=r
  ·subst c;rw[if_pos rfl] at hb;rw[hr];exact hb
  ·rw[if_neg c] at hb;rw[D b (fun e=>by subst e;rw[I] at hb;cases hb) c (by rw[hb];simp)];exact hb
 ·have E:b≠y:=fun e=>by subst e;rw[C] at hb;cases hb
  have c:b≠r:=fun e=>by subst e;rw[hr] at hb;cases hb
  simp only[upd];rw[if_neg E,if_neg c];cases hbb:h b with
  | none=>rfl
  | some o=>rw[D b E c (by rw[hbb];simp),hbb] at hb;cases hb
 ·have c:b≠r:=fun e=>by subst e;exact J hb
  simp only[upd];rw[if_neg n,if_neg c];exact hb
set_option maxHeartbeats 4000000 in
theorem Bq7 (hG:GX G) (hT:Cb l) (ak:l.length<=500000):SrF Tryz.prog G l r 218 [] (fun k=>(Aa5 l k).mp dE):=by
 have hl:l.length<=800000:=by omega
 intro B k hr hk;dsimp only;refine Ab Tryz.func218 Tryz.call218 rfl (by kernel_rfl) ?_;simp(disch:=omega)only[go_sem];intro L M;dsimp only at M;have E:r≠L:=Ae M hr;have h:=E.symm;simp(disch:=omega)only[go_sem];refine Af.monoR (Ma G _ (Ag hr E) (by omega) (by omega)) ?_;simp(disch:=omega)only[go_sem,Cy];obtain⟨li,ad⟩: ∃li,li=(tk l k).line:=⟨_,rfl⟩;rw[<-ad];refine ReC (Qd G hl _ k (Ag hr E) hk) (Kv.name hk) ?_ ?_ ?_
 ·intro s k1 hs h1 h2;simp(disch:=omega)only[go_sem];intro r4 ae;dsimp only at ae;obtain⟨y,D,af⟩:=Av.1 ae;obtain⟨Y,Z,aa⟩:=Av.1 af;simp(disch:=omega)only[go_sem,h,E,y,D,Y,Z];have hR:(Aa5 l k)=markL l li (l.length+1) (.mk 3 0 0 s [] [] li 0 0) k1:=by rw[Aa5,hs,<-ad];rfl
  rw[hR];obtain⟨x0,ag⟩: ∃x0,x0=Ex.mk 3 0 0 s [] [] li 0 0:=⟨_,rfl⟩;rw[<-ag];have b4:upd B L (some (.cells [.int .u8 0, .int .u8 0, .int .i64 0, .str [], .nilSlice, .nilSlice, .int .i64 0, .int .i64 0, .int .i64 0] 27)) r4=none:=af;have br:upd B L (some (.cells [.int .u8 0, .int .u8 0, .int .i64 0, .str [], .nilSlice, .nilSlice, .int .i64 0, .int .i64 0, .int .i64 0] 27)) r≠none:=by rw[Ak _ _ _ _ E,hr];simp
  obtain⟨I,hI⟩: ∃I:Nat×Ex×Nat->(Nat->DVal)->Ac->Prop,∀s env heap,I s env heap↔(env 0= .optr r 0/\env 2= .optr L 0/\env 3=dI li/\env 4= .optr r4 0/\s.2.2<=l.length/\l.length<s.1+s.2.2/\markL l li s.1 s.2.1 s.2.2=markL l li (l.length+1) x0 k1/\heap=upd (upd (upd B L (some (.cells [.int .u8 0, .int .u8 0, .int .i64 0, .str [], .nilSlice, .nilSlice, .int .i64 0, .int .i64 0, .int .i64 0] 27))) r (some (srO l s.2.2))) r4 (some (.cells (dEx s.2.1) 27))):=⟨_,fun _ _ _=>Iff.rfl⟩;refine Dn5.runG I (fun s=>s.1) (l.length+1,x0,k1) ⟨_,upd (upd (upd B L (some (.cells [.int .u8 0, .int .u8 0, .int .i64 0, .str [], .nilSlice, .nilSlice, .int .i64 0, .int .i64 0, .int .i64 0] 27))) r (some (srO l k1))) r4 (some (.cells (dEx x0) 27))⟩ (Ci3 (Aa _ _ _) (Ag (Aa _ _ _) D) (fun b c4 c _=>by simp only[upd];rw[if_neg c4,if_neg c]) y b4 br fun T hd _=> ?_) ((hI _ _ _).2 ?_) ?_
  ·rw[ag];exact Kq.exD hd (.exs0D hd) (.as0D hd)
  ·simp(disch:=omega)only[go_sem]
  ·rintro⟨n,x,k2⟩ env heap hi;obtain⟨O,S,U,V,ah,hn,C,rfl⟩:=(hI _ _ _).1 hi;dsimp only at ah hn C;obtain⟨m,rfl⟩: ∃m,n=m+1:=⟨n-1,by omega⟩;rw[markL] at C;simp(disch:=omega)only[go_sem,O,S,U,V];refine SrM (Sp hG _ _ (Ag (Aa _ _ _) D) (by omega) (by omega)) (Ag (Aa _ _ _) D) ah ?_ ?_
   ·intro hw ab;rw[show isW l k2 [Jl]=true from hw,if_pos rfl] at C;simp(disch:=omega)only[go_sem,O,S,U,V];refine Aj (by kernel_rfl) (.take 0 (.take 2 (.take 4 (.alt (.go 3 [0] (.go 1 [] (.take 5 (.go 6 [] .done)))) (.go 1 [] (.go 3 [0] (.take 5 (.go 6 [] .done)))))))) (by kernel_rfl) ?_;simp(disch:=omega)only[go_sem,O,S,U,V,y,D,E,h,Y,Z,Ad];have adv:=Kv.name ab;refine And.intro ?_ ?_
    ·refine ReC (Qd G hl _ (k2+1) (Aa _ _ _) ab) adv ?_ ?_ ?_
     ·intro s1 k3 J ai aj;simp(disch:=omega)only[go_sem,O,S,U,V,y,D,E,h,Y,Z,Ad];intro q hq;dsimp only at hq;obtain⟨W,a2,hq⟩:=Av.1 hq;obtain⟨X,a4,hq⟩:=Av.1 hq;obtain⟨-,-,hq⟩:=Av.1 hq;have bq:upd B L (some (.cells [.int .u8 0, .int .u8 0, .int .i64 0, .str [], .nilSlice, .nilSlice, .int .i64 0, .int .i64 0, .int .i64 0] 27)) q=none:=hq;obtain⟨a5,a6,ac⟩:=Av.1 hq;simp(disch:=omega)only[go_sem,O,S,U,V,y,D,E,h,Y,Z,Ad,W,a2,X,a4,a5,a6];refine⟨(m, .mk 4 0 0 s1 [x] [] li 0 0,k3),⟨_,upd (upd (upd B L (some (.cells [.int .u8 0, .int .u8 0, .int .i64 0, .str [], .nilSlice, .nilSlice, .int .i64 0, .int .i64 0, .int .i64 0] 27))) r (some (srO l k3))) r4 (some (.cells (dEx (.mk 4 0 0 s1 [x] [] li 0 0)) 27))⟩,Ci3 (l:=l) (kk:=k3) (Aa _ _ _) (by simp [upd,D,a2]) (fun b c4 c hb=> ?_) y b4 br (fun T hd hT=>Kq.exD hd ?_ (.as0D hd)),(hI _ _ _).2 ?_,by dsimp only;omega⟩
      ·have:b≠q:=fun e=>by subst e;exact hb bq
       simp [upd,c4,c,this]
      ·show Lt _ _ _ (.vslice ([x].flatMap dEx) 1);rw[List.flatMap_singleton];exact Lt.cellsD (e:=27) (hT q bq X) (by simp [upd,W,X]) (by rw[Ad]) (Kq.keepD hd _)
      ·rw[J] at C;simp(disch:=omega)only[go_sem,O,S,U,V];(repeat' apply And.intro)<;>(try first | rfl | assumption | omega)
     ·intro i j J;rw[J] at C;simp(disch:=omega)only[go_sem];rw[<-C];exact SRt.finP (((((SRt.refl hr).own M h _).set _).own aa y _).set j) ⟨rfl,j,rfl⟩
     ·intro j J;rw[J] at C;simp(disch:=omega)only[go_sem];rw[<-C];exact SRt.finP (((((SRt.refl hr).own M h _).set _).own aa y _).set j) ⟨rfl,j,rfl⟩
    ·intro q hq;dsimp only at hq;obtain⟨W,a2,hq⟩:=Av.1 hq;obtain⟨X,a4,hq⟩:=Av.1 hq;obtain⟨-,-,hq⟩:=Av.1 hq;have bq:upd B L (some (.cells [.int .u8 0, .int .u8 0, .int .i64 0, .str [], .nilSlice, .nilSlice, .int .i64 0, .int .i64 0, .int .i64 0] 27)) q=none:=hq;obtain⟨a5,a6,ac⟩:=Av.1 hq;simp(disch:=omega)only[go_sem,O,S,U,V,y,D,E,h,Y,Z,Ad,W,a2,X,a4,a5,a6];refine ReC (Qd G hl _ (k2+1) (Ag (Aa _ _ _) a2) ab) adv ?_ ?_ ?_
     ·intro s1 k3 J ai aj;simp(disch:=omega)only[go_sem,O,S,U,V,y,D,E,h,Y,Z,Ad,W,a2,X,a4,a5,a6];refine⟨(m, .mk 4 0 0 s1 [x] [] li 0 0,k3),⟨_,upd (upd (upd B L (some (.cells [.int .u8 0, .int .u8 0, .int .i64 0, .str [], .nilSlice, .nilSlice, .int .i64 0, .int .i64 0, .int .i64 0] 27))) r (some (srO l k3))) r4 (some (.cells (dEx (.mk 4 0 0 s1 [x] [] li 0 0)) 27))⟩,Ci3 (l:=l) (kk:=k3) (Aa _ _ _) (by simp [upd,D,a2]) (fun b c4 c hb=> ?_) y b4 br (fun T hd hT=>Kq.exD hd ?_ (.as0D hd)),(hI _ _ _).2 ?_,by dsimp only;omega⟩
      ·have:b≠q:=fun e=>by subst e;exact hb bq
       simp [upd,c4,c,this]
      ·show Lt _ _ _ (.vslice ([x].flatMap dEx) 1);rw[List.flatMap_singleton];exact Lt.cellsD (e:=27) (hT q bq X) (by simp [upd,W,X]) (by rw[Ad]) (Kq.keepD hd _)
      ·rw[J] at C;simp(disch:=omega)only[go_sem,O,S,U,V];(repeat' apply And.intro)<;>(try first | rfl | assumption | omega)
     ·intro i j J;rw[J] at C;simp(disch:=omega)only[go_sem];rw[<-C];exact SRt.finP ((((((SRt.refl hr).own M h _).set _).own aa y _).set _).own ac W _ |>.set j) ⟨rfl,j,rfl⟩
     ·intro j J;rw[J] at C;simp(disch:=omega)only[go_sem];rw[<-C];exact SRt.finP ((((((SRt.refl hr).own M h _).set _).own aa y _).set _).own ac W _ |>.set j) ⟨rfl,j,rfl⟩
   ·intro hw;rw[show isW l k2 [Jl]=false from hw,if_neg (by simp)] at C;simp(disch:=omega)only[go_sem,O,S,U,V,y,D,E,h,Y,Z,Ad];rw[<-C];apply SRt.fin (H0:=B) (r:=r) (l:=l)
    ·apply SRt.own (hx:=M) (hr:=h);apply SRt.own (hx:=aa) (hr:=y);apply SRt.set;apply SRt.own (hx:=M) (hr:=h);exact SRt.refl hr
    ·exact⟨rfl,rfl⟩
 ·intro i j hs;simp(disch:=omega)only[go_sem];exact SRt.finP (((SRt.refl hr).own M h _).set j) (by rw[Aa5,hs];exact⟨rfl,j,rfl⟩)
 ·intro j hs;simp(disch:=omega)only[go_sem];exact SRt.finP (((SRt.refl hr).own M h _).set j) (by rw[Aa5,hs];exact⟨rfl,j,rfl⟩)
end
end Go.Dl
